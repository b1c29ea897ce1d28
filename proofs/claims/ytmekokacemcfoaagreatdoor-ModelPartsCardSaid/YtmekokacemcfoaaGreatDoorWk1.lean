import Derived.Test.YtmekokacemcfoaaGreatDoorFw2
import Derived.Test.YtmekokacemcfoaaGreatDoorProg
import Derived.Test.YtmekokacemcfoaaGreatDoorXp1
set_option maxHeartbeats 2000000
set_option linter.unusedVariables false
set_option linter.unusedSimpArgs false
set_option maxRecDepth 10000
namespace Go.Tw.X
open Go Go.Tw
def tyModelEvent : Ty ModelEvent := ⟨4, Unit, fun x h => [.int .i64 x.kind, .string x.text, .int .i64 x.w, .int .i64 x.h], fun x h => [], fun _ _ => rfl, by simp [Value.oneCell']⟩
def tyRowGlyph : Ty RowGlyph := ⟨2, Unit, fun x h => [.int .i32 x.rune, .int .i64 x.style], fun x h => [], fun _ _ => rfl, by simp [Value.oneCell']⟩
def tyRowCell : Ty RowCell := ⟨3, Unit, fun x h => [.int .i32 x.rune, .int .i64 x.style, .int .i64 x.part], fun x h => [], fun _ _ => rfl, by simp [Value.oneCell']⟩
def tyRowRow : Ty RowRow := ⟨2, (Option Addr × Nat), fun x h => [.slice h.1 x.cells.length h.2, .bool x.wrapped], fun x h => [Im.sl tyRowCell h.1 h.2 x.cells], fun _ _ => rfl, by simp [Value.oneCell']⟩
def tySeqAction : Ty SeqAction := ⟨6, (Option Addr × Nat), fun x h => [.int .i64 x.kind, .int .i32 x.rune, .int .u8 x.byte, .bool x.private_, .slice h.1 x.nums.length h.2, .string x.text], fun x h => [Im.sl (Ty.int .i64) h.1 h.2 x.nums], fun _ _ => rfl, by simp [Value.oneCell']⟩
def tyWideSpan : Ty WideSpan := ⟨2, Unit, fun x h => [.int .i32 x.from_, .int .i32 x.to], fun x h => [], fun _ _ => rfl, by simp [Value.oneCell']⟩
def tyGlyphLead : Ty GlyphLead := ⟨5, Unit, fun x h => [.int .u8 x.first, .int .u8 x.last, .int .i64 x.need, .int .u8 x.low, .int .u8 x.high], fun x h => [], fun _ _ => rfl, by simp [Value.oneCell']⟩
abbrev bx43 (x : SnapSnap) (a1 : Option Addr) (c1 : Nat) (a2 : Option Addr) (c2 : Nat) : List Value := [.int .i64 x.k, .int .i64 x.w, .int .i64 x.h, .int .i64 x.x, .int .i64 x.y, .string x.title, .slice a1 x.rows.length c1, .int .i64 x.len, .int .i64 x.chain, .slice a2 x.begun.length c2]
abbrev bx85 (x : SeqParser) (a1 : Option Addr) (c1 : Nat) (a2 : Option Addr) (c2 : Nat) : List Value := [.int .i64 x.state, .bool x.order.private_, .bool x.order.wrong, .bool x.order.any, .bool x.order.some, .int .i64 x.order.n, .slice a1 x.order.nums.length c1, .string x.text, .int .u8 x.runes.lead, .int .i32 x.runes.rune, .int .i64 x.runes.need, .slice a2 x.out.length c2]
abbrev bx143 (x : SeqAction) (a1 : Option Addr) (c1 : Nat) : List Value := [.int .i64 x.kind, .int .i32 x.rune, .int .u8 x.byte, .bool x.private_, .slice a1 x.nums.length c1, .string x.text]
def tab : Tab := [(3, ⟨.int .i64, 1, 8, [.int .i64 0], false, false⟩),
  (4, ⟨.bool, 1, 1, [.bool false], false, false⟩),
  (5, ⟨.int .u8, 1, 1, [.int .u8 0], false, false⟩),
  (9, ⟨.string, 1, 16, [.string ⟨#[]⟩], false, false⟩),
  (21, ⟨.int .i32, 1, 4, [.int .i32 0], false, false⟩),
  (22, ⟨.slice 3, 1, 24, [.slice none 0 0], false, false⟩),
  (25, ⟨.pointer 37, 1, 8, [.pointer none], false, false⟩),
  (29, ⟨.struct [(3, 0), (9, 1), (3, 2), (3, 3)], 4, 40, [.int .i64 0, .string ⟨#[]⟩, .int .i64 0, .int .i64 0], true, false⟩),
  (33, ⟨.pointer 93, 1, 8, [.pointer none], false, false⟩),
  (34, ⟨.pointer 85, 1, 8, [.pointer none], false, false⟩),
  (35, ⟨.pointer 132, 1, 8, [.pointer none], false, false⟩),
  (37, ⟨.struct [(33, 0), (34, 1), (35, 2), (3, 3)], 4, 32, [.pointer none, .pointer none, .pointer none, .int .i64 0], true, false⟩),
  (38, ⟨.slice 77, 1, 24, [.slice none 0 0], false, false⟩),
  (41, ⟨.slice 99, 1, 24, [.slice none 0 0], false, false⟩),
  (43, ⟨.struct [(3, 0), (3, 1), (3, 2), (3, 3), (3, 4), (9, 5), (41, 6), (3, 7), (3, 8), (38, 9)], 10, 120, [.int .i64 0, .int .i64 0, .int .i64 0, .int .i64 0, .int .i64 0, .string ⟨#[]⟩, .slice none 0 0, .int .i64 0, .int .i64 0, .slice none 0 0], true, false⟩),
  (47, ⟨.slice 64, 1, 24, [.slice none 0 0], false, false⟩),
  (48, ⟨.slice 156, 1, 24, [.slice none 0 0], false, false⟩),
  (50, ⟨.struct [(3, 0), (48, 1)], 2, 32, [.int .i64 0, .slice none 0 0], true, false⟩),
  (52, ⟨.struct [(3, 0), (3, 1), (4, 2), (4, 3), (4, 4)], 5, 24, [.int .i64 0, .int .i64 0, .bool false, .bool false, .bool false], true, true⟩),
  (54, ⟨.struct [(50, 0), (3, 2), (3, 3), (52, 4), (3, 9), (3, 10), (52, 11), (4, 16), (3, 17), (3, 18), (4, 19), (9, 20)], 21, 160, [.int .i64 0, .slice none 0 0, .int .i64 0, .int .i64 0, .int .i64 0, .int .i64 0, .bool false, .bool false, .bool false, .int .i64 0, .int .i64 0, .int .i64 0, .int .i64 0, .bool false, .bool false, .bool false, .bool false, .int .i64 0, .int .i64 0, .bool false, .string ⟨#[]⟩], true, false⟩),
  (55, ⟨.slice 57, 1, 24, [.slice none 0 0], false, false⟩),
  (56, ⟨.slice 174, 1, 24, [.slice none 0 0], false, false⟩),
  (57, ⟨.slice 174, 1, 24, [.slice none 0 0], false, false⟩),
  (59, ⟨.struct [(55, 0), (57, 1)], 2, 48, [.slice none 0 0, .slice none 0 0], true, false⟩),
  (61, ⟨.struct [(54, 0), (59, 21), (9, 23), (3, 24), (3, 25)], 26, 240, [.int .i64 0, .slice none 0 0, .int .i64 0, .int .i64 0, .int .i64 0, .int .i64 0, .bool false, .bool false, .bool false, .int .i64 0, .int .i64 0, .int .i64 0, .int .i64 0, .bool false, .bool false, .bool false, .bool false, .int .i64 0, .int .i64 0, .bool false, .string ⟨#[]⟩, .slice none 0 0, .slice none 0 0, .string ⟨#[]⟩, .int .i64 0, .int .i64 0], true, false⟩),
  (63, ⟨.slice 29, 1, 24, [.slice none 0 0], false, false⟩),
  (64, ⟨.struct [(3, 0), (9, 1), (3, 2), (3, 3)], 4, 40, [.int .i64 0, .string ⟨#[]⟩, .int .i64 0, .int .i64 0], true, false⟩),
  (77, ⟨.struct [(21, 0), (3, 1)], 2, 16, [.int .i32 0, .int .i64 0], true, true⟩),
  (80, ⟨.struct [(4, 0), (4, 1), (4, 2), (4, 3), (3, 4), (22, 5)], 6, 40, [.bool false, .bool false, .bool false, .bool false, .int .i64 0, .slice none 0 0], true, false⟩),
  (82, ⟨.struct [(5, 0), (21, 1), (3, 2)], 3, 16, [.int .u8 0, .int .i32 0, .int .i64 0], true, false⟩),
  (83, ⟨.slice 143, 1, 24, [.slice none 0 0], false, false⟩),
  (85, ⟨.struct [(3, 0), (80, 1), (9, 7), (82, 8), (83, 11)], 12, 104, [.int .i64 0, .bool false, .bool false, .bool false, .bool false, .int .i64 0, .slice none 0 0, .string ⟨#[]⟩, .int .u8 0, .int .i32 0, .int .i64 0, .slice none 0 0], true, false⟩),
  (91, ⟨.slice 38, 1, 24, [.slice none 0 0], false, false⟩),
  (93, ⟨.struct [(91, 0), (22, 1), (38, 2)], 3, 72, [.slice none 0 0, .slice none 0 0, .slice none 0 0], true, false⟩),
  (97, ⟨.slice 123, 1, 24, [.slice none 0 0], false, false⟩),
  (99, ⟨.struct [(97, 0), (4, 1)], 2, 32, [.slice none 0 0, .bool false], true, false⟩),
  (107, ⟨.slice 110, 1, 24, [.slice none 0 0], false, false⟩),
  (110, ⟨.struct [(3, 0), (3, 1), (3, 2), (4, 3), (22, 4), (9, 5)], 6, 72, [.int .i64 0, .int .i64 0, .int .i64 0, .bool false, .slice none 0 0, .string ⟨#[]⟩], true, false⟩),
  (115, ⟨.struct [(3, 0), (3, 1), (3, 2), (3, 3), (3, 4), (9, 5), (48, 6), (3, 7), (3, 8), (57, 9)], 10, 120, [.int .i64 0, .int .i64 0, .int .i64 0, .int .i64 0, .int .i64 0, .string ⟨#[]⟩, .slice none 0 0, .int .i64 0, .int .i64 0, .slice none 0 0], true, false⟩),
  (123, ⟨.struct [(21, 0), (3, 1), (3, 2)], 3, 24, [.int .i32 0, .int .i64 0, .int .i64 0], true, true⟩),
  (126, ⟨.pointer 181, 1, 8, [.pointer none], false, false⟩),
  (128, ⟨.struct [(3, 0), (3, 1), (4, 2), (4, 3), (4, 4)], 5, 24, [.int .i64 0, .int .i64 0, .bool false, .bool false, .bool false], true, false⟩),
  (130, ⟨.struct [(3, 0), (3, 1), (128, 2)], 7, 40, [.int .i64 0, .int .i64 0, .int .i64 0, .int .i64 0, .bool false, .bool false, .bool false], true, false⟩),
  (132, ⟨.struct [(126, 0), (130, 1), (130, 8), (4, 15), (3, 16), (3, 17), (4, 18), (9, 19)], 20, 136, [.pointer none, .int .i64 0, .int .i64 0, .int .i64 0, .int .i64 0, .bool false, .bool false, .bool false, .int .i64 0, .int .i64 0, .int .i64 0, .int .i64 0, .bool false, .bool false, .bool false, .bool false, .int .i64 0, .int .i64 0, .bool false, .string ⟨#[]⟩], true, false⟩),
  (143, ⟨.struct [(3, 0), (21, 1), (5, 2), (4, 3), (22, 4), (9, 5)], 6, 56, [.int .i64 0, .int .i32 0, .int .u8 0, .bool false, .slice none 0 0, .string ⟨#[]⟩], true, false⟩),
  (154, ⟨.slice 225, 1, 24, [.slice none 0 0], false, false⟩),
  (156, ⟨.struct [(154, 0), (4, 1)], 2, 32, [.slice none 0 0, .bool false], true, false⟩),
  (161, ⟨.slice 5, 1, 24, [.slice none 0 0], false, false⟩),
  (174, ⟨.struct [(3, 0), (3, 1)], 2, 16, [.int .i64 0, .int .i64 0], true, false⟩),
  (181, ⟨.struct [(3, 0), (41, 1)], 2, 32, [.int .i64 0, .slice none 0 0], true, false⟩),
  (202, ⟨.slice 9, 1, 24, [.slice none 0 0], false, false⟩),
  (209, ⟨.int .u32, 1, 4, [.int .u32 0], false, false⟩),
  (225, ⟨.struct [(3, 0), (3, 1), (3, 2)], 3, 24, [.int .i64 0, .int .i64 0, .int .i64 0], true, true⟩),
  (227, ⟨.array 2 3, 2, 16, [.int .i64 0, .int .i64 0], true, false⟩),
  (228, ⟨.slice 227, 1, 24, [.slice none 0 0], false, false⟩),
  (231, ⟨.slice 21, 1, 24, [.slice none 0 0], false, false⟩),
  (239, ⟨.struct [(161, 0)], 1, 24, [.slice none 0 0], true, false⟩),
  (240, ⟨.pointer 239, 1, 8, [.pointer none], false, false⟩),
  (252, ⟨.slice 254, 1, 24, [.slice none 0 0], false, false⟩),
  (254, ⟨.struct [(21, 0), (21, 1)], 2, 8, [.int .i32 0, .int .i32 0], true, false⟩),
  (255, ⟨.array 13 254, 26, 104, [.int .i32 0, .int .i32 0, .int .i32 0, .int .i32 0, .int .i32 0, .int .i32 0, .int .i32 0, .int .i32 0, .int .i32 0, .int .i32 0, .int .i32 0, .int .i32 0, .int .i32 0, .int .i32 0, .int .i32 0, .int .i32 0, .int .i32 0, .int .i32 0, .int .i32 0, .int .i32 0, .int .i32 0, .int .i32 0, .int .i32 0, .int .i32 0, .int .i32 0, .int .i32 0], true, false⟩),
  (256, ⟨.array 14 254, 28, 112, [.int .i32 0, .int .i32 0, .int .i32 0, .int .i32 0, .int .i32 0, .int .i32 0, .int .i32 0, .int .i32 0, .int .i32 0, .int .i32 0, .int .i32 0, .int .i32 0, .int .i32 0, .int .i32 0, .int .i32 0, .int .i32 0, .int .i32 0, .int .i32 0, .int .i32 0, .int .i32 0, .int .i32 0, .int .i32 0, .int .i32 0, .int .i32 0, .int .i32 0, .int .i32 0, .int .i32 0, .int .i32 0], true, false⟩),
  (264, ⟨.int .u64, 1, 8, [.int .u64 0], false, false⟩),
  (268, ⟨.array 16 209, 16, 64, [.int .u32 0, .int .u32 0, .int .u32 0, .int .u32 0, .int .u32 0, .int .u32 0, .int .u32 0, .int .u32 0, .int .u32 0, .int .u32 0, .int .u32 0, .int .u32 0, .int .u32 0, .int .u32 0, .int .u32 0, .int .u32 0], true, false⟩),
  (278, ⟨.int .u64, 1, 8, [.int .u64 0], false, false⟩),
  (282, ⟨.struct [(5, 0), (5, 1), (3, 2), (5, 3), (5, 4)], 5, 24, [.int .u8 0, .int .u8 0, .int .i64 0, .int .u8 0, .int .u8 0], true, false⟩),
  (286, ⟨.slice 97, 1, 24, [.slice none 0 0], false, false⟩),
  (287, ⟨.array 8 282, 40, 192, [.int .u8 0, .int .u8 0, .int .i64 0, .int .u8 0, .int .u8 0, .int .u8 0, .int .u8 0, .int .i64 0, .int .u8 0, .int .u8 0, .int .u8 0, .int .u8 0, .int .i64 0, .int .u8 0, .int .u8 0, .int .u8 0, .int .u8 0, .int .i64 0, .int .u8 0, .int .u8 0, .int .u8 0, .int .u8 0, .int .i64 0, .int .u8 0, .int .u8 0, .int .u8 0, .int .u8 0, .int .i64 0, .int .u8 0, .int .u8 0, .int .u8 0, .int .u8 0, .int .i64 0, .int .u8 0, .int .u8 0, .int .u8 0, .int .u8 0, .int .i64 0, .int .u8 0, .int .u8 0], true, false⟩)]
theorem tab_ok : TabOk Go.Proofs.Tryz.prog tab := tabb_ok (by kernel_rfl)
noncomputable def G : Pg := ⟨Go.Proofs.Tryz.prog, tab, tab_ok, none⟩
theorem mo : G.P.follows .mixedOrders = true := by kernel_rfl
end Go.Tw.X

set_option maxHeartbeats 2000000
set_option linter.unusedVariables false
set_option linter.unusedSimpArgs false
set_option maxRecDepth 10000
namespace Go.Tw.X
open Go Go.Tw
variable {A0 A1 A2 A3 A4 A5 A6 A7 A8 : Option Addr} {C0 C1 C2 C3 C4 C5 C6 C7 C8 : Nat}
variable {N0 N1 N2 N3 N4 : Nat}
theorem c_book_New {r : BookBook} (H : p_book_New = some r) : CT G 26 [] [] [] (fun h : Nat × (Option Addr × Nat) × (Option Addr × Nat) × (Option Addr × Nat) => .pointer (some ⟨h.1, 0, none⟩)) (fun h => [Ch.box h.1 93 [.slice h.2.1.1 r.l.length h.2.1.2, .slice h.2.2.1.1 r.chains.length h.2.2.1.2, .slice h.2.2.2.1 r.begun.length h.2.2.2.2], Ch.arr (Ty.slice tyRowGlyph) 38 h.2.1.1 h.2.1.2 r.l, Ch.arr (Ty.int .i64) 3 h.2.2.1.1 h.2.2.1.2 r.chains, Ch.arr tyRowGlyph 77 h.2.2.2.1 h.2.2.2.2 r.begun]) (fun h => []) := by
 delta p_book_New at H
 refine CT.of Go.Proofs.Tryz.func26 (by kernel_rfl) rfl rfl rfl fun K => ?_
 refine Ts (Tr ?_)
 refine Lq 1 ?_
 refine Ln (Et (Ts (Tr ?_)))
 refine La [] [] (Ac.bs (ty := (Ty.int .i64)) (xs := [0]) (.cons () [] rfl .nil) rfl rfl rfl rfl rfl rfl rfl) fun g1 => ?_
 refine Lq 1 ?_
 refine Lx fun g3 => ?_
 refine Lq 1 ?_
 refine Ln (Et (Tv ?_))
 refine E.nil0 (Ty.slice tyRowGlyph) 38 ?_
 refine E.nil0 tyRowGlyph 77 ?_
 obtain rfl := sm H
 exact Eo1 (g3, (none, 0), ((some ⟨g1, 0, none⟩), 1), (none, 0)) [2, 1, 1, 0] []

theorem c_grid_clip {n_ : Int} {lo : Int} {hi : Int} {r : Int} (H : p_grid_clip n_ lo hi = some r) : CT G 104 [.int .i64 n_, .int .i64 lo, .int .i64 hi] [] [] (fun _ : Unit => .int .i64 r) (fun h => []) (fun h => []) := by
 delta p_grid_clip at H
 refine CT.of Go.Proofs.Tryz.func104 (by kernel_rfl) rfl rfl rfl fun K => ?_
 refine Ts (Tr ?_)
 refine Lq 1 ?_
 refine Ln (Et (Ts (Tr ?_)))
 refine Lq 6 ?_
 refine Ln (Et (Tv ?_))
 obtain rfl := sm H
 exact Eo1 () [] []

theorem c_grid_size {n_ : Int} {r : Int} (H : p_grid_size n_ = some r) : CT G 100 [.int .i64 n_] [] [] (fun _ : Unit => .int .i64 r) (fun h => []) (fun h => []) := by
 delta p_grid_size at H
 refine CT.of Go.Proofs.Tryz.func100 (by kernel_rfl) rfl rfl rfl fun K => ?_
 refine Ts (Tr ?_)
 refine Lq 1 ?_
 refine Ln (Et (Ts (Tr ?_)))
 refine Lq 1 ?_
 obtain ⟨r1, h2, H3⟩ := bnd H
 refine Lk [] [] (c_grid_clip h2) fun ⟨⟩ => ?_
 refine Lq 1 ?_
 refine Ln (Et (Tv ?_))
 obtain rfl := sm H3
 exact Eo1 () [] []

theorem c_row_clip {n_ : Int} {lo : Int} {hi : Int} {r : Int} (H : p_row_clip n_ lo hi = some r) : CT G 136 [.int .i64 n_, .int .i64 lo, .int .i64 hi] [] [] (fun _ : Unit => .int .i64 r) (fun h => []) (fun h => []) := by
 delta p_row_clip at H
 refine CT.of Go.Proofs.Tryz.func136 (by kernel_rfl) rfl rfl rfl fun K => ?_
 refine Ts (Tr ?_)
 refine Lq 1 ?_
 refine Ln (Et (Ts (Tr ?_)))
 refine Lq 6 ?_
 refine Ln (Et (Tv ?_))
 obtain rfl := sm H
 exact Eo1 () [] []

theorem c_row_blank {style : Int} {r : RowCell} (H : p_row_blank style = some r) : CT G 102 [.int .i64 style] [] [] (fun _ : Unit => .agg #[.int .i32 r.rune, .int .i64 r.style, .int .i64 r.part]) (fun h => []) (fun h => []) := by
 delta p_row_blank at H
 refine CT.of Go.Proofs.Tryz.func102 (by kernel_rfl) rfl rfl rfl fun K => ?_
 refine Ts (Tr ?_)
 refine Ll fun g1 => ?_
 refine Ln (Et (Ts (Tr ?_)))
 refine Lq 2 ?_
 refine Lt 0 ?_
 refine Ln (Et (Tv ?_))
 obtain rfl := sm H
 exact Eo () [] [] (.cell 0 rfl rfl rfl .nil)

theorem c_bits_Mul64 {x_ : Int} {y : Int} {r : Int × Int} (H : p_bits_Mul64 x_ y = some r) : CT G 215 [.int .u64 x_, .int .u64 y] [] [] (fun _ : Unit => .tuple #[.int .u64 r.1, .int .u64 r.2]) (fun h => []) (fun h => []) := by
 delta p_bits_Mul64 at H
 refine CT.of Go.Proofs.Tryz.func215 (by kernel_rfl) rfl rfl rfl fun K => ?_
 refine Ts (Tr ?_)
 refine Lq 2 ?_
 refine Ln (Et (Ts (Tr ?_)))
 refine Lq 3 ?_
 refine Ln (Et (Ts (Tr ?_)))
 refine Lq 3 ?_
 refine Ln (Et (Ts (Tr ?_)))
 refine Lq 3 ?_
 refine Ln (Et (Ts (Tr ?_)))
 refine Lq 3 ?_
 refine Ln (Et (Ts (Tr ?_)))
 refine Lq 4 ?_
 refine Ln (Et (Ts (Tr ?_)))
 refine Lq 7 ?_
 refine Ln (Et (Ts (Tr ?_)))
 refine Lq 3 ?_
 refine Ln (Et (Ts (Tr ?_)))
 refine Lq 3 ?_
 refine Ln (Et (Ts (Tr ?_)))
 refine Lq 6 ?_
 refine Ln (Et (Ts (Tr ?_)))
 refine Lq 9 ?_
 refine Ln (Et (Ts (Tr ?_)))
 refine Lq 4 ?_
 refine Ln (Et (Tv ?_))
 obtain rfl := sm H
 exact Eo () [] [] (.tmp rfl (.tmp rfl .nil))

theorem c_bits_Mul {x_ : Int} {y : Int} {r : Int × Int} (H : p_bits_Mul x_ y = some r) : CT G 204 [.int .u64 x_, .int .u64 y] [] [] (fun _ : Unit => .tuple #[.int .u64 r.1, .int .u64 r.2]) (fun h => []) (fun h => []) := by
 delta p_bits_Mul at H
 refine CT.of Go.Proofs.Tryz.func204 (by kernel_rfl) rfl rfl rfl fun K => ?_
 refine Ts (Tr ?_)
 refine Lq 2 ?_
 refine Ln (Et (Ts ?_))
 refine T.cond rfl (fun h => nomatch h) (fun _ => ?_)
 refine Tk (Et (Ts (Tr ?_)))
 refine Lq 2 ?_
 obtain ⟨r1, h2, H3⟩ := bnd H
 refine Lk [] [] (c_bits_Mul64 h2) fun ⟨⟩ => ?_
 refine Lq 5 ?_
 refine Ln (Et (Ts (Tr ?_)))
 refine Lq 4 ?_
 refine Ln (Et (Tv ?_))
 obtain rfl := sm H3
 exact Eo () [] [] (.tmp rfl (.tmp rfl .nil))

theorem c_slices_Repeat_row_Cell {x_ : List RowCell} {count : Int} {r : (List RowCell)} (H : p_slices_Repeat_row_Cell x_ count = some r) : CT G 175 [.slice A0 x_.length C0, .int .i64 count] [] [Im.sl tyRowCell A0 C0 x_] (fun h : (Option Addr × Nat) => .slice h.1 r.length h.2) (fun h => [Ch.arr tyRowCell 123 h.1 h.2 r]) (fun h => []) := by
 delta p_slices_Repeat_row_Cell at H
 refine CT.of Go.Proofs.Tryz.func175 (by kernel_rfl) rfl rfl rfl fun K => ?_
 refine Ts (Tr ?_)
 refine Lq 1 ?_
 refine Ln (Et (Ts (Ts (Tr ?_))))
 refine Lq 2 ?_
 refine Ln (Et ?_)
 refine Tb H (fun H2 => ?_) fun H2 => ?_
 ·cases H2
 refine Tk (Et (Ts (Tr ?_)))
 refine Lq 5 ?_
 obtain ⟨r3, h4, H5⟩ := bnd H2
 refine Lk [] [] (c_bits_Mul h4) fun ⟨⟩ => ?_
 refine Lq 5 ?_
 refine Ln (Et (Ts (Ts ?_)))
 obtain ⟨e9, H10, H11⟩ := bnd H5
 refine Tj0 [(26, .bool e9)] [0, 6] [] [] ?_ ?_
 ·refine Tr ?_
  refine Lq 3 ?_
  refine Lw 23 H10 (fun H12 => ?_) fun H12 => ?_
  ·refine Lq 3 ?_
   refine Ln ?_
   obtain rfl := sm H12
   exact Eg0 [] 0
  refine Lq 3 ?_
  refine Ln ?_
  obtain rfl := sm H12
  exact Eg0 [] 0
 refine Tb H11 (fun H14 => ?_) fun H14 => ?_
 ·cases H14
 refine Tk (Et (Ts (Tr ?_)))
 refine Lq 2 ?_
 obtain ⟨_, h15, H16⟩ := bnd H14
 refine La [] [] (Ac.mk (ty := tyRowCell) (RowCell.mk 0 0 0) () h15 (fun _ _ f hf => by cases hf) rfl rfl rfl rfl rfl rfl rfl) fun g17 => ?_
 refine Lq 1 ?_
 refine Ln (Et (Ts (Tr ?_)))
 refine Lq 2 ?_
 refine La [0] [0] (Ac.cp (ty := tyRowCell) rfl rfl rfl rfl rfl rfl rfl) fun _ => ?_
 refine L.sl 7 (k' := (cpy (List.replicate (IntKind.i64.wrap r3.2).toNat (RowCell.mk 0 0 0)) x_).length) (cpy_length ..) rfl ?_
 refine Lq 1 ?_
 refine Ln (Et (Ts ?_))
 obtain ⟨e88, H89, H90⟩ := bnd H16
 refine Tjh (η := (Option Addr × Nat)) (fun h => (fun a85 c86 => [(7, .slice a85 e88.length c86)]) h.1 h.2) [] (fun h => (fun a85 c86 => [Ch.arr tyRowCell 123 a85 c86 e88]) h.1 h.2) [] (fun _ => []) ?_ ?_
 ·refine Tl ?_
  refine Tq (η := (Option Addr × Nat)) (fun s67 h => (fun a63 c64 => [(7, .slice a63 s67.1.length c64), (8, .int .i64 s67.2)]) h.1 h.2) [] (fun s67 h => (fun a63 c64 => [Ch.arr tyRowCell 123 a63 c64 s67.1]) h.1 h.2) [] (fun _ _ => []) ((some ⟨g17, 0, none⟩), (IntKind.i64.wrap r3.2).toNat) [0] [] H89 ?_
  rintro k_ s67 ⟨a63, c64⟩ z92 H91 hag93 hbr94
  refine Ts (Ts (Tr ?_))
  refine Lq 4 ?_
  refine Ln (Et ?_)
  refine Tb H91 (fun H96 => ?_) fun H96 => ?_
  ·refine Tk (Et (Tl ?_))
   refine Td [] [] mo ?_
   refine Dq 0 ?_
   refine Dq 1 ?_
   refine Dq 2 ?_
   obtain ⟨_, h104, H105⟩ := bnd H96
   refine D.cap 0 rfl fun h106 => ?_
   refine Dy 3 (Yl.sv (ty := tyRowCell) h106 h104 rfl rfl rfl rfl rfl rfl rfl rfl) ?_
   refine Dq 4 ?_
   refine Dq 5 ?_
   obtain ⟨_, h107, H108⟩ := bnd H105
   refine D.cap 0 rfl fun h109 => ?_
   refine Dy 6 (Yl.sv (ty := tyRowCell) h109 h107 rfl rfl rfl rfl rfl rfl rfl rfl) ?_
   refine Da [0] [] rfl rfl (Ac.cps (ty := tyRowCell) h104 rfl rfl rfl rfl rfl rfl rfl) fun _ => ?_
   refine Dq 8 ?_
   refine Dq 9 ?_
   refine Dn ?_
   refine E.sl 7 (k' := (cpys s67.1 s67.2.toNat).length) (cpys_len h104) rfl ?_
   refine Eb ?_
   obtain rfl := sm H108
   exact Eg (_, (a63, c64)) (hag93 _ rfl) [0] [] 0
  refine Tx (Ex (Ex (Eh ?_)))
  obtain rfl := sm H96
  have hb := hbr94 _ rfl
  subst e88
  exact Eg (a63, c64) trivial [0] [] 0
 rintro ⟨a85, c86⟩
 refine Ts (Tr ?_)
 refine Lq 2 ?_
 refine Ln (Et (Tv ?_))
 obtain rfl := sm H90
 exact Eo1 (a85, c86) [0] []

theorem c_row_blanks {n_ : Int} {style : Int} {r : (List RowCell)} (H : p_row_blanks n_ style = some r) : CT G 135 [.int .i64 n_, .int .i64 style] [] [] (fun h : (Option Addr × Nat) => .slice h.1 r.length h.2) (fun h => [Ch.arr tyRowCell 123 h.1 h.2 r]) (fun h => []) := by
 delta p_row_blanks at H
 refine CT.of Go.Proofs.Tryz.func135 (by kernel_rfl) rfl rfl rfl fun K => ?_
 refine Ts (Tr ?_)
 refine Lq 1 ?_
 refine Ln (Et (Ts (Tr ?_)))
 refine Lq 1 ?_
 obtain ⟨r1, h2, H3⟩ := bnd H
 refine Lk [] [] (c_row_blank h2) fun ⟨⟩ => ?_
 refine La [] [] (Ac.bs (ty := tyRowCell) (xs := [r1]) (.cons () [] rfl .nil) rfl rfl rfl rfl rfl rfl rfl) fun g4 => ?_
 refine Lq 2 ?_
 refine L.frz 0 rfl ?_
 obtain ⟨r7, h8, H9⟩ := bnd H3
 refine Lk [] [0] (c_slices_Repeat_row_Cell h8) fun ⟨a10, c11⟩ => ?_
 refine Lq 1 ?_
 refine Ln (Et (Tv ?_))
 obtain rfl := sm H9
 exact Eo1 (a10, c11) [0] []

theorem c_row_Blank {w : Int} {style : Int} {r : RowRow} (H : p_row_Blank w style = some r) : CT G 101 [.int .i64 w, .int .i64 style] [] [] (fun h : (Option Addr × Nat) => .agg #[.slice h.1 r.cells.length h.2, .bool r.wrapped]) (fun h => []) (fun h => [Im.sl tyRowCell h.1 h.2 r.cells]) := by
 delta p_row_Blank at H
 refine CT.of Go.Proofs.Tryz.func101 (by kernel_rfl) rfl rfl rfl fun K => ?_
 refine Ts (Tr ?_)
 refine Ll fun g1 => ?_
 refine Ln (Et (Ts (Tr ?_)))
 refine Lq 1 ?_
 obtain ⟨r2, h3, H4⟩ := bnd H
 refine Lk [] [] (c_row_clip h3) fun ⟨⟩ => ?_
 refine Lq 1 ?_
 obtain ⟨r5, h6, H7⟩ := bnd H4
 refine Lk [] [] (c_row_blanks h6) fun ⟨a8, c9⟩ => ?_
 refine Lq 1 ?_
 refine Lt 1 ?_
 refine Ln (Et (Tv ?_))
 refine E.frz 1 rfl ?_
 obtain rfl := sm H7
 exact Eo (a8, c9) [] [0] (.cell 0 rfl rfl rfl .nil)

theorem c_grid_New {w : Int} {h_ : Int} {r : GridGrid} (H : p_grid_New w h_ = some r) : CT G 56 [.int .i64 w, .int .i64 h_] [] [] (fun h : Nat × (Option Addr × Nat) => .pointer (some ⟨h.1, 0, none⟩)) (fun h => [Ch.box h.1 181 [.int .i64 r.w, .slice h.2.1 r.l.length h.2.2], Ch.arr tyRowRow 99 h.2.1 h.2.2 r.l]) (fun h => []) := by
 delta p_grid_New at H
 refine CT.of Go.Proofs.Tryz.func56 (by kernel_rfl) rfl rfl rfl fun K => ?_
 refine Ts (Tr ?_)
 refine Lq 1 ?_
 refine Ln (Et (Ts (Tr ?_)))
 refine Lq 1 ?_
 obtain ⟨r1, h2, H3⟩ := bnd H
 refine Lk [] [] (c_grid_size h2) fun ⟨⟩ => ?_
 refine Lq 1 ?_
 refine Lx fun g4 => ?_
 refine Lq 1 ?_
 refine Ln (Et (Ts (Ts (Tr ?_))))
 refine Lq 1 ?_
 obtain ⟨r5, h6, H7⟩ := bnd H3
 refine Lk [] [] (c_grid_size h6) fun ⟨⟩ => ?_
 refine Lq 1 ?_
 refine Ln (Et ?_)
 obtain ⟨e206, H207, H208⟩ := bnd H7
 refine Tjh (η := (Option Addr × Nat)) (fun _ => []) [5] (fun h => (fun a203 c204 => [Ch.arr tyRowRow 99 a203 c204 e206.l, Ch.box g4 181 [.int .i64 e206.w, .slice a203 e206.l.length c204]]) h.1 h.2) [] (fun _ => []) ?_ ?_
 ·refine Tl ?_
  refine T.nil0 tyRowRow 99 ?_
  refine Tq (η := (Option Addr × Nat)) (fun s143 h => (fun a139 c140 => [(12, .int .i64 s143.2)]) h.1 h.2) [5, 11] (fun s143 h => (fun a139 c140 => [Ch.arr tyRowRow 99 a139 c140 s143.1.l, Ch.box g4 181 [.int .i64 s143.1.w, .slice a139 s143.1.l.length c140]]) h.1 h.2) [] (fun _ _ => []) (none, 0) [0, 0] [] H207 ?_
  rintro k_ s143 ⟨a139, c140⟩ z210 H209 hag211 hbr212
  refine Ts (Tr ?_)
  refine Lq 1 ?_
  refine Ln (Et (Ts ?_))
  refine Tb H209 (fun H214 => ?_) fun H214 => ?_
  ·refine Tk (Et (Ts (Tl ?_)))
   refine Td [14] [1] mo ?_
   refine Dq 0 ?_
   refine Dq 1 ?_
   refine Dq 2 ?_
   refine Dq 3 ?_
   refine Db 4 0 ?_
   refine Dq 5 ?_
   refine Dq 6 ?_
   refine Dq 7 ?_
   refine Db 8 0 ?_
   obtain ⟨r257, h258, H259⟩ := bnd H214
   refine Dk [] [] (c_row_Blank h258) fun ⟨a260, c261⟩ => ?_
   refine Da [] [0] rfl rfl (Ac.bs (ty := tyRowRow) (xs := [r257]) (.cons (a260, c261) [0] rfl .nil) rfl rfl rfl rfl rfl rfl rfl) fun g263 => ?_
   refine D.frz 0 rfl ?_
   obtain ⟨_, h266, H267⟩ := bnd H259
   refine Da [0] [0] rfl rfl (Ac.ap (ty := tyRowRow) h266 rfl rfl rfl rfl rfl rfl rfl) ?_
   rintro ⟨a268, c269⟩
   refine Dq 12 ?_
   refine Dq 13 ?_
   refine Dt 0 ?_
   refine Dn ?_
   refine Eb (Et (Tr ?_))
   refine Lq 2 ?_
   refine Ln ?_
   obtain rfl := sm H267
   exact Eg (_, (a268, c269)) (hag211 _ rfl) [1, 0] [] 2
  refine Tx (Ex (Ex (Eh ?_)))
  obtain rfl := sm H214
  have hb := hbr212 _ rfl
  subst e206
  exact Eg (a139, c140) trivial [0, 0] [] 0
 rintro ⟨a203, c204⟩
 refine Ts (Tr ?_)
 refine Lq 2 ?_
 refine Ln (Et (Tv ?_))
 obtain rfl := sm H208
 exact Eo1 (g4, (a203, c204)) [1, 0] []

theorem c_grid_Grid_Size {g : GridGrid} {r : Int × Int} (H : p_grid_Grid_Size g = some r) : CT G 57 [.pointer (some ⟨N0, 0, none⟩)] [Ch.box N0 181 [.int .i64 g.w, .slice A0 g.l.length C0], Ch.arr tyRowRow 99 A0 C0 g.l] [] (fun _ : Unit => .tuple #[.int .i64 r.1, .int .i64 r.2]) (fun h => [Ch.box N0 181 [.int .i64 g.w, .slice A0 g.l.length C0], Ch.arr tyRowRow 99 A0 C0 g.l]) (fun h => []) := by
 delta p_grid_Grid_Size at H
 refine CT.of Go.Proofs.Tryz.func57 (by kernel_rfl) rfl rfl rfl fun K => ?_
 refine Ts (Tr ?_)
 refine Lq 2 ?_
 refine Ln (Et (Ts ?_))
 refine Td [] [0, 0] mo ?_
 refine Dq 0 ?_
 refine Dq 1 ?_
 refine Dq 2 ?_
 refine Db 3 0 ?_
 refine Dq 4 ?_
 refine Dq 5 ?_
 refine Dq 6 ?_
 refine Db 7 0 ?_
 refine Dq 8 ?_
 refine Dq 9 ?_
 refine Dq 10 ?_
 refine Dn ?_
 refine Et (Tv ?_)
 obtain rfl := sm H
 exact Eo () [0, 0] [] (.tmp rfl (.tmp rfl .nil))

theorem c_screen_New {w : Int} {h_ : Int} {r : ScreenScreen} (H : p_screen_New w h_ = some r) : CT G 27 [.int .i64 w, .int .i64 h_] [] [] (fun h : Nat × Nat × (Option Addr × Nat) => .pointer (some ⟨h.1, 0, none⟩)) (fun h => [Ch.box h.1 132 [.pointer (some ⟨h.2.1, 0, none⟩), .int .i64 r.spot.x, .int .i64 r.spot.y, .int .i64 r.spot.style.fore, .int .i64 r.spot.style.back, .bool r.spot.style.bold, .bool r.spot.style.under, .bool r.spot.style.inverse, .int .i64 r.saved.x, .int .i64 r.saved.y, .int .i64 r.saved.style.fore, .int .i64 r.saved.style.back, .bool r.saved.style.bold, .bool r.saved.style.under, .bool r.saved.style.inverse, .bool r.waiting, .int .i64 r.top, .int .i64 r.bottom, .bool r.wraps, .string r.title], Ch.box h.2.1 181 [.int .i64 r.g.w, .slice h.2.2.1 r.g.l.length h.2.2.2], Ch.arr tyRowRow 99 h.2.2.1 h.2.2.2 r.g.l]) (fun h => []) := by
 delta p_screen_New at H
 refine CT.of Go.Proofs.Tryz.func27 (by kernel_rfl) rfl rfl rfl fun K => ?_
 refine Ts (Tr ?_)
 refine Lq 1 ?_
 refine Ln (Et (Ts (Tr ?_)))
 refine Lq 2 ?_
 obtain ⟨r1, h2, H3⟩ := bnd H
 refine Lk [] [] (c_grid_New h2) fun ⟨g4, ⟨a5, c6⟩⟩ => ?_
 refine Lq 1 ?_
 refine Lx fun g8 => ?_
 refine Lq 1 ?_
 refine Ln (Et (Ts (Tr ?_)))
 refine Lq 4 ?_
 refine Lb 0 ?_
 obtain ⟨r9, h10, H11⟩ := bnd H3
 refine Lk [1, 1] [] (c_grid_Grid_Size h10) fun ⟨⟩ => ?_
 refine Lq 5 ?_
 refine Lt 2 ?_
 refine Ln (Et (Ts (Tr ?_)))
 refine Lq 3 ?_
 refine Lb 0 ?_
 refine Lq 3 ?_
 refine Lt 0 ?_
 refine Ln (Et (Ts (Tr ?_)))
 refine Lq 2 ?_
 refine Ln (Et (Tv ?_))
 obtain rfl := sm H11
 exact Eo1 (g8, g4, (a5, c6)) [0, 0, 0] []

theorem c_model_New {w : Int} {h_ : Int} {r : ModelModel} (H : p_model_New w h_ = some r) : CT G 9 [.int .i64 w, .int .i64 h_] [] [] (fun h : Nat × Nat × (Option Addr × Nat) × (Option Addr × Nat) × (Option Addr × Nat) × Nat × (Option Addr × Nat) × (Option Addr × Nat) × Nat × Nat × (Option Addr × Nat) => .pointer (some ⟨h.1, 0, none⟩)) (fun h => [Ch.box h.1 37 [.pointer (some ⟨h.2.1, 0, none⟩), .pointer (some ⟨h.2.2.2.2.2.1, 0, none⟩), .pointer (some ⟨h.2.2.2.2.2.2.2.2.1, 0, none⟩), .int .i64 r.k], Ch.box h.2.1 93 [.slice h.2.2.1.1 r.book.l.length h.2.2.1.2, .slice h.2.2.2.1.1 r.book.chains.length h.2.2.2.1.2, .slice h.2.2.2.2.1.1 r.book.begun.length h.2.2.2.2.1.2], Ch.arr (Ty.slice tyRowGlyph) 38 h.2.2.1.1 h.2.2.1.2 r.book.l, Ch.arr (Ty.int .i64) 3 h.2.2.2.1.1 h.2.2.2.1.2 r.book.chains, Ch.arr tyRowGlyph 77 h.2.2.2.2.1.1 h.2.2.2.2.1.2 r.book.begun, Ch.box h.2.2.2.2.2.1 85 [.int .i64 r.parser.state, .bool r.parser.order.private_, .bool r.parser.order.wrong, .bool r.parser.order.any, .bool r.parser.order.some, .int .i64 r.parser.order.n, .slice h.2.2.2.2.2.2.1.1 r.parser.order.nums.length h.2.2.2.2.2.2.1.2, .string r.parser.text, .int .u8 r.parser.runes.lead, .int .i32 r.parser.runes.rune, .int .i64 r.parser.runes.need, .slice none 0 0], Ch.opt (r.parser.state == (3 : Int)) (Ty.int .i64) 3 h.2.2.2.2.2.2.1.1 h.2.2.2.2.2.2.1.2 r.parser.order.nums, Ch.box h.2.2.2.2.2.2.2.2.1 132 [.pointer (some ⟨h.2.2.2.2.2.2.2.2.2.1, 0, none⟩), .int .i64 r.screen.spot.x, .int .i64 r.screen.spot.y, .int .i64 r.screen.spot.style.fore, .int .i64 r.screen.spot.style.back, .bool r.screen.spot.style.bold, .bool r.screen.spot.style.under, .bool r.screen.spot.style.inverse, .int .i64 r.screen.saved.x, .int .i64 r.screen.saved.y, .int .i64 r.screen.saved.style.fore, .int .i64 r.screen.saved.style.back, .bool r.screen.saved.style.bold, .bool r.screen.saved.style.under, .bool r.screen.saved.style.inverse, .bool r.screen.waiting, .int .i64 r.screen.top, .int .i64 r.screen.bottom, .bool r.screen.wraps, .string r.screen.title], Ch.box h.2.2.2.2.2.2.2.2.2.1 181 [.int .i64 r.screen.g.w, .slice h.2.2.2.2.2.2.2.2.2.2.1 r.screen.g.l.length h.2.2.2.2.2.2.2.2.2.2.2], Ch.arr tyRowRow 99 h.2.2.2.2.2.2.2.2.2.2.1 h.2.2.2.2.2.2.2.2.2.2.2 r.screen.g.l]) (fun h => []) := by
 delta p_model_New at H
 refine CT.of Go.Proofs.Tryz.func9 (by kernel_rfl) rfl rfl rfl fun K => ?_
 refine Ts (Tr ?_)
 refine Lq 1 ?_
 refine Ln (Et (Ts (Tr ?_)))
 obtain ⟨r1, h2, H3⟩ := bnd H
 refine Lk [] [] (c_book_New h2) fun ⟨g4, ⟨a5, c6⟩, ⟨a7, c8⟩, ⟨a9, c10⟩⟩ => ?_
 refine Lq 1 ?_
 refine Lx fun g14 => ?_
 refine Lq 2 ?_
 obtain ⟨r15, h16, H17⟩ := bnd H3
 refine Lk [] [] (c_screen_New h16) fun ⟨g18, g19, ⟨a20, c21⟩⟩ => ?_
 refine Lq 1 ?_
 refine Lx fun g23 => ?_
 refine Lq 1 ?_
 refine Ln (Et (Tv ?_))
 refine E.nil0 (Ty.int .i64) 3 ?_
 refine E.oarr 0 (0 == (3 : Int)) rfl ?_
 obtain rfl := sm H17
 exact Eo1 (g23, g4, (a5, c6), (a7, c8), (a9, c10), g14, (none, 0), (none, 0), g18, g19, (a20, c21)) [1, 5, 5, 5, 5, 4, 0, 0, 0, 0] []

theorem c_model_Event_Check {e : ModelEvent} {r : Int} (H : p_model_Event_Check e = some r) : CT G 19 [.agg #[.int .i64 e.kind, .string e.text, .int .i64 e.w, .int .i64 e.h]] [] [] (fun _ : Unit => .int .i64 r) (fun h => []) (fun h => []) := by
 delta p_model_Event_Check at H
 refine CT.of Go.Proofs.Tryz.func19 (by kernel_rfl) rfl rfl rfl fun K => ?_
 refine Ts (Tr ?_)
 refine Lx fun g1 => ?_
 refine Lq 1 ?_
 refine Ln (Et (Ts (Ts (Tr ?_))))
 refine Lq 1 ?_
 refine Lb 0 ?_
 refine Ln (Et ?_)
 obtain ⟨y37, H38, H39⟩ := bnd H
 refine Tj (η := Unit × Unit) (fun h => y37 = .inl h.1) (fun _ => []) [] (fun _ => []) [0] (fun _ => []) ?_ ?_
 ·refine Tl (Ts (Tr ?_))
  refine Lq 2 ?_
  refine Ln (Et ?_)
  refine Tb H38 (fun H40 => ?_) fun H40 => ?_
  ·refine Ts (Tr ?_)
   refine Lq 1 ?_
   refine Lb 0 ?_
   refine Lq 2 ?_
   refine Ln (Et ?_)
   refine Tb H40 (fun H41 => ?_) fun H41 => ?_
   ·refine Ts (Tr ?_)
    refine Lq 1 ?_
    refine Ln (Et (Tv (Ev ?_)))
    obtain ⟨w42, hz, H43⟩ := inrs_some H41
    subst y37
    obtain rfl := (sm H39).symm
    refine Er ?_
    obtain rfl := sm H43
    exact Eo1 () [] []
   refine Tk (Eb ?_)
   obtain rfl := sm H41
   exact Eg (_, ()) rfl [0] [] 0
  refine Ts (Tr ?_)
  refine Lq 2 ?_
  refine Ln (Et ?_)
  refine Tb H40 (fun H44 => ?_) fun H44 => ?_
  ·refine Ts ?_
   obtain ⟨e52, H53, H54⟩ := bnd H44
   refine Tj0 [(30, .bool e52)] [] [] [0] ?_ ?_
   ·refine Tr ?_
    refine Lq 1 ?_
    refine Lb 0 ?_
    refine Lq 2 ?_
    refine Lw 16 H53 (fun H55 => ?_) fun H55 => ?_
    ·refine Lq 14 ?_
     refine Ln ?_
     obtain rfl := sm H55
     exact Eg0 [0] 0
    refine Lq 1 ?_
    refine Lb 0 ?_
    refine Lq 3 ?_
    refine Lw 21 H55 (fun H56 => ?_) fun H56 => ?_
    ·refine Lq 9 ?_
     refine Ln ?_
     obtain rfl := sm H56
     exact Eg0 [0] 0
    refine Lq 1 ?_
    refine Lb 0 ?_
    refine Lq 3 ?_
    refine Lw 26 H56 (fun H57 => ?_) fun H57 => ?_
    ·refine Lq 4 ?_
     refine Ln ?_
     obtain rfl := sm H57
     exact Eg0 [0] 0
    refine Lq 1 ?_
    refine Lb 0 ?_
    refine Lq 2 ?_
    refine Ln ?_
    obtain rfl := sm H57
    exact Eg0 [0] 0
   refine Tb H54 (fun H58 => ?_) fun H58 => ?_
   ·refine Ts (Tr ?_)
    refine Lq 1 ?_
    refine Ln (Et (Tv (Ev ?_)))
    obtain ⟨w59, hz, H60⟩ := inrs_some H58
    subst y37
    obtain rfl := (sm H39).symm
    refine Er ?_
    obtain rfl := sm H60
    exact Eo1 () [] []
   refine Tk (Eb ?_)
   obtain rfl := sm H58
   exact Eg (_, ()) rfl [0] [] 0
  refine Ts (Tr ?_)
  refine Lq 1 ?_
  refine Ln (Et (Tv (Ev ?_)))
  obtain ⟨w61, hz, H62⟩ := inrs_some H44
  subst y37
  obtain rfl := (sm H39).symm
  refine Er ?_
  obtain rfl := sm H62
  exact Eo1 () [] []
 rintro ⟨e36, ⟨⟩⟩ hy
 subst hy
 refine Ts (Tr ?_)
 refine Lq 1 ?_
 refine Ln (Et (Tv ?_))
 obtain rfl := sm H39
 exact Eo1 () [] []

theorem c_screen_clip {n_ : Int} {lo : Int} {hi : Int} {r : Int} (H : p_screen_clip n_ lo hi = some r) : CT G 60 [.int .i64 n_, .int .i64 lo, .int .i64 hi] [] [] (fun _ : Unit => .int .i64 r) (fun h => []) (fun h => []) := by
 delta p_screen_clip at H
 refine CT.of Go.Proofs.Tryz.func60 (by kernel_rfl) rfl rfl rfl fun K => ?_
 refine Ts (Tr ?_)
 refine Lq 1 ?_
 refine Ln (Et (Ts (Tr ?_)))
 refine Lq 6 ?_
 refine Ln (Et (Tv ?_))
 obtain rfl := sm H
 exact Eo1 () [] []

theorem c_slices_Clone_row_Row_w {ys : List RowRow} (a_0 : Option Addr) (c_0 : Nat) (a9 : Option Addr) (c9 : Nat) {lo hi : Int} (hv : Vw tyRowRow ys a_0 c_0 a9 c9 lo hi) {r : List RowRow} (H : p_slices_Clone_row_Row (cut ys lo hi) = some r) : CT G 105 [.slice a9 (cut ys lo hi).length c9] [Ch.arr tyRowRow 99 a_0 c_0 ys] [] (fun h : (Option Addr × Nat) => .slice h.1 r.length h.2) (fun h => [Ch.arr tyRowRow 99 h.1 h.2 r, Ch.arr tyRowRow 99 a_0 c_0 ys]) (fun h => []) := by
  delta p_slices_Clone_row_Row at H
  refine CT.of Go.Proofs.Tryz.func105 (by kernel_rfl) rfl rfl rfl fun K => ?_
  obtain ⟨_, h0, H⟩ := bnd H
  have hr := Option.some.inj H
  refine T.seq (T.region (L.q 1 rfl (L.nil (E.then (T.seq (T.seq (T.region ?_)))))))
  refine L.q 1 rfl ?_
  refine L.nilv 0 hv rfl rfl rfl rfl rfl rfl rfl rfl rfl (fun hx => ?_) ?_
  · refine L.nil (E.then (T.cond rfl (fun _ => ?_) (fun h => nomatch h)))
    refine T.seq (T.region (L.q 1 rfl (L.nil (E.then (T.ret (E.then_ret ?_))))))
    rw [hx] at hr
    subst r
    refine E.nil0 tyRowRow 99 ?_
    exact E.ret (none, 0) [0, 0] [] (.tmp rfl .nil) rfl rfl rfl
  · refine L.nil (E.then (T.cond rfl (fun h => nomatch h) (fun _ => ?_)))
    refine T.skip (E.then (T.seq (T.region ?_)))
    refine L.a [] [] (Ac.bs (ty := tyRowRow) (xs := []) .nil rfl rfl rfl rfl rfl rfl rfl) rfl rfl rfl rfl rfl ?_
    intro g1
    refine L.q 1 rfl ?_
    refine L.a [0, 0] [] (Ac.apv (ty := tyRowRow) hv h0 rfl rfl rfl rfl rfl rfl rfl) rfl rfl rfl rfl rfl ?_
    rintro ⟨a1, c1⟩
    refine L.q 1 rfl ?_
    refine L.nil (E.then (T.ret ?_))
    subst r
    exact E.ret (a1, c1) [0, 0] [] (.tmp rfl .nil) rfl rfl rfl

theorem c_slices_Clone_row_Cell {s_ : List RowCell} (a_0 : Option Addr) (c_0 : Nat) {r : List RowCell} (H : p_slices_Clone_row_Cell s_ = some r) : CT G 202 [.slice a_0 s_.length c_0] [] [Im.sl tyRowCell a_0 c_0 s_] (fun h : (Option Addr × Nat) => .slice h.1 r.length h.2) (fun h => [Ch.arr tyRowCell 123 h.1 h.2 r]) (fun h => []) := by
  delta p_slices_Clone_row_Cell at H
  refine CT.of Go.Proofs.Tryz.func202 (by kernel_rfl) rfl rfl rfl fun K => ?_
  obtain ⟨_, h0, H⟩ := bnd H
  have hr := Option.some.inj H
  refine T.seq (T.region (L.q 1 rfl (L.nil (E.then (T.seq (T.seq (T.region ?_)))))))
  refine L.q 1 rfl ?_
  refine L.nilc 0 rfl rfl rfl rfl rfl rfl rfl rfl rfl (fun ha hx => ?_) ?_
  · refine L.nil (E.then (T.cond rfl (fun _ => ?_) (fun h => nomatch h)))
    refine T.seq (T.region (L.q 1 rfl (L.nil (E.then (T.ret (E.then_ret ?_))))))
    subst hx
    subst r
    refine E.nil0 tyRowCell 123 ?_
    exact E.ret (none, 0) [0] [] (.tmp rfl .nil) rfl rfl rfl
  · refine L.nil (E.then (T.cond rfl (fun h => nomatch h) (fun _ => ?_)))
    refine T.skip (E.then (T.seq (T.region ?_)))
    refine L.a [] [] (Ac.bs (ty := tyRowCell) (xs := []) .nil rfl rfl rfl rfl rfl rfl rfl) rfl rfl rfl rfl rfl ?_
    intro g1
    refine L.q 1 rfl ?_
    refine L.a [0] [0] (Ac.ap (ty := tyRowCell) h0 rfl rfl rfl rfl rfl rfl rfl) rfl rfl rfl rfl rfl ?_
    rintro ⟨a1, c1⟩
    refine L.q 1 rfl ?_
    refine L.nil (E.then (T.ret ?_))
    subst r
    exact E.ret (a1, c1) [0] [] (.tmp rfl .nil) rfl rfl rfl

theorem c_row_Row_cells {r_ : RowRow} {r : (List RowCell)} (H : p_row_Row_cells r_ = some r) : CT G 179 [.agg #[.slice A0 r_.cells.length C0, .bool r_.wrapped]] [] [Im.sl tyRowCell A0 C0 r_.cells] (fun h : (Option Addr × Nat) => .slice h.1 r.length h.2) (fun h => [Ch.arr tyRowCell 123 h.1 h.2 r]) (fun h => []) := by
 delta p_row_Row_cells at H
 refine CT.of Go.Proofs.Tryz.func179 (by kernel_rfl) rfl rfl rfl fun K => ?_
 refine Ts (Tr ?_)
 refine Lx fun g1 => ?_
 refine Lq 1 ?_
 refine Ln (Et (Ts (Tr ?_)))
 refine Lq 1 ?_
 refine Lb 0 ?_
 obtain ⟨r2, h3, H4⟩ := bnd H
 refine Lk [] [0] (c_slices_Clone_row_Cell A0 C0 h3) fun ⟨a5, c6⟩ => ?_
 refine Lq 1 ?_
 refine Ln (Et (Tv ?_))
 obtain rfl := sm H4
 exact Eo1 (a5, c6) [0] []

theorem c_row_broken {l : List RowCell} {i : Int} {r : Bool} (H : p_row_broken l i = some r) : CT G 206 [.slice A0 l.length C0, .int .i64 i] [] [Im.sl tyRowCell A0 C0 l] (fun _ : Unit => .bool r) (fun h => []) (fun h => []) := by
 delta p_row_broken at H
 refine CT.of Go.Proofs.Tryz.func206 (by kernel_rfl) rfl rfl rfl fun K => ?_
 refine Ts (Tr ?_)
 refine Lq 1 ?_
 refine Ln (Et (Ts (Ts (Tr ?_))))
 refine Lq 2 ?_
 obtain ⟨x1, h2, H3⟩ := bnd H
 refine L.addr 0 rfl (idx_lt h2) fun b4 o5 e6 => ?_
 subst e6
 refine Ly (Yl.ia h2 rfl rfl rfl rfl rfl rfl) ?_
 refine L.el 0 rfl (idx_some h2).2 ?_
 rintro _
 refine Lq 1 ?_
 refine Lc 0 2 ?_
 refine Ln (Et (Tl (Ts (Tr ?_))))
 refine Lq 2 ?_
 refine Ln (Et ?_)
 refine Tb H3 (fun H49 => ?_) fun H49 => ?_
 ·refine Ts ?_
  obtain ⟨e61, H62, H63⟩ := bnd H49
  refine Tj0 [(4, .bool e61)] [] [] [] ?_ ?_
  ·refine Tr ?_
   refine Lq 6 ?_
   refine Lw 17 H62 (fun H64 => ?_) fun H64 => ?_
   ·refine Lq 9 ?_
    refine Ln ?_
    obtain rfl := sm H64
    exact Eg0 [] 0
   refine Lq 3 ?_
   obtain ⟨x65, h66, H67⟩ := bnd H64
   refine Ly (Yl.ia h66 rfl rfl rfl rfl rfl rfl) ?_
   refine L.el 1 rfl (idx_some h66).2 ?_
   rintro _
   refine Lq 1 ?_
   refine Lc 0 2 ?_
   refine Lq 3 ?_
   refine Ln ?_
   obtain rfl := sm H67
   exact Eg0 [] 1
  refine Tv (Ev (Er ?_))
  obtain rfl := sm H63
  exact Eo1 () [] []
 refine Ts (Tr ?_)
 refine Lq 2 ?_
 refine Ln (Et ?_)
 refine Tb H49 (fun H69 => ?_) fun H69 => ?_
 ·refine Ts ?_
  obtain ⟨e81, H82, H83⟩ := bnd H69
  refine Tj0 [(4, .bool e81)] [] [] [] ?_ ?_
  ·refine Tr ?_
   refine Lq 3 ?_
   refine Lw 30 H82 (fun H84 => ?_) fun H84 => ?_
   ·refine Lq 9 ?_
    refine Ln ?_
    obtain rfl := sm H84
    exact Eg0 [] 0
   refine Lq 3 ?_
   obtain ⟨x85, h86, H87⟩ := bnd H84
   refine Ly (Yl.ia h86 rfl rfl rfl rfl rfl rfl) ?_
   refine L.el 1 rfl (idx_some h86).2 ?_
   rintro _
   refine Lq 1 ?_
   refine Lc 0 2 ?_
   refine Lq 3 ?_
   refine Ln ?_
   obtain rfl := sm H87
   exact Eg0 [] 1
  refine Tv (Ev (Er ?_))
  obtain rfl := sm H83
  exact Eo1 () [] []
 refine Ts (Tr ?_)
 refine Lq 2 ?_
 refine Ln (Et ?_)
 refine Tb H69 (fun H89 => ?_) fun H89 => ?_
 ·refine Ts (Tr ?_)
  refine Lq 6 ?_
  refine Ln (Et (Tv (Ev (Er ?_))))
  obtain rfl := sm H89
  exact Eo1 () [] []
 refine Tk (Eb (Et (Ts (Tr ?_))))
 refine Lq 1 ?_
 refine Ln (Et (Tv ?_))
 obtain rfl := sm H89
 exact Eo1 () [] []

theorem c_row_mend {l : List RowCell} {r : RowRow} (H : p_row_mend l = some r) : CT G 180 [.slice A0 l.length C0] [Ch.arr tyRowCell 123 A0 C0 l] [] (fun _ : Unit => .agg #[.slice A0 r.cells.length C0, .bool r.wrapped]) (fun h => []) (fun h => [Im.sl tyRowCell A0 C0 r.cells]) := by
 delta p_row_mend at H
 refine CT.of Go.Proofs.Tryz.func180 (by kernel_rfl) rfl rfl rfl fun K => ?_
 refine Ts (Tr ?_)
 refine Ll fun g1 => ?_
 refine Ln (Et (Ts (Ts (Tr ?_))))
 refine Lq 3 ?_
 refine Ln (Et ?_)
 obtain ⟨e179, H180, H181⟩ := bnd H
 refine Tj0 [(0, .slice A0 e179.length C0)] [2] [Ch.arr tyRowCell 123 A0 C0 e179] [0] ?_ ?_
 ·refine Tl ?_
  refine Tq (η := Unit) (fun s121 h => [(0, .slice A0 s121.1.length C0), (6, .int .i64 s121.2)]) [2, 5] (fun s121 h => [Ch.arr tyRowCell 123 A0 C0 s121.1]) [0] (fun _ _ => []) () [1, 0] [] H180 ?_
  rintro k_ s121 ⟨⟩ z183 H182 hag184 hbr185
  refine Ts (Tr ?_)
  refine Lq 1 ?_
  refine Ln (Et (Ts ?_))
  refine Tb H182 (fun H187 => ?_) fun H187 => ?_
  ·refine Tk (Et (Ts ?_))
   obtain ⟨e222, H223, H224⟩ := bnd H187
   refine Tj0 [(0, .slice A0 e222.length C0)] [2, 5, 6] [Ch.arr tyRowCell 123 A0 C0 e222] [1] ?_ ?_
   ·refine Tl (Ts (Tr ?_))
    refine Lq 2 ?_
    refine Ln (Et (Ts (Tr ?_)))
    refine Lq 2 ?_
    obtain ⟨r225, h226, H227⟩ := bnd H223
    refine L.br (Ac.call (c_row_broken h226) rfl rfl rfl rfl) (Bw.ch 0 rfl (Bw.nil)) rfl rfl rfl ?_
    intro _
    refine Ln (Et ?_)
    refine Tb H227 (fun H228 => ?_) fun H228 => ?_
    ·refine Tr ?_
     refine Lq 4 ?_
     obtain ⟨x229, h230, H231⟩ := bnd H228
     refine L.addro 0 rfl (idx_lt h230) fun b232 e233 => ?_
     subst e233
     refine Ly (Yl.ia h230 rfl rfl rfl rfl rfl rfl) ?_
     refine Lq 1 ?_
     refine Ly (Yl.lo (v := .int .i64 x229.style) 0 s121.2.toNat 1 (idx_some h230).2 rfl rfl rfl rfl (fun _ => rfl)) ?_
     obtain ⟨r234, h235, H236⟩ := bnd H231
     refine Lk [] [] (c_row_blank h235) fun ⟨⟩ => ?_
     obtain ⟨x237, h238, H239⟩ := bnd H236
     refine Ly (Yl.ia h238 rfl rfl rfl rfl rfl rfl) ?_
     refine La [0] [] (Ac.se 0 r234 (idx_some h238).2 rfl rfl rfl rfl rfl rfl (fun _ => ⟨(), rfl, [], rfl⟩)) fun _ => ?_
     refine L.sl 0 (k' := (s121.1.set s121.2.toNat r234).length) (List.length_set ..) rfl ?_
     refine Ln (Eb ?_)
     obtain rfl := sm H239
     exact Eg0 [0, 0] 0
    refine Tk (Eb ?_)
    obtain rfl := sm H228
    exact Eg0 [0, 0] 0
   refine Tr ?_
   refine Lq 2 ?_
   refine Ln ?_
   obtain rfl := sm H224
   exact Eg (_, ()) (hag184 _ rfl) [0, 0] [] 0
  refine Tx (Ex (Ex (Eh ?_)))
  obtain rfl := sm H187
  have hb := hbr185 _ rfl
  subst e179
  exact Eg0 [0, 0] 0
 refine Ts (Tr ?_)
 refine Lq 2 ?_
 refine Lt 1 ?_
 refine Ln (Et (Tv ?_))
 refine E.frz 1 rfl ?_
 obtain rfl := sm H181
 exact Eo () [] [0] (.cell 0 rfl rfl rfl .nil)

theorem c_row_Row_Resize {r_ : RowRow} {w : Int} {r : RowRow} (H : p_row_Row_Resize r_ w = some r) : CT G 139 [.agg #[.slice A0 r_.cells.length C0, .bool r_.wrapped], .int .i64 w] [] [Im.sl tyRowCell A0 C0 r_.cells] (fun h : (Option Addr × Nat) => .agg #[.slice h.1 r.cells.length h.2, .bool r.wrapped]) (fun h => []) (fun h => [Im.sl tyRowCell h.1 h.2 r.cells]) := by
 delta p_row_Row_Resize at H
 refine CT.of Go.Proofs.Tryz.func139 (by kernel_rfl) rfl rfl rfl fun K => ?_
 refine Ts (Tr ?_)
 refine Lx fun g1 => ?_
 refine Ll fun g2 => ?_
 refine Ln (Et (Ts (Tr ?_)))
 refine Lq 1 ?_
 obtain ⟨r3, h4, H5⟩ := bnd H
 refine Lk [] [] (c_row_clip h4) fun ⟨⟩ => ?_
 refine Lq 1 ?_
 refine Ln (Et (Ts (Tr ?_)))
 refine Lb 1 ?_
 obtain ⟨r6, h7, H8⟩ := bnd H5
 refine Lk [] [0] (c_row_Row_cells h7) fun ⟨a9, c10⟩ => ?_
 refine Lq 1 ?_
 refine Ln (Et (Ts (Ts (Tr ?_))))
 refine Lq 4 ?_
 refine Ln (Et ?_)
 refine Tb H8 (fun H13 => ?_) fun H13 => ?_
 ·refine Ts (Tr ?_)
  refine Lq 2 ?_
  refine Lb 2 ?_
  refine Lq 1 ?_
  refine Lt 1 ?_
  refine Ln (Et (Tv (Er ?_)))
  refine E.frz 1 rfl ?_
  obtain rfl := sm H13
  exact Eo (a9, c10) [] [0] (.cell 0 rfl rfl rfl .nil)
 refine Tk (Et (Ts ?_))
 refine Td [13] [1, 1] mo ?_
 refine Dq 0 ?_
 refine Dq 1 ?_
 refine Dq 2 ?_
 refine Dq 3 ?_
 refine Dq 4 ?_
 refine Dq 6 ?_
 refine Dq 7 ?_
 refine Dq 8 ?_
 refine Dq 9 ?_
 refine DF.of rfl ?_
 obtain ⟨r78, h79, H80⟩ := bnd H13
 refine DF.add _ (FSp.ac 10 [] (Ac.frz (Ac.call (c_row_blanks h79) rfl rfl rfl rfl)) rfl rfl rfl rfl rfl) rfl ?_
 refine DF.step 5 rfl rfl rfl rfl rfl ?_
 obtain ⟨_, h85, H86⟩ := bnd H80
 refine DFp.a [0] [] (Ac.rso h85 rfl rfl rfl rfl rfl rfl rfl) rfl rfl rfl rfl rfl rfl rfl rfl ?_
 intro _
 refine DF.step 11 rfl rfl rfl rfl rfl ?_
 refine DFp.use 0 rfl rfl rfl ?_
 rintro ⟨a81, c82⟩
 obtain ⟨_, h90, H91⟩ := bnd H86
 refine DFp.a [0] [0] (Ac.ap (ty := tyRowCell) h90 rfl rfl rfl rfl rfl rfl rfl) rfl rfl rfl rfl rfl rfl rfl rfl ?_
 rintro ⟨a92, c93⟩
 refine DF.step 12 rfl rfl rfl rfl rfl ?_
 obtain ⟨r95, h96, H97⟩ := bnd H91
 refine DFp.a [0] [] (Ac.call (c_row_mend h96) rfl rfl rfl rfl) rfl rfl rfl rfl rfl rfl rfl rfl ?_
 rintro ⟨⟩
 refine DF.step 13 rfl rfl rfl rfl rfl ?_
 refine DFp.al [0] [] (Ac.stb rfl rfl rfl rfl rfl rfl) rfl rfl rfl rfl rfl rfl rfl ?_
 intro _
 refine DF.fin rfl rfl rfl rfl rfl ?_
 refine DFe.nil ?_
 refine Et (Tv ?_)
 obtain rfl := sm H97
 exact Eo (a92, c93) [] [0] (.cell 0 rfl rfl rfl .nil)

theorem c_grid_Grid_Set {g : GridGrid} {y : Int} {r_ : RowRow} {r : Bool × GridGrid} (H : p_grid_Grid_Set g y r_ = some r) : CT G 106 [.pointer (some ⟨N0, 0, none⟩), .int .i64 y, .agg #[.slice A1 r_.cells.length C1, .bool r_.wrapped]] [Ch.box N0 181 [.int .i64 g.w, .slice A0 g.l.length C0], Ch.arr tyRowRow 99 A0 C0 g.l] [Im.sl tyRowCell A1 C1 r_.cells] (fun _ : Unit => .bool r.1) (fun h => [Ch.box N0 181 [.int .i64 r.2.w, .slice A0 r.2.l.length C0], Ch.arr tyRowRow 99 A0 C0 r.2.l]) (fun h => []) := by
 delta p_grid_Grid_Set at H
 refine CT.of Go.Proofs.Tryz.func106 (by kernel_rfl) rfl rfl rfl fun K => ?_
 refine Ts (Tr ?_)
 refine Lx fun g1 => ?_
 refine Lq 1 ?_
 refine Ln (Et (Ts (Ts ?_)))
 obtain ⟨e5, H6, H7⟩ := bnd H
 refine Tj0 [(17, .bool e5)] [0, 1, 5] [] [0, 1, 2] ?_ ?_
 ·refine Tr ?_
  refine Lq 3 ?_
  refine Lw 9 H6 (fun H8 => ?_) fun H8 => ?_
  ·refine Lq 8 ?_
   refine Ln ?_
   obtain rfl := sm H8
   exact Eg0 [0, 0, 0] 0
  refine Lq 4 ?_
  refine Lb 1 ?_
  refine Lq 3 ?_
  refine Ln ?_
  obtain rfl := sm H8
  exact Eg0 [0, 0, 0] 0
 refine Tb H7 (fun H10 => ?_) fun H10 => ?_
 ·refine Ts (Tr ?_)
  refine Lq 1 ?_
  refine Ln (Et (Tv (Er ?_)))
  obtain rfl := sm H10
  exact Eo1 () [1, 1] []
 refine Tk (Et (Ts ?_))
 refine Td [12] [0, 0, 0] mo ?_
 refine Dq 0 ?_
 refine Dq 1 ?_
 refine Dq 2 ?_
 refine Db 3 1 ?_
 refine Dq 4 ?_
 refine Db 5 0 ?_
 refine Dq 6 ?_
 refine Dq 7 ?_
 refine Dq 8 ?_
 refine Db 9 1 ?_
 obtain ⟨r47, h48, H49⟩ := bnd H10
 refine Dk [] [0] (c_row_Row_Resize h48) fun ⟨a50, c51⟩ => ?_
 obtain ⟨x53, h54, H55⟩ := bnd H49
 refine D.addro 2 rfl (idx_lt h54) fun b56 e57 => ?_
 subst e57
 refine Dy 11 (Yl.ia h54 rfl rfl rfl rfl rfl rfl) ?_
 refine D.one rfl rfl rfl (Dp.al [2] [0] (Ac.se 0 r47 (idx_some h54).2 rfl rfl rfl rfl rfl rfl (fun _ => ⟨(a50, c51), rfl, [1], rfl⟩)) rfl rfl rfl rfl rfl rfl rfl ?_)
 intro _
 refine Dn ?_
 refine E.bx 2 (cs' := [.int .i64 g.w, .slice (some ⟨b56, 0, none⟩) (g.l.set y.toNat r47).length C0]) (by rw [(List.length_set ..)]) rfl ?_
 refine Et (Ts (Tr ?_))
 refine Lq 1 ?_
 refine Ln (Et (Tv ?_))
 obtain rfl := sm H55
 exact Eo1 () [0, 0] []

theorem c_grid_Grid_Resize {g : GridGrid} {w : Int} {h_ : Int} {off : Int} {r : (List RowRow) × GridGrid} (H : p_grid_Grid_Resize g w h_ off = some r) : CT G 61 [.pointer (some ⟨N0, 0, none⟩), .int .i64 w, .int .i64 h_, .int .i64 off] [Ch.box N0 181 [.int .i64 g.w, .slice A0 g.l.length C0], Ch.arr tyRowRow 99 A0 C0 g.l] [] (fun h : (Option Addr × Nat) × (Option Addr × Nat) => .slice h.1.1 r.1.length h.1.2) (fun h => [Ch.arr tyRowRow 99 h.1.1 h.1.2 r.1, Ch.box N0 181 [.int .i64 r.2.w, .slice h.2.1 r.2.l.length h.2.2], Ch.arr tyRowRow 99 h.2.1 h.2.2 r.2.l]) (fun h => []) := by
 delta p_grid_Grid_Resize at H
 refine CT.of Go.Proofs.Tryz.func61 (by kernel_rfl) rfl rfl rfl fun K => ?_
 refine Ts (Tr ?_)
 refine Lq 1 ?_
 refine Ln (Et (Ts (Tr ?_)))
 refine Lq 4 ?_
 refine Lb 0 ?_
 refine Lq 2 ?_
 obtain ⟨r1, h2, H3⟩ := bnd H
 refine Lk [] [] (c_grid_clip h2) fun ⟨⟩ => ?_
 refine Lq 1 ?_
 refine Ln (Et (Ts (Tr ?_)))
 refine Lq 3 ?_
 refine Lb 0 ?_
 refine Lq 1 ?_
 obtain ⟨_, h4, H5⟩ := bnd H3
 refine L.cap 1 rfl fun h9 => ?_
 refine Ly (Yl.sv (ty := tyRowRow) h9 h4 rfl rfl rfl rfl rfl rfl rfl rfl) ?_
 have hv8 : Vw tyRowRow g.l A0 C0 (cuta A0 C0 0 (tyRowRow).sz) (C0 - (0 : Int).toNat) 0 r1 := vw_new h4 h9
 obtain ⟨r10, h11, H12⟩ := bnd H5
 refine Lk [1] [] (c_slices_Clone_row_Row_w A0 C0 (cuta A0 C0 0 (tyRowRow).sz) (C0 - (0 : Int).toNat) hv8 h11) fun ⟨a13, c14⟩ => ?_
 refine Lq 1 ?_
 refine Ln (Et (Ts (Tr ?_)))
 refine Lq 3 ?_
 refine Lb 2 ?_
 refine Lq 1 ?_
 obtain ⟨_, h16, H17⟩ := bnd H12
 refine L.cap 1 rfl fun h21 => ?_
 refine Ly (Yl.sv (ty := tyRowRow) h21 h16 rfl rfl rfl rfl rfl rfl rfl rfl) ?_
 have hv20 : Vw tyRowRow g.l A0 C0 (cuta A0 C0 r1 (tyRowRow).sz) (C0 - r1.toNat) r1 (g.l.length : Int) := vw_new h16 h21
 obtain ⟨r22, h23, H24⟩ := bnd H17
 refine Lk [1] [] (c_slices_Clone_row_Row_w A0 C0 (cuta A0 C0 r1 (tyRowRow).sz) (C0 - r1.toNat) hv20 h23) fun ⟨a25, c26⟩ => ?_
 refine Lq 1 ?_
 refine Ln (Et (Ts (Tr ?_)))
 refine Lq 4 ?_
 obtain ⟨r28, h29, H30⟩ := bnd H24
 refine Lk [] [] (c_grid_size h29) fun ⟨⟩ => ?_
 refine Lq 1 ?_
 obtain ⟨_, h31, H32⟩ := bnd H30
 refine La [0] [] (Ac.rso h31 rfl rfl rfl rfl rfl rfl rfl) fun _ => ?_
 refine Lq 1 ?_
 refine Ln (Et (Ts ?_))
 obtain ⟨e119, H120, H121⟩ := bnd H32
 refine Tjh (η := (Option Addr × Nat)) (fun h => (fun a116 c117 => [(10, .slice a116 e119.length c117)]) h.1 h.2) [0, 1, 9] (fun h => (fun a116 c117 => [Ch.arr tyRowRow 99 a116 c117 e119]) h.1 h.2) [3, 1, 2] (fun _ => []) ?_ ?_
 ·refine Tl ?_
  refine Tq (η := (Option Addr × Nat)) (fun s92 h => (fun a89 c90 => [(10, .slice a89 s92.length c90)]) h.1 h.2) [0, 1, 2, 9] (fun s92 h => (fun a89 c90 => [Ch.arr tyRowRow 99 a89 c90 s92]) h.1 h.2) [3, 1, 2] (fun _ _ => []) (a25, c26) [0, 2, 0, 0] [] H120 ?_
  rintro k_ s92 ⟨a89, c90⟩ z123 H122 hag124 hbr125
  refine Ts (Ts (Tr ?_))
  refine Lq 3 ?_
  obtain ⟨r126, h127, H128⟩ := bnd H122
  refine Lk [] [] (c_grid_size h127) fun ⟨⟩ => ?_
  refine Lq 1 ?_
  refine Ln (Et ?_)
  refine Tb H128 (fun H130 => ?_) fun H130 => ?_
  ·refine Tk (Et (Tl (Tr ?_)))
   refine Lq 2 ?_
   obtain ⟨r131, h132, H133⟩ := bnd H130
   refine Lk [] [] (c_grid_size h132) fun ⟨⟩ => ?_
   obtain ⟨r134, h135, H136⟩ := bnd H133
   refine Lk [] [] (c_row_Blank h135) fun ⟨a137, c138⟩ => ?_
   refine La [] [0] (Ac.bs (ty := tyRowRow) (xs := [r134]) (.cons (a137, c138) [0] rfl .nil) rfl rfl rfl rfl rfl rfl rfl) fun g140 => ?_
   refine L.frz 0 rfl ?_
   obtain ⟨_, h143, H144⟩ := bnd H136
   refine La [0] [0] (Ac.ap (ty := tyRowRow) h143 rfl rfl rfl rfl rfl rfl rfl) ?_
   rintro ⟨a145, c146⟩
   refine Lq 1 ?_
   refine Ln (Eb ?_)
   obtain rfl := sm H144
   exact Eg (_, (a145, c146)) (hag124 _ rfl) [0, 0, 0, 0] [] 2
  refine Tx (Ex (Ex (Eh ?_)))
  obtain rfl := sm H130
  have hb := hbr125 _ rfl
  subst e119
  exact Eg (a89, c90) trivial [0, 0, 0, 0] [] 0
 rintro ⟨a116, c117⟩
 refine Ts (Tr ?_)
 refine Lq 3 ?_
 obtain ⟨r148, h149, H150⟩ := bnd H121
 refine Lk [] [] (c_grid_size h149) fun ⟨⟩ => ?_
 refine Lq 3 ?_
 refine Lt 1 ?_
 refine Lq 2 ?_
 refine Lt 0 ?_
 refine Ln (Et (Ts (Ts (Tr ?_))))
 refine Lq 3 ?_
 refine Lb 0 ?_
 refine Lq 2 ?_
 refine Ln (Et ?_)
 obtain ⟨e249, H250, H251⟩ := bnd H150
 refine Tjh (η := (Option Addr × Nat)) (fun _ => []) [9] (fun h => (fun a246 c247 => [Ch.arr tyRowRow 99 a246 c247 e249.l, Ch.box N0 181 [.int .i64 e249.w, .slice a246 e249.l.length c247]]) h.1 h.2) [3] (fun _ => []) ?_ ?_
 ·refine Tl ?_
  refine Tq (η := (Option Addr × Nat)) (fun s218 h => (fun a214 c215 => [(66, .int .i64 s218.2)]) h.1 h.2) [0, 9, 65] (fun s218 h => (fun a214 c215 => [Ch.arr tyRowRow 99 a214 c215 s218.1.l, Ch.box N0 181 [.int .i64 s218.1.w, .slice a214 s218.1.l.length c215]]) h.1 h.2) [3] (fun _ _ => []) (a116, c117) [1, 0, 1] [] H250 ?_
  rintro k_ s218 ⟨a214, c215⟩ z253 H252 hag254 hbr255
  refine Ts (Tr ?_)
  refine Lq 1 ?_
  refine Ln (Et (Ts ?_))
  refine Tb H252 (fun H257 => ?_) fun H257 => ?_
  ·refine Tk (Et (Ts (Tl (Ts (Tr ?_)))))
   refine Lq 2 ?_
   refine Ln (Et (Tr ?_))
   refine Lq 5 ?_
   refine Lb 1 ?_
   refine Lq 1 ?_
   obtain ⟨x270, h271, H272⟩ := bnd H257
   refine L.addro 0 rfl (idx_lt h271) fun b273 e274 => ?_
   subst e274
   refine Ly (Yl.ia h271 rfl rfl rfl rfl rfl rfl) ?_
   refine La [0] [] (Ac.lo s218.2.toNat 0 (v := (fun h : (Option Addr × Nat) => (fun a275 c276 => .agg #[.slice a275 x270.cells.length c276, .bool x270.wrapped]) h.1 h.2)) (idx_some h271).2 rfl rfl rfl (fun _ => rfl)) ?_
   rintro ⟨a275, c276⟩
   obtain ⟨r278, h279, H280⟩ := bnd H272
   refine Lk [1, 0] [0] (c_grid_Grid_Set h279) fun ⟨⟩ => ?_
   refine Ln (Eb (Et (Tr ?_)))
   refine Lq 2 ?_
   refine Ln ?_
   obtain rfl := sm H280
   exact Eg (_, ((some ⟨b273, 0, none⟩), c215)) (hag254 _ rfl) [1, 0, 0] [] 1
  refine Tx (Ex (Ex (Eh ?_)))
  obtain rfl := sm H257
  have hb := hbr255 _ rfl
  subst e249
  exact Eg (a214, c215) trivial [0, 0, 0] [] 0
 rintro ⟨a246, c247⟩
 refine Ts (Tr ?_)
 refine Lq 2 ?_
 refine Ln (Et (Tv ?_))
 obtain rfl := sm H251
 exact Eo1 ((a13, c14), (a246, c247)) [2, 1, 0] []

theorem c_screen_Screen_last {s_ : ScreenScreen} {r : Int × Int} (H : p_screen_Screen_last s_ = some r) : CT G 63 [.pointer (some ⟨N0, 0, none⟩)] [Ch.box N0 132 [.pointer (some ⟨N1, 0, none⟩), .int .i64 s_.spot.x, .int .i64 s_.spot.y, .int .i64 s_.spot.style.fore, .int .i64 s_.spot.style.back, .bool s_.spot.style.bold, .bool s_.spot.style.under, .bool s_.spot.style.inverse, .int .i64 s_.saved.x, .int .i64 s_.saved.y, .int .i64 s_.saved.style.fore, .int .i64 s_.saved.style.back, .bool s_.saved.style.bold, .bool s_.saved.style.under, .bool s_.saved.style.inverse, .bool s_.waiting, .int .i64 s_.top, .int .i64 s_.bottom, .bool s_.wraps, .string s_.title], Ch.box N1 181 [.int .i64 s_.g.w, .slice A0 s_.g.l.length C0], Ch.arr tyRowRow 99 A0 C0 s_.g.l] [] (fun _ : Unit => .tuple #[.int .i64 r.1, .int .i64 r.2]) (fun h => [Ch.box N0 132 [.pointer (some ⟨N1, 0, none⟩), .int .i64 s_.spot.x, .int .i64 s_.spot.y, .int .i64 s_.spot.style.fore, .int .i64 s_.spot.style.back, .bool s_.spot.style.bold, .bool s_.spot.style.under, .bool s_.spot.style.inverse, .int .i64 s_.saved.x, .int .i64 s_.saved.y, .int .i64 s_.saved.style.fore, .int .i64 s_.saved.style.back, .bool s_.saved.style.bold, .bool s_.saved.style.under, .bool s_.saved.style.inverse, .bool s_.waiting, .int .i64 s_.top, .int .i64 s_.bottom, .bool s_.wraps, .string s_.title], Ch.box N1 181 [.int .i64 s_.g.w, .slice A0 s_.g.l.length C0], Ch.arr tyRowRow 99 A0 C0 s_.g.l]) (fun h => []) := by
 delta p_screen_Screen_last at H
 refine CT.of Go.Proofs.Tryz.func63 (by kernel_rfl) rfl rfl rfl fun K => ?_
 refine Ts (Tr ?_)
 refine Lq 2 ?_
 refine Ln (Et (Ts (Tr ?_)))
 refine Lq 3 ?_
 refine Lb 0 ?_
 obtain ⟨r1, h2, H3⟩ := bnd H
 refine Lk [1, 1] [] (c_grid_Grid_Size h2) fun ⟨⟩ => ?_
 refine Lq 5 ?_
 refine Ln (Et (Ts (Tr ?_)))
 refine Lq 6 ?_
 refine Ln (Et (Tv ?_))
 obtain rfl := sm H3
 exact Eo () [2, 0, 0] [] (.tmp rfl (.tmp rfl .nil))

theorem c_screen_Screen_move {s_ : ScreenScreen} {x_ : Int} {y : Int} {r : ScreenScreen} (H : p_screen_Screen_move s_ x_ y = some r) : CT G 62 [.pointer (some ⟨N0, 0, none⟩), .int .i64 x_, .int .i64 y] [Ch.box N0 132 [.pointer (some ⟨N1, 0, none⟩), .int .i64 s_.spot.x, .int .i64 s_.spot.y, .int .i64 s_.spot.style.fore, .int .i64 s_.spot.style.back, .bool s_.spot.style.bold, .bool s_.spot.style.under, .bool s_.spot.style.inverse, .int .i64 s_.saved.x, .int .i64 s_.saved.y, .int .i64 s_.saved.style.fore, .int .i64 s_.saved.style.back, .bool s_.saved.style.bold, .bool s_.saved.style.under, .bool s_.saved.style.inverse, .bool s_.waiting, .int .i64 s_.top, .int .i64 s_.bottom, .bool s_.wraps, .string s_.title], Ch.box N1 181 [.int .i64 s_.g.w, .slice A0 s_.g.l.length C0], Ch.arr tyRowRow 99 A0 C0 s_.g.l] [] (fun _ : Unit => .tuple #[]) (fun h => [Ch.box N0 132 [.pointer (some ⟨N1, 0, none⟩), .int .i64 r.spot.x, .int .i64 r.spot.y, .int .i64 r.spot.style.fore, .int .i64 r.spot.style.back, .bool r.spot.style.bold, .bool r.spot.style.under, .bool r.spot.style.inverse, .int .i64 r.saved.x, .int .i64 r.saved.y, .int .i64 r.saved.style.fore, .int .i64 r.saved.style.back, .bool r.saved.style.bold, .bool r.saved.style.under, .bool r.saved.style.inverse, .bool r.waiting, .int .i64 r.top, .int .i64 r.bottom, .bool r.wraps, .string r.title], Ch.box N1 181 [.int .i64 r.g.w, .slice A0 r.g.l.length C0], Ch.arr tyRowRow 99 A0 C0 r.g.l]) (fun h => []) := by
 delta p_screen_Screen_move at H
 refine CT.of Go.Proofs.Tryz.func62 (by kernel_rfl) rfl rfl rfl fun K => ?_
 refine Ts (Tr ?_)
 refine Lq 1 ?_
 obtain ⟨r1, h2, H3⟩ := bnd H
 refine Lk [0, 0, 0] [] (c_screen_Screen_last h2) fun ⟨⟩ => ?_
 refine Lq 5 ?_
 refine Ln (Et (Tr ?_))
 refine Lq 5 ?_
 obtain ⟨r4, h5, H6⟩ := bnd H3
 refine Lk [] [] (c_screen_clip h5) fun ⟨⟩ => ?_
 refine Lq 2 ?_
 obtain ⟨r7, h8, H9⟩ := bnd H6
 refine Lk [] [] (c_screen_clip h8) fun ⟨⟩ => ?_
 refine Lq 3 ?_
 refine Lt 0 ?_
 refine Lq 3 ?_
 refine Lt 0 ?_
 refine Lq 2 ?_
 refine Lt 0 ?_
 refine Ln (E.off ?_)
 obtain rfl := sm H9
 exact Eo () [0, 0, 0] [] .nil

theorem c_screen_Screen_Resize {s_ : ScreenScreen} {w : Int} {h_ : Int} {r : (List RowRow) × ScreenScreen} (H : p_screen_Screen_Resize s_ w h_ = some r) : CT G 29 [.pointer (some ⟨N0, 0, none⟩), .int .i64 w, .int .i64 h_] [Ch.box N0 132 [.pointer (some ⟨N1, 0, none⟩), .int .i64 s_.spot.x, .int .i64 s_.spot.y, .int .i64 s_.spot.style.fore, .int .i64 s_.spot.style.back, .bool s_.spot.style.bold, .bool s_.spot.style.under, .bool s_.spot.style.inverse, .int .i64 s_.saved.x, .int .i64 s_.saved.y, .int .i64 s_.saved.style.fore, .int .i64 s_.saved.style.back, .bool s_.saved.style.bold, .bool s_.saved.style.under, .bool s_.saved.style.inverse, .bool s_.waiting, .int .i64 s_.top, .int .i64 s_.bottom, .bool s_.wraps, .string s_.title], Ch.box N1 181 [.int .i64 s_.g.w, .slice A0 s_.g.l.length C0], Ch.arr tyRowRow 99 A0 C0 s_.g.l] [] (fun h : (Option Addr × Nat) × (Option Addr × Nat) => .slice h.1.1 r.1.length h.1.2) (fun h => [Ch.arr tyRowRow 99 h.1.1 h.1.2 r.1, Ch.box N0 132 [.pointer (some ⟨N1, 0, none⟩), .int .i64 r.2.spot.x, .int .i64 r.2.spot.y, .int .i64 r.2.spot.style.fore, .int .i64 r.2.spot.style.back, .bool r.2.spot.style.bold, .bool r.2.spot.style.under, .bool r.2.spot.style.inverse, .int .i64 r.2.saved.x, .int .i64 r.2.saved.y, .int .i64 r.2.saved.style.fore, .int .i64 r.2.saved.style.back, .bool r.2.saved.style.bold, .bool r.2.saved.style.under, .bool r.2.saved.style.inverse, .bool r.2.waiting, .int .i64 r.2.top, .int .i64 r.2.bottom, .bool r.2.wraps, .string r.2.title], Ch.box N1 181 [.int .i64 r.2.g.w, .slice h.2.1 r.2.g.l.length h.2.2], Ch.arr tyRowRow 99 h.2.1 h.2.2 r.2.g.l]) (fun h => []) := by
 delta p_screen_Screen_Resize at H
 refine CT.of Go.Proofs.Tryz.func29 (by kernel_rfl) rfl rfl rfl fun K => ?_
 refine Ts (Tr ?_)
 refine Lq 1 ?_
 refine Ln (Et (Ts ?_))
 refine Td [9] [0, 0, 0] mo ?_
 refine Dq 0 ?_
 refine Dq 1 ?_
 refine Dq 2 ?_
 refine Dq 3 ?_
 refine Db 4 0 ?_
 refine Dq 5 ?_
 obtain ⟨r10, h11, H12⟩ := bnd H
 refine Dk [] [] (c_screen_clip h11) fun ⟨⟩ => ?_
 refine Dq 7 ?_
 refine Dq 8 ?_
 refine Dq 9 ?_
 refine Dq 10 ?_
 refine Dn ?_
 refine Et (Ts (Tr ?_))
 refine Lq 3 ?_
 refine Lb 0 ?_
 refine Lq 3 ?_
 obtain ⟨r13, h14, H15⟩ := bnd H12
 refine Lk [1, 1] [] (c_grid_Grid_Resize h14) fun ⟨⟨a16, c17⟩, ⟨a18, c19⟩⟩ => ?_
 refine Lq 1 ?_
 refine Ln (Et (Ts ?_))
 refine Td [13] [0, 0, 0, 0] mo ?_
 refine Dq 0 ?_
 refine Dq 1 ?_
 refine Dq 2 ?_
 refine Dq 3 ?_
 refine Dq 4 ?_
 refine Db 5 3 ?_
 refine Dq 6 ?_
 refine Dq 7 ?_
 refine Dq 8 ?_
 refine Dq 9 ?_
 refine Db 10 3 ?_
 refine Dq 11 ?_
 refine Dq 12 ?_
 obtain ⟨r34, h35, H36⟩ := bnd H15
 refine Dkl [3, 1, 1] [] (c_screen_Screen_move h35) fun ⟨⟩ => ?_
 refine Dn ?_
 refine Et (Ts (Tr ?_))
 refine Lq 1 ?_
 obtain ⟨r38, h39, H40⟩ := bnd H36
 refine Lk [0, 0, 0] [] (c_screen_Screen_last h39) fun ⟨⟩ => ?_
 refine Lq 5 ?_
 refine Ln (Et (Ts (Tr ?_)))
 refine Lq 5 ?_
 refine Lt 0 ?_
 refine Lq 2 ?_
 refine Lt 0 ?_
 refine Ln (Et (Ts (Tr ?_)))
 refine Lq 2 ?_
 refine Ln (Et (Tv ?_))
 obtain rfl := sm H40
 exact Eo1 ((a16, c17), (a18, c19)) [3, 0, 0, 0] []

theorem c_row_Row_Glyphs {r_ : RowRow} {r : (List RowGlyph)} (H : p_row_Row_Glyphs r_ = some r) : CT G 58 [.agg #[.slice A0 r_.cells.length C0, .bool r_.wrapped]] [] [Im.sl tyRowCell A0 C0 r_.cells] (fun h : (Option Addr × Nat) => .slice h.1 r.length h.2) (fun h => [Ch.arr tyRowGlyph 77 h.1 h.2 r]) (fun h => []) := by
 delta p_row_Row_Glyphs at H
 refine CT.of Go.Proofs.Tryz.func58 (by kernel_rfl) rfl rfl rfl fun K => ?_
 refine Ts (Tr ?_)
 refine Lx fun g1 => ?_
 refine Lq 1 ?_
 refine Ln (Et (Ts (Tr ?_)))
 refine Lq 1 ?_
 refine Lb 0 ?_
 refine Lq 1 ?_
 refine Ln (Et (Ts ?_))
 obtain ⟨e268, H269, H270⟩ := bnd H
 refine Tjh (η := (Option Addr × Nat)) (fun h => (fun a265 c266 => [(3, .slice a265 e268.length c266)]) h.1 h.2) [] (fun _ => []) [0] (fun h => (fun a265 c266 => [Im.sl tyRowCell a265 c266 e268]) h.1 h.2) ?_ ?_
 ·refine Tl ?_
  refine Tq (η := (Option Addr × Nat)) (fun s180 h => (fun a177 c178 => [(3, .slice a177 s180.length c178)]) h.1 h.2) [1] (fun _ _ => []) [0] (fun s180 h => (fun a177 c178 => [Im.sl tyRowCell a177 c178 s180]) h.1 h.2) (A0, C0) [0] [0] H269 ?_
  rintro k_ s180 ⟨a177, c178⟩ z272 H271 hag273 hbr274
  refine Ts (Ts ?_)
  obtain ⟨e324, H325, H326⟩ := bnd H271
  refine Tj0 [(26, .bool e324)] [1, 3] [] [0] ?_ ?_
  ·refine Td [] [0] mo ?_
   refine Dq 0 ?_
   refine Db 1 0 ?_
   refine Dq 2 ?_
   refine Dq 3 ?_
   refine D.cs 12 H325 rfl (fun hc H339 => ?_) (fun hc H339 => ?_)
   ·refine Dq 4 ?_
    refine Dq 5 ?_
    refine Dq 6 ?_
    refine Dq 7 ?_
    refine Dq 8 ?_
    refine D.cs 17 H339 rfl (fun hc H340 => ?_) (fun hc H340 => ?_)
    ·refine Dq 9 ?_
     refine Dq 10 ?_
     refine Dq 11 ?_
     refine Dq 12 ?_
     obtain ⟨x341, h342, H343⟩ := bnd H340
     refine D.addr 0 rfl (idx_lt h342) fun b344 o345 e346 => ?_
     subst e346
     refine Dy 13 (Yl.ia h342 rfl rfl rfl rfl rfl rfl) ?_
     refine D.el 0 rfl (idx_some h342).2 ?_
     rintro _
     refine Dy 14 (Yl.ldc 0 0 rfl rfl rfl rfl) ?_
     obtain ⟨r348, h349, H350⟩ := bnd H343
     refine Dk [] [] (c_row_blank h349) fun ⟨⟩ => ?_
     refine Dq 16 ?_
     refine Dq 17 ?_
     refine Dn ?_
     obtain rfl := sm H350
     exact Eg0 [0] 1
    refine Ds 9 ?_
    refine Ds 10 ?_
    refine Ds 11 ?_
    refine Ds 12 ?_
    refine Ds 13 ?_
    refine Ds 14 ?_
    refine Ds 15 ?_
    refine Ds 16 ?_
    refine Dq 17 ?_
    refine Dn ?_
    obtain rfl := sm H340
    exact Eg0 [0] 0
   refine Ds 4 ?_
   refine Ds 5 ?_
   refine Ds 6 ?_
   refine Dq 7 ?_
   refine Dq 8 ?_
   refine Ds 9 ?_
   refine Ds 10 ?_
   refine Ds 11 ?_
   refine Ds 12 ?_
   refine Ds 13 ?_
   refine Ds 14 ?_
   refine Ds 15 ?_
   refine Ds 16 ?_
   refine Dq 17 ?_
   refine Dn ?_
   obtain rfl := sm H339
   exact Eg0 [0] 0
  refine Tb H326 (fun H352 => ?_) fun H352 => ?_
  ·refine Tk (Et (Tl (Tr ?_)))
   refine Lq 4 ?_
   obtain ⟨_, h353, H354⟩ := bnd H352
   refine L.rs 0 h353 rfl rfl rfl rfl rfl rfl rfl rfl rfl rfl rfl rfl ?_
   intro a355 c356
   refine Lq 1 ?_
   refine Ln (Eb ?_)
   obtain rfl := sm H354
   exact Eg (_, (a355, c356)) (hag273 _ rfl) [0] [0] 2
  refine Tx (Ex (Ex (Eh ?_)))
  obtain rfl := sm H352
  have hb := hbr274 _ rfl
  subst e268
  exact Eg (a177, c178) trivial [0] [0] 1
 rintro ⟨a265, c266⟩
 refine Ts (Tr ?_)
 refine Lq 1 ?_
 refine Ln (Et (Ts (Ts (Tr ?_))))
 refine Lq 3 ?_
 refine Ln (Et ?_)
 obtain ⟨e625, H626, H627⟩ := bnd H270
 refine Tjh (η := (Option Addr × Nat)) (fun h => (fun a622 c623 => [(4, .slice a622 e625.length c623)]) h.1 h.2) [] (fun h => (fun a622 c623 => [Ch.arr tyRowGlyph 77 a622 c623 e625]) h.1 h.2) [0] (fun _ => []) ?_ ?_
 ·refine Tl ?_
  refine T.nil0 tyRowGlyph 77 ?_
  refine Tq (η := (Option Addr × Nat)) (fun s539 h => (fun a536 c537 => [(4, .slice a536 s539.2.length c537), (34, .int .i64 s539.1)]) h.1 h.2) [32, 33] (fun s539 h => (fun a536 c537 => [Ch.arr tyRowGlyph 77 a536 c537 s539.2]) h.1 h.2) [1] (fun _ _ => []) (none, 0) [0, 0] [] H626 ?_
  rintro k_ s539 ⟨a536, c537⟩ z629 H628 hag630 hbr631
  refine Ts (Tr ?_)
  refine Lq 1 ?_
  refine Ln (Et (Ts ?_))
  refine Tb H628 (fun H633 => ?_) fun H633 => ?_
  ·refine Tk (Et (Ts ?_))
   obtain ⟨e686, H687, H688⟩ := bnd H633
   refine Tjh (η := (Option Addr × Nat)) (fun h => (fun a683 c684 => [(4, .slice a683 e686.length c684)]) h.1 h.2) [32, 33, 34] (fun h => (fun a683 c684 => [Ch.arr tyRowGlyph 77 a683 c684 e686]) h.1 h.2) [1] (fun _ => []) ?_ ?_
   ·refine Tl (Ts (Tr ?_))
    obtain ⟨x689, h690, H691⟩ := bnd H687
    refine L.addr 0 rfl (idx_lt h690) fun b692 o693 e694 => ?_
    subst e694
    refine Ly (Yl.ia h690 rfl rfl rfl rfl rfl rfl) ?_
    refine L.el 0 rfl (idx_some h690).2 ?_
    rintro _
    refine Lc 0 0 ?_
    refine Ll fun g696 => ?_
    refine Lt 0 ?_
    refine Ln (Et (Ts ?_))
    obtain ⟨e700, H701, H702⟩ := bnd H691
    refine Tj0 [(45, .bool e700)] [4, 6, 32, 33, 34] [] [0, 2, 1] ?_ ?_
    ·refine Tr ?_
     refine Lq 1 ?_
     refine Lb 0 ?_
     refine Lq 2 ?_
     refine Lw 41 H701 (fun H703 => ?_) fun H703 => ?_
     ·refine Lq 4 ?_
      refine Ln ?_
      obtain rfl := sm H703
      exact Eg0 [0, 1, 0] 0
     refine Lq 1 ?_
     refine Lb 0 ?_
     refine Lq 2 ?_
     refine Ln ?_
     obtain rfl := sm H703
     exact Eg0 [0, 1, 0] 0
    refine Tb H702 (fun H704 => ?_) fun H704 => ?_
    ·refine Tr ?_
     refine Lq 2 ?_
     refine Lb 0 ?_
     refine Lq 1 ?_
     refine Lb 0 ?_
     refine Lq 1 ?_
     refine La [] [] (Ac.bs (ty := tyRowGlyph) (xs := [(RowGlyph.mk x689.rune x689.style)]) (.cons () [] rfl .nil) rfl rfl rfl rfl rfl rfl rfl) fun g705 => ?_
     refine L.frz 0 rfl ?_
     obtain ⟨_, h708, H709⟩ := bnd H704
     refine La [2] [0] (Ac.ap (ty := tyRowGlyph) h708 rfl rfl rfl rfl rfl rfl rfl) ?_
     rintro ⟨a710, c711⟩
     refine Lq 1 ?_
     refine Ln (Eb ?_)
     obtain rfl := sm H709
     exact Eg (a710, c711) trivial [0, 1] [] 2
    refine Tk (Eb ?_)
    obtain rfl := sm H704
    exact Eg (a536, c537) trivial [2, 1] [] 1
   rintro ⟨a683, c684⟩
   refine Tr ?_
   refine Lq 2 ?_
   refine Ln ?_
   obtain rfl := sm H688
   exact Eg (_, (a683, c684)) (hag630 _ rfl) [0, 0] [] 0
  refine Tx (Ex (Ex (Eh ?_)))
  obtain rfl := sm H633
  have hb := hbr631 _ rfl
  subst e625
  exact Eg (a536, c537) trivial [0, 0] [] 0
 rintro ⟨a622, c623⟩
 refine Ts (Tr ?_)
 refine Lq 2 ?_
 refine Ln (Et (Tv ?_))
 obtain rfl := sm H627
 exact Eo1 (a622, c623) [0] []

theorem c_slices_Clone_row_Glyph {s_ : List RowGlyph} (a_0 : Option Addr) (c_0 : Nat) {r : List RowGlyph} (H : p_slices_Clone_row_Glyph s_ = some r) : CT G 31 [.slice a_0 s_.length c_0] [] [Im.sl tyRowGlyph a_0 c_0 s_] (fun h : (Option Addr × Nat) => .slice h.1 r.length h.2) (fun h => [Ch.arr tyRowGlyph 77 h.1 h.2 r]) (fun h => []) := by
  delta p_slices_Clone_row_Glyph at H
  refine CT.of Go.Proofs.Tryz.func31 (by kernel_rfl) rfl rfl rfl fun K => ?_
  obtain ⟨_, h0, H⟩ := bnd H
  have hr := Option.some.inj H
  refine T.seq (T.region (L.q 1 rfl (L.nil (E.then (T.seq (T.seq (T.region ?_)))))))
  refine L.q 1 rfl ?_
  refine L.nilc 0 rfl rfl rfl rfl rfl rfl rfl rfl rfl (fun ha hx => ?_) ?_
  · refine L.nil (E.then (T.cond rfl (fun _ => ?_) (fun h => nomatch h)))
    refine T.seq (T.region (L.q 1 rfl (L.nil (E.then (T.ret (E.then_ret ?_))))))
    subst hx
    subst r
    refine E.nil0 tyRowGlyph 77 ?_
    exact E.ret (none, 0) [0] [] (.tmp rfl .nil) rfl rfl rfl
  · refine L.nil (E.then (T.cond rfl (fun h => nomatch h) (fun _ => ?_)))
    refine T.skip (E.then (T.seq (T.region ?_)))
    refine L.a [] [] (Ac.bs (ty := tyRowGlyph) (xs := []) .nil rfl rfl rfl rfl rfl rfl rfl) rfl rfl rfl rfl rfl ?_
    intro g1
    refine L.q 1 rfl ?_
    refine L.a [0] [0] (Ac.ap (ty := tyRowGlyph) h0 rfl rfl rfl rfl rfl rfl rfl) rfl rfl rfl rfl rfl ?_
    rintro ⟨a1, c1⟩
    refine L.q 1 rfl ?_
    refine L.nil (E.then (T.ret ?_))
    subst r
    exact E.ret (a1, c1) [0] [] (.tmp rfl .nil) rfl rfl rfl

theorem c_num_digits {n_ : Int} {r : Int} (H : p_num_digits n_ = some r) : CT G 205 [.int .i64 n_] [] [] (fun h : Nat => .func (.func 216) #[] #[.pointer (some ⟨h, 0, none⟩)]) (fun h => [Ch.box h 3 [.int .i64 r]]) (fun h => []) := by
 delta p_num_digits at H
 refine CT.of Go.Proofs.Tryz.func205 (by kernel_rfl) rfl rfl rfl fun K => ?_
 refine Ts (Tr ?_)
 refine Lx fun g1 => ?_
 refine Lq 1 ?_
 refine Ln (Et (Ts (Tr ?_)))
 refine Lq 2 ?_
 refine Ln (Et (Tv ?_))
 obtain rfl := sm H
 exact Eo1 g1 [0] []

theorem c_num_clip {n_ : Int} {r : Int} (H : p_num_clip n_ = some r) : CT G 217 [.int .i64 n_] [] [] (fun _ : Unit => .int .i64 r) (fun h => []) (fun h => []) := by
 delta p_num_clip at H
 refine CT.of Go.Proofs.Tryz.func217 (by kernel_rfl) rfl rfl rfl fun K => ?_
 refine Ts (Tr ?_)
 refine Lq 1 ?_
 refine Ln (Et (Ts (Tr ?_)))
 refine Lq 4 ?_
 refine Ln (Et (Tv ?_))
 obtain rfl := sm H
 exact Eo1 () [] []

theorem c_num_digits_1 {σ η : Type} {Y : σ → Int → Option (σ × Bool)} {y0 : σ} {x1 : Int} {yl : Nat} {C : σ → η → Ch} (hY : ∀ s (h : η) (x : Int) (t : Unit) z, Y s x = some z → YT G yl [.int .u8 x] [C s h] [] (fun _ : η => .bool z.2) (fun h2 => [C z.1 h2]) (fun _ => [])) (h0 : η) (g_1 : Nat) {r : σ × Int} (H : p_num_digits_1 Y y0 x1 = some r) : CT G 216 [.func (.yield yl) #[] #[], .pointer (some ⟨g_1, 0, none⟩)] [C y0 h0, Ch.box g_1 3 [.int .i64 x1]] [] (fun h : η => .tuple #[]) (fun h => [C r.1 h, Ch.box g_1 3 [.int .i64 r.2]]) (fun h => []) := by
  delta p_num_digits_1 at H
  refine CT.of Go.Proofs.Tryz.func216 (by kernel_rfl) rfl rfl rfl fun K => ?_
  refine Ts (Ts (Tr ?_))
  refine Lb 1 ?_
  obtain ⟨r1, h2, H3⟩ := bnd H
  refine Lk [] [] (c_num_clip h2) fun ⟨⟩ => ?_
  refine Lt 1 ?_
  refine Ln (Et ?_)
  obtain ⟨y54, H55, H56⟩ := bnd H3
  refine Tj (η := (Int × σ) × (η)) (fun h => y54 = .inl h.1) (fun _ => []) [0, 1] (fun h => (fun e53 => (fun h52 => [Ch.box g_1 3 [.int .i64 e53.1], C e53.2 h52]) h.2) h.1) [] (fun _ => []) ?_ ?_
  ·refine Tl ?_
   refine Tq (η := η) (fun _ _ => []) [0, 1] (fun s37 h => (fun h36 => [Ch.box g_1 3 [.int .i64 s37.1], C s37.2 h36]) h) [] (fun _ _ => []) h0 [0, 0] [] H55 ?_
   rintro k_ s37 h36 z58 H57 hag59 hbr60
   refine Ts (Ts (Tr ?_))
   refine Lb 0 ?_
   refine Lq 1 ?_
   refine Ln (Et ?_)
   refine Tb H57 (fun H62 => ?_) fun H62 => ?_
   ·refine Tk (Et (Ts (Tl (Ts (Tr ?_)))))
    refine Lq 1 ?_
    refine Lb 0 ?_
    refine Lq 3 ?_
    obtain ⟨z68, h69, H70⟩ := bnd H62
    refine L.yd [1] [] (hY _ _ _ () _ h69) rfl rfl rfl rfl rfl rfl rfl rfl ?_
    intro h71
    refine Lq 1 ?_
    refine Ln (Et ?_)
    refine Tb H70 (fun H72 => ?_) fun H72 => ?_
    ·refine Tv (Ev (Er (Er (Ev ?_))))
     obtain ⟨w73, hz, H74⟩ := inrr_some H72
     subst z58
     have hb := hbr60 _ rfl
     subst y54
     obtain rfl := (sm H56).symm
     refine Er ?_
     obtain rfl := sm H74
     exact Eo h71 [0, 0] [] .nil
    refine Tk (Eb (Et (Tr ?_)))
    refine Lb 1 ?_
    refine Lq 1 ?_
    refine Lt 1 ?_
    refine Ln ?_
    obtain rfl := sm H72
    exact Eg (_, h71) (hag59 _ rfl) [0, 0] [] 0
   refine Tx (Ex (Ex (Eh ?_)))
   obtain rfl := sm H62
   have hb := hbr60 _ rfl
   subst y54
   exact Eg (_, h36) rfl [0, 0] [] 0
  rintro ⟨e53, h52⟩ hy
  subst hy
  refine Tr ?_
  refine Lq 1 ?_
  refine Lb 0 ?_
  refine Lq 1 ?_
  obtain ⟨z75, h76, H77⟩ := bnd H56
  refine L.yd [1] [] (hY _ _ _ () _ h76) rfl rfl rfl rfl rfl rfl rfl rfl ?_
  intro h78
  refine Ln (E.off ?_)
  obtain rfl := sm H77
  exact Eo h78 [0, 0] [] .nil

end Go.Tw.X

set_option maxHeartbeats 2000000
set_option linter.unusedVariables false
set_option linter.unusedSimpArgs false
set_option maxRecDepth 10000
namespace Go.Tw.X
open Go Go.Tw
variable {A0 A1 A2 A3 A4 A5 A6 A7 A8 : Option Addr} {C0 C1 C2 C3 C4 C5 C6 C7 C8 : Nat}
variable {N0 N1 N2 N3 N4 : Nat}
theorem c_num_Out_Num {o : NumOut} {l : List Int} {r : NumOut} (H : p_num_Out_Num o l = some r) : CT G 177 [.pointer (some ⟨N0, 0, none⟩), .slice A1 l.length C1] [Ch.box N0 239 [.slice A0 o.b.length C0], Ch.arr (Ty.int .u8) 5 A0 C0 o.b] [Im.sl (Ty.int .i64) A1 C1 l] (fun h : (Option Addr × Nat) => .pointer (some ⟨N0, 0, none⟩)) (fun h => [Ch.box N0 239 [.slice h.1 r.b.length h.2], Ch.arr (Ty.int .u8) 5 h.1 h.2 r.b]) (fun h => []) := by
 delta p_num_Out_Num at H
 refine CT.of Go.Proofs.Tryz.func177 (by kernel_rfl) rfl rfl rfl fun K => ?_
 refine T.dfs0 ?_
 refine Ts (Tr ?_)
 refine Lx fun g1 => ?_
 refine Lq 1 ?_
 refine Ln (Et (Ts (Ts (Tr ?_))))
 refine Lq 3 ?_
 refine Ln (Et ?_)
 obtain ⟨e518, H519, H520⟩ := bnd H
 refine T.joinD (η := Unit × ((Option Addr × Nat) × List Nat)) (fun h => True) (fun h => (fun a514 c515 ds517 => ds517) h.2.1.1 h.2.1.2 h.2.2) (fun h => (fun a514 c515 ds517 => [(2, .pointer (some ⟨g1, 0, none⟩))]) h.2.1.1 h.2.1.2 h.2.2) (fun h => (fun a514 c515 ds517 => [Ch.arr (Ty.int .u8) 5 a514 c515 e518.b, Ch.box g1 240 [.pointer (some ⟨N0, 0, none⟩)], Ch.dfs ds517, Ch.box N0 239 [.slice a514 e518.b.length c515]]) h.2.1.1 h.2.1.2 h.2.2) (fun h => (fun a514 c515 ds517 => [Im.sl (Ty.int .i64) A1 C1 l]) h.2.1.1 h.2.1.2 h.2.2) ?_ ?_
 ·refine Tl ?_
  refine T.lpD (η := (Option Addr × Nat) × List Nat) (fun s348 h => (fun a343 c344 ds347 => ds347) h.1.1 h.1.2 h.2) (fun s348 h => (fun a343 c344 ds347 => [(2, .pointer (some ⟨g1, 0, none⟩)), (8, .slice A1 l.length C1), (9, .int .i64 (l.length : Int)), (10, .int .i64 s348.2)]) h.1.1 h.1.2 h.2) (fun s348 h => (fun a343 c344 ds347 => [Ch.arr (Ty.int .u8) 5 a343 c344 s348.1.b, Ch.box g1 240 [.pointer (some ⟨N0, 0, none⟩)], Ch.dfs ds347, Ch.box N0 239 [.slice a343 s348.1.b.length c344]]) h.1.1 h.1.2 h.2) (fun s348 h => (fun a343 c344 ds347 => [Im.sl (Ty.int .i64) A1 C1 l]) h.1.1 h.1.2 h.2) ((A0, C0), []) [3, 0, 0, 0] [0] H519 rfl ⟨rfl, rfl, rfl, rfl, trivial⟩ rfl rfl ?_
  rintro k_ s348 ⟨⟨a343, c344⟩, ds347⟩ z522 H521 hag523 hbr524
  refine Ts (Tr ?_)
  refine Lq 1 ?_
  refine Ln (Et (Ts ?_))
  refine Tb H521 (fun H526 => ?_) fun H526 => ?_
  ·refine Tk (Et (Ts (Tl (Ts (Tr ?_)))))
   obtain ⟨x608, h609, H610⟩ := bnd H526
   refine L.addr 0 rfl (idx_lt h609) fun b611 o612 e613 => ?_
   subst e613
   refine Ly (Yl.ia h609 rfl rfl rfl rfl rfl rfl) ?_
   refine L.el 0 rfl (idx_some h609).2 ?_
   rintro _
   refine Lc 0 0 ?_
   refine Lq 1 ?_
   refine Ln (Et (Ts (Tr ?_)))
   refine Lq 1 ?_
   obtain ⟨r615, h616, H617⟩ := bnd H610
   refine Lk [] [] (c_num_digits h616) fun g618 => ?_
   refine Ln (Et (Tl ?_))
   obtain ⟨r680, h681, H682⟩ := bnd H617
   refine T.rf2 (σ := NumOut) (η := (Option Addr × Nat)) (X := Int) (θ := Unit) (τ := (Option Addr × Nat)) (s1 := r680.1) (hx := fun x => x) (fun x t => [.int .u8 x]) (fun x t => []) (fun _ => none) (fun s661 h => (fun a638 c639 => [Ch.arr (Ty.int .u8) 5 a638 c639 s661.b, Ch.box g1 240 [.pointer (some ⟨N0, 0, none⟩)], Ch.box N0 239 [.slice a638 s661.b.length c639]]) h.1 h.2) (fun s661 h => (fun a638 c639 => [Im.cells b611 (o612 + s348.2.toNat * 1) [.int .i64 x608], Im.sl (Ty.int .i64) (some ⟨b611, o612, none⟩) C1 l]) h.1 h.2) 3 [1, 1, 1, 0] [0, 1] [] rfl rfl (fun _ _ => rfl) rfl (fun yl C hY => (c_num_digits_1 hY (a343, c344) g618 h681 : _)) (fun _ _ _ _ => rfl) rfl rfl rfl rfl rfl ?_ rfl ?_
   ·rintro yl K2 s661 ⟨a638, c639⟩ x619 ⟨⟩ z662 H663
    refine Tr ?_
    refine Lq 1 ?_
    refine Ln ?_
    refine E.begin fun K3 => ?_
    refine Tl ?_
    refine Td [10] [1, 1] mo ?_
    refine Db 0 0 ?_
    refine Db 1 0 ?_
    refine Dq 2 ?_
    refine Dq 3 ?_
    refine Db 4 1 ?_
    refine Dq 5 ?_
    refine Da [] [] rfl rfl (Ac.bs (ty := (Ty.int .u8)) (xs := [x619]) (.cons () [] rfl .nil) rfl rfl rfl rfl rfl rfl rfl) fun g672 => ?_
    refine D.frz 0 rfl ?_
    obtain ⟨_, h675, H676⟩ := bnd H663
    refine Da [0] [0] rfl rfl (Ac.ap (ty := (Ty.int .u8)) h675 rfl rfl rfl rfl rfl rfl rfl) ?_
    rintro ⟨a677, c678⟩
    refine Dq 8 ?_
    refine Dq 9 ?_
    refine Dt 1 ?_
    refine Dn ?_
    refine Eb ?_
    obtain rfl := sm H676
    exact E.on (a677, c678) [2, 1, 0] [1, 2] rfl rfl rfl rfl
   rintro h683 D684
   refine Eb (Eb (Et (Tr ?_)))
   refine Lq 2 ?_
   refine Ln ?_
   obtain rfl := sm H682
   exact E.giveD (_, ((h683.1, h683.2), (D684 :: ds347))) [1, 1, 0, 0] [1] (hag523 _ rfl) rfl ⟨rfl, rfl, rfl, rfl, trivial⟩ rfl rfl
  refine Tx (Ex (Ex (Eh ?_)))
  obtain rfl := sm H526
  have hb := hbr524 _ rfl
  subst e518
  exact E.giveD ((), ((a343, c344), ds347)) [0, 0, 0, 0] [0] trivial rfl ⟨rfl, trivial⟩ rfl rfl
 rintro ⟨_, ⟨⟨a514, c515⟩, ds517⟩⟩ _
 refine Ts (Tr ?_)
 refine Lb 1 ?_
 refine Lq 1 ?_
 refine Ln (Et (Tv ?_))
 obtain rfl := sm H520
 exact E.retd (a514, c515) 2 [2, 0] [] rfl (.tmp rfl .nil) rfl rfl rfl

theorem c_num_Out_Bytes {o : NumOut} {r : ByteArray} (H : p_num_Out_Bytes o = some r) : CT G 178 [.pointer (some ⟨N0, 0, none⟩)] [Ch.box N0 239 [.slice A0 o.b.length C0], Ch.arr (Ty.int .u8) 5 A0 C0 o.b] [] (fun _ : Unit => .string r) (fun h => [Ch.box N0 239 [.slice A0 o.b.length C0], Ch.arr (Ty.int .u8) 5 A0 C0 o.b]) (fun h => []) := by
 delta p_num_Out_Bytes at H
 refine CT.of Go.Proofs.Tryz.func178 (by kernel_rfl) rfl rfl rfl fun K => ?_
 refine Ts (Tr ?_)
 refine Lq 1 ?_
 refine Ln (Et (Ts (Tr ?_)))
 refine Lq 3 ?_
 refine Lb 0 ?_
 refine Ly (Yl.bs 1 rfl rfl rfl rfl rfl rfl rfl rfl rfl) ?_
 refine Lq 1 ?_
 refine Ln (Et (Tv ?_))
 obtain rfl := sm H
 exact Eo1 () [0, 0] []

theorem c_book_Pack {l : List RowGlyph} {r : ByteArray} (H : p_book_Pack l = some r) : CT G 138 [.slice A0 l.length C0] [] [Im.sl tyRowGlyph A0 C0 l] (fun _ : Unit => .string r) (fun h => []) (fun h => []) := by
 delta p_book_Pack at H
 refine CT.of Go.Proofs.Tryz.func138 (by kernel_rfl) rfl rfl rfl fun K => ?_
 refine Ts (Tr ?_)
 refine Lq 1 ?_
 refine Ln (Et (Ts (Tr ?_)))
 refine Ll fun g1 => ?_
 refine Ln (Et (Ts (Tr ?_)))
 refine Lq 2 ?_
 refine La [] [] (Ac.bs (ty := (Ty.int .i64)) (xs := [(l.length : Int)]) (.cons () [] rfl .nil) rfl rfl rfl rfl rfl rfl rfl) fun g2 => ?_
 refine L.nil0 (Ty.int .u8) 5 ?_
 refine L.frz 1 rfl ?_
 obtain ⟨r6, h7, H8⟩ := bnd H
 refine Lk [1, 0] [0] (c_num_Out_Num h7) fun ⟨a9, c10⟩ => ?_
 refine Ln (Et (Ts (Ts (Tr ?_))))
 refine Lq 3 ?_
 refine Ln (Et ?_)
 obtain ⟨e140, H141, H142⟩ := bnd H8
 refine Tjh (η := (Option Addr × Nat)) (fun _ => []) [3] (fun h => (fun a137 c138 => [Ch.arr (Ty.int .u8) 5 a137 c138 e140.b, Ch.box g1 239 [.slice a137 e140.b.length c138]]) h.1 h.2) [] (fun _ => []) ?_ ?_
 ·refine Tl ?_
  refine Tq (η := (Option Addr × Nat)) (fun s99 h => (fun a95 c96 => [(12, .int .i64 s99.2)]) h.1 h.2) [3, 10, 11] (fun s99 h => (fun a95 c96 => [Ch.arr (Ty.int .u8) 5 a95 c96 s99.1.b, Ch.box g1 239 [.slice a95 s99.1.b.length c96]]) h.1 h.2) [] (fun _ _ => []) (a9, c10) [1, 0] [] H141 ?_
  rintro k_ s99 ⟨a95, c96⟩ z144 H143 hag145 hbr146
  refine Ts (Tr ?_)
  refine Lq 1 ?_
  refine Ln (Et (Ts ?_))
  refine Tb H143 (fun H148 => ?_) fun H148 => ?_
  ·refine Tk (Et (Ts (Tl (Ts (Tr ?_)))))
   obtain ⟨x166, h167, H168⟩ := bnd H148
   refine L.addr 1 rfl (idx_lt h167) fun b169 o170 e171 => ?_
   subst e171
   refine Ly (Yl.ia h167 rfl rfl rfl rfl rfl rfl) ?_
   refine L.el 1 rfl (idx_some h167).2 ?_
   rintro _
   refine Lc 0 0 ?_
   refine Ll fun g173 => ?_
   refine Lt 0 ?_
   refine Ln (Et (Tr ?_))
   refine Lq 1 ?_
   refine Lb 0 ?_
   refine Lq 2 ?_
   refine Lb 0 ?_
   refine La [] [] (Ac.bs (ty := (Ty.int .i64)) (xs := [(IntKind.i64.wrap x166.rune), x166.style]) (.cons () [] rfl (.cons () [] rfl .nil)) rfl rfl rfl rfl rfl rfl rfl) fun g174 => ?_
   refine L.frz 0 rfl ?_
   obtain ⟨r177, h178, H179⟩ := bnd H168
   refine Lk [2, 1] [0] (c_num_Out_Num h178) fun ⟨a180, c181⟩ => ?_
   refine Ln (Eb (Et (Tr ?_)))
   refine Lq 2 ?_
   refine Ln ?_
   obtain rfl := sm H179
   exact Eg (_, (a180, c181)) (hag145 _ rfl) [1, 0] [] 2
  refine Tx (Ex (Ex (Eh ?_)))
  obtain rfl := sm H148
  have hb := hbr146 _ rfl
  subst e140
  exact Eg (a95, c96) trivial [0, 0] [] 0
 rintro ⟨a137, c138⟩
 refine Ts (Tr ?_)
 obtain ⟨r183, h184, H185⟩ := bnd H142
 refine Lk [1, 0] [] (c_num_Out_Bytes h184) fun ⟨⟩ => ?_
 refine Lq 1 ?_
 refine Ln (Et (Tv ?_))
 obtain rfl := sm H185
 exact Eo1 () [] []

theorem c_sum_step {x_ : Int} {b : Int} {r : Int} (H : p_sum_step x_ b = some r) : CT G 176 [.int .u32 x_, .int .u8 b] [] [Im.sl (Ty.int .u32) (some ⟨2, 0, none⟩) 16 t_sum_half] (fun _ : Unit => .int .u32 r) (fun h => []) (fun h => []) := by
 delta p_sum_step at H
 refine CT.of Go.Proofs.Tryz.func176 (by kernel_rfl) rfl rfl rfl fun K => ?_
 refine Ts (Tr ?_)
 refine Lq 1 ?_
 refine Ln (Et (Ts (Tr ?_)))
 refine Lq 5 ?_
 refine Ln (Et (Ts (Tr ?_)))
 refine Lq 4 ?_
 obtain ⟨x1, h2, H3⟩ := bnd H
 refine Ly (Yl.xg h2 rfl rfl rfl rfl rfl rfl rfl) ?_
 refine L.el 0 rfl (idx_some h2).2 ?_
 rintro _
 refine Lc 0 0 ?_
 refine Lq 2 ?_
 refine Ln (Et (Ts (Tr ?_)))
 refine Lq 4 ?_
 obtain ⟨x5, h6, H7⟩ := bnd H3
 refine Ly (Yl.xg h6 rfl rfl rfl rfl rfl rfl rfl) ?_
 refine L.el 1 rfl (idx_some h6).2 ?_
 rintro _
 refine Lc 0 0 ?_
 refine Lq 2 ?_
 refine Ln (Et (Tv ?_))
 obtain rfl := sm H7
 exact Eo1 () [] []

theorem c_sum_Of {l : List ByteArray} {r : Int} (H : p_sum_Of l = some r) : CT G 137 [.slice A0 l.length C0] [] [Im.sl Ty.str A0 C0 l, Im.sl (Ty.int .u32) (some ⟨2, 0, none⟩) 16 t_sum_half] (fun _ : Unit => .int .u32 r) (fun h => []) (fun h => []) := by
 delta p_sum_Of at H
 refine CT.of Go.Proofs.Tryz.func137 (by kernel_rfl) rfl rfl rfl fun K => ?_
 refine Ts (Tr ?_)
 refine Lq 1 ?_
 refine Ln (Et (Ts (Tr ?_)))
 refine Lq 1 ?_
 refine Ln (Et (Ts (Ts (Tr ?_))))
 refine Lq 3 ?_
 refine Ln (Et ?_)
 obtain ⟨e483, H484, H485⟩ := bnd H
 refine Tj0 [(3, .int .u32 e483)] [] [] [] ?_ ?_
 ·refine Tl ?_
  refine Tq (η := Unit) (fun s323 h => [(3, .int .u32 s323.1), (9, .int .i64 s323.2)]) [7, 8] (fun _ _ => []) [] (fun _ _ => []) () [] [] H484 ?_
  rintro k_ s323 ⟨⟩ z487 H486 hag488 hbr489
  refine Ts (Tr ?_)
  refine Lq 1 ?_
  refine Ln (Et (Ts ?_))
  refine Tb H486 (fun H491 => ?_) fun H491 => ?_
  ·refine Tk (Et (Ts (Tl (Ts (Tr ?_)))))
   obtain ⟨x570, h571, H572⟩ := bnd H491
   refine L.addr 0 rfl (idx_lt h571) fun b573 o574 e575 => ?_
   subst e575
   refine Ly (Yl.ia h571 rfl rfl rfl rfl rfl rfl) ?_
   refine L.el 0 rfl (idx_some h571).2 ?_
   rintro _
   refine Lc 0 0 ?_
   refine Lq 1 ?_
   refine Ln (Et (Ts (Tr ?_)))
   refine Lq 3 ?_
   refine Ln (Et ?_)
   obtain ⟨e627, H628, H629⟩ := bnd H572
   refine T.joinE (η := Unit × Unit) (fun h => True) (fun h => [(3, .int .u32 e627), (7, .slice (some ⟨b573, o574, none⟩) l.length C0), (8, .int .i64 (l.length : Int)), (9, .int .i64 s323.2)]) (fun h => []) (fun h => [Im.cells b573 (o574 + s323.2.toNat * 1) [.string x570], Im.sl Ty.str (some ⟨b573, o574, none⟩) C0 l, Im.sl (Ty.int .u32) (some ⟨2, 0, none⟩) 16 t_sum_half]) ?_ ?_
   ·refine Tl ?_
    refine Tq (η := Unit) (fun s611 h => [(3, .int .u32 s611.2), (15, .int .i64 s611.1)]) [5, 7, 8, 9, 14] (fun _ _ => []) [] (fun _ _ => []) () [] [] H628 ?_
    rintro k_ s611 ⟨⟩ z631 H630 hag632 hbr633
    refine Ts (Tr ?_)
    refine Lq 1 ?_
    refine Ln (Et (Ts ?_))
    refine Tb H630 (fun H635 => ?_) fun H635 => ?_
    ·refine Tk (Et (Ts (Tl (Ts (Tr ?_)))))
     refine Lq 2 ?_
     refine Ln (Et (Tr ?_))
     refine Lq 3 ?_
     obtain ⟨b642, h643, H644⟩ := bnd H635
     refine Ly (Yl.si h643 rfl rfl rfl rfl rfl) ?_
     obtain ⟨r645, h646, H647⟩ := bnd H644
     refine Lk [] [2] (c_sum_step h646) fun ⟨⟩ => ?_
     refine Lq 1 ?_
     refine Ln (Eb (Et (Tr ?_)))
     refine Lq 2 ?_
     refine Ln ?_
     obtain rfl := sm H647
     exact Eg (_, ()) (hag632 _ rfl) [] [] 0
    refine Tx (Ex (Ex (Eh ?_)))
    obtain rfl := sm H635
    have hb := hbr633 _ rfl
    subst e627
    exact Egx ((), ()) trivial [] [0, 1, 2]
   rintro ⟨_, ⟨⟩⟩ _
   refine Eb (Et (Tr ?_))
   refine Lq 2 ?_
   refine Ln ?_
   obtain rfl := sm H629
   exact Eg (_, ()) (hag488 _ rfl) [] [] 1
  refine Tx (Ex (Ex (Eh ?_)))
  obtain rfl := sm H491
  have hb := hbr489 _ rfl
  subst e483
  exact Eg0 [] 0
 refine Ts (Tr ?_)
 refine Lq 1 ?_
 refine Ly (Yl.com (c := 4294967295) rfl rfl rfl) ?_
 refine Lq 1 ?_
 refine Ln (Et (Tv ?_))
 obtain rfl := sm H485
 exact Eo1 () [] []

theorem c_book_next {chain : Int} {l : List RowGlyph} {r : Int} (H : p_book_next chain l = some r) : CT G 103 [.int .i64 chain, .slice A0 l.length C0] [] [Im.sl tyRowGlyph A0 C0 l, Im.sl (Ty.int .u32) (some ⟨2, 0, none⟩) 16 t_sum_half] (fun _ : Unit => .int .i64 r) (fun h => []) (fun h => []) := by
 delta p_book_next at H
 refine CT.of Go.Proofs.Tryz.func103 (by kernel_rfl) rfl rfl rfl fun K => ?_
 refine Ts (Tr ?_)
 refine Lq 1 ?_
 refine Ln (Et (Ts (Tr ?_)))
 refine Lq 6 ?_
 obtain ⟨r1, h2, H3⟩ := bnd H
 refine Lk [] [0] (c_book_Pack h2) fun ⟨⟩ => ?_
 refine La [] [] (Ac.bs (ty := Ty.str) (xs := [r1]) (.cons () [] rfl .nil) rfl rfl rfl rfl rfl rfl rfl) fun g4 => ?_
 obtain ⟨r6, h7, H8⟩ := bnd H3
 refine L.br (Ac.call (c_sum_Of h7) rfl rfl rfl rfl) (Bw.ch 0 rfl (Bw.im 1 rfl (Bw.nil))) rfl rfl rfl ?_
 intro _
 refine Lq 4 ?_
 refine Ln (Et (Tv ?_))
 obtain rfl := sm H8
 exact Eo1 () [] []

theorem c_book_Book_close {b : BookBook} {l : List RowGlyph} {r : BookBook} (H : p_book_Book_close b l = some r) : CT G 59 [.pointer (some ⟨N0, 0, none⟩), .slice A3 l.length C3] [Ch.box N0 93 [.slice A0 b.l.length C0, .slice A1 b.chains.length C1, .slice A2 b.begun.length C2], Ch.arr (Ty.slice tyRowGlyph) 38 A0 C0 b.l, Ch.arr (Ty.int .i64) 3 A1 C1 b.chains] [Im.sl tyRowGlyph A2 C2 b.begun, Im.sl tyRowGlyph A3 C3 l, Im.sl (Ty.int .u32) (some ⟨2, 0, none⟩) 16 t_sum_half] (fun h : (Option Addr × Nat) × (Option Addr × Nat) => .tuple #[]) (fun h => [Ch.box N0 93 [.slice h.1.1 r.l.length h.1.2, .slice h.2.1 r.chains.length h.2.2, .slice A2 r.begun.length C2], Ch.arr (Ty.slice tyRowGlyph) 38 h.1.1 h.1.2 r.l, Ch.arr (Ty.int .i64) 3 h.2.1 h.2.2 r.chains]) (fun h => [Im.sl tyRowGlyph A2 C2 r.begun]) := by
 delta p_book_Book_close at H
 refine CT.of Go.Proofs.Tryz.func59 (by kernel_rfl) rfl rfl rfl fun K => ?_
 refine Ts ?_
 refine Td [11] [0, 1] mo ?_
 refine Dq 0 ?_
 refine Dq 1 ?_
 refine Dq 2 ?_
 refine Dq 3 ?_
 refine Db 4 0 ?_
 refine Dq 5 ?_
 obtain ⟨r46, h47, H48⟩ := bnd H
 refine Dk [] [1] (c_slices_Clone_row_Glyph A3 C3 h47) fun ⟨a49, c50⟩ => ?_
 refine D.frz 0 rfl ?_
 refine Da [] [0] rfl rfl (Ac.bs (ty := (Ty.slice tyRowGlyph)) (xs := [r46]) (.cons (a49, c50) [0] rfl .nil) rfl rfl rfl rfl rfl rfl rfl) fun g53 => ?_
 refine D.frz 0 rfl ?_
 obtain ⟨_, h56, H57⟩ := bnd H48
 refine Da [0] [0] rfl rfl (Ac.ap (ty := (Ty.slice tyRowGlyph)) h56 rfl rfl rfl rfl rfl rfl rfl) ?_
 rintro ⟨a58, c59⟩
 refine Dq 9 ?_
 refine Dq 10 ?_
 refine Dt 0 ?_
 refine Dn ?_
 refine Et ?_
 refine Td [23] [0, 1] mo ?_
 refine Dq 0 ?_
 refine Dq 1 ?_
 refine Dq 2 ?_
 refine Dq 3 ?_
 refine Db 4 0 ?_
 refine Dq 5 ?_
 refine Dq 6 ?_
 refine Dq 7 ?_
 refine Db 8 0 ?_
 refine Dq 9 ?_
 refine Dq 10 ?_
 refine Dq 11 ?_
 refine Db 12 0 ?_
 refine Dq 13 ?_
 refine Dq 14 ?_
 obtain ⟨x77, h78, H79⟩ := bnd H57
 refine D.addro 2 rfl (idx_lt h78) fun b80 e81 => ?_
 subst e81
 refine Dy 15 (Yl.ia h78 rfl rfl rfl rfl rfl rfl) ?_
 refine Dq 17 ?_
 refine Da [0] [] rfl rfl (Ac.ofY (Yl.lo (ty := (Ty.int .i64)) (v := .int .i64 x77) 0 ((IntKind.i64.wrap ((b.chains.length : Int) - 1)).toNat) 0 (idx_some h78).2 rfl rfl rfl rfl (fun _ => rfl))) fun _ => ?_
 obtain ⟨r82, h83, H84⟩ := bnd H79
 refine Dk [] [3, 4] (c_book_next h83) fun ⟨⟩ => ?_
 refine Da [] [] rfl rfl (Ac.bs (ty := (Ty.int .i64)) (xs := [r82]) (.cons () [] rfl .nil) rfl rfl rfl rfl rfl rfl rfl) fun g85 => ?_
 refine D.frz 0 rfl ?_
 obtain ⟨_, h88, H89⟩ := bnd H84
 refine Da [0] [0] rfl rfl (Ac.ap (ty := (Ty.int .i64)) h88 rfl rfl rfl rfl rfl rfl rfl) ?_
 rintro ⟨a90, c91⟩
 refine Dq 21 ?_
 refine Dq 22 ?_
 refine Dt 0 ?_
 refine Dn ?_
 refine E.off ?_
 obtain rfl := sm H89
 exact Eo ((a58, c59), (a90, c91)) [0, 0, 0] [3] .nil

theorem c_book_Book_Add {b : BookBook} {rows : List RowRow} {r : Int × BookBook} (H : p_book_Book_Add b rows = some r) : CT G 28 [.pointer (some ⟨N0, 0, none⟩), .slice A3 rows.length C3] [Ch.box N0 93 [.slice A0 b.l.length C0, .slice A1 b.chains.length C1, .slice A2 b.begun.length C2], Ch.arr (Ty.slice tyRowGlyph) 38 A0 C0 b.l, Ch.arr (Ty.int .i64) 3 A1 C1 b.chains, Ch.arr tyRowGlyph 77 A2 C2 b.begun] [Im.sl tyRowRow A3 C3 rows, Im.sl (Ty.int .u32) (some ⟨2, 0, none⟩) 16 t_sum_half] (fun h : (Option Addr × Nat) × (Option Addr × Nat) × (Option Addr × Nat) => .int .i64 r.1) (fun h => [Ch.box N0 93 [.slice h.1.1 r.2.l.length h.1.2, .slice h.2.1.1 r.2.chains.length h.2.1.2, .slice h.2.2.1 r.2.begun.length h.2.2.2], Ch.arr (Ty.slice tyRowGlyph) 38 h.1.1 h.1.2 r.2.l, Ch.arr (Ty.int .i64) 3 h.2.1.1 h.2.1.2 r.2.chains, Ch.arr tyRowGlyph 77 h.2.2.1 h.2.2.2 r.2.begun]) (fun h => []) := by
 delta p_book_Book_Add at H
 refine CT.of Go.Proofs.Tryz.func28 (by kernel_rfl) rfl rfl rfl fun K => ?_
 refine Ts (Tr ?_)
 refine Lq 1 ?_
 refine Ln (Et (Ts (Tr ?_)))
 refine Lq 3 ?_
 refine Lb 0 ?_
 refine Lq 2 ?_
 refine Ln (Et (Ts (Ts (Tr ?_))))
 refine Lq 3 ?_
 refine Ln (Et ?_)
 obtain ⟨e2208, H2209, H2210⟩ := bnd H
 refine Tjh (η := (Option Addr × Nat) × (Option Addr × Nat) × (Option Addr × Nat)) (fun _ => []) [0, 5] (fun h => (fun a2199 c2200 a2202 c2203 a2205 c2206 => [Ch.arr (Ty.slice tyRowGlyph) 38 a2199 c2200 e2208.l, Ch.arr (Ty.int .i64) 3 a2202 c2203 e2208.chains, Ch.arr tyRowGlyph 77 a2205 c2206 e2208.begun, Ch.box N0 93 [.slice a2199 e2208.l.length c2200, .slice a2202 e2208.chains.length c2203, .slice a2205 e2208.begun.length c2206]]) h.1.1 h.1.2 h.2.1.1 h.2.1.2 h.2.2.1 h.2.2.2) [] (fun _ => []) ?_ ?_
 ·refine Tl ?_
  refine Tq (η := (Option Addr × Nat) × (Option Addr × Nat) × (Option Addr × Nat)) (fun s1476 h => (fun a1466 c1467 a1469 c1470 a1472 c1473 => [(15, .int .i64 s1476.2)]) h.1.1 h.1.2 h.2.1.1 h.2.1.2 h.2.2.1 h.2.2.2) [0, 5, 13, 14] (fun s1476 h => (fun a1466 c1467 a1469 c1470 a1472 c1473 => [Ch.arr (Ty.slice tyRowGlyph) 38 a1466 c1467 s1476.1.l, Ch.arr (Ty.int .i64) 3 a1469 c1470 s1476.1.chains, Ch.arr tyRowGlyph 77 a1472 c1473 s1476.1.begun, Ch.box N0 93 [.slice a1466 s1476.1.l.length c1467, .slice a1469 s1476.1.chains.length c1470, .slice a1472 s1476.1.begun.length c1473]]) h.1.1 h.1.2 h.2.1.1 h.2.1.2 h.2.2.1 h.2.2.2) [] (fun _ _ => []) ((A0, C0), (A1, C1), (A2, C2)) [1, 1, 1, 0] [] H2209 ?_
  rintro k_ s1476 ⟨⟨a1466, c1467⟩, ⟨a1469, c1470⟩, ⟨a1472, c1473⟩⟩ z2212 H2211 hag2213 hbr2214
  refine Ts (Tr ?_)
  refine Lq 1 ?_
  refine Ln (Et (Ts ?_))
  refine Tb H2211 (fun H2216 => ?_) fun H2216 => ?_
  ·refine Tk (Et (Ts ?_))
   obtain ⟨e2697, H2698, H2699⟩ := bnd H2216
   refine Tjh (η := (Option Addr × Nat) × (Option Addr × Nat) × (Option Addr × Nat)) (fun _ => []) [0, 5, 13, 14, 15] (fun h => (fun a2688 c2689 a2691 c2692 a2694 c2695 => [Ch.arr (Ty.slice tyRowGlyph) 38 a2688 c2689 e2697.l, Ch.arr (Ty.int .i64) 3 a2691 c2692 e2697.chains, Ch.arr tyRowGlyph 77 a2694 c2695 e2697.begun, Ch.box N0 93 [.slice a2688 e2697.l.length c2689, .slice a2691 e2697.chains.length c2692, .slice a2694 e2697.begun.length c2695]]) h.1.1 h.1.2 h.2.1.1 h.2.1.2 h.2.2.1 h.2.2.2) [] (fun _ => []) ?_ ?_
   ·refine Tl (Ts (Tr ?_))
    obtain ⟨x2700, h2701, H2702⟩ := bnd H2698
    refine L.addr 0 rfl (idx_lt h2701) fun b2703 o2704 e2705 => ?_
    subst e2705
    refine Ly (Yl.ia h2701 rfl rfl rfl rfl rfl rfl) ?_
    refine L.el 0 rfl (idx_some h2701).2 ?_
    rintro ⟨a2706, c2707⟩
    refine Lc 0 0 ?_
    refine Ll fun g2710 => ?_
    refine Lt 0 ?_
    refine Ln (Et (Ts ?_))
    refine Td [10] [0, 0, 0, 1] mo ?_
    refine Dq 0 ?_
    refine Dq 1 ?_
    refine Dq 2 ?_
    refine Dq 3 ?_
    refine Db 4 3 ?_
    refine Db 5 0 ?_
    obtain ⟨r2747, h2748, H2749⟩ := bnd H2702
    refine Dk [] [1] (c_row_Row_Glyphs h2748) fun ⟨a2750, c2751⟩ => ?_
    refine D.frz 0 rfl ?_
    obtain ⟨_, h2754, H2755⟩ := bnd H2749
    refine Da [0] [0] rfl rfl (Ac.ap (ty := tyRowGlyph) h2754 rfl rfl rfl rfl rfl rfl rfl) ?_
    rintro ⟨a2756, c2757⟩
    refine Dq 8 ?_
    refine Dq 9 ?_
    refine Dt 3 ?_
    refine Dn ?_
    refine Et (Ts ?_)
    obtain ⟨e2887, H2888, H2889⟩ := bnd H2755
    refine Tjh (η := (Option Addr × Nat) × (Option Addr × Nat) × (Option Addr × Nat)) (fun _ => []) [0, 5, 7, 13, 14, 15] (fun h => (fun a2878 c2879 a2881 c2882 a2884 c2885 => [Ch.arr (Ty.slice tyRowGlyph) 38 a2878 c2879 e2887.l, Ch.arr (Ty.int .i64) 3 a2881 c2882 e2887.chains, Ch.arr tyRowGlyph 77 a2884 c2885 e2887.begun, Ch.box N0 93 [.slice a2878 e2887.l.length c2879, .slice a2881 e2887.chains.length c2882, .slice a2884 e2887.begun.length c2885]]) h.1.1 h.1.2 h.2.1.1 h.2.1.2 h.2.2.1 h.2.2.2) [1] (fun _ => []) ?_ ?_
    ·refine Tl ?_
     refine Tq (η := (Option Addr × Nat) × (Option Addr × Nat) × (Option Addr × Nat)) (fun _ _ => []) [0, 5, 7, 13, 14, 15] (fun s2847 h => (fun a2838 c2839 a2841 c2842 a2844 c2845 => [Ch.arr (Ty.slice tyRowGlyph) 38 a2838 c2839 s2847.l, Ch.arr (Ty.int .i64) 3 a2841 c2842 s2847.chains, Ch.arr tyRowGlyph 77 a2844 c2845 s2847.begun, Ch.box N0 93 [.slice a2838 s2847.l.length c2839, .slice a2841 s2847.chains.length c2842, .slice a2844 s2847.begun.length c2845]]) h.1.1 h.1.2 h.2.1.1 h.2.1.2 h.2.2.1 h.2.2.2) [1] (fun _ _ => []) ((a1466, c1467), (a1469, c1470), (a2756, c2757)) [2, 2, 2, 0, 0] [] H2888 ?_
     rintro k_ s2847 ⟨⟨a2838, c2839⟩, ⟨a2841, c2842⟩, ⟨a2844, c2845⟩⟩ z2891 H2890 hag2892 hbr2893
     refine Ts (Ts (Tr ?_))
     refine Lq 3 ?_
     refine Lb 3 ?_
     refine Lq 2 ?_
     refine Ln (Et ?_)
     refine Tb H2890 (fun H2895 => ?_) fun H2895 => ?_
     ·refine Tk (Et (Tl (Ts (Tr ?_))))
      refine Lq 4 ?_
      refine Lb 3 ?_
      refine L.frz 2 rfl ?_
      obtain ⟨_, h2897, H2898⟩ := bnd H2895
      refine L.rs 0 h2897 rfl rfl rfl rfl rfl rfl rfl rfl rfl rfl rfl rfl ?_
      intro a2899 c2900
      obtain ⟨r2902, h2903, H2904⟩ := bnd H2898
      refine Lk [2, 0, 0] [1, 0, 6] (c_book_Book_close h2903) fun ⟨⟨a2905, c2906⟩, ⟨a2907, c2908⟩⟩ => ?_
      refine Ln (Et (Tr ?_))
      refine Lq 4 ?_
      refine Lb 0 ?_
      obtain ⟨_, h2912, H2913⟩ := bnd H2904
      refine L.rs 0 h2912 rfl rfl rfl rfl rfl rfl rfl rfl rfl rfl rfl rfl ?_
      intro a2914 c2915
      obtain ⟨r2917, h2918, H2919⟩ := bnd H2913
      refine Lk [] [0] (c_slices_Clone_row_Glyph a2914 c2915 h2918) fun ⟨a2920, c2921⟩ => ?_
      refine Lq 2 ?_
      refine Lt 1 ?_
      refine Ln (Eb ?_)
      obtain rfl := sm H2919
      exact Eg (_, ((a2905, c2906), (a2907, c2908), (a2920, c2921))) (hag2892 _ rfl) [2, 2, 1, 0, 0] [] 4
     refine Tx (Ex (Ex (Eh ?_)))
     obtain rfl := sm H2895
     have hb := hbr2893 _ rfl
     subst e2887
     exact Eg ((a2838, c2839), (a2841, c2842), (a2844, c2845)) trivial [0, 0, 0, 0, 0] [] 0
    rintro ⟨⟨a2878, c2879⟩, ⟨a2881, c2882⟩, ⟨a2884, c2885⟩⟩
    refine Ts (Tr ?_)
    refine Lq 1 ?_
    refine Lb 4 ?_
    refine Lq 1 ?_
    refine Ln (Et ?_)
    refine Tb H2889 (fun H2923 => ?_) fun H2923 => ?_
    ·refine Ts (Tr ?_)
     refine Lq 4 ?_
     refine Lb 3 ?_
     refine L.frz 2 rfl ?_
     obtain ⟨r2925, h2926, H2927⟩ := bnd H2923
     refine Lk [2, 0, 0] [0, 0, 5] (c_book_Book_close h2926) fun ⟨⟨a2928, c2929⟩, ⟨a2930, c2931⟩⟩ => ?_
     refine Ln (Et (Tr ?_))
     refine Lq 3 ?_
     refine Lt 0 ?_
     refine Ln (Eb ?_)
     refine E.nil0 tyRowGlyph 77 ?_
     obtain rfl := sm H2927
     exact Eg ((a2928, c2929), (a2930, c2931), (none, 0)) trivial [2, 2, 0, 0] [] 5
    refine Tk (Eb ?_)
    obtain rfl := sm H2923
    exact Eg ((a2878, c2879), (a2881, c2882), (a2884, c2885)) trivial [0, 0, 0, 0] [] 3
   rintro ⟨⟨a2688, c2689⟩, ⟨a2691, c2692⟩, ⟨a2694, c2695⟩⟩
   refine Tr ?_
   refine Lq 2 ?_
   refine Ln ?_
   obtain rfl := sm H2699
   exact Eg (_, ((a2688, c2689), (a2691, c2692), (a2694, c2695))) (hag2213 _ rfl) [0, 0, 0, 0] [] 0
  refine Tx (Ex (Ex (Eh ?_)))
  obtain rfl := sm H2216
  have hb := hbr2214 _ rfl
  subst e2208
  exact Eg ((a1466, c1467), (a1469, c1470), (a1472, c1473)) trivial [0, 0, 0, 0] [] 0
 rintro ⟨⟨a2199, c2200⟩, ⟨a2202, c2203⟩, ⟨a2205, c2206⟩⟩
 refine Ts (Tr ?_)
 refine Lq 3 ?_
 refine Lb 3 ?_
 refine Lq 4 ?_
 refine Ln (Et (Tv ?_))
 obtain rfl := sm H2210
 exact Eo1 ((a2199, c2200), (a2202, c2203), (a2205, c2206)) [3, 0, 0, 0] []

theorem c_model_Model_off {m_ : ModelModel} {text : ByteArray} {r : ByteArray} (H : p_model_Model_off m_ text = some r) : CT G 30 [.pointer (some ⟨N0, 0, none⟩), .string text] [Ch.box N0 37 [.pointer (some ⟨N1, 0, none⟩), .pointer (some ⟨N2, 0, none⟩), .pointer (some ⟨N3, 0, none⟩), .int .i64 m_.k], Ch.box N1 93 [.slice A0 m_.book.l.length C0, .slice A1 m_.book.chains.length C1, .slice A2 m_.book.begun.length C2], Ch.arr (Ty.slice tyRowGlyph) 38 A0 C0 m_.book.l, Ch.arr (Ty.int .i64) 3 A1 C1 m_.book.chains, Ch.arr tyRowGlyph 77 A2 C2 m_.book.begun, Ch.box N2 85 [.int .i64 m_.parser.state, .bool m_.parser.order.private_, .bool m_.parser.order.wrong, .bool m_.parser.order.any, .bool m_.parser.order.some, .int .i64 m_.parser.order.n, .slice A3 m_.parser.order.nums.length C3, .string m_.parser.text, .int .u8 m_.parser.runes.lead, .int .i32 m_.parser.runes.rune, .int .i64 m_.parser.runes.need, .slice none 0 0], Ch.opt (m_.parser.state == (3 : Int)) (Ty.int .i64) 3 A3 C3 m_.parser.order.nums, Ch.box N3 132 [.pointer (some ⟨N4, 0, none⟩), .int .i64 m_.screen.spot.x, .int .i64 m_.screen.spot.y, .int .i64 m_.screen.spot.style.fore, .int .i64 m_.screen.spot.style.back, .bool m_.screen.spot.style.bold, .bool m_.screen.spot.style.under, .bool m_.screen.spot.style.inverse, .int .i64 m_.screen.saved.x, .int .i64 m_.screen.saved.y, .int .i64 m_.screen.saved.style.fore, .int .i64 m_.screen.saved.style.back, .bool m_.screen.saved.style.bold, .bool m_.screen.saved.style.under, .bool m_.screen.saved.style.inverse, .bool m_.screen.waiting, .int .i64 m_.screen.top, .int .i64 m_.screen.bottom, .bool m_.screen.wraps, .string m_.screen.title], Ch.box N4 181 [.int .i64 m_.screen.g.w, .slice A5 m_.screen.g.l.length C5], Ch.arr tyRowRow 99 A5 C5 m_.screen.g.l] [Im.sl tyWideSpan (some ⟨0, 0, none⟩) 13 t_wide_nones, Im.sl tyWideSpan (some ⟨1, 0, none⟩) 14 t_wide_twos, Im.sl tyGlyphLead (some ⟨3, 0, none⟩) 8 t_glyph_leads] (fun h : Nat × Nat => .func (.func 64) #[] #[.pointer (some ⟨h.1, 0, none⟩), .pointer (some ⟨h.2, 0, none⟩)]) (fun h => [Ch.box h.1 25 [.pointer (some ⟨N0, 0, none⟩)], Ch.box h.2 9 [.string r], Ch.box N0 37 [.pointer (some ⟨N1, 0, none⟩), .pointer (some ⟨N2, 0, none⟩), .pointer (some ⟨N3, 0, none⟩), .int .i64 m_.k], Ch.box N1 93 [.slice A0 m_.book.l.length C0, .slice A1 m_.book.chains.length C1, .slice A2 m_.book.begun.length C2], Ch.arr (Ty.slice tyRowGlyph) 38 A0 C0 m_.book.l, Ch.arr (Ty.int .i64) 3 A1 C1 m_.book.chains, Ch.arr tyRowGlyph 77 A2 C2 m_.book.begun, Ch.box N2 85 [.int .i64 m_.parser.state, .bool m_.parser.order.private_, .bool m_.parser.order.wrong, .bool m_.parser.order.any, .bool m_.parser.order.some, .int .i64 m_.parser.order.n, .slice A3 m_.parser.order.nums.length C3, .string m_.parser.text, .int .u8 m_.parser.runes.lead, .int .i32 m_.parser.runes.rune, .int .i64 m_.parser.runes.need, .slice none 0 0], Ch.opt (m_.parser.state == (3 : Int)) (Ty.int .i64) 3 A3 C3 m_.parser.order.nums, Ch.box N3 132 [.pointer (some ⟨N4, 0, none⟩), .int .i64 m_.screen.spot.x, .int .i64 m_.screen.spot.y, .int .i64 m_.screen.spot.style.fore, .int .i64 m_.screen.spot.style.back, .bool m_.screen.spot.style.bold, .bool m_.screen.spot.style.under, .bool m_.screen.spot.style.inverse, .int .i64 m_.screen.saved.x, .int .i64 m_.screen.saved.y, .int .i64 m_.screen.saved.style.fore, .int .i64 m_.screen.saved.style.back, .bool m_.screen.saved.style.bold, .bool m_.screen.saved.style.under, .bool m_.screen.saved.style.inverse, .bool m_.screen.waiting, .int .i64 m_.screen.top, .int .i64 m_.screen.bottom, .bool m_.screen.wraps, .string m_.screen.title], Ch.box N4 181 [.int .i64 m_.screen.g.w, .slice A5 m_.screen.g.l.length C5], Ch.arr tyRowRow 99 A5 C5 m_.screen.g.l]) (fun h => []) := by
 delta p_model_Model_off at H
 refine CT.of Go.Proofs.Tryz.func30 (by kernel_rfl) rfl rfl rfl fun K => ?_
 refine Ts (Tr ?_)
 refine Lx fun g1 => ?_
 refine Lx fun g2 => ?_
 refine Lq 1 ?_
 refine Ln (Et (Ts (Tr ?_)))
 refine Lq 2 ?_
 refine Ln (Et (Tv ?_))
 obtain rfl := sm H
 exact Eo1 (g1, g2) [1, 0, 0, 0, 0, 0, 0, 0, 0, 0, 0, 0] []

theorem c_glyph_Decoder_End {d : GlyphDecoder} {r : (List Int)} (H : p_glyph_Decoder_End d = some r) : CT G 182 [.agg #[.int .u8 d.lead, .int .i32 d.rune, .int .i64 d.need]] [] [] (fun h : (Option Addr × Nat) => .slice h.1 r.length h.2) (fun h => [Ch.arr (Ty.int .i32) 21 h.1 h.2 r]) (fun h => []) := by
 delta p_glyph_Decoder_End at H
 refine CT.of Go.Proofs.Tryz.func182 (by kernel_rfl) rfl rfl rfl fun K => ?_
 refine Ts (Tr ?_)
 refine Lx fun g1 => ?_
 refine Lq 1 ?_
 refine Ln (Et (Ts (Ts (Tr ?_))))
 refine Lq 1 ?_
 refine Lb 0 ?_
 refine Lq 1 ?_
 refine Ln (Et ?_)
 refine Tb H (fun H3 => ?_) fun H3 => ?_
 ·refine Ts (Tr ?_)
  refine Lq 1 ?_
  refine Ln (Et (Tv (Er ?_)))
  refine E.nil0 (Ty.int .i32) 21 ?_
  obtain rfl := sm H3
  exact Eo1 (none, 0) [0] []
 refine Tk (Et (Ts (Tr ?_)))
 refine La [] [] (Ac.bs (ty := (Ty.int .i32)) (xs := [65533]) (.cons () [] rfl .nil) rfl rfl rfl rfl rfl rfl rfl) fun g5 => ?_
 refine Lq 1 ?_
 refine Ln (Et (Tv ?_))
 obtain rfl := sm H3
 exact Eo1 ((some ⟨g5, 0, none⟩), 1) [0] []

theorem c_seq_Parser_tell {p : SeqParser} {a : SeqAction} {r : SeqParser} (H : p_seq_Parser_tell p a = some r) : CT G 185 [.pointer (some ⟨N0, 0, none⟩), .agg (bx143 a A2 C2).toArray] [Ch.box N0 85 (bx85 p A0 C0 A1 C1), Ch.opt (p.state == (3 : Int)) (Ty.int .i64) 3 A0 C0 p.order.nums, Ch.arr tySeqAction 143 A1 C1 p.out] [Im.sl (Ty.int .i64) A2 C2 a.nums] (fun h : (Option Addr × Nat) => .tuple #[]) (fun h => [Ch.box N0 85 (bx85 r A0 C0 h.1 h.2), Ch.opt (r.state == (3 : Int)) (Ty.int .i64) 3 A0 C0 r.order.nums, Ch.arr tySeqAction 143 h.1 h.2 r.out]) (fun h => []) := by
 delta p_seq_Parser_tell at H
 refine CT.of Go.Proofs.Tryz.func185 (by kernel_rfl) rfl rfl rfl fun K => ?_
 refine Ts (Tr ?_)
 refine Lx fun g1 => ?_
 refine Ln (Et ?_)
 refine Td [7, 10] [0, 0, 0, 0] mo ?_
 refine Dq 0 ?_
 refine Dq 1 ?_
 refine Dq 2 ?_
 refine Dq 3 ?_
 refine Db 4 1 ?_
 refine Db 5 0 ?_
 refine Da [] [0] rfl rfl (Ac.bs (ty := tySeqAction) (xs := [a]) (.cons (A2, C2) [0] rfl .nil) rfl rfl rfl rfl rfl rfl rfl) fun g10 => ?_
 refine D.frz 0 rfl ?_
 obtain ⟨_, h13, H14⟩ := bnd H
 refine D.one rfl rfl rfl (Dp.al [3] [0] (Ac.ap (ty := tySeqAction) h13 rfl rfl rfl rfl rfl rfl rfl) rfl rfl rfl rfl rfl rfl rfl ?_)
 rintro ⟨a15, c16⟩
 refine Dq 8 ?_
 refine Dq 9 ?_
 refine Dt 2 ?_
 refine Dn ?_
 refine E.off ?_
 obtain rfl := sm H14
 exact Eo (a15, c16) [0, 2, 0] [] .nil

theorem c_seq_Parser_print {p : SeqParser} {l : List Int} {r : SeqParser} (H : p_seq_Parser_print p l = some r) : CT G 181 [.pointer (some ⟨N0, 0, none⟩), .slice A2 l.length C2] [Ch.box N0 85 (bx85 p A0 C0 A1 C1), Ch.opt (p.state == (3 : Int)) (Ty.int .i64) 3 A0 C0 p.order.nums, Ch.arr tySeqAction 143 A1 C1 p.out] [Im.sl (Ty.int .i32) A2 C2 l] (fun h : (Option Addr × Nat) => .tuple #[]) (fun h => [Ch.box N0 85 (bx85 r A0 C0 h.1 h.2), Ch.opt (r.state == (3 : Int)) (Ty.int .i64) 3 A0 C0 r.order.nums, Ch.arr tySeqAction 143 h.1 h.2 r.out]) (fun h => []) := by
 delta p_seq_Parser_print at H
 refine CT.of Go.Proofs.Tryz.func181 (by kernel_rfl) rfl rfl rfl fun K => ?_
 refine Ts (Tr ?_)
 refine Lq 3 ?_
 refine Ln (Et ?_)
 obtain ⟨e121, H122, H123⟩ := bnd H
 refine T.joinE (η := Unit × ((Option Addr × Nat))) (fun h => True) (fun h => (fun a118 c119 => []) h.2.1 h.2.2) (fun h => (fun a118 c119 => [Ch.opt (e121.state == (3 : Int)) (Ty.int .i64) 3 A0 C0 e121.order.nums, Ch.arr tySeqAction 143 a118 c119 e121.out, Ch.box N0 85 (bx85 e121 A0 C0 a118 c119)]) h.2.1 h.2.2) (fun h => (fun a118 c119 => [Im.sl (Ty.int .i32) A2 C2 l]) h.2.1 h.2.2) ?_ ?_
 ·refine Tl ?_
  refine Tq (η := (Option Addr × Nat)) (fun s83 h => (fun a79 c80 => [(8, .int .i64 s83.2)]) h.1 h.2) [0, 6, 7] (fun s83 h => (fun a79 c80 => [Ch.opt (s83.1.state == (3 : Int)) (Ty.int .i64) 3 A0 C0 s83.1.order.nums, Ch.arr tySeqAction 143 a79 c80 s83.1.out, Ch.box N0 85 (bx85 s83.1 A0 C0 a79 c80)]) h.1 h.2) [] (fun _ _ => []) (A1, C1) [1, 1, 0] [] H122 ?_
  rintro k_ s83 ⟨a79, c80⟩ z125 H124 hag126 hbr127
  refine Ts (Tr ?_)
  refine Lq 1 ?_
  refine Ln (Et (Ts ?_))
  refine Tb H124 (fun H129 => ?_) fun H129 => ?_
  ·refine Tk (Et (Ts (Tl (Ts (Tr ?_)))))
   obtain ⟨x145, h146, H147⟩ := bnd H129
   refine L.addr 0 rfl (idx_lt h146) fun b148 o149 e150 => ?_
   subst e150
   refine Ly (Yl.ia h146 rfl rfl rfl rfl rfl rfl) ?_
   refine L.el 0 rfl (idx_some h146).2 ?_
   rintro _
   refine Lc 0 0 ?_
   refine Lq 1 ?_
   refine Ln (Et (Tr ?_))
   refine Lq 3 ?_
   refine L.know [Im.sl (Ty.int .i64) none 0 []] (fun A w _ _ f hf => by rw [List.mem_singleton.1 hf]; exact Im.sl_nil A w) ?_
   obtain ⟨r153, h154, H155⟩ := bnd H147
   refine Lk [2, 0, 0] [0] (c_seq_Parser_tell h154) fun ⟨a156, c157⟩ => ?_
   refine Ln (Eb (Et (Tr ?_)))
   refine Lq 2 ?_
   refine Ln ?_
   obtain rfl := sm H155
   exact Eg (_, (a156, c157)) (hag126 _ rfl) [1, 1, 0] [] 2
  refine Tx (Ex (Ex (Eh ?_)))
  obtain rfl := sm H129
  have hb := hbr127 _ rfl
  subst e121
  exact Egx ((), (a79, c80)) trivial [0, 0, 0] [0]
 rintro ⟨_, ⟨a118, c119⟩⟩ _
 refine E.off ?_
 obtain rfl := sm H123
 exact Eo (a118, c119) [2, 0, 0] [] .nil

theorem c_seq_Parser_common {p : SeqParser} {b : Int} {r : Bool × SeqParser} (H : p_seq_Parser_common p b = some r) : CT G 183 [.pointer (some ⟨N0, 0, none⟩), .int .u8 b] [Ch.box N0 85 (bx85 p A0 C0 A1 C1), Ch.opt (p.state == (3 : Int)) (Ty.int .i64) 3 A0 C0 p.order.nums, Ch.arr tySeqAction 143 A1 C1 p.out] [] (fun h : (Option Addr × Nat) => .bool r.1) (fun h => [Ch.box N0 85 (bx85 r.2 A0 C0 h.1 h.2), Ch.opt (r.2.state == (3 : Int)) (Ty.int .i64) 3 A0 C0 r.2.order.nums, Ch.arr tySeqAction 143 h.1 h.2 r.2.out]) (fun h => []) := by
 delta p_seq_Parser_common at H
 refine CT.of Go.Proofs.Tryz.func183 (by kernel_rfl) rfl rfl rfl fun K => ?_
 refine Ts (Tr ?_)
 refine Lq 1 ?_
 refine Ln (Et (Ts ?_))
 obtain ⟨y43, H44, H45⟩ := bnd H
 refine Tj (η := SeqParser × ((Option Addr × Nat))) (fun h => y43 = .inl h.1) (fun _ => []) [] (fun h => (fun e42 => (fun a39 c40 => [Ch.opt (e42.state == (3 : Int)) (Ty.int .i64) 3 A0 C0 e42.order.nums, Ch.arr tySeqAction 143 a39 c40 e42.out, Ch.box N0 85 (bx85 e42 A0 C0 a39 c40)]) h.2.1 h.2.2) h.1) [] (fun _ => []) ?_ ?_
 ·refine Tl (Ts ?_)
  obtain ⟨e49, H50, H51⟩ := bnd H44
  refine Tj0 [(7, .bool e49)] [0, 1] [] [0, 1, 2] ?_ ?_
  ·refine Tr ?_
   refine Lq 3 ?_
   refine Lw 10 H50 (fun H52 => ?_) fun H52 => ?_
   ·refine Lq 4 ?_
    refine Ln ?_
    obtain rfl := sm H52
    exact Eg0 [0, 0, 0] 0
   refine Lq 4 ?_
   refine Ln ?_
   obtain rfl := sm H52
   exact Eg0 [0, 0, 0] 0
  refine Tb H51 (fun H53 => ?_) fun H53 => ?_
  ·refine Tr ?_
   refine Lq 3 ?_
   refine Lt 0 ?_
   refine Ln (Eb ?_)
   refine E.oset 1 (0 == (3 : Int)) rfl rfl ?_
   obtain rfl := sm H53
   exact Eg (_, (A1, C1)) rfl [0, 1, 0] [] 0
  refine Ts (Tr ?_)
  refine Lq 3 ?_
  refine Ln (Et ?_)
  refine Tb H53 (fun H54 => ?_) fun H54 => ?_
  ·refine Tr ?_
   refine Lq 3 ?_
   refine Lt 0 ?_
   refine Ln (Eb ?_)
   refine E.oset 1 (1 == (3 : Int)) rfl rfl ?_
   obtain rfl := sm H54
   exact Eg (_, (A1, C1)) rfl [0, 1, 0] [] 0
  refine Ts (Tr ?_)
  refine Lq 3 ?_
  refine Ln (Et ?_)
  refine Tb H54 (fun H55 => ?_) fun H55 => ?_
  ·refine Tr ?_
   refine Lq 3 ?_
   refine L.know [Im.sl (Ty.int .i64) none 0 []] (fun A w _ _ f hf => by rw [List.mem_singleton.1 hf]; exact Im.sl_nil A w) ?_
   obtain ⟨r57, h58, H59⟩ := bnd H55
   refine Lk [0, 0, 0] [0] (c_seq_Parser_tell h58) fun ⟨a60, c61⟩ => ?_
   refine Ln (Eb ?_)
   obtain rfl := sm H59
   exact Eg (_, (a60, c61)) rfl [1, 1, 0] [] 1
  refine Ts (Tr ?_)
  refine Lq 3 ?_
  refine Ln (Et (Tv (Ev ?_)))
  obtain ⟨w64, hz, H65⟩ := inrs_some H55
  subst y43
  obtain rfl := (sm H45).symm
  refine Er ?_
  obtain rfl := sm H65
  exact Eo1 (A1, C1) [0, 0, 0] []
 rintro ⟨e42, ⟨a39, c40⟩⟩ hy
 subst hy
 refine Ts (Tr ?_)
 refine Lq 1 ?_
 refine Ln (Et (Tv ?_))
 obtain rfl := sm H45
 exact Eo1 (a39, c40) [2, 0, 0] []

theorem c_glyph_find {b : Int} {r : GlyphLead × Bool} (H : p_glyph_find b = some r) : CT G 218 [.int .u8 b] [] [Im.sl tyGlyphLead (some ⟨3, 0, none⟩) 8 t_glyph_leads] (fun _ : Unit => .tuple #[.agg #[.int .u8 r.1.first, .int .u8 r.1.last, .int .i64 r.1.need, .int .u8 r.1.low, .int .u8 r.1.high], .bool r.2]) (fun h => []) (fun h => []) := by
 delta p_glyph_find at H
 refine CT.of Go.Proofs.Tryz.func218 (by kernel_rfl) rfl rfl rfl fun K => ?_
 refine Ts (Tr ?_)
 refine Ll fun g1 => ?_
 refine Lq 1 ?_
 refine Ln (Et (Ts (Ts (Tr ?_))))
 refine Ly (Yl.ldt (ty := tyGlyphLead) (h0 := ()) 0 rfl rfl rfl (fun _ _ => rfl) rfl rfl rfl rfl) ?_
 refine Lq 1 ?_
 refine Ln (Et ?_)
 obtain ⟨y85, H86, H87⟩ := bnd H
 refine Tj (η := Unit × Unit) (fun h => y85 = .inl h.1) (fun _ => []) [2] (fun _ => []) [0] (fun _ => []) ?_ ?_
 ·refine Tl ?_
  refine Tq (η := Unit) (fun s57 h => [(7, .int .i64 s57)]) [0, 2, 6] (fun _ _ => []) [0] (fun _ _ => []) () [0] [] H86 ?_
  rintro k_ s57 ⟨⟩ z89 H88 hag90 hbr91
  refine Ts (Tr ?_)
  refine Lq 1 ?_
  refine Ln (Et (Ts ?_))
  refine Tb H88 (fun H93 => ?_) fun H93 => ?_
  ·refine Tk (Et (Ts (Tl (Ts (Tr ?_)))))
   obtain ⟨x106, h107, H108⟩ := bnd H93
   refine Ly (Yl.xav (ty := tyGlyphLead) (h0 := ()) h107 rfl rfl rfl rfl rfl rfl rfl rfl rfl) ?_
   refine Ll fun g109 => ?_
   refine Lt 0 ?_
   refine Ln (Et (Ts ?_))
   obtain ⟨e113, H114, H115⟩ := bnd H108
   refine Tj0 [(19, .bool e113)] [0, 2, 5, 6, 7] [] [0, 1] ?_ ?_
   ·refine Tr ?_
    refine Lq 2 ?_
    refine Lb 0 ?_
    refine Lq 2 ?_
    refine Lw 14 H114 (fun H116 => ?_) fun H116 => ?_
    ·refine Lq 2 ?_
     refine Lb 0 ?_
     refine Lq 2 ?_
     refine Ln ?_
     obtain rfl := sm H116
     exact Eg0 [0, 0] 0
    refine Lq 5 ?_
    refine Ln ?_
    obtain rfl := sm H116
    exact Eg0 [0, 0] 0
   refine Tb H115 (fun H117 => ?_) fun H117 => ?_
   ·refine Ts (Tr ?_)
    refine Lb 0 ?_
    refine Lt 1 ?_
    refine Lq 1 ?_
    refine Ln (Et (Tv (Ev (Er (Er (Ev ?_))))))
    obtain ⟨w118, hz, H119⟩ := inrr_some H117
    subst z89
    have hb := hbr91 _ rfl
    subst y85
    obtain rfl := (sm H87).symm
    refine Er ?_
    obtain rfl := sm H119
    exact Eo () [] [] (.cell 0 rfl rfl rfl (.tmp rfl .nil))
   refine Tk (Eb (Et (Tr ?_)))
   refine Lq 2 ?_
   refine Ln ?_
   obtain rfl := sm H117
   exact Eg (_, ()) (hag90 _ rfl) [1] [] 0
  refine Tx (Ex (Ex (Eh ?_)))
  obtain rfl := sm H93
  have hb := hbr91 _ rfl
  subst y85
  exact Eg (_, ()) rfl [0] [] 0
 rintro ⟨e84, ⟨⟩⟩ hy
 subst hy
 refine Ts (Tr ?_)
 refine Lq 1 ?_
 refine Lt 0 ?_
 refine Lq 1 ?_
 refine Ln (Et (Tv ?_))
 obtain rfl := sm H87
 exact Eo () [] [] (.cell 0 rfl rfl rfl (.tmp rfl .nil))

theorem c_glyph_begin {b : Int} {r : GlyphDecoder × (List Int)} (H : p_glyph_begin b = some r) : CT G 207 [.int .u8 b] [] [Im.sl tyGlyphLead (some ⟨3, 0, none⟩) 8 t_glyph_leads] (fun h : (Option Addr × Nat) => .tuple #[.agg #[.int .u8 r.1.lead, .int .i32 r.1.rune, .int .i64 r.1.need], .slice h.1 r.2.length h.2]) (fun h => [Ch.arr (Ty.int .i32) 21 h.1 h.2 r.2]) (fun h => []) := by
 delta p_glyph_begin at H
 refine CT.of Go.Proofs.Tryz.func207 (by kernel_rfl) rfl rfl rfl fun K => ?_
 refine Ts (Tr ?_)
 refine Ll fun g1 => ?_
 refine Lq 1 ?_
 refine Ln (Et (Ts (Ts (Tr ?_))))
 refine Lq 2 ?_
 refine Ln (Et ?_)
 refine Tb H (fun H5 => ?_) fun H5 => ?_
 ·refine Ts (Tr ?_)
  refine Lq 3 ?_
  refine La [] [] (Ac.bs (ty := (Ty.int .i32)) (xs := [(IntKind.i32.wrap b)]) (.cons () [] rfl .nil) rfl rfl rfl rfl rfl rfl rfl) fun g6 => ?_
  refine Lt 1 ?_
  refine Lq 1 ?_
  refine Ln (Et (Tv (Er ?_)))
  obtain rfl := sm H5
  exact Eo ((some ⟨g6, 0, none⟩), 1) [1] [] (.cell 0 rfl rfl rfl (.tmp rfl .nil))
 refine Tk (Et (Ts (Tr ?_)))
 refine Lq 1 ?_
 obtain ⟨r8, h9, H10⟩ := bnd H5
 refine Lk [] [0] (c_glyph_find h9) fun ⟨⟩ => ?_
 refine Lq 3 ?_
 refine Ll fun g11 => ?_
 refine Lt 0 ?_
 refine Lq 1 ?_
 refine Ln (Et (Ts (Ts (Tr ?_))))
 refine Lq 2 ?_
 refine Ln (Et ?_)
 refine Tb H10 (fun H15 => ?_) fun H15 => ?_
 ·refine Ts (Tr ?_)
  refine Lq 1 ?_
  refine La [] [] (Ac.bs (ty := (Ty.int .i32)) (xs := [65533]) (.cons () [] rfl .nil) rfl rfl rfl rfl rfl rfl rfl) fun g16 => ?_
  refine Lt 2 ?_
  refine Lq 1 ?_
  refine Ln (Et (Tv (Er ?_)))
  obtain rfl := sm H15
  exact Eo ((some ⟨g16, 0, none⟩), 1) [1] [] (.cell 0 rfl rfl rfl (.tmp rfl .nil))
 refine Tk (Et (Ts ?_))
 refine Td [10] [0, 0] mo ?_
 refine Dq 0 ?_
 refine Dq 1 ?_
 refine Dq 2 ?_
 refine Dq 3 ?_
 refine Db 4 0 ?_
 obtain ⟨_, h24, H25⟩ := bnd H15
 refine Dy 5 (Yl.shr (nb := 32) rfl h24 rfl rfl rfl) ?_
 refine Dq 6 ?_
 refine Dq 7 ?_
 refine Db 8 0 ?_
 refine Dq 9 ?_
 refine Dt 1 ?_
 refine Dq 11 ?_
 refine Dn ?_
 refine Et (Tv ?_)
 refine E.nil0 (Ty.int .i32) 21 ?_
 obtain rfl := sm H25
 exact Eo (none, 0) [0] [] (.cell 1 rfl rfl rfl (.tmp rfl .nil))

theorem c_glyph_Decoder_fits {d : GlyphDecoder} {b : Int} {r : Bool} (H : p_glyph_Decoder_fits d b = some r) : CT G 208 [.agg #[.int .u8 d.lead, .int .i32 d.rune, .int .i64 d.need], .int .u8 b] [] [Im.sl tyGlyphLead (some ⟨3, 0, none⟩) 8 t_glyph_leads] (fun _ : Unit => .bool r) (fun h => []) (fun h => []) := by
 delta p_glyph_Decoder_fits at H
 refine CT.of Go.Proofs.Tryz.func208 (by kernel_rfl) rfl rfl rfl fun K => ?_
 refine Ts (Tr ?_)
 refine Lx fun g1 => ?_
 refine Lq 1 ?_
 refine Ln (Et (Ts (Tr ?_)))
 refine Lq 1 ?_
 refine Lb 0 ?_
 obtain ⟨r2, h3, H4⟩ := bnd H
 refine Lk [] [0] (c_glyph_find h3) fun ⟨⟩ => ?_
 refine Lq 3 ?_
 refine Ll fun g5 => ?_
 refine Lt 0 ?_
 refine Lq 1 ?_
 refine Ln (Et (Ts (Ts (Tr ?_))))
 refine Lq 1 ?_
 refine Lb 1 ?_
 refine Lq 1 ?_
 refine Lb 0 ?_
 refine Lq 1 ?_
 refine Ln (Et ?_)
 refine Tb H4 (fun H14 => ?_) fun H14 => ?_
 ·refine Ts ?_
  obtain ⟨e18, H19, H20⟩ := bnd H14
  refine Tj0 [(4, .bool e18)] [] [] [0, 1] ?_ ?_
  ·refine Tr ?_
   refine Lq 3 ?_
   refine Lw 20 H19 (fun H21 => ?_) fun H21 => ?_
   ·refine Lq 4 ?_
    refine Ln ?_
    obtain rfl := sm H21
    exact Eg0 [0, 0] 0
   refine Lq 4 ?_
   refine Ln ?_
   obtain rfl := sm H21
   exact Eg0 [0, 0] 0
  refine Tv (Er ?_)
  obtain rfl := sm H20
  exact Eo1 () [] []
 refine Tk (Et (Ts ?_))
 obtain ⟨e25, H26, H27⟩ := bnd H14
 refine Tj0 [(4, .bool e25)] [] [] [0, 1] ?_ ?_
 ·refine Tr ?_
  refine Lq 2 ?_
  refine Lb 0 ?_
  refine Lq 2 ?_
  refine Lw 28 H26 (fun H28 => ?_) fun H28 => ?_
  ·refine Lq 2 ?_
   refine Lb 0 ?_
   refine Lq 3 ?_
   refine Ln ?_
   obtain rfl := sm H28
   exact Eg0 [0, 0] 0
  refine Lq 6 ?_
  refine Ln ?_
  obtain rfl := sm H28
  exact Eg0 [0, 0] 0
 refine Tv ?_
 obtain rfl := sm H27
 exact Eo1 () [] []

theorem c_glyph_Decoder_Next {d : GlyphDecoder} {b : Int} {r : GlyphDecoder × (List Int)} (H : p_glyph_Decoder_Next d b = some r) : CT G 184 [.agg #[.int .u8 d.lead, .int .i32 d.rune, .int .i64 d.need], .int .u8 b] [] [Im.sl tyGlyphLead (some ⟨3, 0, none⟩) 8 t_glyph_leads] (fun h : (Option Addr × Nat) => .tuple #[.agg #[.int .u8 r.1.lead, .int .i32 r.1.rune, .int .i64 r.1.need], .slice h.1 r.2.length h.2]) (fun h => [Ch.arr (Ty.int .i32) 21 h.1 h.2 r.2]) (fun h => []) := by
 delta p_glyph_Decoder_Next at H
 refine CT.of Go.Proofs.Tryz.func184 (by kernel_rfl) rfl rfl rfl fun K => ?_
 refine Ts (Tr ?_)
 refine Lx fun g1 => ?_
 refine Ll fun g2 => ?_
 refine Lq 1 ?_
 refine Ln (Et (Ts (Ts (Tr ?_))))
 refine Lq 1 ?_
 refine Lb 1 ?_
 refine Lq 1 ?_
 refine Ln (Et ?_)
 refine Tb H (fun H10 => ?_) fun H10 => ?_
 ·refine Ts (Tr ?_)
  refine Lq 1 ?_
  obtain ⟨r11, h12, H13⟩ := bnd H10
  refine Lk [] [0] (c_glyph_begin h12) fun ⟨a14, c15⟩ => ?_
  refine Lq 2 ?_
  refine Lt 1 ?_
  refine Lq 1 ?_
  refine Ln (Et (Tv (Er ?_)))
  obtain rfl := sm H13
  exact Eo (a14, c15) [1] [] (.cell 0 rfl rfl rfl (.tmp rfl .nil))
 refine Tk (Et (Ts (Ts (Tr ?_))))
 refine Lb 1 ?_
 refine Lq 1 ?_
 obtain ⟨r17, h18, H19⟩ := bnd H10
 refine Lk [] [0] (c_glyph_Decoder_fits h18) fun ⟨⟩ => ?_
 refine Lq 1 ?_
 refine Ln (Et ?_)
 refine Tb H19 (fun H60 => ?_) fun H60 => ?_
 ·refine Ts (Tr ?_)
  refine Lq 1 ?_
  obtain ⟨r61, h62, H63⟩ := bnd H60
  refine Lk [] [0] (c_glyph_begin h62) fun ⟨a64, c65⟩ => ?_
  refine Lq 3 ?_
  refine Ll fun g67 => ?_
  refine Lt 0 ?_
  refine Lq 1 ?_
  refine Ln (Et (Ts ?_))
  refine Td [4] [0, 1, 1] mo ?_
  refine Db 0 0 ?_
  refine Dq 2 ?_
  refine Da [] [] rfl rfl (Ac.bs (ty := (Ty.int .i32)) (xs := [65533]) (.cons () [] rfl .nil) rfl rfl rfl rfl rfl rfl rfl) fun g92 => ?_
  refine D.frz 1 rfl ?_
  obtain ⟨_, h95, H96⟩ := bnd H63
  refine Da [0] [0] rfl rfl (Ac.ap (ty := (Ty.int .i32)) h95 rfl rfl rfl rfl rfl rfl rfl) ?_
  rintro ⟨a97, c98⟩
  refine Dt 1 ?_
  refine Dq 5 ?_
  refine Dn ?_
  refine Et (Tv (Er ?_))
  obtain rfl := sm H96
  exact Eo (a97, c98) [3] [] (.cell 0 rfl rfl rfl (.tmp rfl .nil))
 refine Tk (Et (Ts (Tr ?_)))
 refine Lq 1 ?_
 refine Lb 1 ?_
 refine Lq 6 ?_
 refine Lb 1 ?_
 refine Lq 2 ?_
 refine Lt 1 ?_
 refine Lq 1 ?_
 refine Lt 0 ?_
 refine Ln (Et (Ts (Ts (Tr ?_))))
 refine Lq 1 ?_
 refine Lb 0 ?_
 refine Lq 1 ?_
 refine Ln (Et ?_)
 refine Tb H60 (fun H144 => ?_) fun H144 => ?_
 ·refine Ts ?_
  obtain ⟨e173, H174, H175⟩ := bnd H144
  refine Tjh (η := (Option Addr × Nat)) (fun h => (fun a170 c171 => [(5, .slice a170 e173.length c171)]) h.1 h.2) [4] (fun h => (fun a170 c171 => [Ch.arr (Ty.int .i32) 21 a170 c171 e173]) h.1 h.2) [0, 1] (fun _ => []) ?_ ?_
  ·refine Td [] [0] mo ?_
   refine Dq 0 ?_
   refine Dq 1 ?_
   refine Db 2 0 ?_
   refine D.two rfl rfl rfl ?_ ?_
   ·refine Dp.a [] [] (Ac.bs (ty := (Ty.int .i32)) (xs := [(Go.bits .or .i32 (IntKind.i32.wrap (d.rune * 2 ^ (min 6 32))) (Go.bits .and .i32 (IntKind.i32.wrap b) 63))]) (.cons () [] rfl .nil) rfl rfl rfl rfl rfl rfl rfl) rfl rfl rfl rfl rfl rfl ?_
    intro g184
    refine Da [1] [] rfl rfl (Ac.stb rfl rfl rfl rfl rfl rfl) fun _ => ?_
    refine Dq 5 ?_
    refine Dn ?_
    obtain rfl := sm H174
    exact Eg ((some ⟨g184, 0, none⟩), 1) trivial [2, 0, 0] [] 0
   refine Dp.a [0] [] (Ac.stb rfl rfl rfl rfl rfl rfl) rfl rfl rfl rfl rfl rfl ?_
   intro _
   refine Da [] [] rfl rfl (Ac.bs (ty := (Ty.int .i32)) (xs := [(Go.bits .or .i32 (IntKind.i32.wrap (d.rune * 2 ^ (min 6 32))) (Go.bits .and .i32 (IntKind.i32.wrap b) 63))]) (.cons () [] rfl .nil) rfl rfl rfl rfl rfl rfl rfl) fun g186 => ?_
   refine Dq 5 ?_
   refine Dn ?_
   obtain rfl := sm H174
   exact Eg ((some ⟨g186, 0, none⟩), 1) trivial [1, 0, 0] [] 0
  rintro ⟨a170, c171⟩
  refine Tv (Er ?_)
  obtain rfl := sm H175
  exact Eo (a170, c171) [0] [] (.cell 2 rfl rfl rfl (.tmp rfl .nil))
 refine Tk (Et (Ts (Tr ?_)))
 refine Lb 0 ?_
 refine Lt 1 ?_
 refine Lq 1 ?_
 refine Ln (Et (Tv ?_))
 refine E.nil0 (Ty.int .i32) 21 ?_
 obtain rfl := sm H144
 exact Eo (none, 0) [0] [] (.cell 1 rfl rfl rfl (.tmp rfl .nil))

theorem c_seq_Parser_onGround {p : SeqParser} {b : Int} {r : SeqParser} (H : p_seq_Parser_onGround p b = some r) : CT G 140 [.pointer (some ⟨N0, 0, none⟩), .int .u8 b] [Ch.box N0 85 (bx85 p A0 C0 A1 C1), Ch.opt (p.state == (3 : Int)) (Ty.int .i64) 3 A0 C0 p.order.nums, Ch.arr tySeqAction 143 A1 C1 p.out] [Im.sl tyGlyphLead (some ⟨3, 0, none⟩) 8 t_glyph_leads] (fun h : (Option Addr × Nat) => .tuple #[]) (fun h => [Ch.box N0 85 (bx85 r A0 C0 h.1 h.2), Ch.opt (r.state == (3 : Int)) (Ty.int .i64) 3 A0 C0 r.order.nums, Ch.arr tySeqAction 143 h.1 h.2 r.out]) (fun h => []) := by
 delta p_seq_Parser_onGround at H
 refine CT.of Go.Proofs.Tryz.func140 (by kernel_rfl) rfl rfl rfl fun K => ?_
 refine Ts (Ts ?_)
 obtain ⟨e4, H5, H6⟩ := bnd H
 refine Tj0 [(10, .bool e4)] [0, 1] [] [0, 1, 2] ?_ ?_
 ·refine Tr ?_
  refine Lq 3 ?_
  refine Lw 7 H5 (fun H7 => ?_) fun H7 => ?_
  ·refine Lq 3 ?_
   refine Ln ?_
   obtain rfl := sm H7
   exact Eg0 [0, 0, 0] 0
  refine Lq 3 ?_
  refine Ln ?_
  obtain rfl := sm H7
  exact Eg0 [0, 0, 0] 0
 refine Tb H6 (fun H30 => ?_) fun H30 => ?_
 ·refine Ts (Tr ?_)
  refine Lq 4 ?_
  refine Lb 0 ?_
  obtain ⟨r31, h32, H33⟩ := bnd H30
  refine Lk [] [] (c_glyph_Decoder_End h32) fun ⟨a34, c35⟩ => ?_
  refine L.frz 0 rfl ?_
  obtain ⟨r38, h39, H40⟩ := bnd H33
  refine Lk [0, 0, 0] [0] (c_seq_Parser_print h39) fun ⟨a41, c42⟩ => ?_
  refine Ln (Et (Ts (Tr ?_)))
  refine Lq 4 ?_
  refine Lt 0 ?_
  refine Ln (Et (Ts (Tr ?_)))
  refine Lq 2 ?_
  obtain ⟨r45, h46, H47⟩ := bnd H40
  refine Lk [0, 0, 0] [] (c_seq_Parser_common h46) fun ⟨a48, c49⟩ => ?_
  refine Ln (Et (Tv (Er ?_)))
  obtain rfl := sm H47
  exact Eo (a48, c49) [0, 0, 0] [] .nil
 refine Tk (Et (Ts (Tr ?_)))
 refine Lq 1 ?_
 refine Ln (Et (Ts (Tr ?_)))
 refine Lq 4 ?_
 refine Lb 0 ?_
 refine Lq 1 ?_
 obtain ⟨r52, h53, H54⟩ := bnd H30
 refine Lk [] [0] (c_glyph_Decoder_Next h53) fun ⟨a55, c56⟩ => ?_
 refine Lq 5 ?_
 refine Lt 1 ?_
 refine Lq 1 ?_
 refine Ln (Et (Tr ?_))
 refine Lq 2 ?_
 refine L.frz 1 rfl ?_
 obtain ⟨r59, h60, H61⟩ := bnd H54
 refine Lk [0, 0, 0] [0] (c_seq_Parser_print h60) fun ⟨a62, c63⟩ => ?_
 refine Ln (E.off ?_)
 obtain rfl := sm H61
 exact Eo (a62, c63) [0, 0, 0] [] .nil

theorem c_seq_Parser_onEscape {p : SeqParser} {b : Int} {r : SeqParser} (H : p_seq_Parser_onEscape p b = some r) : CT G 141 [.pointer (some ⟨N0, 0, none⟩), .int .u8 b] [Ch.box N0 85 (bx85 p A0 C0 A1 C1), Ch.opt (p.state == (3 : Int)) (Ty.int .i64) 3 A0 C0 p.order.nums, Ch.arr tySeqAction 143 A1 C1 p.out] [] (fun h : (Option Addr × Nat) × (Option Addr × Nat) => .tuple #[]) (fun h => [Ch.box N0 85 (bx85 r h.1.1 h.1.2 h.2.1 h.2.2), Ch.opt (r.state == (3 : Int)) (Ty.int .i64) 3 h.1.1 h.1.2 r.order.nums, Ch.arr tySeqAction 143 h.2.1 h.2.2 r.out]) (fun h => []) := by
 delta p_seq_Parser_onEscape at H
 refine CT.of Go.Proofs.Tryz.func141 (by kernel_rfl) rfl rfl rfl fun K => ?_
 refine Ts (Ts (Tr ?_))
 refine Lq 2 ?_
 obtain ⟨r1, h2, H3⟩ := bnd H
 refine Lk [0, 0, 0] [] (c_seq_Parser_common h2) fun ⟨a4, c5⟩ => ?_
 refine Ln (Et ?_)
 refine Tb H3 (fun H9 => ?_) fun H9 => ?_
 ·refine Tv (Er ?_)
  obtain rfl := sm H9
  exact Eo ((A0, C0), (a4, c5)) [0, 0, 0] [] .nil
 refine Tk (Et (Ts ?_))
 obtain ⟨y40, H41, H42⟩ := bnd H9
 refine Tj (η := SeqParser × ((Option Addr × Nat))) (fun h => y40 = .inl h.1) (fun _ => []) [0] (fun h => (fun e39 => (fun a36 c37 => [Ch.opt (e39.state == (3 : Int)) (Ty.int .i64) 3 A0 C0 e39.order.nums, Ch.arr tySeqAction 143 a36 c37 e39.out, Ch.box N0 85 (bx85 e39 A0 C0 a36 c37)]) h.2.1 h.2.2) h.1) [] (fun _ => []) ?_ ?_
 ·refine Tl (Ts (Tr ?_))
  refine Lq 3 ?_
  refine Ln (Et ?_)
  refine Tb H41 (fun H43 => ?_) fun H43 => ?_
  ·refine Ts (Tr ?_)
   refine Lq 5 ?_
   refine Lt 0 ?_
   refine Lq 2 ?_
   refine Lt 0 ?_
   refine Ln (Et (Tv (Ev ?_)))
   obtain ⟨w44, hz, H45⟩ := inrs_some H43
   subst y40
   obtain rfl := (sm H42).symm
   refine Er ?_
   refine E.nil0 (Ty.int .i64) 3 ?_
   refine E.oarr 0 (3 == (3 : Int)) rfl ?_
   obtain rfl := sm H45
   exact Eo ((none, 0), (a4, c5)) [1, 0, 1] [] .nil
  refine Ts (Tr ?_)
  refine Lq 3 ?_
  refine Ln (Et ?_)
  refine Tb H43 (fun H47 => ?_) fun H47 => ?_
  ·refine Ts (Tr ?_)
   refine Lq 4 ?_
   refine Lt 0 ?_
   refine Lq 2 ?_
   refine Lt 0 ?_
   refine Ln (Et (Tv (Ev ?_)))
   obtain ⟨w48, hz, H49⟩ := inrs_some H47
   subst y40
   obtain rfl := (sm H42).symm
   refine Er ?_
   refine E.oset 1 (4 == (3 : Int)) rfl rfl ?_
   obtain rfl := sm H49
   exact Eo ((A0, C0), (a4, c5)) [1, 0, 0] [] .nil
  refine Ts (Tr ?_)
  refine Lq 3 ?_
  refine Ln (Et ?_)
  refine Tb H47 (fun H50 => ?_) fun H50 => ?_
  ·refine Ts (Tr ?_)
   refine Lq 3 ?_
   refine Lt 0 ?_
   refine Ln (Et (Tv (Ev ?_)))
   obtain ⟨w51, hz, H52⟩ := inrs_some H50
   subst y40
   obtain rfl := (sm H42).symm
   refine Er ?_
   refine E.oset 1 (2 == (3 : Int)) rfl rfl ?_
   obtain rfl := sm H52
   exact Eo ((A0, C0), (a4, c5)) [1, 0, 0] [] .nil
  refine Ts (Tr ?_)
  refine Lq 3 ?_
  refine Ln (Et ?_)
  refine Tb H50 (fun H53 => ?_) fun H53 => ?_
  ·refine Tr ?_
   refine Lq 3 ?_
   refine L.know [Im.sl (Ty.int .i64) none 0 []] (fun A w _ _ f hf => by rw [List.mem_singleton.1 hf]; exact Im.sl_nil A w) ?_
   obtain ⟨r55, h56, H57⟩ := bnd H53
   refine Lk [0, 0, 0] [0] (c_seq_Parser_tell h56) fun ⟨a58, c59⟩ => ?_
   refine Ln (Eb ?_)
   obtain rfl := sm H57
   exact Eg (_, (a58, c59)) rfl [1, 1, 0] [] 1
  refine Tk (Eb ?_)
  obtain rfl := sm H53
  exact Eg (_, (a4, c5)) rfl [1, 1, 0] [] 0
 rintro ⟨e39, ⟨a36, c37⟩⟩ hy
 subst hy
 refine Tr ?_
 refine Lq 3 ?_
 refine Lt 2 ?_
 refine Ln (E.off ?_)
 refine E.oset 1 (0 == (3 : Int)) rfl rfl ?_
 obtain rfl := sm H42
 exact Eo ((A0, C0), (a36, c37)) [1, 0, 0] [] .nil

theorem c_seq_Parser_onSkip {p : SeqParser} {b : Int} {r : SeqParser} (H : p_seq_Parser_onSkip p b = some r) : CT G 142 [.pointer (some ⟨N0, 0, none⟩), .int .u8 b] [Ch.box N0 85 (bx85 p A0 C0 A1 C1), Ch.opt (p.state == (3 : Int)) (Ty.int .i64) 3 A0 C0 p.order.nums, Ch.arr tySeqAction 143 A1 C1 p.out] [] (fun h : (Option Addr × Nat) => .tuple #[]) (fun h => [Ch.box N0 85 (bx85 r A0 C0 h.1 h.2), Ch.opt (r.state == (3 : Int)) (Ty.int .i64) 3 A0 C0 r.order.nums, Ch.arr tySeqAction 143 h.1 h.2 r.out]) (fun h => []) := by
 delta p_seq_Parser_onSkip at H
 refine CT.of Go.Proofs.Tryz.func142 (by kernel_rfl) rfl rfl rfl fun K => ?_
 refine Ts ?_
 obtain ⟨e23, H24, H25⟩ := bnd H
 refine Tjh (η := (Option Addr × Nat)) (fun h => (fun a20 c21 => [(11, .bool e23.1)]) h.1 h.2) [0] (fun h => (fun a20 c21 => [Ch.opt (e23.2.state == (3 : Int)) (Ty.int .i64) 3 A0 C0 e23.2.order.nums, Ch.arr tySeqAction 143 a20 c21 e23.2.out, Ch.box N0 85 (bx85 e23.2 A0 C0 a20 c21)]) h.1 h.2) [] (fun _ => []) ?_ ?_
 ·refine Tr ?_
  refine Lq 2 ?_
  obtain ⟨r26, h27, H28⟩ := bnd H24
  refine Lk [0, 0, 0] [] (c_seq_Parser_common h27) fun ⟨a29, c30⟩ => ?_
  refine Lq 2 ?_
  refine Lw 8 H28 (fun H33 => ?_) fun H33 => ?_
  ·refine Lq 3 ?_
   refine Ln ?_
   obtain rfl := sm H33
   exact Eg (a29, c30) trivial [1, 1, 0] [] 0
  refine Lq 3 ?_
  refine Ln ?_
  obtain rfl := sm H33
  exact Eg (a29, c30) trivial [1, 1, 0] [] 0
 rintro ⟨a20, c21⟩
 refine Tb H25 (fun H34 => ?_) fun H34 => ?_
 ·refine Tr ?_
  refine Lq 3 ?_
  refine Lt 2 ?_
  refine Ln (E.off ?_)
  refine E.oset 1 (0 == (3 : Int)) rfl rfl ?_
  obtain rfl := sm H34
  exact Eo (a20, c21) [1, 0, 0] [] .nil
 refine Tk (E.off ?_)
 obtain rfl := sm H34
 exact Eo (a20, c21) [2, 0, 0] [] .nil

theorem c_seq_order_push {o : SeqParser} {r : SeqParser} (H : p_seq_order_push o = some r) : CT G 186 [.pointer (some ⟨N0, 1, none⟩)] [Ch.box N0 85 (bx85 o A0 C0 A1 C1), Ch.arr (Ty.int .i64) 3 A0 C0 o.order.nums, Ch.arr tySeqAction 143 A1 C1 o.out] [] (fun h : (Option Addr × Nat) => .tuple #[]) (fun h => [Ch.box N0 85 (bx85 r h.1 h.2 A1 C1), Ch.arr (Ty.int .i64) 3 h.1 h.2 r.order.nums, Ch.arr tySeqAction 143 A1 C1 r.out]) (fun h => []) := by
 delta p_seq_order_push at H
 refine CT.of Go.Proofs.Tryz.func186 (by kernel_rfl) rfl rfl rfl fun K => ?_
 refine Ts (Ts (Tr ?_))
 refine Lq 3 ?_
 refine Lb 0 ?_
 refine Lq 2 ?_
 refine Ln (Et ?_)
 obtain ⟨e40, H41, H42⟩ := bnd H
 refine Tjh (η := (Option Addr × Nat)) (fun _ => []) [0] (fun h => (fun a36 c37 => [Ch.arr (Ty.int .i64) 3 a36 c37 e40.order.nums, Ch.arr tySeqAction 143 A1 C1 e40.out, Ch.box N0 85 (bx85 e40 a36 c37 A1 C1)]) h.1 h.2) [] (fun _ => []) ?_ ?_
 ·refine Tb H41 (fun H43 => ?_) fun H43 => ?_
  ·refine Td [13] [0, 1] mo ?_
   refine Dq 0 ?_
   refine Dq 1 ?_
   refine Dq 2 ?_
   refine Dq 3 ?_
   refine Db 4 0 ?_
   refine Dq 5 ?_
   refine Dq 6 ?_
   refine Dq 7 ?_
   refine Db 8 0 ?_
   refine Da [] [] rfl rfl (Ac.bs (ty := (Ty.int .i64)) (xs := [o.order.n]) (.cons () [] rfl .nil) rfl rfl rfl rfl rfl rfl rfl) fun g52 => ?_
   refine D.frz 0 rfl ?_
   obtain ⟨_, h55, H56⟩ := bnd H43
   refine Da [0] [0] rfl rfl (Ac.ap (ty := (Ty.int .i64)) h55 rfl rfl rfl rfl rfl rfl rfl) ?_
   rintro ⟨a57, c58⟩
   refine Dq 11 ?_
   refine Dq 12 ?_
   refine Dt 0 ?_
   refine Dn ?_
   obtain rfl := sm H56
   exact Eg (a57, c58) trivial [2, 1, 0] [] 1
  refine Tk ?_
  obtain rfl := sm H43
  exact Eg (A0, C0) trivial [1, 1, 0] [] 0
 rintro ⟨a36, c37⟩
 refine Tr ?_
 refine Lq 3 ?_
 refine Lt 2 ?_
 refine Ln (E.off ?_)
 obtain rfl := sm H42
 exact Eo (a36, c37) [0, 0, 0] [] .nil

theorem c_seq_Parser_tell_v2 {p : SeqParser} {a : SeqAction} {r : SeqParser} (H : p_seq_Parser_tell_v2 p a = some r) : CT G 185 [.pointer (some ⟨N0, 0, none⟩), .agg (bx143 a A2 C2).toArray] [Ch.box N0 85 (bx85 p A0 C0 A1 C1), Ch.arr tySeqAction 143 A1 C1 p.out] [Im.sl (Ty.int .i64) A0 C0 p.order.nums, Im.sl (Ty.int .i64) A2 C2 a.nums] (fun h : (Option Addr × Nat) => .tuple #[]) (fun h => [Ch.box N0 85 (bx85 r A0 C0 h.1 h.2), Ch.arr tySeqAction 143 h.1 h.2 r.out]) (fun h => [Im.sl (Ty.int .i64) A0 C0 r.order.nums]) := by
 delta p_seq_Parser_tell_v2 at H
 refine CT.of Go.Proofs.Tryz.func185 (by kernel_rfl) rfl rfl rfl fun K => ?_
 refine Ts (Tr ?_)
 refine Lx fun g1 => ?_
 refine Ln (Et ?_)
 refine Td [7, 10] [0, 0, 0] mo ?_
 refine Dq 0 ?_
 refine Dq 1 ?_
 refine Dq 2 ?_
 refine Dq 3 ?_
 refine Db 4 1 ?_
 refine Db 5 0 ?_
 refine Da [] [1] rfl rfl (Ac.bs (ty := tySeqAction) (xs := [a]) (.cons (A2, C2) [0] rfl .nil) rfl rfl rfl rfl rfl rfl rfl) fun g10 => ?_
 refine D.frz 0 rfl ?_
 obtain ⟨_, h13, H14⟩ := bnd H
 refine D.one rfl rfl rfl (Dp.al [2] [0] (Ac.ap (ty := tySeqAction) h13 rfl rfl rfl rfl rfl rfl rfl) rfl rfl rfl rfl rfl rfl rfl ?_)
 rintro ⟨a15, c16⟩
 refine Dq 8 ?_
 refine Dq 9 ?_
 refine Dt 2 ?_
 refine Dn ?_
 refine E.off ?_
 obtain rfl := sm H14
 exact Eo (a15, c16) [0, 0] [1] .nil

theorem c_seq_Parser_finish {p : SeqParser} {b : Int} {r : SeqParser} (H : p_seq_Parser_finish p b = some r) : CT G 187 [.pointer (some ⟨N0, 0, none⟩), .int .u8 b] [Ch.box N0 85 (bx85 p A0 C0 A1 C1), Ch.arr (Ty.int .i64) 3 A0 C0 p.order.nums, Ch.arr tySeqAction 143 A1 C1 p.out] [] (fun h : (Option Addr × Nat) × (Option Addr × Nat) => .tuple #[]) (fun h => [Ch.box N0 85 (bx85 r h.1.1 h.1.2 h.2.1 h.2.2), Ch.opt (r.state == (3 : Int)) (Ty.int .i64) 3 h.1.1 h.1.2 r.order.nums, Ch.arr tySeqAction 143 h.2.1 h.2.2 r.out]) (fun h => []) := by
 delta p_seq_Parser_finish at H
 refine CT.of Go.Proofs.Tryz.func187 (by kernel_rfl) rfl rfl rfl fun K => ?_
 refine Ts (Tr ?_)
 refine Lq 3 ?_
 refine Lt 0 ?_
 refine Ln (Et (Ts (Ts (Tr ?_))))
 refine Lq 4 ?_
 refine Lb 0 ?_
 refine Ln (Et ?_)
 refine Tb H (fun H2 => ?_) fun H2 => ?_
 ·refine Tv (Er ?_)
  refine E.oarr 1 (0 == (3 : Int)) rfl ?_
  obtain rfl := sm H2
  exact Eo ((A0, C0), (A1, C1)) [1, 0, 0] [] .nil
 refine Tk (Et (Ts (Ts (Tr ?_))))
 refine Lq 4 ?_
 refine Lb 0 ?_
 refine Ln (Et ?_)
 obtain ⟨e24, H25, H26⟩ := bnd H2
 refine Tjh (η := (Option Addr × Nat)) (fun _ => []) [0, 1] (fun h => (fun a20 c21 => [Ch.arr (Ty.int .i64) 3 a20 c21 e24.order.nums, Ch.arr tySeqAction 143 A1 C1 e24.out, Ch.box N0 85 (bx85 e24 a20 c21 A1 C1)]) h.1 h.2) [] (fun _ => []) ?_ ?_
 ·refine Tb H25 (fun H27 => ?_) fun H27 => ?_
  ·refine Tr ?_
   refine Lq 3 ?_
   obtain ⟨r28, h29, H30⟩ := bnd H27
   refine Lk [0, 0, 0] [] (c_seq_order_push h29) fun ⟨a31, c32⟩ => ?_
   refine Ln ?_
   obtain rfl := sm H30
   exact Eg (a31, c32) trivial [1, 1, 0] [] 0
  refine Tk ?_
  obtain rfl := sm H27
  exact Eg (A0, C0) trivial [1, 1, 0] [] 0
 rintro ⟨a20, c21⟩
 refine Td [13] [1, 1] mo ?_
 refine Dq 0 ?_
 refine Dq 1 ?_
 refine Dq 2 ?_
 refine Dq 3 ?_
 refine Dq 4 ?_
 refine Dq 5 ?_
 refine Db 6 1 ?_
 refine Dq 7 ?_
 refine Dq 8 ?_
 refine Dq 9 ?_
 refine Dq 10 ?_
 refine Db 11 1 ?_
 refine Dq 12 ?_
 refine D.frz 0 rfl ?_
 obtain ⟨r44, h45, H46⟩ := bnd H26
 refine Dkl [1, 0] [0, 0] (c_seq_Parser_tell_v2 h45) fun ⟨a47, c48⟩ => ?_
 refine Dn ?_
 refine E.off ?_
 obtain ⟨_, h51, H52⟩ := bnd H46
 refine E.oim 0 3 (r44.state == (3 : Int)) (chk_no h51) rfl ?_
 obtain rfl := sm H52
 exact Eo ((a20, c21), (a47, c48)) [1, 0, 0] [] .nil

end Go.Tw.X

set_option maxHeartbeats 2000000
set_option linter.unusedVariables false
set_option linter.unusedSimpArgs false
set_option maxRecDepth 10000
namespace Go.Tw.X
open Go Go.Tw
variable {A0 A1 A2 A3 A4 A5 A6 A7 A8 : Option Addr} {C0 C1 C2 C3 C4 C5 C6 C7 C8 : Nat}
variable {N0 N1 N2 N3 N4 : Nat}
theorem c_seq_Parser_onCommand {p : SeqParser} {b : Int} {r : SeqParser} (H : p_seq_Parser_onCommand p b = some r) : CT G 143 [.pointer (some ⟨N0, 0, none⟩), .int .u8 b] [Ch.box N0 85 (bx85 p A0 C0 A1 C1), Ch.opt (p.state == (3 : Int)) (Ty.int .i64) 3 A0 C0 p.order.nums, Ch.arr tySeqAction 143 A1 C1 p.out] [] (fun h : (Option Addr × Nat) × (Option Addr × Nat) => .tuple #[]) (fun h => [Ch.box N0 85 (bx85 r h.1.1 h.1.2 h.2.1 h.2.2), Ch.opt (r.state == (3 : Int)) (Ty.int .i64) 3 h.1.1 h.1.2 r.order.nums, Ch.arr tySeqAction 143 h.2.1 h.2.2 r.out]) (fun h => []) := by
 delta p_seq_Parser_onCommand at H
 refine CT.of Go.Proofs.Tryz.func143 (by kernel_rfl) rfl rfl rfl fun K => ?_
 refine Ts (Ts (Tr ?_))
 refine Lq 2 ?_
 obtain ⟨r1, h2, H3⟩ := bnd H
 refine Lk [0, 0, 0] [] (c_seq_Parser_common h2) fun ⟨a4, c5⟩ => ?_
 refine Ln (Et ?_)
 refine Tb H3 (fun H9 => ?_) fun H9 => ?_
 ·refine Tv (Er ?_)
  obtain rfl := sm H9
  exact Eo ((A0, C0), (a4, c5)) [0, 0, 0] [] .nil
 refine Tk (Et (Ts (Tr ?_)))
 refine Lq 4 ?_
 refine Lb 0 ?_
 refine Lq 2 ?_
 refine Ln (Et (Ts (Tr ?_)))
 refine Lq 4 ?_
 refine Lt 0 ?_
 refine Ln (Et (Tl (Ts ?_)))
 obtain ⟨e13, H14, H15⟩ := bnd H9
 refine Tj0 [(22, .bool e13)] [0, 1, 4] [] [0, 1, 2] ?_ ?_
 ·refine Tr ?_
  refine Lq 3 ?_
  refine Lw 25 H14 (fun H16 => ?_) fun H16 => ?_
  ·refine Lq 4 ?_
   refine Ln ?_
   obtain rfl := sm H16
   exact Eg0 [0, 0, 0] 0
  refine Lq 4 ?_
  refine Ln ?_
  obtain rfl := sm H16
  exact Eg0 [0, 0, 0] 0
 refine Tb H15 (fun H17 => ?_) fun H17 => ?_
 ·refine Tr ?_
  refine Lq 6 ?_
  refine Lb 0 ?_
  refine Lq 9 ?_
  refine Lt 0 ?_
  refine Lq 3 ?_
  refine Lt 0 ?_
  refine Ln (Eb (E.off ?_))
  obtain rfl := sm H17
  exact Eo ((A0, C0), (a4, c5)) [0, 0, 0] [] .nil
 refine Ts ?_
 obtain ⟨e21, H22, H23⟩ := bnd H17
 refine Tj0 [(48, .bool e21)] [0, 1, 4] [] [0, 1, 2] ?_ ?_
 ·refine Tr ?_
  refine Lq 3 ?_
  refine Lw 51 H22 (fun H24 => ?_) fun H24 => ?_
  ·refine Lq 4 ?_
   refine Ln ?_
   obtain rfl := sm H24
   exact Eg0 [0, 0, 0] 0
  refine Lq 4 ?_
  refine Ln ?_
  obtain rfl := sm H24
  exact Eg0 [0, 0, 0] 0
 refine Tb H23 (fun H25 => ?_) fun H25 => ?_
 ·refine Ts (Tr ?_)
  refine Lq 3 ?_
  obtain ⟨_, h26, H27⟩ := bnd H25
  refine L.opto 1 h26 rfl ?_
  obtain ⟨r28, h29, H30⟩ := bnd H27
  refine Lk [1, 0, 0] [] (c_seq_order_push h29) fun ⟨a31, c32⟩ => ?_
  refine Ln (Et (Tr ?_))
  refine Lq 4 ?_
  refine Lt 0 ?_
  refine Ln (Eb (E.off ?_))
  refine E.oarr 1 (r28.state == (3 : Int)) rfl ?_
  obtain rfl := sm H30
  exact Eo ((a31, c32), (a4, c5)) [1, 0, 0] [] .nil
 refine Ts ?_
 obtain ⟨e38, H39, H40⟩ := bnd H25
 refine Tj0 [(63, .bool e38)] [0, 1] [] [0, 1, 2] ?_ ?_
 ·refine Tr ?_
  refine Lq 3 ?_
  refine Lw 66 H39 (fun H41 => ?_) fun H41 => ?_
  ·refine Lq 3 ?_
   refine Ln ?_
   obtain rfl := sm H41
   exact Eg0 [0, 0, 0] 0
  refine Lq 3 ?_
  refine Ln ?_
  obtain rfl := sm H41
  exact Eg0 [0, 0, 0] 0
 refine Tb H40 (fun H42 => ?_) fun H42 => ?_
 ·refine Tr ?_
  refine Lq 4 ?_
  refine Lt 0 ?_
  refine Ln (Eb (E.off ?_))
  obtain rfl := sm H42
  exact Eo ((A0, C0), (a4, c5)) [0, 0, 0] [] .nil
 refine Ts ?_
 obtain ⟨e46, H47, H48⟩ := bnd H42
 refine Tj0 [(73, .bool e46)] [0, 1] [] [0, 1, 2] ?_ ?_
 ·refine Tr ?_
  refine Lq 3 ?_
  refine Lw 76 H47 (fun H49 => ?_) fun H49 => ?_
  ·refine Lq 4 ?_
   refine Ln ?_
   obtain rfl := sm H49
   exact Eg0 [0, 0, 0] 0
  refine Lq 4 ?_
  refine Ln ?_
  obtain rfl := sm H49
  exact Eg0 [0, 0, 0] 0
 refine Tb H48 (fun H50 => ?_) fun H50 => ?_
 ·refine Tr ?_
  refine Lq 2 ?_
  obtain ⟨_, h51, H52⟩ := bnd H50
  refine L.opto 1 h51 rfl ?_
  obtain ⟨r53, h54, H55⟩ := bnd H52
  refine Lk [1, 0, 0] [] (c_seq_Parser_finish h54) fun ⟨⟨a56, c57⟩, ⟨a58, c59⟩⟩ => ?_
  refine Ln (Eb (E.off ?_))
  obtain rfl := sm H55
  exact Eo ((a56, c57), (a58, c59)) [0, 0, 0] [] .nil
 refine Tr ?_
 refine Lq 4 ?_
 refine Lt 0 ?_
 refine Ln (Eb (E.off ?_))
 obtain rfl := sm H50
 exact Eo ((A0, C0), (a4, c5)) [0, 0, 0] [] .nil

theorem c_stringslite_HasPrefix {s_ : ByteArray} {prefix_ : ByteArray} {r : Bool} (H : p_stringslite_HasPrefix s_ prefix_ = some r) : CT G 219 [.string s_, .string prefix_] [] [] (fun _ : Unit => .bool r) (fun h => []) (fun h => []) := by
 delta p_stringslite_HasPrefix at H
 refine CT.of Go.Proofs.Tryz.func219 (by kernel_rfl) rfl rfl rfl fun K => ?_
 refine Ts (Tr ?_)
 refine Lq 1 ?_
 refine Ln (Et (Ts ?_))
 obtain ⟨e8, H9, H10⟩ := bnd H
 refine Tj0 [(4, .bool e8)] [] [] [] ?_ ?_
 ·refine Tr ?_
  refine Lq 6 ?_
  refine Lw 10 H9 (fun H11 => ?_) fun H11 => ?_
  ·refine Lq 3 ?_
   obtain ⟨_, h12, H13⟩ := bnd H11
   refine Ly (Yl.sc h12 rfl rfl rfl rfl rfl rfl) ?_
   refine Lq 4 ?_
   refine Ln ?_
   obtain rfl := sm H13
   exact Eg0 [] 0
  refine Lq 8 ?_
  refine Ln ?_
  obtain rfl := sm H11
  exact Eg0 [] 0
 refine Tv ?_
 obtain rfl := sm H10
 exact Eo1 () [] []

theorem c_stringslite_CutPrefix {s_ : ByteArray} {prefix_ : ByteArray} {r : ByteArray × Bool} (H : p_stringslite_CutPrefix s_ prefix_ = some r) : CT G 209 [.string s_, .string prefix_] [] [] (fun _ : Unit => .tuple #[.string r.1, .bool r.2]) (fun h => []) (fun h => []) := by
 delta p_stringslite_CutPrefix at H
 refine CT.of Go.Proofs.Tryz.func209 (by kernel_rfl) rfl rfl rfl fun K => ?_
 refine Ts (Tr ?_)
 refine Lq 2 ?_
 refine Ln (Et (Ts (Ts (Tr ?_))))
 refine Lq 2 ?_
 obtain ⟨r1, h2, H3⟩ := bnd H
 refine Lk [] [] (c_stringslite_HasPrefix h2) fun ⟨⟩ => ?_
 refine Lq 1 ?_
 refine Ln (Et ?_)
 refine Tb H3 (fun H5 => ?_) fun H5 => ?_
 ·refine Ts (Tr ?_)
  refine Lq 3 ?_
  refine Ln (Et (Tv (Er ?_)))
  obtain rfl := sm H5
  exact Eo () [] [] (.tmp rfl (.tmp rfl .nil))
 refine Tk (Et (Ts (Tr ?_)))
 refine Lq 3 ?_
 obtain ⟨_, h6, H7⟩ := bnd H5
 refine Ly (Yl.sc h6 rfl rfl rfl rfl rfl rfl) ?_
 refine Lq 2 ?_
 refine Ln (Et (Tv ?_))
 obtain rfl := sm H7
 exact Eo () [] [] (.tmp rfl (.tmp rfl .nil))

theorem c_strings_CutPrefix {s_ : ByteArray} {prefix_ : ByteArray} {r : ByteArray × Bool} (H : p_strings_CutPrefix s_ prefix_ = some r) : CT G 188 [.string s_, .string prefix_] [] [] (fun _ : Unit => .tuple #[.string r.1, .bool r.2]) (fun h => []) (fun h => []) := by
 delta p_strings_CutPrefix at H
 refine CT.of Go.Proofs.Tryz.func188 (by kernel_rfl) rfl rfl rfl fun K => ?_
 refine Ts (Tr ?_)
 refine Lq 2 ?_
 refine Ln (Et (Ts (Tr ?_)))
 refine Lq 2 ?_
 obtain ⟨r1, h2, H3⟩ := bnd H
 refine Lk [] [] (c_stringslite_CutPrefix h2) fun ⟨⟩ => ?_
 refine Lq 4 ?_
 refine Ln (Et (Tv ?_))
 obtain rfl := sm H3
 exact Eo () [] [] (.tmp rfl (.tmp rfl .nil))

theorem c_seq_Parser_over {p : SeqParser} {r : SeqParser} (H : p_seq_Parser_over p = some r) : CT G 145 [.pointer (some ⟨N0, 0, none⟩)] [Ch.box N0 85 (bx85 p A0 C0 A1 C1), Ch.opt (p.state == (3 : Int)) (Ty.int .i64) 3 A0 C0 p.order.nums, Ch.arr tySeqAction 143 A1 C1 p.out] [] (fun h : (Option Addr × Nat) => .tuple #[]) (fun h => [Ch.box N0 85 (bx85 r A0 C0 h.1 h.2), Ch.opt (r.state == (3 : Int)) (Ty.int .i64) 3 A0 C0 r.order.nums, Ch.arr tySeqAction 143 h.1 h.2 r.out]) (fun h => []) := by
 delta p_seq_Parser_over at H
 refine CT.of Go.Proofs.Tryz.func145 (by kernel_rfl) rfl rfl rfl fun K => ?_
 refine Ts (Tr ?_)
 refine Lq 3 ?_
 refine Lt 0 ?_
 refine Ln (Et (Ts (Tr ?_)))
 refine La [] [] (Ac.bs (ty := Ty.str) (xs := [(ByteArray.mk #[48, 59]), (ByteArray.mk #[50, 59])]) (.cons () [] rfl (.cons () [] rfl .nil)) rfl rfl rfl rfl rfl rfl rfl) fun g1 => ?_
 refine Lq 2 ?_
 refine Ln (Et ?_)
 obtain ⟨e192, H193, H194⟩ := bnd H
 refine T.joinE (η := Unit × ((Option Addr × Nat))) (fun h => True) (fun h => (fun a189 c190 => []) h.2.1 h.2.2) (fun h => (fun a189 c190 => [Ch.opt (e192.state == (3 : Int)) (Ty.int .i64) 3 A0 C0 e192.order.nums, Ch.arr tySeqAction 143 a189 c190 e192.out, Ch.box N0 85 (bx85 e192 A0 C0 a189 c190)]) h.2.1 h.2.2) (fun h => (fun a189 c190 => []) h.2.1 h.2.2) ?_ ?_
 ·refine Tl ?_
  refine T.oset 2 (0 == (3 : Int)) rfl rfl ?_
  refine Tq (η := (Option Addr × Nat)) (fun s131 h => (fun a127 c128 => [(11, .int .i64 s131.2)]) h.1 h.2) [0, 9, 10] (fun s131 h => (fun a127 c128 => [Ch.opt (s131.1.state == (3 : Int)) (Ty.int .i64) 3 A0 C0 s131.1.order.nums, Ch.arr tySeqAction 143 a127 c128 s131.1.out, Ch.box N0 85 (bx85 s131.1 A0 C0 a127 c128)]) h.1 h.2) [1] (fun _ _ => []) (A1, C1) [0, 2, 1, 0] [] H193 ?_
  rintro k_ s131 ⟨a127, c128⟩ z196 H195 hag197 hbr198
  refine Ts (Tr ?_)
  refine Lq 1 ?_
  refine Ln (Et (Ts ?_))
  refine Tb H195 (fun H200 => ?_) fun H200 => ?_
  ·refine Tk (Et (Ts ?_))
   obtain ⟨e236, H237, H238⟩ := bnd H200
   refine Tjh (η := (Option Addr × Nat)) (fun _ => []) [0, 9, 10, 11] (fun h => (fun a233 c234 => [Ch.opt (e236.state == (3 : Int)) (Ty.int .i64) 3 A0 C0 e236.order.nums, Ch.arr tySeqAction 143 a233 c234 e236.out, Ch.box N0 85 (bx85 e236 A0 C0 a233 c234)]) h.1 h.2) [3] (fun _ => []) ?_ ?_
   ·refine Tl (Ts (Tr ?_))
    obtain ⟨x239, h240, H241⟩ := bnd H237
    refine Ly (Yl.ia h240 rfl rfl rfl rfl rfl rfl) ?_
    refine Ly (Yl.lo (v := .string x239) 3 s131.2.toNat 0 (idx_some h240).2 rfl rfl rfl rfl (fun _ => rfl)) ?_
    refine Lq 1 ?_
    refine Ln (Et (Ts (Tr ?_)))
    refine Lq 3 ?_
    refine Lb 2 ?_
    refine Lq 1 ?_
    obtain ⟨r242, h243, H244⟩ := bnd H241
    refine Lk [] [] (c_strings_CutPrefix h243) fun ⟨⟩ => ?_
    refine Lq 5 ?_
    refine Ln (Et (Ts (Tr ?_)))
    refine Lq 1 ?_
    refine Ln (Et ?_)
    refine Tb H244 (fun H245 => ?_) fun H245 => ?_
    ·refine Tr ?_
     refine Lq 3 ?_
     refine L.know [Im.sl (Ty.int .i64) none 0 []] (fun A w _ _ f hf => by rw [List.mem_singleton.1 hf]; exact Im.sl_nil A w) ?_
     obtain ⟨r247, h248, H249⟩ := bnd H245
     refine Lk [2, 0, 0] [0] (c_seq_Parser_tell h248) fun ⟨a250, c251⟩ => ?_
     refine Ln (Eb ?_)
     obtain rfl := sm H249
     exact Eg (a250, c251) trivial [1, 1, 0, 0] [] 1
    refine Tk (Eb ?_)
    obtain rfl := sm H245
    exact Eg (a127, c128) trivial [0, 0, 0, 0] [] 0
   rintro ⟨a233, c234⟩
   refine Tr ?_
   refine Lq 2 ?_
   refine Ln ?_
   obtain rfl := sm H238
   exact Eg (_, (a233, c234)) (hag197 _ rfl) [0, 0, 0, 0] [] 0
  refine Tx (Ex (Ex (Eh ?_)))
  obtain rfl := sm H200
  have hb := hbr198 _ rfl
  subst e192
  exact Egx ((), (a127, c128)) trivial [0, 0, 0] []
 rintro ⟨_, ⟨a189, c190⟩⟩ _
 refine E.off ?_
 obtain rfl := sm H194
 exact Eo (a189, c190) [2, 0, 0] [] .nil

theorem c_seq_Parser_onTitle {p : SeqParser} {b : Int} {r : SeqParser} (H : p_seq_Parser_onTitle p b = some r) : CT G 144 [.pointer (some ⟨N0, 0, none⟩), .int .u8 b] [Ch.box N0 85 (bx85 p A0 C0 A1 C1), Ch.opt (p.state == (3 : Int)) (Ty.int .i64) 3 A0 C0 p.order.nums, Ch.arr tySeqAction 143 A1 C1 p.out] [] (fun h : (Option Addr × Nat) => .tuple #[]) (fun h => [Ch.box N0 85 (bx85 r A0 C0 h.1 h.2), Ch.opt (r.state == (3 : Int)) (Ty.int .i64) 3 A0 C0 r.order.nums, Ch.arr tySeqAction 143 h.1 h.2 r.out]) (fun h => []) := by
 delta p_seq_Parser_onTitle at H
 refine CT.of Go.Proofs.Tryz.func144 (by kernel_rfl) rfl rfl rfl fun K => ?_
 refine Tl (Ts (Tr ?_))
 refine Lq 3 ?_
 refine Ln (Et ?_)
 refine Tb H (fun H1 => ?_) fun H1 => ?_
 ·refine Tr ?_
  refine Lq 1 ?_
  obtain ⟨r2, h3, H4⟩ := bnd H1
  refine Lk [0, 0, 0] [] (c_seq_Parser_over h3) fun ⟨a5, c6⟩ => ?_
  refine Ln (Eb (E.off ?_))
  obtain rfl := sm H4
  exact Eo (a5, c6) [0, 0, 0] [] .nil
 refine Ts ?_
 obtain ⟨e12, H13, H14⟩ := bnd H1
 refine Tj0 [(9, .bool e12)] [0, 1] [] [0, 1, 2] ?_ ?_
 ·refine Tr ?_
  refine Lq 3 ?_
  refine Lw 12 H13 (fun H15 => ?_) fun H15 => ?_
  ·refine Lq 4 ?_
   refine Ln ?_
   obtain rfl := sm H15
   exact Eg0 [0, 0, 0] 0
  refine Lq 4 ?_
  refine Ln ?_
  obtain rfl := sm H15
  exact Eg0 [0, 0, 0] 0
 refine Tb H14 (fun H16 => ?_) fun H16 => ?_
 ·refine Tr ?_
  refine Lq 3 ?_
  refine Lt 0 ?_
  refine Ln (Eb (E.off ?_))
  refine E.oset 1 (0 == (3 : Int)) rfl rfl ?_
  obtain rfl := sm H16
  exact Eo (A1, C1) [1, 0, 0] [] .nil
 refine Ts (Tr ?_)
 refine Lq 3 ?_
 refine Ln (Et ?_)
 refine Tb H16 (fun H17 => ?_) fun H17 => ?_
 ·refine Tr ?_
  refine Lq 3 ?_
  refine Lt 0 ?_
  refine Ln (Eb (E.off ?_))
  refine E.oset 1 (5 == (3 : Int)) rfl rfl ?_
  obtain rfl := sm H17
  exact Eo (A1, C1) [1, 0, 0] [] .nil
 refine Ts (Tr ?_)
 refine Lq 3 ?_
 refine Lb 0 ?_
 refine Lq 3 ?_
 refine Ln (Et ?_)
 refine Tb H17 (fun H18 => ?_) fun H18 => ?_
 ·refine Td [10] [0, 0, 0] mo ?_
  refine Dq 0 ?_
  refine Dq 1 ?_
  refine Dq 2 ?_
  refine Db 3 0 ?_
  refine Dq 4 ?_
  refine Da [] [] rfl rfl (Ac.bs (ty := (Ty.int .u8)) (xs := [b]) (.cons () [] rfl .nil) rfl rfl rfl rfl rfl rfl rfl) fun g24 => ?_
  refine D.frz 0 rfl ?_
  refine Dy 6 (Yl.bsi 0 rfl rfl rfl rfl rfl rfl rfl rfl rfl) ?_
  obtain ⟨_, h27, H28⟩ := bnd H18
  refine Dy 7 (Yl.sa h27 rfl rfl rfl) ?_
  refine Dq 8 ?_
  refine Dq 9 ?_
  refine Dt 0 ?_
  refine Dn ?_
  refine Eb (E.off ?_)
  obtain rfl := sm H28
  exact Eo (A1, C1) [0, 0, 0] [] .nil
 refine Tk (Eb (E.off ?_))
 obtain rfl := sm H18
 exact Eo (A1, C1) [0, 0, 0] [] .nil

theorem c_seq_Parser_one {p : SeqParser} {b : Int} {r : SeqParser} (H : p_seq_Parser_one p b = some r) : CT G 107 [.pointer (some ⟨N0, 0, none⟩), .int .u8 b] [Ch.box N0 85 (bx85 p A0 C0 A1 C1), Ch.opt (p.state == (3 : Int)) (Ty.int .i64) 3 A0 C0 p.order.nums, Ch.arr tySeqAction 143 A1 C1 p.out] [Im.sl tyGlyphLead (some ⟨3, 0, none⟩) 8 t_glyph_leads] (fun h : (Option Addr × Nat) × (Option Addr × Nat) => .tuple #[]) (fun h => [Ch.box N0 85 (bx85 r h.1.1 h.1.2 h.2.1 h.2.2), Ch.opt (r.state == (3 : Int)) (Ty.int .i64) 3 h.1.1 h.1.2 r.order.nums, Ch.arr tySeqAction 143 h.2.1 h.2.2 r.out]) (fun h => []) := by
 delta p_seq_Parser_one at H
 refine CT.of Go.Proofs.Tryz.func107 (by kernel_rfl) rfl rfl rfl fun K => ?_
 refine Ts (Tr ?_)
 refine Lq 3 ?_
 refine Lb 0 ?_
 refine Ln (Et (Tl (Ts (Tr ?_))))
 refine Lq 2 ?_
 refine Ln (Et ?_)
 refine Tb H (fun H1 => ?_) fun H1 => ?_
 ·refine Tr ?_
  refine Lq 2 ?_
  obtain ⟨r2, h3, H4⟩ := bnd H1
  refine Lk [0, 0, 0] [0] (c_seq_Parser_onGround h3) fun ⟨a5, c6⟩ => ?_
  refine Ln (Eb (E.off ?_))
  obtain rfl := sm H4
  exact Eo ((A0, C0), (a5, c6)) [0, 0, 0] [] .nil
 refine Ts (Tr ?_)
 refine Lq 2 ?_
 refine Ln (Et ?_)
 refine Tb H1 (fun H9 => ?_) fun H9 => ?_
 ·refine Tr ?_
  refine Lq 2 ?_
  obtain ⟨r10, h11, H12⟩ := bnd H9
  refine Lk [0, 0, 0] [] (c_seq_Parser_onEscape h11) fun ⟨⟨a13, c14⟩, ⟨a15, c16⟩⟩ => ?_
  refine Ln (Eb (E.off ?_))
  obtain rfl := sm H12
  exact Eo ((a13, c14), (a15, c16)) [0, 0, 0] [] .nil
 refine Ts (Tr ?_)
 refine Lq 2 ?_
 refine Ln (Et ?_)
 refine Tb H9 (fun H19 => ?_) fun H19 => ?_
 ·refine Tr ?_
  refine Lq 2 ?_
  obtain ⟨r20, h21, H22⟩ := bnd H19
  refine Lk [0, 0, 0] [] (c_seq_Parser_onSkip h21) fun ⟨a23, c24⟩ => ?_
  refine Ln (Eb (E.off ?_))
  obtain rfl := sm H22
  exact Eo ((A0, C0), (a23, c24)) [0, 0, 0] [] .nil
 refine Ts (Tr ?_)
 refine Lq 2 ?_
 refine Ln (Et ?_)
 refine Tb H19 (fun H27 => ?_) fun H27 => ?_
 ·refine Tr ?_
  refine Lq 2 ?_
  obtain ⟨r28, h29, H30⟩ := bnd H27
  refine Lk [0, 0, 0] [] (c_seq_Parser_onCommand h29) fun ⟨⟨a31, c32⟩, ⟨a33, c34⟩⟩ => ?_
  refine Ln (Eb (E.off ?_))
  obtain rfl := sm H30
  exact Eo ((a31, c32), (a33, c34)) [0, 0, 0] [] .nil
 refine Ts (Tr ?_)
 refine Lq 2 ?_
 refine Ln (Et ?_)
 refine Tb H27 (fun H37 => ?_) fun H37 => ?_
 ·refine Tr ?_
  refine Lq 2 ?_
  obtain ⟨r38, h39, H40⟩ := bnd H37
  refine Lk [0, 0, 0] [] (c_seq_Parser_onTitle h39) fun ⟨a41, c42⟩ => ?_
  refine Ln (Eb (E.off ?_))
  obtain rfl := sm H40
  exact Eo ((A0, C0), (a41, c42)) [0, 0, 0] [] .nil
 refine Ts (Ts (Tr ?_))
 refine Lq 2 ?_
 refine Ln (Et ?_)
 refine Tb H37 (fun H53 => ?_) fun H53 => ?_
 ·refine Ts (Tr ?_)
  refine Lq 1 ?_
  obtain ⟨r54, h55, H56⟩ := bnd H53
  refine Lk [0, 0, 0] [] (c_seq_Parser_over h55) fun ⟨a57, c58⟩ => ?_
  refine Ln (Et (Tv (Er (Ev ?_))))
  obtain rfl := sm H56
  exact Eo ((A0, C0), (a57, c58)) [0, 0, 0] [] .nil
 refine Tk (Et (Ts (Tr ?_)))
 refine Lq 3 ?_
 refine Lt 0 ?_
 refine Ln (Et (Tr ?_))
 refine Lq 2 ?_
 refine L.oset 1 (1 == (3 : Int)) rfl rfl ?_
 obtain ⟨r61, h62, H63⟩ := bnd H53
 refine Lk [1, 0, 0] [] (c_seq_Parser_onEscape h62) fun ⟨⟨a64, c65⟩, ⟨a66, c67⟩⟩ => ?_
 refine Ln (Eb (E.off ?_))
 obtain rfl := sm H63
 exact Eo ((a64, c65), (a66, c67)) [0, 0, 0] [] .nil

theorem c_seq_Parser_Feed {p : SeqParser} {s_ : ByteArray} {r : (List SeqAction) × SeqParser} (H : p_seq_Parser_Feed p s_ = some r) : CT G 65 [.pointer (some ⟨N0, 0, none⟩), .string s_] [Ch.box N0 85 [.int .i64 p.state, .bool p.order.private_, .bool p.order.wrong, .bool p.order.any, .bool p.order.some, .int .i64 p.order.n, .slice A0 p.order.nums.length C0, .string p.text, .int .u8 p.runes.lead, .int .i32 p.runes.rune, .int .i64 p.runes.need, .slice none 0 0], Ch.opt (p.state == (3 : Int)) (Ty.int .i64) 3 A0 C0 p.order.nums] [Im.sl tyGlyphLead (some ⟨3, 0, none⟩) 8 t_glyph_leads] (fun h : (Option Addr × Nat) × (Option Addr × Nat) × (Option Addr × Nat) => .slice h.1.1 r.1.length h.1.2) (fun h => [Ch.arr tySeqAction 143 h.1.1 h.1.2 r.1, Ch.box N0 85 [.int .i64 r.2.state, .bool r.2.order.private_, .bool r.2.order.wrong, .bool r.2.order.any, .bool r.2.order.some, .int .i64 r.2.order.n, .slice h.2.1.1 r.2.order.nums.length h.2.1.2, .string r.2.text, .int .u8 r.2.runes.lead, .int .i32 r.2.runes.rune, .int .i64 r.2.runes.need, .slice none 0 0], Ch.opt (r.2.state == (3 : Int)) (Ty.int .i64) 3 h.2.1.1 h.2.1.2 r.2.order.nums]) (fun h => []) := by
 delta p_seq_Parser_Feed at H
 refine CT.of Go.Proofs.Tryz.func65 (by kernel_rfl) rfl rfl rfl fun K => ?_
 refine Ts (Tr ?_)
 refine Lq 1 ?_
 refine Ln (Et (Ts (Ts (Tr ?_))))
 refine Lq 3 ?_
 refine Ln (Et ?_)
 obtain ⟨e113, H114, H115⟩ := bnd H
 refine Tjh (η := (Option Addr × Nat) × (Option Addr × Nat)) (fun _ => []) [0] (fun h => (fun a107 c108 a110 c111 => [Ch.opt (e113.state == (3 : Int)) (Ty.int .i64) 3 a107 c108 e113.order.nums, Ch.arr tySeqAction 143 a110 c111 e113.out, Ch.box N0 85 (bx85 e113 a107 c108 a110 c111)]) h.1.1 h.1.2 h.2.1 h.2.2) [] (fun _ => []) ?_ ?_
 ·refine Tl ?_
  refine T.nil0 tySeqAction 143 ?_
  refine Tq (η := (Option Addr × Nat) × (Option Addr × Nat)) (fun s79 h => (fun a72 c73 a75 c76 => [(9, .int .i64 s79.2)]) h.1.1 h.1.2 h.2.1 h.2.2) [0, 1, 8] (fun s79 h => (fun a72 c73 a75 c76 => [Ch.opt (s79.1.state == (3 : Int)) (Ty.int .i64) 3 a72 c73 s79.1.order.nums, Ch.arr tySeqAction 143 a75 c76 s79.1.out, Ch.box N0 85 (bx85 s79.1 a72 c73 a75 c76)]) h.1.1 h.1.2 h.2.1 h.2.2) [] (fun _ _ => []) ((A0, C0), (none, 0)) [2, 0, 0] [] H114 ?_
  rintro k_ s79 ⟨⟨a72, c73⟩, ⟨a75, c76⟩⟩ z117 H116 hag118 hbr119
  refine Ts (Tr ?_)
  refine Lq 1 ?_
  refine Ln (Et (Ts ?_))
  refine Tb H116 (fun H121 => ?_) fun H121 => ?_
  ·refine Tk (Et (Ts (Tl (Ts (Tr ?_)))))
   refine Lq 2 ?_
   refine Ln (Et (Tr ?_))
   refine Lq 3 ?_
   obtain ⟨b134, h135, H136⟩ := bnd H121
   refine Ly (Yl.si h135 rfl rfl rfl rfl rfl) ?_
   obtain ⟨r137, h138, H139⟩ := bnd H136
   refine Lk [2, 0, 0] [0] (c_seq_Parser_one h138) fun ⟨⟨a140, c141⟩, ⟨a142, c143⟩⟩ => ?_
   refine Ln (Eb (Et (Tr ?_)))
   refine Lq 2 ?_
   refine Ln ?_
   obtain rfl := sm H139
   exact Eg (_, ((a140, c141), (a142, c143))) (hag118 _ rfl) [1, 1, 0] [] 0
  refine Tx (Ex (Ex (Eh ?_)))
  obtain rfl := sm H121
  have hb := hbr119 _ rfl
  subst e113
  exact Eg ((a72, c73), (a75, c76)) trivial [0, 0, 0] [] 0
 rintro ⟨⟨a107, c108⟩, ⟨a110, c111⟩⟩
 refine Ts (Tr ?_)
 refine Lq 3 ?_
 refine Lb 2 ?_
 refine Lq 1 ?_
 refine Ln (Et (Ts (Tr ?_)))
 refine Lq 3 ?_
 refine Lt 2 ?_
 refine Ln (Et (Ts (Tr ?_)))
 refine Lq 2 ?_
 refine Ln (Et (Tv ?_))
 obtain rfl := sm H115
 exact Eo1 ((a110, c111), (a107, c108), (none, 0)) [2, 0, 0] []

theorem c_wide_in {l : List WideSpan} {r_ : Int} {r : Bool} (H : p_wide_in l r_ = some r) : CT G 189 [.slice A0 l.length C0, .int .i32 r_] [] [Im.sl tyWideSpan A0 C0 l] (fun _ : Unit => .bool r) (fun h => []) (fun h => []) := by
 delta p_wide_in at H
 refine CT.of Go.Proofs.Tryz.func189 (by kernel_rfl) rfl rfl rfl fun K => ?_
 refine Ts (Tr ?_)
 refine Lq 1 ?_
 refine Ln (Et (Ts (Tr ?_)))
 refine Lq 4 ?_
 refine Ln (Et (Ts ?_))
 obtain ⟨e39, H40, H41⟩ := bnd H
 refine Tj0 [(5, .int .i64 e39)] [0, 1] [] [] ?_ ?_
 ·refine Tl ?_
  refine Tq (η := Unit) (fun s27 h => [(5, .int .i64 s27.1), (6, .int .i64 s27.2)]) [0, 1] (fun _ _ => []) [] (fun _ _ => []) () [] [] H40 ?_
  rintro k_ s27 ⟨⟩ z43 H42 hag44 hbr45
  refine Ts (Ts (Tr ?_))
  refine Lq 3 ?_
  refine Ln (Et ?_)
  refine Tb H42 (fun H47 => ?_) fun H47 => ?_
  ·refine Tk (Et (Tl (Ts (Tr ?_))))
   refine Lq 5 ?_
   refine Ln (Et (Ts (Tr ?_)))
   refine Lq 2 ?_
   obtain ⟨x48, h49, H50⟩ := bnd H47
   refine L.addr 0 rfl (idx_lt h49) fun b51 o52 e53 => ?_
   subst e53
   refine Ly (Yl.ia h49 rfl rfl rfl rfl rfl rfl) ?_
   refine L.el 0 rfl (idx_some h49).2 ?_
   rintro _
   refine Lq 1 ?_
   refine Lc 0 1 ?_
   refine Lq 2 ?_
   refine Ln (Et ?_)
   refine Tb H50 (fun H55 => ?_) fun H55 => ?_
   ·refine Tr ?_
    refine Lq 3 ?_
    refine Ln (Eb ?_)
    obtain rfl := sm H55
    exact Eg (_, ()) (hag44 _ rfl) [] [] 1
   refine Tr ?_
   refine Lq 2 ?_
   refine Ln (Eb ?_)
   obtain rfl := sm H55
   exact Eg (_, ()) (hag44 _ rfl) [] [] 1
  refine Tx (Ex (Ex (Eh ?_)))
  obtain rfl := sm H47
  have hb := hbr45 _ rfl
  subst e39
  exact Eg0 [] 0
 refine Ts ?_
 obtain ⟨e73, H74, H75⟩ := bnd H41
 refine Tj0 [(4, .bool e73)] [] [] [] ?_ ?_
 ·refine Tr ?_
  refine Lq 5 ?_
  refine Lw 31 H74 (fun H76 => ?_) fun H76 => ?_
  ·refine Lq 2 ?_
   obtain ⟨x77, h78, H79⟩ := bnd H76
   refine L.addr 0 rfl (idx_lt h78) fun b80 o81 e82 => ?_
   subst e82
   refine Ly (Yl.ia h78 rfl rfl rfl rfl rfl rfl) ?_
   refine L.el 0 rfl (idx_some h78).2 ?_
   rintro _
   refine Lq 1 ?_
   refine Lc 0 0 ?_
   refine Lq 4 ?_
   refine Ln ?_
   obtain rfl := sm H79
   exact Eg0 [] 1
  refine Lq 9 ?_
  refine Ln ?_
  obtain rfl := sm H76
  exact Eg0 [] 0
 refine Tv ?_
 obtain rfl := sm H75
 exact Eo1 () [] []

theorem c_wide_Of {r_ : Int} {r : Int} (H : p_wide_Of r_ = some r) : CT G 146 [.int .i32 r_] [] [Im.sl tyWideSpan (some ⟨0, 0, none⟩) 13 t_wide_nones, Im.sl tyWideSpan (some ⟨1, 0, none⟩) 14 t_wide_twos] (fun _ : Unit => .int .i64 r) (fun h => []) (fun h => []) := by
 delta p_wide_Of at H
 refine CT.of Go.Proofs.Tryz.func146 (by kernel_rfl) rfl rfl rfl fun K => ?_
 refine Ts (Tr ?_)
 refine Lq 1 ?_
 refine Ln (Et (Ts (Tl (Ts (Tr ?_)))))
 refine Lq 2 ?_
 obtain ⟨r9, h10, H11⟩ := bnd H
 refine Lk [] [0] (c_wide_in h10) fun ⟨⟩ => ?_
 refine Lq 1 ?_
 refine Ln (Et ?_)
 refine Tb H11 (fun H12 => ?_) fun H12 => ?_
 ·refine Ts (Tr ?_)
  refine Lq 1 ?_
  refine Ln (Et (Tv (Ev (Er ?_))))
  obtain rfl := sm H12
  exact Eo1 () [] []
 refine Ts (Tr ?_)
 refine Lq 2 ?_
 obtain ⟨r13, h14, H15⟩ := bnd H12
 refine Lk [] [1] (c_wide_in h14) fun ⟨⟩ => ?_
 refine Lq 1 ?_
 refine Ln (Et ?_)
 refine Tb H15 (fun H16 => ?_) fun H16 => ?_
 ·refine Ts (Tr ?_)
  refine Lq 1 ?_
  refine Ln (Et (Tv (Ev (Er ?_))))
  obtain rfl := sm H16
  exact Eo1 () [] []
 refine Tk (Eb (Et (Ts (Tr ?_))))
 refine Lq 1 ?_
 refine Ln (Et (Tv ?_))
 obtain rfl := sm H16
 exact Eo1 () [] []

theorem c_grid_own {r_ : RowRow} {r : RowRow} (H : p_grid_own r_ = some r) : CT G 171 [.agg #[.slice A0 r_.cells.length C0, .bool r_.wrapped]] [] [Im.sl tyRowCell A0 C0 r_.cells] (fun h : (Option Addr × Nat) => .agg #[.slice h.1 r.cells.length h.2, .bool r.wrapped]) (fun h => []) (fun h => [Im.sl tyRowCell h.1 h.2 r.cells]) := by
 delta p_grid_own at H
 refine CT.of Go.Proofs.Tryz.func171 (by kernel_rfl) rfl rfl rfl fun K => ?_
 refine Ts (Tr ?_)
 refine Lx fun g1 => ?_
 refine Ll fun g2 => ?_
 refine Ln (Et (Ts ?_))
 refine Td [6] [0, 0] mo ?_
 refine Dq 0 ?_
 refine Db 1 1 ?_
 refine Dq 3 ?_
 refine Db 4 1 ?_
 obtain ⟨r21, h22, H23⟩ := bnd H
 refine Dk [] [0] (c_slices_Clone_row_Cell A0 C0 h22) fun ⟨a24, c25⟩ => ?_
 refine Dq 5 ?_
 refine Dt 0 ?_
 refine Dn ?_
 refine Et (Tv ?_)
 refine E.frz 2 rfl ?_
 obtain rfl := sm H23
 exact Eo (a24, c25) [] [0] (.cell 0 rfl rfl rfl .nil)

theorem c_grid_Grid_Row {g : GridGrid} {y : Int} {r : RowRow} (H : p_grid_Grid_Row g y = some r) : CT G 131 [.pointer (some ⟨N0, 0, none⟩), .int .i64 y] [Ch.box N0 181 [.int .i64 g.w, .slice A0 g.l.length C0], Ch.arr tyRowRow 99 A0 C0 g.l] [] (fun h : (Option Addr × Nat) => .agg #[.slice h.1 r.cells.length h.2, .bool r.wrapped]) (fun h => [Ch.box N0 181 [.int .i64 g.w, .slice A0 g.l.length C0], Ch.arr tyRowRow 99 A0 C0 g.l]) (fun h => [Im.sl tyRowCell h.1 h.2 r.cells]) := by
 delta p_grid_Grid_Row at H
 refine CT.of Go.Proofs.Tryz.func131 (by kernel_rfl) rfl rfl rfl fun K => ?_
 refine Ts (Tr ?_)
 refine Ll fun g1 => ?_
 refine Ln (Et (Ts (Ts ?_)))
 obtain ⟨e5, H6, H7⟩ := bnd H
 refine Tj0 [(15, .bool e5)] [0, 1, 4] [] [0, 1, 2] ?_ ?_
 ·refine Tr ?_
  refine Lq 3 ?_
  refine Lw 7 H6 (fun H8 => ?_) fun H8 => ?_
  ·refine Lq 8 ?_
   refine Ln ?_
   obtain rfl := sm H8
   exact Eg0 [0, 0, 0] 0
  refine Lq 4 ?_
  refine Lb 1 ?_
  refine Lq 3 ?_
  refine Ln ?_
  obtain rfl := sm H8
  exact Eg0 [0, 0, 0] 0
 refine Tb H7 (fun H10 => ?_) fun H10 => ?_
 ·refine Ts (Tr ?_)
  refine Lq 1 ?_
  refine Lt 0 ?_
  refine Ln (Et (Tv (Er ?_)))
  refine E.know [Im.sl tyRowCell none 0 []] (fun A w _ _ f hf => by rw [List.mem_singleton.1 hf]; exact Im.sl_nil A w) ?_
  obtain rfl := sm H10
  exact Eo (none, 0) [1, 1] [0] (.cell 0 rfl rfl rfl .nil)
 refine Tk (Et (Ts (Tr ?_)))
 refine Lq 3 ?_
 refine Lb 1 ?_
 refine Lq 1 ?_
 obtain ⟨x12, h13, H14⟩ := bnd H10
 refine L.addro 2 rfl (idx_lt h13) fun b15 e16 => ?_
 subst e16
 refine Ly (Yl.ia h13 rfl rfl rfl rfl rfl rfl) ?_
 refine La [2] [] (Ac.lo y.toNat 0 (v := (fun h : (Option Addr × Nat) => (fun a17 c18 => .agg #[.slice a17 x12.cells.length c18, .bool x12.wrapped]) h.1 h.2)) (idx_some h13).2 rfl rfl rfl (fun _ => rfl)) ?_
 rintro ⟨a17, c18⟩
 obtain ⟨r20, h21, H22⟩ := bnd H14
 refine Lk [] [0] (c_grid_own h21) fun ⟨a23, c24⟩ => ?_
 refine Lt 1 ?_
 refine Ln (Et (Tv ?_))
 obtain rfl := sm H22
 exact Eo (a23, c24) [2, 1] [0] (.cell 0 rfl rfl rfl .nil)

theorem c_screen_Screen_print_1 {r_ : RowRow} {r : RowRow} (H : p_screen_Screen_print_1 r_ = some r) : CT G 148 [.agg #[.slice A0 r_.cells.length C0, .bool r_.wrapped]] [] [Im.sl tyRowCell A0 C0 r_.cells] (fun _ : Unit => .agg #[.slice A0 r.cells.length C0, .bool r.wrapped]) (fun h => []) (fun h => [Im.sl tyRowCell A0 C0 r.cells]) := by
 delta p_screen_Screen_print_1 at H
 refine CT.of Go.Proofs.Tryz.func148 (by kernel_rfl) rfl rfl rfl fun K => ?_
 refine Ts (Tr ?_)
 refine Lx fun g1 => ?_
 refine Ll fun g2 => ?_
 refine Ln (Et (Ts (Tr ?_)))
 refine Lq 1 ?_
 refine Lt 1 ?_
 refine Ln (Et (Ts (Tr ?_)))
 refine Lb 0 ?_
 refine Lt 1 ?_
 refine Ln (Et (Tv ?_))
 obtain rfl := sm H
 exact Eo () [] [0] (.cell 0 rfl rfl rfl .nil)

theorem c_screen_Screen_edit_Screen_print_1 {s_ : ScreenScreen} {r : ScreenScreen} (H : p_screen_Screen_edit_Screen_print_1 s_ = some r) : CT G 147 [.pointer (some ⟨N0, 0, none⟩), .func (.func 148) #[] #[]] [Ch.box N0 132 [.pointer (some ⟨N1, 0, none⟩), .int .i64 s_.spot.x, .int .i64 s_.spot.y, .int .i64 s_.spot.style.fore, .int .i64 s_.spot.style.back, .bool s_.spot.style.bold, .bool s_.spot.style.under, .bool s_.spot.style.inverse, .int .i64 s_.saved.x, .int .i64 s_.saved.y, .int .i64 s_.saved.style.fore, .int .i64 s_.saved.style.back, .bool s_.saved.style.bold, .bool s_.saved.style.under, .bool s_.saved.style.inverse, .bool s_.waiting, .int .i64 s_.top, .int .i64 s_.bottom, .bool s_.wraps, .string s_.title], Ch.box N1 181 [.int .i64 s_.g.w, .slice A0 s_.g.l.length C0], Ch.arr tyRowRow 99 A0 C0 s_.g.l] [] (fun _ : Unit => .tuple #[]) (fun h => [Ch.box N0 132 [.pointer (some ⟨N1, 0, none⟩), .int .i64 r.spot.x, .int .i64 r.spot.y, .int .i64 r.spot.style.fore, .int .i64 r.spot.style.back, .bool r.spot.style.bold, .bool r.spot.style.under, .bool r.spot.style.inverse, .int .i64 r.saved.x, .int .i64 r.saved.y, .int .i64 r.saved.style.fore, .int .i64 r.saved.style.back, .bool r.saved.style.bold, .bool r.saved.style.under, .bool r.saved.style.inverse, .bool r.waiting, .int .i64 r.top, .int .i64 r.bottom, .bool r.wraps, .string r.title], Ch.box N1 181 [.int .i64 r.g.w, .slice A0 r.g.l.length C0], Ch.arr tyRowRow 99 A0 C0 r.g.l]) (fun h => []) := by
 delta p_screen_Screen_edit_Screen_print_1 at H
 refine CT.of Go.Proofs.Tryz.func147 (by kernel_rfl) rfl rfl rfl fun K => ?_
 refine Td [21] [0, 0, 0] mo ?_
 refine Dq 0 ?_
 refine Dq 1 ?_
 refine Dq 2 ?_
 refine Db 3 0 ?_
 refine Dq 4 ?_
 refine Dq 5 ?_
 refine Dq 6 ?_
 refine Dq 7 ?_
 refine Db 8 0 ?_
 refine Dq 9 ?_
 refine Dq 10 ?_
 refine Dq 11 ?_
 refine Dq 12 ?_
 refine Db 13 0 ?_
 refine Dq 14 ?_
 refine Dq 15 ?_
 refine Dq 16 ?_
 refine Dq 17 ?_
 refine Db 18 0 ?_
 obtain ⟨r15, h16, H17⟩ := bnd H
 refine D.one rfl rfl rfl (Dp.ab [1, 1] [] [2, 0, 0] (Ac.call (c_grid_Grid_Row h16) rfl rfl rfl rfl) rfl rfl rfl rfl rfl rfl (fun _ => rfl) ?_)
 rintro ⟨a18, c19⟩
 obtain ⟨r21, h22, H23⟩ := bnd H17
 refine Dk [] [0] (c_screen_Screen_print_1 h22) fun ⟨⟩ => ?_
 obtain ⟨r25, h26, H27⟩ := bnd H23
 refine Dkl [1, 1] [0] (c_grid_Grid_Set h26) fun ⟨⟩ => ?_
 refine Dn ?_
 refine E.off ?_
 obtain rfl := sm H27
 exact Eo () [2, 0, 0] [] .nil

theorem c_style_Style_may {s_ : StyleStyle} {r : Bool} (H : p_style_Style_may s_ = some r) : CT G 210 [.agg #[.int .i64 s_.fore, .int .i64 s_.back, .bool s_.bold, .bool s_.under, .bool s_.inverse]] [] [] (fun _ : Unit => .bool r) (fun h => []) (fun h => []) := by
 delta p_style_Style_may at H
 refine CT.of Go.Proofs.Tryz.func210 (by kernel_rfl) rfl rfl rfl fun K => ?_
 refine Ts (Tr ?_)
 refine Lx fun g1 => ?_
 refine Lq 1 ?_
 refine Ln (Et (Ts ?_))
 obtain ⟨e9, H10, H11⟩ := bnd H
 refine Tj0 [(2, .bool e9)] [] [] [0] ?_ ?_
 ·refine Tr ?_
  refine Lq 1 ?_
  refine Lb 0 ?_
  refine Lq 2 ?_
  refine Lw 6 H10 (fun H12 => ?_) fun H12 => ?_
  ·refine Lq 1 ?_
   refine Lb 0 ?_
   refine Lq 3 ?_
   refine Lw 11 H12 (fun H13 => ?_) fun H13 => ?_
   ·refine Lq 1 ?_
    refine Lb 0 ?_
    refine Lq 3 ?_
    refine Lw 16 H13 (fun H14 => ?_) fun H14 => ?_
    ·refine Lq 1 ?_
     refine Lb 0 ?_
     refine Lq 3 ?_
     refine Ln ?_
     obtain rfl := sm H14
     exact Eg0 [0] 0
    refine Lq 5 ?_
    refine Ln ?_
    obtain rfl := sm H14
    exact Eg0 [0] 0
   refine Lq 10 ?_
   refine Ln ?_
   obtain rfl := sm H13
   exact Eg0 [0] 0
  refine Lq 15 ?_
  refine Ln ?_
  obtain rfl := sm H12
  exact Eg0 [0] 0
 refine Tv ?_
 obtain rfl := sm H11
 exact Eo1 () [] []

theorem c_style_bit {is : Bool} {n_ : Int} {r : Int} (H : p_style_bit is n_ = some r) : CT G 211 [.bool is, .int .i64 n_] [] [] (fun _ : Unit => .int .i64 r) (fun h => []) (fun h => []) := by
 delta p_style_bit at H
 refine CT.of Go.Proofs.Tryz.func211 (by kernel_rfl) rfl rfl rfl fun K => ?_
 refine Ts (Tr ?_)
 refine Lq 1 ?_
 refine Ln (Et (Ts (Ts (Tr ?_))))
 refine Lq 1 ?_
 refine Ln (Et ?_)
 refine Tb H (fun H2 => ?_) fun H2 => ?_
 ·refine Ts (Tr ?_)
  refine Lq 2 ?_
  refine Ln (Et (Tv (Er ?_)))
  obtain rfl := sm H2
  exact Eo1 () [] []
 refine Tk (Et (Ts (Tr ?_)))
 refine Lq 1 ?_
 refine Ln (Et (Tv ?_))
 obtain rfl := sm H2
 exact Eo1 () [] []

theorem c_style_Style_Num {s_ : StyleStyle} {r : Int} (H : p_style_Style_Num s_ = some r) : CT G 190 [.agg #[.int .i64 s_.fore, .int .i64 s_.back, .bool s_.bold, .bool s_.under, .bool s_.inverse]] [] [] (fun _ : Unit => .int .i64 r) (fun h => []) (fun h => []) := by
 delta p_style_Style_Num at H
 refine CT.of Go.Proofs.Tryz.func190 (by kernel_rfl) rfl rfl rfl fun K => ?_
 refine Ts (Tr ?_)
 refine Lx fun g1 => ?_
 refine Lq 1 ?_
 refine Ln (Et (Ts (Ts (Tr ?_))))
 refine Lb 0 ?_
 obtain ⟨r2, h3, H4⟩ := bnd H
 refine Lk [] [] (c_style_Style_may h3) fun ⟨⟩ => ?_
 refine Lq 1 ?_
 refine Ln (Et ?_)
 refine Tb H4 (fun H6 => ?_) fun H6 => ?_
 ·refine Ts (Tr ?_)
  refine Lq 1 ?_
  refine Ln (Et (Tv (Er ?_)))
  obtain rfl := sm H6
  exact Eo1 () [] []
 refine Tk (Et (Ts ?_))
 refine Td [] [0] mo ?_
 refine Dq 0 ?_
 refine Db 1 0 ?_
 refine Dq 2 ?_
 refine Db 3 0 ?_
 refine Dq 4 ?_
 refine Dq 5 ?_
 refine Dq 6 ?_
 refine Db 7 0 ?_
 refine Dq 10 ?_
 refine Db 11 0 ?_
 refine Dq 14 ?_
 refine Db 15 0 ?_
 obtain ⟨r34, h35, H36⟩ := bnd H6
 refine Dk [] [] (c_style_bit h35) fun ⟨⟩ => ?_
 refine Dq 9 ?_
 obtain ⟨r37, h38, H39⟩ := bnd H36
 refine Dk [] [] (c_style_bit h38) fun ⟨⟩ => ?_
 refine Dq 13 ?_
 obtain ⟨r40, h41, H42⟩ := bnd H39
 refine Dk [] [] (c_style_bit h41) fun ⟨⟩ => ?_
 refine Dq 17 ?_
 refine Dq 18 ?_
 refine Dn ?_
 refine Et (Tv ?_)
 obtain rfl := sm H42
 exact Eo1 () [] []

theorem c_screen_Screen_num {s_ : ScreenScreen} {r : Int} (H : p_screen_Screen_num s_ = some r) : CT G 152 [.pointer (some ⟨N0, 0, none⟩)] [] [Im.cells N0 0 [.pointer (some ⟨N1, 0, none⟩), .int .i64 s_.spot.x, .int .i64 s_.spot.y, .int .i64 s_.spot.style.fore, .int .i64 s_.spot.style.back, .bool s_.spot.style.bold, .bool s_.spot.style.under, .bool s_.spot.style.inverse, .int .i64 s_.saved.x, .int .i64 s_.saved.y, .int .i64 s_.saved.style.fore, .int .i64 s_.saved.style.back, .bool s_.saved.style.bold, .bool s_.saved.style.under, .bool s_.saved.style.inverse, .bool s_.waiting, .int .i64 s_.top, .int .i64 s_.bottom, .bool s_.wraps, .string s_.title], Im.cells N1 0 [.int .i64 s_.g.w, .slice A0 s_.g.l.length C0], Im.sl tyRowRow A0 C0 s_.g.l] (fun _ : Unit => .int .i64 r) (fun h => []) (fun h => []) := by
 delta p_screen_Screen_num at H
 refine CT.of Go.Proofs.Tryz.func152 (by kernel_rfl) rfl rfl rfl fun K => ?_
 refine Ts (Tr ?_)
 refine Lq 1 ?_
 refine Ln (Et (Ts (Tr ?_)))
 refine Lq 4 ?_
 refine Lc 0 3 ?_
 obtain ⟨r1, h2, H3⟩ := bnd H
 refine Lk [] [] (c_style_Style_Num h2) fun ⟨⟩ => ?_
 refine Lq 1 ?_
 refine Ln (Et (Tv ?_))
 obtain rfl := sm H3
 exact Eo1 () [] []

theorem c_grid_Grid_region_a0 {g : GridGrid} {top : Int} {bottom : Int} {r : Unit} (H : p_grid_Grid_region g top bottom = some (.inl r)) : CT G 197 [.pointer (some ⟨N0, 0, none⟩), .int .i64 top, .int .i64 bottom] [Ch.box N0 181 [.int .i64 g.w, .slice A0 g.l.length C0], Ch.arr tyRowRow 99 A0 C0 g.l] [] (fun _ : Unit => .tuple #[.slice none 0 0, .bool false]) (fun h => [Ch.box N0 181 [.int .i64 g.w, .slice A0 g.l.length C0], Ch.arr tyRowRow 99 A0 C0 g.l]) (fun h => []) := by
 delta p_grid_Grid_region at H
 refine CT.of Go.Proofs.Tryz.func197 (by kernel_rfl) rfl rfl rfl fun K => ?_
 refine Ts (Tr ?_)
 refine Lq 2 ?_
 refine Ln (Et (Ts (Tr ?_)))
 refine Lq 3 ?_
 refine Lb 0 ?_
 refine Lq 3 ?_
 refine Ln (Et (Ts (Tr ?_)))
 refine Lq 2 ?_
 obtain ⟨r1, h2, H3⟩ := bnd H
 refine Lk [] [] (c_grid_clip h2) fun ⟨⟩ => ?_
 refine Lq 2 ?_
 obtain ⟨r4, h5, H6⟩ := bnd H3
 refine Lk [] [] (c_grid_clip h5) fun ⟨⟩ => ?_
 refine Lq 2 ?_
 refine Ln (Et (Ts (Ts (Tr ?_))))
 refine Lq 3 ?_
 refine Ln (Et ?_)
 refine Tb H6 (fun H8 => ?_) fun H8 => ?_
 ·refine Ts (Tr ?_)
  refine Lq 2 ?_
  refine Ln (Et (Tv (Er ?_)))
  have hr := Sum.inl.inj (Option.some.inj H8)
  subst r
  exact Eo () [0, 0] [] (.tmp rfl (.tmp rfl .nil))
 refine Tk (Et (Ts (Tr ?_)))
 refine Lq 3 ?_
 refine Lb 0 ?_
 refine Lq 3 ?_
 obtain ⟨_, h9, H10⟩ := bnd H8
 refine L.cap 1 rfl fun h14 => ?_
 refine Ly (Yl.sv (ty := tyRowRow) h14 h9 rfl rfl rfl rfl rfl rfl rfl rfl) ?_
 have hv13 : Vw tyRowRow g.l A0 C0 (cuta A0 C0 r1 (tyRowRow).sz) (C0 - r1.toNat) r1 (IntKind.i64.wrap (r4 + 1)) := vw_new h9 h14
 refine Lq 2 ?_
 refine Ln (Et (Tv ?_))
 exact nomatch (Option.some.inj H10)
theorem c_grid_Grid_region_a1 {g : GridGrid} {top : Int} {bottom : Int} {r : (Int × Int)} (H : p_grid_Grid_region g top bottom = some (.inr r)) : CT G 197 [.pointer (some ⟨N0, 0, none⟩), .int .i64 top, .int .i64 bottom] [Ch.box N0 181 [.int .i64 g.w, .slice A0 g.l.length C0], Ch.arr tyRowRow 99 A0 C0 g.l] [] (fun _ : Unit => .tuple #[.slice (cuta A0 C0 r.1 (tyRowRow).sz) (cut g.l r.1 r.2).length (C0 - r.1.toNat), .bool true]) (fun h => [Ch.box N0 181 [.int .i64 g.w, .slice A0 g.l.length C0], Ch.arr tyRowRow 99 A0 C0 g.l]) (fun h => []) := by
 delta p_grid_Grid_region at H
 refine CT.of Go.Proofs.Tryz.func197 (by kernel_rfl) rfl rfl rfl fun K => ?_
 refine Ts (Tr ?_)
 refine Lq 2 ?_
 refine Ln (Et (Ts (Tr ?_)))
 refine Lq 3 ?_
 refine Lb 0 ?_
 refine Lq 3 ?_
 refine Ln (Et (Ts (Tr ?_)))
 refine Lq 2 ?_
 obtain ⟨r1, h2, H3⟩ := bnd H
 refine Lk [] [] (c_grid_clip h2) fun ⟨⟩ => ?_
 refine Lq 2 ?_
 obtain ⟨r4, h5, H6⟩ := bnd H3
 refine Lk [] [] (c_grid_clip h5) fun ⟨⟩ => ?_
 refine Lq 2 ?_
 refine Ln (Et (Ts (Ts (Tr ?_))))
 refine Lq 3 ?_
 refine Ln (Et ?_)
 refine Tb H6 (fun H8 => ?_) fun H8 => ?_
 ·refine Ts (Tr ?_)
  refine Lq 2 ?_
  refine Ln (Et (Tv (Er ?_)))
  exact nomatch (Option.some.inj H8)
 refine Tk (Et (Ts (Tr ?_)))
 refine Lq 3 ?_
 refine Lb 0 ?_
 refine Lq 3 ?_
 obtain ⟨_, h9, H10⟩ := bnd H8
 refine L.cap 1 rfl fun h14 => ?_
 refine Ly (Yl.sv (ty := tyRowRow) h14 h9 rfl rfl rfl rfl rfl rfl rfl rfl) ?_
 have hv13 : Vw tyRowRow g.l A0 C0 (cuta A0 C0 r1 (tyRowRow).sz) (C0 - r1.toNat) r1 (IntKind.i64.wrap (r4 + 1)) := vw_new h9 h14
 refine Lq 2 ?_
 refine Ln (Et (Tv ?_))
 have hr := Sum.inr.inj (Option.some.inj H10)
 subst r
 exact Eo () [0, 0] [] (.tmp rfl (.tmp rfl .nil))

theorem c_grid_Grid_Up {g : GridGrid} {top : Int} {bottom : Int} {n_ : Int} {style : Int} {r : (List RowRow) × GridGrid} (H : p_grid_Grid_Up g top bottom n_ style = some r) : CT G 196 [.pointer (some ⟨N0, 0, none⟩), .int .i64 top, .int .i64 bottom, .int .i64 n_, .int .i64 style] [Ch.box N0 181 [.int .i64 g.w, .slice A0 g.l.length C0], Ch.arr tyRowRow 99 A0 C0 g.l] [] (fun h : (Option Addr × Nat) => .slice h.1 r.1.length h.2) (fun h => [Ch.arr tyRowRow 99 h.1 h.2 r.1, Ch.box N0 181 [.int .i64 r.2.w, .slice A0 r.2.l.length C0], Ch.arr tyRowRow 99 A0 C0 r.2.l]) (fun h => []) := by
 delta p_grid_Grid_Up at H
 refine CT.of Go.Proofs.Tryz.func196 (by kernel_rfl) rfl rfl rfl fun K => ?_
 refine Ts (Tr ?_)
 refine Lq 1 ?_
 refine Ln (Et (Ts (Tr ?_)))
 refine Lq 3 ?_
 obtain ⟨r1, h2, H3⟩ := bnd H
 rcases r1 with r1 | r1
 ·refine Lk [0, 0] [] (c_grid_Grid_region_a0 h2) fun ⟨⟩ => ?_
  refine Lq 5 ?_
  refine Ln (Et (Ts (Ts (Tr ?_))))
  refine Lq 2 ?_
  refine Ln (Et ?_)
  refine T.cond rfl (fun _ => ?_) (fun h => nomatch h)
  refine Ts (Tr ?_)
  refine Lq 1 ?_
  refine Ln (Et (Tv (Er ?_)))
  refine E.nil0 tyRowRow 99 ?_
  obtain rfl := sm H3
  exact Eo1 (none, 0) [0, 0, 0] []
 refine Lk [0, 0] [] (c_grid_Grid_region_a1 h2) fun ⟨⟩ => ?_
 obtain ⟨_, h5, H6⟩ := bnd H3
 refine L.cap 1 rfl fun h7 => ?_
 have hv8 : Vw tyRowRow g.l A0 C0 (cuta A0 C0 r1.1 (tyRowRow).sz) (C0 - r1.1.toNat) r1.1 r1.2 := vw_new h5 h7
 refine Lq 5 ?_
 refine Ln (Et (Ts (Ts (Tr ?_))))
 refine Lq 2 ?_
 refine Ln (Et ?_)
 refine T.cond rfl (fun h => nomatch h) (fun _ => ?_)
 refine Tk (Et (Ts (Tr ?_)))
 refine Lq 3 ?_
 obtain ⟨r9, h10, H11⟩ := bnd H6
 refine Lk [] [] (c_grid_clip h10) fun ⟨⟩ => ?_
 refine Lq 1 ?_
 refine Ln (Et (Ts (Tr ?_)))
 refine Lq 2 ?_
 obtain ⟨_, h12, H13⟩ := bnd H11
 refine L.vv hv8 h12 rfl rfl rfl rfl rfl rfl rfl rfl rfl rfl rfl fun a14 c15 hv16 => ?_
 obtain ⟨r17, h18, H19⟩ := bnd H13
 refine Lk [1] [] (c_slices_Clone_row_Row_w A0 C0 a14 c15 hv16 h18) fun ⟨a20, c21⟩ => ?_
 refine Lq 1 ?_
 refine Ln (Et (Ts (Tr ?_)))
 refine Lq 3 ?_
 obtain ⟨_, h23, H24⟩ := bnd H19
 refine L.vv hv8 h23 rfl rfl rfl rfl rfl rfl rfl rfl rfl rfl rfl fun a25 c26 hv27 => ?_
 refine La [1] [] (Ac.cpv (ty := tyRowRow) hv8 hv27 rfl rfl rfl rfl rfl rfl rfl) fun _ => ?_
 have hv29 : Vw tyRowRow (cpyv g.l r1.1 r1.2 (r1.1 + r9) (r1.1 + ((cut g.l r1.1 r1.2).length : Int))) A0 C0 (cuta A0 C0 r1.1 (tyRowRow).sz) (C0 - r1.1.toNat) r1.1 r1.2 := Vw.on hv8 (cpyv_len hv8)
 refine L.sl 11 (k' := (cut (cpyv g.l r1.1 r1.2 (r1.1 + r9) (r1.1 + ((cut g.l r1.1 r1.2).length : Int))) r1.1 r1.2).length) (cut_len (cpyv_len hv8)) rfl ?_
 refine L.bx 2 (cs' := [.int .i64 g.w, .slice A0 (cpyv g.l r1.1 r1.2 (r1.1 + r9) (r1.1 + ((cut g.l r1.1 r1.2).length : Int))).length C0]) (by rw [cpyv_len hv8]) rfl ?_
 refine Ln (Et (Ts (Ts (Tr ?_))))
 refine Lq 5 ?_
 refine Ln (Et ?_)
 obtain ⟨e142, H143, H144⟩ := bnd H24
 refine Tj0 [] [13] [Ch.arr tyRowRow 99 A0 C0 e142.l, Ch.box N0 181 [.int .i64 e142.w, .slice A0 e142.l.length C0]] [2] ?_ ?_
 ·refine Tl ?_
  refine Tq (η := Unit) (fun s103 h => [(11, .slice (cuta A0 C0 r1.1 (tyRowRow).sz) (cut s103.1.l r1.1 r1.2).length (C0 - r1.1.toNat)), (14, .int .i64 s103.2)]) [0, 4, 13] (fun s103 h => [Ch.arr tyRowRow 99 A0 C0 s103.1.l, Ch.box N0 181 [.int .i64 s103.1.w, .slice A0 s103.1.l.length C0]]) [2] (fun _ _ => []) () [1, 0, 0] [] H143 ?_
  rintro k_ s103 ⟨⟩ z146 H145 hag147 hbr148
  refine Ts (Ts (Tr ?_))
  refine Lq 4 ?_
  refine Ln (Et ?_)
  refine Tb H145 (fun H150 => ?_) fun H150 => ?_
  ·refine Tk (Et (Ts (Tl (Tr ?_))))
   refine Lq 5 ?_
   refine Lb 1 ?_
   refine Lq 1 ?_
   obtain ⟨r168, h169, H170⟩ := bnd H150
   refine Lk [] [] (c_row_Blank h169) fun ⟨a171, c172⟩ => ?_
   obtain ⟨_, h174, H175⟩ := bnd H170
   refine L.cap 0 rfl fun h176 => ?_
   have hv177 := vw_re hv29 h174 h176
   obtain ⟨x178, h179, H180⟩ := bnd H175
   refine L.addro 0 rfl (pos_of (cut_get h179)) fun b181 e182 => ?_
   subst e182
   refine Ly (Yl.iv (ty := tyRowRow) 0 hv177 h179 rfl rfl rfl rfl rfl rfl rfl rfl) ?_
   refine La [0] [0] (Ac.se 0 r168 (cut_get h179) rfl rfl rfl rfl rfl rfl (fun _ => ⟨(a171, c172), rfl, [1], rfl⟩)) fun _ => ?_
   have hv184 : Vw tyRowRow (s103.1.l.set (r1.1.toNat + s103.2.toNat) r168) (some ⟨b181, 0, none⟩) C0 (cuta (some ⟨b181, 0, none⟩) C0 r1.1 (tyRowRow).sz) (C0 - r1.1.toNat) r1.1 r1.2 := Vw.on hv177 (List.length_set ..)
   refine L.sl 11 (k' := (cut (s103.1.l.set (r1.1.toNat + s103.2.toNat) r168) r1.1 r1.2).length) (cut_len (List.length_set ..)) rfl ?_
   refine L.bx 1 (cs' := [.int .i64 s103.1.w, .slice (some ⟨b181, 0, none⟩) (s103.1.l.set (r1.1.toNat + s103.2.toNat) r168).length C0]) (by rw [List.length_set ..]) rfl ?_
   refine Ln (Eb (Et (Tr ?_)))
   refine Lq 3 ?_
   refine Ln ?_
   obtain rfl := sm H180
   exact Eg (_, ()) (hag147 _ rfl) [1, 0, 0] [] 1
  refine Tx (Ex (Ex (Eh ?_)))
  obtain rfl := sm H150
  have hb := hbr148 _ rfl
  subst e142
  exact Eg0 [0, 0, 0] 0
 refine Ts (Tr ?_)
 refine Lq 2 ?_
 refine Ln (Et (Tv ?_))
 obtain rfl := sm H144
 exact Eo1 (a20, c21) [2, 1, 0] []

theorem c_screen_Screen_up {s_ : ScreenScreen} {n_ : Int} {r : (List RowRow) × ScreenScreen} (H : p_screen_Screen_up s_ n_ = some r) : CT G 161 [.pointer (some ⟨N0, 0, none⟩), .int .i64 n_] [Ch.box N0 132 [.pointer (some ⟨N1, 0, none⟩), .int .i64 s_.spot.x, .int .i64 s_.spot.y, .int .i64 s_.spot.style.fore, .int .i64 s_.spot.style.back, .bool s_.spot.style.bold, .bool s_.spot.style.under, .bool s_.spot.style.inverse, .int .i64 s_.saved.x, .int .i64 s_.saved.y, .int .i64 s_.saved.style.fore, .int .i64 s_.saved.style.back, .bool s_.saved.style.bold, .bool s_.saved.style.under, .bool s_.saved.style.inverse, .bool s_.waiting, .int .i64 s_.top, .int .i64 s_.bottom, .bool s_.wraps, .string s_.title], Ch.box N1 181 [.int .i64 s_.g.w, .slice A0 s_.g.l.length C0], Ch.arr tyRowRow 99 A0 C0 s_.g.l] [] (fun h : (Option Addr × Nat) => .slice h.1 r.1.length h.2) (fun h => [Ch.arr tyRowRow 99 h.1 h.2 r.1, Ch.box N0 132 [.pointer (some ⟨N1, 0, none⟩), .int .i64 r.2.spot.x, .int .i64 r.2.spot.y, .int .i64 r.2.spot.style.fore, .int .i64 r.2.spot.style.back, .bool r.2.spot.style.bold, .bool r.2.spot.style.under, .bool r.2.spot.style.inverse, .int .i64 r.2.saved.x, .int .i64 r.2.saved.y, .int .i64 r.2.saved.style.fore, .int .i64 r.2.saved.style.back, .bool r.2.saved.style.bold, .bool r.2.saved.style.under, .bool r.2.saved.style.inverse, .bool r.2.waiting, .int .i64 r.2.top, .int .i64 r.2.bottom, .bool r.2.wraps, .string r.2.title], Ch.box N1 181 [.int .i64 r.2.g.w, .slice A0 r.2.g.l.length C0], Ch.arr tyRowRow 99 A0 C0 r.2.g.l]) (fun h => []) := by
 delta p_screen_Screen_up at H
 refine CT.of Go.Proofs.Tryz.func161 (by kernel_rfl) rfl rfl rfl fun K => ?_
 refine Ts (Tr ?_)
 refine Lq 1 ?_
 refine Ln (Et (Ts ?_))
 refine Td [15] [0, 0, 0] mo ?_
 refine Dq 0 ?_
 refine Dq 1 ?_
 refine Dq 2 ?_
 refine Db 3 0 ?_
 refine Dq 4 ?_
 refine Dq 5 ?_
 refine Dq 6 ?_
 refine Db 7 0 ?_
 refine Dq 8 ?_
 refine Dq 9 ?_
 refine Dq 10 ?_
 refine Db 11 0 ?_
 refine Dq 12 ?_
 refine Dq 13 ?_
 obtain ⟨r31, h32, H33⟩ := bnd H
 refine D.one rfl rfl rfl (Dp.br (Ac.call (c_screen_Screen_num h32) rfl rfl rfl rfl) (Bw.bx 0 rfl (Bw.bx 1 rfl (Bw.ch 2 rfl (Bw.nil)))) rfl rfl rfl rfl ?_)
 intro _
 obtain ⟨r34, h35, H36⟩ := bnd H33
 refine Dkl [1, 1] [] (c_grid_Grid_Up h35) fun ⟨a37, c38⟩ => ?_
 refine Dq 16 ?_
 refine Dn ?_
 refine Et (Ts (Ts (Tr ?_)))
 refine Lq 3 ?_
 refine Lb 3 ?_
 refine Lq 1 ?_
 refine Ln (Et ?_)
 refine Tb H36 (fun H42 => ?_) fun H42 => ?_
 ·refine Ts (Tr ?_)
  refine Lq 1 ?_
  refine Ln (Et (Tv (Er ?_)))
  refine E.nil0 tyRowRow 99 ?_
  obtain rfl := sm H42
  exact Eo1 (none, 0) [0, 3, 1, 1] []
 refine Tk (Et (Ts (Tr ?_)))
 refine Lq 2 ?_
 refine Ln (Et (Tv ?_))
 obtain rfl := sm H42
 exact Eo1 (a37, c38) [0, 2, 0, 0] []

theorem c_screen_Screen_line {s_ : ScreenScreen} {r : (List RowRow) × ScreenScreen} (H : p_screen_Screen_line s_ = some r) : CT G 149 [.pointer (some ⟨N0, 0, none⟩)] [Ch.box N0 132 [.pointer (some ⟨N1, 0, none⟩), .int .i64 s_.spot.x, .int .i64 s_.spot.y, .int .i64 s_.spot.style.fore, .int .i64 s_.spot.style.back, .bool s_.spot.style.bold, .bool s_.spot.style.under, .bool s_.spot.style.inverse, .int .i64 s_.saved.x, .int .i64 s_.saved.y, .int .i64 s_.saved.style.fore, .int .i64 s_.saved.style.back, .bool s_.saved.style.bold, .bool s_.saved.style.under, .bool s_.saved.style.inverse, .bool s_.waiting, .int .i64 s_.top, .int .i64 s_.bottom, .bool s_.wraps, .string s_.title], Ch.box N1 181 [.int .i64 s_.g.w, .slice A0 s_.g.l.length C0], Ch.arr tyRowRow 99 A0 C0 s_.g.l] [] (fun h : (Option Addr × Nat) => .slice h.1 r.1.length h.2) (fun h => [Ch.arr tyRowRow 99 h.1 h.2 r.1, Ch.box N0 132 [.pointer (some ⟨N1, 0, none⟩), .int .i64 r.2.spot.x, .int .i64 r.2.spot.y, .int .i64 r.2.spot.style.fore, .int .i64 r.2.spot.style.back, .bool r.2.spot.style.bold, .bool r.2.spot.style.under, .bool r.2.spot.style.inverse, .int .i64 r.2.saved.x, .int .i64 r.2.saved.y, .int .i64 r.2.saved.style.fore, .int .i64 r.2.saved.style.back, .bool r.2.saved.style.bold, .bool r.2.saved.style.under, .bool r.2.saved.style.inverse, .bool r.2.waiting, .int .i64 r.2.top, .int .i64 r.2.bottom, .bool r.2.wraps, .string r.2.title], Ch.box N1 181 [.int .i64 r.2.g.w, .slice A0 r.2.g.l.length C0], Ch.arr tyRowRow 99 A0 C0 r.2.g.l]) (fun h => []) := by
 delta p_screen_Screen_line at H
 refine CT.of Go.Proofs.Tryz.func149 (by kernel_rfl) rfl rfl rfl fun K => ?_
 refine Ts (Tr ?_)
 refine Lq 1 ?_
 refine Ln (Et (Ts (Tr ?_)))
 refine Lq 3 ?_
 refine Lt 0 ?_
 refine Ln (Et (Ts (Ts ?_)))
 refine Td [] [0, 0, 0] mo ?_
 refine Dq 0 ?_
 refine Dq 1 ?_
 refine Dq 2 ?_
 refine Dq 3 ?_
 refine Db 4 0 ?_
 refine Dq 5 ?_
 refine Dq 6 ?_
 refine Dq 7 ?_
 refine Db 8 0 ?_
 refine Dq 9 ?_
 refine Dn ?_
 refine Et ?_
 refine Tb H (fun H9 => ?_) fun H9 => ?_
 ·refine Ts (Tr ?_)
  refine Lq 1 ?_
  obtain ⟨r10, h11, H12⟩ := bnd H9
  refine Lk [0, 0, 0] [] (c_screen_Screen_up h11) fun ⟨a13, c14⟩ => ?_
  refine Lq 1 ?_
  refine Ln (Et (Tv (Er ?_)))
  obtain rfl := sm H12
  exact Eo1 (a13, c14) [0, 0, 0, 0] []
 refine Tk (Et (Ts ?_))
 refine Td [12] [0, 0, 0] mo ?_
 refine Dq 0 ?_
 refine Dq 1 ?_
 refine Dq 2 ?_
 refine Dq 3 ?_
 refine Dq 4 ?_
 refine Db 5 0 ?_
 refine Dq 6 ?_
 refine Dq 7 ?_
 refine Dq 8 ?_
 refine Dq 9 ?_
 refine Db 10 0 ?_
 refine Dq 11 ?_
 obtain ⟨r29, h30, H31⟩ := bnd H9
 refine Dkl [0, 0, 0] [] (c_screen_Screen_move h30) fun ⟨⟩ => ?_
 refine Dn ?_
 refine Et (Ts (Tr ?_))
 refine Lq 1 ?_
 refine Ln (Et (Tv ?_))
 refine E.nil0 tyRowRow 99 ?_
 obtain rfl := sm H31
 exact Eo1 (none, 0) [0, 0, 0, 0] []

theorem c_row_Row_Fill {r_ : RowRow} {style : Int} {r : RowRow} (H : p_row_Row_Fill r_ style = some r) : CT G 151 [.agg #[.slice A0 r_.cells.length C0, .bool r_.wrapped], .int .i64 style] [] [Im.sl tyRowCell A0 C0 r_.cells] (fun h : (Option Addr × Nat) => .agg #[.slice h.1 r.cells.length h.2, .bool r.wrapped]) (fun h => []) (fun h => [Im.sl tyRowCell h.1 h.2 r.cells]) := by
 delta p_row_Row_Fill at H
 refine CT.of Go.Proofs.Tryz.func151 (by kernel_rfl) rfl rfl rfl fun K => ?_
 refine Ts (Tr ?_)
 refine Lx fun g1 => ?_
 refine Ll fun g2 => ?_
 refine Ln (Et (Ts (Tr ?_)))
 refine Lb 1 ?_
 obtain ⟨r3, h4, H5⟩ := bnd H
 refine Lk [] [0] (c_row_Row_cells h4) fun ⟨a6, c7⟩ => ?_
 refine Lq 1 ?_
 refine Ln (Et (Ts (Ts (Tr ?_))))
 refine Lq 3 ?_
 refine Ln (Et (Ts (Tr ?_)))
 refine Lq 2 ?_
 refine Ln (Et ?_)
 obtain ⟨e25, H26, H27⟩ := bnd H5
 refine Tj0 [(5, .slice a6 e25.length c7)] [4] [Ch.arr tyRowCell 123 a6 c7 e25] [1, 2] ?_ ?_
 ·refine Tb H26 (fun H28 => ?_) fun H28 => ?_
  ·refine Tr ?_
   refine Lq 5 ?_
   obtain ⟨x29, h30, H31⟩ := bnd H28
   refine L.addro 0 rfl (idx_lt h30) fun b32 e33 => ?_
   subst e33
   refine Ly (Yl.ia h30 rfl rfl rfl rfl rfl rfl) ?_
   refine La [0] [] (Ac.se 0 (RowCell.mk 32 style 3) (idx_some h30).2 rfl rfl rfl rfl rfl rfl (fun _ => ⟨(), rfl, [], rfl⟩)) fun _ => ?_
   refine L.sl 5 (k' := (r3.set ((IntKind.i64.wrap ((r3.length : Int) - 1)).toNat) (RowCell.mk 32 style 3)).length) (List.length_set ..) rfl ?_
   refine Ln ?_
   obtain rfl := sm H31
   exact Eg0 [0, 0, 0] 0
  refine Tk ?_
  obtain rfl := sm H28
  exact Eg0 [0, 0, 0] 0
 refine Ts (Tr ?_)
 refine Lq 1 ?_
 obtain ⟨r35, h36, H37⟩ := bnd H27
 refine Lk [0] [] (c_row_mend h36) fun ⟨⟩ => ?_
 refine Ll fun g39 => ?_
 refine Lt 0 ?_
 refine Ln (Et (Ts (Tr ?_)))
 refine Lq 1 ?_
 refine Lt 0 ?_
 refine Ln (Et (Ts (Tr ?_)))
 refine Lb 0 ?_
 refine Lt 1 ?_
 refine Ln (Et (Tv ?_))
 obtain rfl := sm H37
 exact Eo (a6, c7) [] [0] (.cell 0 rfl rfl rfl .nil)

theorem c_screen_Screen_print_2 {r_ : RowRow} {x1 : ScreenScreen} {r : RowRow} (H : p_screen_Screen_print_2 r_ x1 = some r) : CT G 150 [.agg #[.slice A0 r_.cells.length C0, .bool r_.wrapped], .pointer (some ⟨N0, 0, none⟩)] [Ch.box N0 35 [.pointer (some ⟨N1, 0, none⟩)], Ch.box N1 132 [.pointer (some ⟨N2, 0, none⟩), .int .i64 x1.spot.x, .int .i64 x1.spot.y, .int .i64 x1.spot.style.fore, .int .i64 x1.spot.style.back, .bool x1.spot.style.bold, .bool x1.spot.style.under, .bool x1.spot.style.inverse, .int .i64 x1.saved.x, .int .i64 x1.saved.y, .int .i64 x1.saved.style.fore, .int .i64 x1.saved.style.back, .bool x1.saved.style.bold, .bool x1.saved.style.under, .bool x1.saved.style.inverse, .bool x1.waiting, .int .i64 x1.top, .int .i64 x1.bottom, .bool x1.wraps, .string x1.title], Ch.box N2 181 [.int .i64 x1.g.w, .slice A1 x1.g.l.length C1], Ch.arr tyRowRow 99 A1 C1 x1.g.l] [Im.sl tyRowCell A0 C0 r_.cells] (fun h : (Option Addr × Nat) => .agg #[.slice h.1 r.cells.length h.2, .bool r.wrapped]) (fun h => [Ch.box N0 35 [.pointer (some ⟨N1, 0, none⟩)], Ch.box N1 132 [.pointer (some ⟨N2, 0, none⟩), .int .i64 x1.spot.x, .int .i64 x1.spot.y, .int .i64 x1.spot.style.fore, .int .i64 x1.spot.style.back, .bool x1.spot.style.bold, .bool x1.spot.style.under, .bool x1.spot.style.inverse, .int .i64 x1.saved.x, .int .i64 x1.saved.y, .int .i64 x1.saved.style.fore, .int .i64 x1.saved.style.back, .bool x1.saved.style.bold, .bool x1.saved.style.under, .bool x1.saved.style.inverse, .bool x1.waiting, .int .i64 x1.top, .int .i64 x1.bottom, .bool x1.wraps, .string x1.title], Ch.box N2 181 [.int .i64 x1.g.w, .slice A1 x1.g.l.length C1], Ch.arr tyRowRow 99 A1 C1 x1.g.l]) (fun h => [Im.sl tyRowCell h.1 h.2 r.cells]) := by
 delta p_screen_Screen_print_2 at H
 refine CT.of Go.Proofs.Tryz.func150 (by kernel_rfl) rfl rfl rfl fun K => ?_
 refine Ts (Tr ?_)
 refine Lx fun g1 => ?_
 refine Ll fun g2 => ?_
 refine Ln (Et (Ts ?_))
 refine Td [3, 4] [0, 0, 0, 0, 0, 0] mo ?_
 refine Db 0 1 ?_
 refine Db 1 2 ?_
 obtain ⟨r30, h31, H32⟩ := bnd H
 refine D.one rfl rfl rfl (Dp.br (Ac.call (c_screen_Screen_num h31) rfl rfl rfl rfl) (Bw.bx 3 rfl (Bw.bx 4 rfl (Bw.ch 5 rfl (Bw.nil)))) rfl rfl rfl rfl ?_)
 intro _
 obtain ⟨r33, h34, H35⟩ := bnd H32
 refine Dkl [] [0] (c_row_Row_Fill h34) fun ⟨a36, c37⟩ => ?_
 refine Dt 0 ?_
 refine Dn ?_
 refine Et (Tv ?_)
 obtain rfl := sm H35
 exact Eo (a36, c37) [2, 2, 2, 2] [0] (.cell 0 rfl rfl rfl .nil)

theorem c_screen_Screen_edit_Screen_print_2 {s_ : ScreenScreen} {r : ScreenScreen} (H : p_screen_Screen_edit_Screen_print_2 s_ = some r) : CT G 147 [.pointer (some ⟨N0, 0, none⟩), .func (.func 150) #[] #[.pointer (some ⟨N2, 0, none⟩)]] [Ch.box N0 132 [.pointer (some ⟨N1, 0, none⟩), .int .i64 s_.spot.x, .int .i64 s_.spot.y, .int .i64 s_.spot.style.fore, .int .i64 s_.spot.style.back, .bool s_.spot.style.bold, .bool s_.spot.style.under, .bool s_.spot.style.inverse, .int .i64 s_.saved.x, .int .i64 s_.saved.y, .int .i64 s_.saved.style.fore, .int .i64 s_.saved.style.back, .bool s_.saved.style.bold, .bool s_.saved.style.under, .bool s_.saved.style.inverse, .bool s_.waiting, .int .i64 s_.top, .int .i64 s_.bottom, .bool s_.wraps, .string s_.title], Ch.box N1 181 [.int .i64 s_.g.w, .slice A0 s_.g.l.length C0], Ch.arr tyRowRow 99 A0 C0 s_.g.l, Ch.box N2 35 [.pointer (some ⟨N0, 0, none⟩)]] [] (fun _ : Unit => .tuple #[]) (fun h => [Ch.box N0 132 [.pointer (some ⟨N1, 0, none⟩), .int .i64 r.spot.x, .int .i64 r.spot.y, .int .i64 r.spot.style.fore, .int .i64 r.spot.style.back, .bool r.spot.style.bold, .bool r.spot.style.under, .bool r.spot.style.inverse, .int .i64 r.saved.x, .int .i64 r.saved.y, .int .i64 r.saved.style.fore, .int .i64 r.saved.style.back, .bool r.saved.style.bold, .bool r.saved.style.under, .bool r.saved.style.inverse, .bool r.waiting, .int .i64 r.top, .int .i64 r.bottom, .bool r.wraps, .string r.title], Ch.box N1 181 [.int .i64 r.g.w, .slice A0 r.g.l.length C0], Ch.arr tyRowRow 99 A0 C0 r.g.l, Ch.box N2 35 [.pointer (some ⟨N0, 0, none⟩)]]) (fun h => []) := by
 delta p_screen_Screen_edit_Screen_print_2 at H
 refine CT.of Go.Proofs.Tryz.func147 (by kernel_rfl) rfl rfl rfl fun K => ?_
 refine Td [21] [0, 0, 0, 0] mo ?_
 refine Dq 0 ?_
 refine Dq 1 ?_
 refine Dq 2 ?_
 refine Db 3 0 ?_
 refine Dq 4 ?_
 refine Dq 5 ?_
 refine Dq 6 ?_
 refine Dq 7 ?_
 refine Db 8 0 ?_
 refine Dq 9 ?_
 refine Dq 10 ?_
 refine Dq 11 ?_
 refine Dq 12 ?_
 refine Db 13 0 ?_
 refine Dq 14 ?_
 refine Dq 15 ?_
 refine Dq 16 ?_
 refine Dq 17 ?_
 refine Db 18 0 ?_
 obtain ⟨r17, h18, H19⟩ := bnd H
 refine D.one rfl rfl rfl (Dp.ab [1, 1] [] [2, 0, 0, 0] (Ac.call (c_grid_Grid_Row h18) rfl rfl rfl rfl) rfl rfl rfl rfl rfl rfl (fun _ => rfl) ?_)
 rintro ⟨a20, c21⟩
 obtain ⟨r23, h24, H25⟩ := bnd H19
 refine D.one rfl rfl rfl (Dp.ab [3, 0, 0, 0] [0] [1, 1, 1, 0] (Ac.call (c_screen_Screen_print_2 h24) rfl rfl rfl rfl) rfl rfl rfl rfl rfl rfl (fun _ => rfl) ?_)
 rintro ⟨a26, c27⟩
 obtain ⟨r29, h30, H31⟩ := bnd H25
 refine Dkl [1, 1] [0] (c_grid_Grid_Set h30) fun ⟨⟩ => ?_
 refine Dn ?_
 refine E.off ?_
 obtain rfl := sm H31
 exact Eo () [2, 0, 0, 0] [] .nil

theorem c_row_Row_Put {r_ : RowRow} {at_ : Int} {x_ : Int} {style : Int} {r : RowRow} (H : p_row_Row_Put r_ at_ x_ style = some r) : CT G 154 [.agg #[.slice A0 r_.cells.length C0, .bool r_.wrapped], .int .i64 at_, .int .i32 x_, .int .i64 style] [] [Im.sl tyRowCell A0 C0 r_.cells, Im.sl tyWideSpan (some ⟨0, 0, none⟩) 13 t_wide_nones, Im.sl tyWideSpan (some ⟨1, 0, none⟩) 14 t_wide_twos] (fun h : (Option Addr × Nat) => .agg #[.slice h.1 r.cells.length h.2, .bool r.wrapped]) (fun h => []) (fun h => [Im.sl tyRowCell h.1 h.2 r.cells]) := by
 delta p_row_Row_Put at H
 refine CT.of Go.Proofs.Tryz.func154 (by kernel_rfl) rfl rfl rfl fun K => ?_
 refine Ts (Tr ?_)
 refine Lx fun g1 => ?_
 refine Ll fun g2 => ?_
 refine Ln (Et (Ts (Tr ?_)))
 refine Lb 1 ?_
 obtain ⟨r3, h4, H5⟩ := bnd H
 refine Lk [] [0] (c_row_Row_cells h4) fun ⟨a6, c7⟩ => ?_
 refine Lq 1 ?_
 refine Ln (Et (Ts (Tr ?_)))
 refine Lq 1 ?_
 obtain ⟨r9, h10, H11⟩ := bnd H5
 refine Lk [] [1, 2] (c_wide_Of h10) fun ⟨⟩ => ?_
 refine Lq 1 ?_
 refine Ln (Et (Ts ?_))
 obtain ⟨e124, H125, H126⟩ := bnd H11
 refine Tj0 [(9, .slice a6 e124.length c7)] [8] [Ch.arr tyRowCell 123 a6 c7 e124] [1, 2] ?_ ?_
 ·refine Tl (Ts ?_)
  obtain ⟨e132, H133, H134⟩ := bnd H125
  refine Tj0 [(50, .bool e132)] [1, 2, 3, 8, 9, 10] [] [1, 2, 0] ?_ ?_
  ·refine Tr ?_
   refine Lq 3 ?_
   refine Lw 53 H133 (fun H135 => ?_) fun H135 => ?_
   ·refine Lq 12 ?_
    refine Ln ?_
    obtain rfl := sm H135
    exact Eg0 [1, 1, 0] 0
   refine Lq 4 ?_
   refine Lw 57 H135 (fun H136 => ?_) fun H136 => ?_
   ·refine Lq 8 ?_
    refine Ln ?_
    obtain rfl := sm H136
    exact Eg0 [1, 1, 0] 0
   refine Lq 8 ?_
   refine Ln ?_
   obtain rfl := sm H136
   exact Eg0 [1, 1, 0] 0
  refine Tb H134 (fun H137 => ?_) fun H137 => ?_
  ·refine Tk (Eb ?_)
   obtain rfl := sm H137
   exact Eg0 [2, 0, 0] 0
  refine Ts (Tr ?_)
  refine Lq 3 ?_
  refine Ln (Et ?_)
  refine Tb H137 (fun H138 => ?_) fun H138 => ?_
  ·refine Tr ?_
   refine Lq 5 ?_
   obtain ⟨x139, h140, H141⟩ := bnd H138
   refine L.addro 2 rfl (idx_lt h140) fun b142 e143 => ?_
   subst e143
   refine Ly (Yl.ia h140 rfl rfl rfl rfl rfl rfl) ?_
   refine La [2] [] (Ac.se 0 (RowCell.mk x_ style 0) (idx_some h140).2 rfl rfl rfl rfl rfl rfl (fun _ => ⟨(), rfl, [], rfl⟩)) fun _ => ?_
   refine L.sl 9 (k' := (r3.set at_.toNat (RowCell.mk x_ style 0)).length) (List.length_set ..) rfl ?_
   refine Ln (Eb ?_)
   obtain rfl := sm H141
   exact Eg0 [0, 0, 0] 0
  refine Ts (Tr ?_)
  refine Lq 11 ?_
  obtain ⟨x145, h146, H147⟩ := bnd H138
  refine L.addro 2 rfl (idx_lt h146) fun b148 e149 => ?_
  subst e149
  refine Ly (Yl.ia h146 rfl rfl rfl rfl rfl rfl) ?_
  refine La [2] [] (Ac.se 0 (RowCell.mk x_ style 1) (idx_some h146).2 rfl rfl rfl rfl rfl rfl (fun _ => ⟨(), rfl, [], rfl⟩)) fun _ => ?_
  refine L.sl 9 (k' := (r3.set at_.toNat (RowCell.mk x_ style 1)).length) (List.length_set ..) rfl ?_
  refine L.sl 17 (k' := (r3.set at_.toNat (RowCell.mk x_ style 1)).length) (List.length_set ..) rfl ?_
  obtain ⟨x151, h152, H153⟩ := bnd H147
  refine Ly (Yl.ia h152 rfl rfl rfl rfl rfl rfl) ?_
  refine La [0] [] (Ac.se 0 (RowCell.mk x_ style 2) (idx_some h152).2 rfl rfl rfl rfl rfl rfl (fun _ => ⟨(), rfl, [], rfl⟩)) fun _ => ?_
  refine L.sl 9 (k' := ((r3.set at_.toNat (RowCell.mk x_ style 1)).set ((IntKind.i64.wrap (at_ + 1)).toNat) (RowCell.mk x_ style 2)).length) (List.length_set ..) rfl ?_
  refine Ln (Et (Ts ?_))
  obtain ⟨e164, H165, H166⟩ := bnd H153
  refine Tj0 [(38, .bool e164)] [1, 8, 9] [] [1, 2, 0] ?_ ?_
  ·refine Tr ?_
   refine Lq 3 ?_
   refine Lw 30 H165 (fun H167 => ?_) fun H167 => ?_
   ·refine Lq 3 ?_
    obtain ⟨x168, h169, H170⟩ := bnd H167
    refine Ly (Yl.ia h169 rfl rfl rfl rfl rfl rfl) ?_
    refine Lq 1 ?_
    refine Ly (Yl.lo (v := .int .i64 x168.part) 0 ((IntKind.i64.wrap (at_ - 1)).toNat) 2 (idx_some h169).2 rfl rfl rfl rfl (fun _ => rfl)) ?_
    refine Lq 2 ?_
    refine Ln ?_
    obtain rfl := sm H170
    exact Eg0 [1, 1, 0] 0
   refine Lq 8 ?_
   refine Ln ?_
   obtain rfl := sm H167
   exact Eg0 [1, 1, 0] 0
  refine Tb H166 (fun H171 => ?_) fun H171 => ?_
  ·refine Tr ?_
   refine Lq 6 ?_
   obtain ⟨x172, h173, H174⟩ := bnd H171
   refine Ly (Yl.ia h173 rfl rfl rfl rfl rfl rfl) ?_
   refine Lq 1 ?_
   refine Ly (Yl.lo (v := .int .i64 x172.style) 2 ((IntKind.i64.wrap (at_ - 1)).toNat) 1 (idx_some h173).2 rfl rfl rfl rfl (fun _ => rfl)) ?_
   obtain ⟨r175, h176, H177⟩ := bnd H174
   refine Lk [] [] (c_row_blank h176) fun ⟨⟩ => ?_
   obtain ⟨x178, h179, H180⟩ := bnd H177
   refine Ly (Yl.ia h179 rfl rfl rfl rfl rfl rfl) ?_
   refine La [2] [] (Ac.se 0 r175 (idx_some h179).2 rfl rfl rfl rfl rfl rfl (fun _ => ⟨(), rfl, [], rfl⟩)) fun _ => ?_
   refine L.sl 9 (k' := (((r3.set at_.toNat (RowCell.mk x_ style 1)).set ((IntKind.i64.wrap (at_ + 1)).toNat) (RowCell.mk x_ style 2)).set ((IntKind.i64.wrap (at_ - 1)).toNat) r175).length) (List.length_set ..) rfl ?_
   refine Ln (Eb ?_)
   obtain rfl := sm H180
   exact Eg0 [0, 0, 0] 0
  refine Tk (Eb ?_)
  obtain rfl := sm H171
  exact Eg0 [2, 0, 0] 0
 refine Ts (Tr ?_)
 refine Lq 1 ?_
 obtain ⟨r182, h183, H184⟩ := bnd H126
 refine Lk [0] [] (c_row_mend h183) fun ⟨⟩ => ?_
 refine Lt 0 ?_
 refine Ln (Et (Tv ?_))
 obtain rfl := sm H184
 exact Eo (a6, c7) [] [0] (.cell 0 rfl rfl rfl .nil)

end Go.Tw.X

set_option maxHeartbeats 2000000
set_option linter.unusedVariables false
set_option linter.unusedSimpArgs false
set_option maxRecDepth 10000
namespace Go.Tw.X
open Go Go.Tw
variable {A0 A1 A2 A3 A4 A5 A6 A7 A8 : Option Addr} {C0 C1 C2 C3 C4 C5 C6 C7 C8 : Nat}
variable {N0 N1 N2 N3 N4 : Nat}
theorem c_screen_Screen_print_3 {q : RowRow} {x1 : ScreenScreen} {x2 : Int} {r : RowRow} (H : p_screen_Screen_print_3 q x1 x2 = some r) : CT G 153 [.agg #[.slice A0 q.cells.length C0, .bool q.wrapped], .pointer (some ⟨N0, 0, none⟩), .pointer (some ⟨N3, 0, none⟩)] [Ch.box N0 35 [.pointer (some ⟨N1, 0, none⟩)], Ch.box N1 132 [.pointer (some ⟨N2, 0, none⟩), .int .i64 x1.spot.x, .int .i64 x1.spot.y, .int .i64 x1.spot.style.fore, .int .i64 x1.spot.style.back, .bool x1.spot.style.bold, .bool x1.spot.style.under, .bool x1.spot.style.inverse, .int .i64 x1.saved.x, .int .i64 x1.saved.y, .int .i64 x1.saved.style.fore, .int .i64 x1.saved.style.back, .bool x1.saved.style.bold, .bool x1.saved.style.under, .bool x1.saved.style.inverse, .bool x1.waiting, .int .i64 x1.top, .int .i64 x1.bottom, .bool x1.wraps, .string x1.title], Ch.box N2 181 [.int .i64 x1.g.w, .slice A1 x1.g.l.length C1], Ch.arr tyRowRow 99 A1 C1 x1.g.l, Ch.box N3 21 [.int .i32 x2]] [Im.sl tyRowCell A0 C0 q.cells, Im.sl tyWideSpan (some ⟨0, 0, none⟩) 13 t_wide_nones, Im.sl tyWideSpan (some ⟨1, 0, none⟩) 14 t_wide_twos] (fun h : (Option Addr × Nat) => .agg #[.slice h.1 r.cells.length h.2, .bool r.wrapped]) (fun h => [Ch.box N0 35 [.pointer (some ⟨N1, 0, none⟩)], Ch.box N1 132 [.pointer (some ⟨N2, 0, none⟩), .int .i64 x1.spot.x, .int .i64 x1.spot.y, .int .i64 x1.spot.style.fore, .int .i64 x1.spot.style.back, .bool x1.spot.style.bold, .bool x1.spot.style.under, .bool x1.spot.style.inverse, .int .i64 x1.saved.x, .int .i64 x1.saved.y, .int .i64 x1.saved.style.fore, .int .i64 x1.saved.style.back, .bool x1.saved.style.bold, .bool x1.saved.style.under, .bool x1.saved.style.inverse, .bool x1.waiting, .int .i64 x1.top, .int .i64 x1.bottom, .bool x1.wraps, .string x1.title], Ch.box N2 181 [.int .i64 x1.g.w, .slice A1 x1.g.l.length C1], Ch.arr tyRowRow 99 A1 C1 x1.g.l, Ch.box N3 21 [.int .i32 x2]]) (fun h => [Im.sl tyRowCell h.1 h.2 r.cells]) := by
 delta p_screen_Screen_print_3 at H
 refine CT.of Go.Proofs.Tryz.func153 (by kernel_rfl) rfl rfl rfl fun K => ?_
 refine Ts (Tr ?_)
 refine Lx fun g1 => ?_
 refine Ll fun g2 => ?_
 refine Ln (Et (Ts ?_))
 refine Td [9, 10] [0, 0, 0, 0, 0, 0, 0] mo ?_
 refine Db 0 1 ?_
 refine Db 1 2 ?_
 refine Dq 2 ?_
 refine Dq 3 ?_
 refine Dq 4 ?_
 refine Db 5 3 ?_
 refine Db 6 6 ?_
 refine Db 7 2 ?_
 obtain ⟨r30, h31, H32⟩ := bnd H
 refine D.one rfl rfl rfl (Dp.br (Ac.call (c_screen_Screen_num h31) rfl rfl rfl rfl) (Bw.bx 3 rfl (Bw.bx 4 rfl (Bw.ch 5 rfl (Bw.nil)))) rfl rfl rfl rfl ?_)
 intro _
 obtain ⟨r33, h34, H35⟩ := bnd H32
 refine Dkl [] [0, 1, 2] (c_row_Row_Put h34) fun ⟨a36, c37⟩ => ?_
 refine Dt 0 ?_
 refine Dn ?_
 refine Et (Tv ?_)
 obtain rfl := sm H35
 exact Eo (a36, c37) [2, 2, 2, 2, 2] [0] (.cell 0 rfl rfl rfl .nil)

theorem c_screen_Screen_edit_Screen_print_3 {s_ : ScreenScreen} {f_1 : Int} {r : ScreenScreen} (H : p_screen_Screen_edit_Screen_print_3 s_ f_1 = some r) : CT G 147 [.pointer (some ⟨N0, 0, none⟩), .func (.func 153) #[] #[.pointer (some ⟨N2, 0, none⟩), .pointer (some ⟨N3, 0, none⟩)]] [Ch.box N0 132 [.pointer (some ⟨N1, 0, none⟩), .int .i64 s_.spot.x, .int .i64 s_.spot.y, .int .i64 s_.spot.style.fore, .int .i64 s_.spot.style.back, .bool s_.spot.style.bold, .bool s_.spot.style.under, .bool s_.spot.style.inverse, .int .i64 s_.saved.x, .int .i64 s_.saved.y, .int .i64 s_.saved.style.fore, .int .i64 s_.saved.style.back, .bool s_.saved.style.bold, .bool s_.saved.style.under, .bool s_.saved.style.inverse, .bool s_.waiting, .int .i64 s_.top, .int .i64 s_.bottom, .bool s_.wraps, .string s_.title], Ch.box N1 181 [.int .i64 s_.g.w, .slice A0 s_.g.l.length C0], Ch.arr tyRowRow 99 A0 C0 s_.g.l, Ch.box N2 35 [.pointer (some ⟨N0, 0, none⟩)], Ch.box N3 21 [.int .i32 f_1]] [Im.sl tyWideSpan (some ⟨0, 0, none⟩) 13 t_wide_nones, Im.sl tyWideSpan (some ⟨1, 0, none⟩) 14 t_wide_twos] (fun _ : Unit => .tuple #[]) (fun h => [Ch.box N0 132 [.pointer (some ⟨N1, 0, none⟩), .int .i64 r.spot.x, .int .i64 r.spot.y, .int .i64 r.spot.style.fore, .int .i64 r.spot.style.back, .bool r.spot.style.bold, .bool r.spot.style.under, .bool r.spot.style.inverse, .int .i64 r.saved.x, .int .i64 r.saved.y, .int .i64 r.saved.style.fore, .int .i64 r.saved.style.back, .bool r.saved.style.bold, .bool r.saved.style.under, .bool r.saved.style.inverse, .bool r.waiting, .int .i64 r.top, .int .i64 r.bottom, .bool r.wraps, .string r.title], Ch.box N1 181 [.int .i64 r.g.w, .slice A0 r.g.l.length C0], Ch.arr tyRowRow 99 A0 C0 r.g.l, Ch.box N2 35 [.pointer (some ⟨N0, 0, none⟩)], Ch.box N3 21 [.int .i32 f_1]]) (fun h => []) := by
 delta p_screen_Screen_edit_Screen_print_3 at H
 refine CT.of Go.Proofs.Tryz.func147 (by kernel_rfl) rfl rfl rfl fun K => ?_
 refine Td [21] [0, 0, 0, 0, 0] mo ?_
 refine Dq 0 ?_
 refine Dq 1 ?_
 refine Dq 2 ?_
 refine Db 3 0 ?_
 refine Dq 4 ?_
 refine Dq 5 ?_
 refine Dq 6 ?_
 refine Dq 7 ?_
 refine Db 8 0 ?_
 refine Dq 9 ?_
 refine Dq 10 ?_
 refine Dq 11 ?_
 refine Dq 12 ?_
 refine Db 13 0 ?_
 refine Dq 14 ?_
 refine Dq 15 ?_
 refine Dq 16 ?_
 refine Dq 17 ?_
 refine Db 18 0 ?_
 obtain ⟨r17, h18, H19⟩ := bnd H
 refine D.one rfl rfl rfl (Dp.ab [1, 1] [] [2, 0, 0, 0, 0] (Ac.call (c_grid_Grid_Row h18) rfl rfl rfl rfl) rfl rfl rfl rfl rfl rfl (fun _ => rfl) ?_)
 rintro ⟨a20, c21⟩
 obtain ⟨r23, h24, H25⟩ := bnd H19
 refine D.one rfl rfl rfl (Dp.ab [3, 0, 0, 0, 0] [0, 1, 2] [1, 1, 1, 0, 0] (Ac.call (c_screen_Screen_print_3 h24) rfl rfl rfl rfl) rfl rfl rfl rfl rfl rfl (fun _ => rfl) ?_)
 rintro ⟨a26, c27⟩
 obtain ⟨r29, h30, H31⟩ := bnd H25
 refine Dkl [1, 1] [0] (c_grid_Grid_Set h30) fun ⟨⟩ => ?_
 refine Dn ?_
 refine E.off ?_
 obtain rfl := sm H31
 exact Eo () [2, 0, 0, 0, 0] [] .nil

theorem c_screen_Screen_print {s_ : ScreenScreen} {r_ : Int} {r : (List RowRow) × ScreenScreen} (H : p_screen_Screen_print s_ r_ = some r) : CT G 108 [.pointer (some ⟨N0, 0, none⟩), .int .i32 r_] [Ch.box N0 132 [.pointer (some ⟨N1, 0, none⟩), .int .i64 s_.spot.x, .int .i64 s_.spot.y, .int .i64 s_.spot.style.fore, .int .i64 s_.spot.style.back, .bool s_.spot.style.bold, .bool s_.spot.style.under, .bool s_.spot.style.inverse, .int .i64 s_.saved.x, .int .i64 s_.saved.y, .int .i64 s_.saved.style.fore, .int .i64 s_.saved.style.back, .bool s_.saved.style.bold, .bool s_.saved.style.under, .bool s_.saved.style.inverse, .bool s_.waiting, .int .i64 s_.top, .int .i64 s_.bottom, .bool s_.wraps, .string s_.title], Ch.box N1 181 [.int .i64 s_.g.w, .slice A0 s_.g.l.length C0], Ch.arr tyRowRow 99 A0 C0 s_.g.l] [Im.sl tyWideSpan (some ⟨0, 0, none⟩) 13 t_wide_nones, Im.sl tyWideSpan (some ⟨1, 0, none⟩) 14 t_wide_twos] (fun h : (Option Addr × Nat) => .slice h.1 r.1.length h.2) (fun h => [Ch.arr tyRowRow 99 h.1 h.2 r.1, Ch.box N0 132 [.pointer (some ⟨N1, 0, none⟩), .int .i64 r.2.spot.x, .int .i64 r.2.spot.y, .int .i64 r.2.spot.style.fore, .int .i64 r.2.spot.style.back, .bool r.2.spot.style.bold, .bool r.2.spot.style.under, .bool r.2.spot.style.inverse, .int .i64 r.2.saved.x, .int .i64 r.2.saved.y, .int .i64 r.2.saved.style.fore, .int .i64 r.2.saved.style.back, .bool r.2.saved.style.bold, .bool r.2.saved.style.under, .bool r.2.saved.style.inverse, .bool r.2.waiting, .int .i64 r.2.top, .int .i64 r.2.bottom, .bool r.2.wraps, .string r.2.title], Ch.box N1 181 [.int .i64 r.2.g.w, .slice A0 r.2.g.l.length C0], Ch.arr tyRowRow 99 A0 C0 r.2.g.l]) (fun h => []) := by
 delta p_screen_Screen_print at H
 refine CT.of Go.Proofs.Tryz.func108 (by kernel_rfl) rfl rfl rfl fun K => ?_
 refine Ts (Tr ?_)
 refine Lx fun g1 => ?_
 refine Lx fun g2 => ?_
 refine Lq 1 ?_
 refine Ln (Et (Ts (Tr ?_)))
 refine Lb 0 ?_
 obtain ⟨r3, h4, H5⟩ := bnd H
 refine Lk [] [0, 1] (c_wide_Of h4) fun ⟨⟩ => ?_
 refine Lq 1 ?_
 refine Ln (Et (Ts (Tr ?_)))
 refine Lb 1 ?_
 refine Lq 2 ?_
 refine Lb 2 ?_
 obtain ⟨r6, h7, H8⟩ := bnd H5
 refine Lk [3, 3] [] (c_grid_Grid_Size h7) fun ⟨⟩ => ?_
 refine Lq 5 ?_
 refine Ln (Et (Ts (Ts ?_)))
 obtain ⟨e12, H13, H14⟩ := bnd H8
 refine Tj0 [(25, .bool e12)] [2, 3, 5, 6] [] [0, 2, 3, 4, 1] ?_ ?_
 ·refine Tr ?_
  refine Lq 3 ?_
  refine Lw 21 H13 (fun H15 => ?_) fun H15 => ?_
  ·refine Lq 4 ?_
   refine Ln ?_
   obtain rfl := sm H15
   exact Eg0 [0, 1, 1, 1, 0] 0
  refine Lq 4 ?_
  refine Ln ?_
  obtain rfl := sm H15
  exact Eg0 [0, 1, 1, 1, 0] 0
 refine Tb H14 (fun H17 => ?_) fun H17 => ?_
 ·refine Ts (Tr ?_)
  refine Lq 1 ?_
  refine Ln (Et (Tv (Er ?_)))
  refine E.nil0 tyRowRow 99 ?_
  obtain rfl := sm H17
  exact Eo1 (none, 0) [0, 3, 0, 2] []
 refine Tk (Et (Ts (Tr ?_)))
 refine Lq 1 ?_
 refine Ln (Et (Ts (Ts ?_)))
 obtain ⟨e22, H23, H24⟩ := bnd H17
 refine Tj0 [(35, .bool e22)] [2, 3, 5, 6, 8] [] [0, 1, 2, 3, 4] ?_ ?_
 ·refine Tr ?_
  refine Lb 2 ?_
  refine Lq 2 ?_
  refine Lb 3 ?_
  refine Lq 1 ?_
  refine Lw 30 H23 (fun H25 => ?_) fun H25 => ?_
  ·refine Lb 2 ?_
   refine Lq 2 ?_
   refine Lb 3 ?_
   refine Lq 1 ?_
   refine Ln ?_
   obtain rfl := sm H25
   exact Eg0 [0, 0, 0, 0, 0] 0
  refine Lq 5 ?_
  refine Ln ?_
  obtain rfl := sm H25
  exact Eg0 [0, 0, 0, 0, 0] 0
 obtain ⟨e71, H72, H73⟩ := bnd H24
 refine Tjh (η := (Option Addr × Nat)) (fun h => (fun a65 c66 => [(8, .slice a65 e71.1.length c66)]) h.1 h.2) [2, 3, 5, 6] (fun h => (fun a65 c66 => [Ch.arr tyRowRow 99 a65 c66 e71.1, Ch.arr tyRowRow 99 A0 C0 e71.2.1.l, Ch.box N1 181 [.int .i64 e71.2.1.w, .slice A0 e71.2.1.l.length C0], Ch.box N0 132 [.pointer (some ⟨N1, 0, none⟩), .int .i64 e71.2.2.spot.x, .int .i64 e71.2.2.spot.y, .int .i64 e71.2.2.spot.style.fore, .int .i64 e71.2.2.spot.style.back, .bool e71.2.2.spot.style.bold, .bool e71.2.2.spot.style.under, .bool e71.2.2.spot.style.inverse, .int .i64 e71.2.2.saved.x, .int .i64 e71.2.2.saved.y, .int .i64 e71.2.2.saved.style.fore, .int .i64 e71.2.2.saved.style.back, .bool e71.2.2.saved.style.bold, .bool e71.2.2.saved.style.under, .bool e71.2.2.saved.style.inverse, .bool e71.2.2.waiting, .int .i64 e71.2.2.top, .int .i64 e71.2.2.bottom, .bool e71.2.2.wraps, .string e71.2.2.title]]) h.1 h.2) [1, 2] (fun _ => []) ?_ ?_
 ·refine Tb H72 (fun H74 => ?_) fun H74 => ?_
  ·refine Ts (Tr ?_)
   refine Lb 2 ?_
   obtain ⟨r75, h76, H77⟩ := bnd H74
   refine Lk [3, 0, 2] [] (c_screen_Screen_edit_Screen_print_1 h76) fun ⟨⟩ => ?_
   refine Ln (Et (Ts (Tr ?_)))
   refine Lb 4 ?_
   refine Lq 3 ?_
   refine Lt 0 ?_
   refine Ln (Et (Tr ?_))
   refine Lq 1 ?_
   refine Lb 4 ?_
   obtain ⟨r79, h80, H81⟩ := bnd H77
   refine Lk [0, 0, 0] [] (c_screen_Screen_line h80) fun ⟨a82, c83⟩ => ?_
   refine L.nil0 tyRowRow 99 ?_
   refine L.frz 1 rfl ?_
   obtain ⟨_, h88, H89⟩ := bnd H81
   refine La [0] [0] (Ac.ap (ty := tyRowRow) h88 rfl rfl rfl rfl rfl rfl rfl) ?_
   rintro ⟨a90, c91⟩
   refine Lq 1 ?_
   refine Ln ?_
   obtain rfl := sm H89
   exact Eg (a90, c91) trivial [0, 2, 1, 0, 0, 0] [] 1
  refine Tk ?_
  refine E.nil0 tyRowRow 99 ?_
  obtain rfl := sm H74
  exact Eg (none, 0) trivial [0, 4, 0, 2, 0, 0] [] 0
 rintro ⟨a65, c66⟩
 refine Ts (Ts (Tr ?_))
 refine Lb 5 ?_
 refine Lq 3 ?_
 refine Lb 3 ?_
 refine Lq 4 ?_
 refine Ln (Et ?_)
 obtain ⟨e139, H140, H141⟩ := bnd H73
 refine Tjh (η := (Option Addr × Nat)) (fun h => (fun a133 c134 => [(8, .slice a133 e139.1.length c134)]) h.1 h.2) [2, 3, 5, 6] (fun h => (fun a133 c134 => [Ch.arr tyRowRow 99 a133 c134 e139.1, Ch.arr tyRowRow 99 A0 C0 e139.2.1.l, Ch.box N1 181 [.int .i64 e139.2.1.w, .slice A0 e139.2.1.l.length C0], Ch.box N0 132 [.pointer (some ⟨N1, 0, none⟩), .int .i64 e139.2.2.spot.x, .int .i64 e139.2.2.spot.y, .int .i64 e139.2.2.spot.style.fore, .int .i64 e139.2.2.spot.style.back, .bool e139.2.2.spot.style.bold, .bool e139.2.2.spot.style.under, .bool e139.2.2.spot.style.inverse, .int .i64 e139.2.2.saved.x, .int .i64 e139.2.2.saved.y, .int .i64 e139.2.2.saved.style.fore, .int .i64 e139.2.2.saved.style.back, .bool e139.2.2.saved.style.bold, .bool e139.2.2.saved.style.under, .bool e139.2.2.saved.style.inverse, .bool e139.2.2.waiting, .int .i64 e139.2.2.top, .int .i64 e139.2.2.bottom, .bool e139.2.2.wraps, .string e139.2.2.title]]) h.1 h.2) [4, 5] (fun _ => []) ?_ ?_
 ·refine Tb H140 (fun H142 => ?_) fun H142 => ?_
  ·refine Ts (Tr ?_)
   refine Lb 5 ?_
   refine Lq 2 ?_
   refine Lb 3 ?_
   refine Ln (Et ?_)
   refine Tb H142 (fun H143 => ?_) fun H143 => ?_
   ·refine Ts (Tr ?_)
    refine Lb 5 ?_
    refine Lq 1 ?_
    obtain ⟨r144, h145, H146⟩ := bnd H143
    refine Lk [3, 2, 1, 2] [] (c_screen_Screen_edit_Screen_print_2 h145) fun ⟨⟩ => ?_
    refine Ln (Et (Ts (Tr ?_)))
    refine Lb 3 ?_
    refine Lq 3 ?_
    refine Lt 0 ?_
    refine Ln (Et (Tr ?_))
    refine Lq 1 ?_
    refine Lb 3 ?_
    obtain ⟨r148, h149, H150⟩ := bnd H146
    refine Lk [0, 0, 0] [] (c_screen_Screen_line h149) fun ⟨a151, c152⟩ => ?_
    refine L.frz 0 rfl ?_
    obtain ⟨_, h156, H157⟩ := bnd H150
    refine La [4] [0] (Ac.ap (ty := tyRowRow) h156 rfl rfl rfl rfl rfl rfl rfl) ?_
    rintro ⟨a158, c159⟩
    refine Lq 1 ?_
    refine Ln ?_
    obtain rfl := sm H157
    exact Eg (a158, c159) trivial [0, 2, 1, 0, 1, 0] [] 1
   refine Tr ?_
   refine Lb 5 ?_
   refine Lq 3 ?_
   refine Lb 3 ?_
   refine Lq 4 ?_
   refine Lt 3 ?_
   refine Ln ?_
   obtain rfl := sm H143
   exact Eg (a65, c66) trivial [1, 1, 1, 0, 0, 0] [] 0
  refine Tk ?_
  obtain rfl := sm H142
  exact Eg (a65, c66) trivial [0, 0, 0, 0, 0, 0] [] 0
 rintro ⟨a133, c134⟩
 refine Ts (Tr ?_)
 refine Lb 5 ?_
 refine Lq 1 ?_
 obtain ⟨r161, h162, H163⟩ := bnd H141
 refine Lk [3, 2, 1, 2, 1] [0, 1] (c_screen_Screen_edit_Screen_print_3 h162) fun ⟨⟩ => ?_
 refine Ln (Et (Ts (Tr ?_)))
 refine Lb 3 ?_
 refine Lq 3 ?_
 refine Lb 0 ?_
 refine Lq 5 ?_
 refine Lt 0 ?_
 refine Ln (Et (Ts ?_))
 refine Td [10] [0, 0, 0, 0, 0, 0] mo ?_
 refine Db 0 3 ?_
 refine Db 1 3 ?_
 refine Dq 2 ?_
 refine Dq 3 ?_
 refine Dq 4 ?_
 refine Db 5 0 ?_
 refine Dq 6 ?_
 refine Dq 7 ?_
 refine Dq 8 ?_
 refine Dq 9 ?_
 refine Dt 0 ?_
 refine Dn ?_
 refine Et (Ts ?_)
 refine Td [12] [0, 0, 0, 0, 0, 0] mo ?_
 refine Db 0 3 ?_
 refine Db 1 3 ?_
 refine Dq 2 ?_
 refine Dq 3 ?_
 refine Dq 4 ?_
 refine Db 5 0 ?_
 refine Dq 6 ?_
 refine Dq 7 ?_
 refine Dq 8 ?_
 refine Dq 9 ?_
 refine Dq 10 ?_
 refine Dq 11 ?_
 refine Dt 0 ?_
 refine Dn ?_
 refine Et (Ts (Tr ?_))
 refine Lq 2 ?_
 refine Ln (Et (Tv ?_))
 obtain rfl := sm H163
 exact Eo1 (a133, c134) [5, 0, 0, 0] []

theorem c_screen_Screen_control {s_ : ScreenScreen} {b : Int} {r : (List RowRow) × ScreenScreen} (H : p_screen_Screen_control s_ b = some r) : CT G 109 [.pointer (some ⟨N0, 0, none⟩), .int .u8 b] [Ch.box N0 132 [.pointer (some ⟨N1, 0, none⟩), .int .i64 s_.spot.x, .int .i64 s_.spot.y, .int .i64 s_.spot.style.fore, .int .i64 s_.spot.style.back, .bool s_.spot.style.bold, .bool s_.spot.style.under, .bool s_.spot.style.inverse, .int .i64 s_.saved.x, .int .i64 s_.saved.y, .int .i64 s_.saved.style.fore, .int .i64 s_.saved.style.back, .bool s_.saved.style.bold, .bool s_.saved.style.under, .bool s_.saved.style.inverse, .bool s_.waiting, .int .i64 s_.top, .int .i64 s_.bottom, .bool s_.wraps, .string s_.title], Ch.box N1 181 [.int .i64 s_.g.w, .slice A0 s_.g.l.length C0], Ch.arr tyRowRow 99 A0 C0 s_.g.l] [] (fun h : (Option Addr × Nat) => .slice h.1 r.1.length h.2) (fun h => [Ch.arr tyRowRow 99 h.1 h.2 r.1, Ch.box N0 132 [.pointer (some ⟨N1, 0, none⟩), .int .i64 r.2.spot.x, .int .i64 r.2.spot.y, .int .i64 r.2.spot.style.fore, .int .i64 r.2.spot.style.back, .bool r.2.spot.style.bold, .bool r.2.spot.style.under, .bool r.2.spot.style.inverse, .int .i64 r.2.saved.x, .int .i64 r.2.saved.y, .int .i64 r.2.saved.style.fore, .int .i64 r.2.saved.style.back, .bool r.2.saved.style.bold, .bool r.2.saved.style.under, .bool r.2.saved.style.inverse, .bool r.2.waiting, .int .i64 r.2.top, .int .i64 r.2.bottom, .bool r.2.wraps, .string r.2.title], Ch.box N1 181 [.int .i64 r.2.g.w, .slice A0 r.2.g.l.length C0], Ch.arr tyRowRow 99 A0 C0 r.2.g.l]) (fun h => []) := by
 delta p_screen_Screen_control at H
 refine CT.of Go.Proofs.Tryz.func109 (by kernel_rfl) rfl rfl rfl fun K => ?_
 refine Ts (Tr ?_)
 refine Lq 1 ?_
 refine Ln (Et (Ts (Ts (Tr ?_))))
 refine Lq 1 ?_
 refine Ln (Et ?_)
 obtain ⟨y87, H88, H89⟩ := bnd H
 refine Tj (η := (ScreenScreen × GridGrid) × Unit) (fun h => y87 = .inl h.1) (fun _ => []) [] (fun h => (fun e86 => [Ch.arr tyRowRow 99 A0 C0 e86.2.l, Ch.box N0 132 [.pointer (some ⟨N1, 0, none⟩), .int .i64 e86.1.spot.x, .int .i64 e86.1.spot.y, .int .i64 e86.1.spot.style.fore, .int .i64 e86.1.spot.style.back, .bool e86.1.spot.style.bold, .bool e86.1.spot.style.under, .bool e86.1.spot.style.inverse, .int .i64 e86.1.saved.x, .int .i64 e86.1.saved.y, .int .i64 e86.1.saved.style.fore, .int .i64 e86.1.saved.style.back, .bool e86.1.saved.style.bold, .bool e86.1.saved.style.under, .bool e86.1.saved.style.inverse, .bool e86.1.waiting, .int .i64 e86.1.top, .int .i64 e86.1.bottom, .bool e86.1.wraps, .string e86.1.title], Ch.box N1 181 [.int .i64 e86.2.w, .slice A0 e86.2.l.length C0]]) h.1) [] (fun _ => []) ?_ ?_
 ·refine Tl (Ts (Tr ?_))
  refine Lq 2 ?_
  refine Ln (Et ?_)
  refine Tb H88 (fun H90 => ?_) fun H90 => ?_
  ·refine Td [12] [0, 0, 0] mo ?_
   refine Dq 0 ?_
   refine Dq 1 ?_
   refine Dq 2 ?_
   refine Dq 3 ?_
   refine Dq 4 ?_
   refine Db 5 0 ?_
   refine Dq 6 ?_
   refine Dq 7 ?_
   refine Dq 8 ?_
   refine Dq 9 ?_
   refine Dq 10 ?_
   refine Db 11 0 ?_
   obtain ⟨r95, h96, H97⟩ := bnd H90
   refine Dkl [0, 0, 0] [] (c_screen_Screen_move h96) fun ⟨⟩ => ?_
   refine Dn ?_
   refine Eb ?_
   obtain rfl := sm H97
   exact Eg (_, ()) rfl [2, 0, 0] [] 0
  refine Ts (Tr ?_)
  refine Lq 2 ?_
  refine Ln (Et ?_)
  refine Tb H90 (fun H99 => ?_) fun H99 => ?_
  ·refine Td [14] [0, 0, 0] mo ?_
   refine Dq 0 ?_
   refine Dq 1 ?_
   refine Dq 2 ?_
   refine Dq 3 ?_
   refine Dq 4 ?_
   refine Db 5 0 ?_
   refine Dq 6 ?_
   refine Dq 7 ?_
   refine Dq 8 ?_
   refine Dq 9 ?_
   refine Dq 10 ?_
   refine Dq 11 ?_
   refine Dq 12 ?_
   refine Db 13 0 ?_
   obtain ⟨r104, h105, H106⟩ := bnd H99
   refine Dkl [0, 0, 0] [] (c_screen_Screen_move h105) fun ⟨⟩ => ?_
   refine Dn ?_
   refine Eb ?_
   obtain rfl := sm H106
   exact Eg (_, ()) rfl [2, 0, 0] [] 0
  refine Ts (Ts (Tr ?_))
  refine Lq 2 ?_
  refine Ln (Et ?_)
  obtain ⟨e113, H114, H115⟩ := bnd H99
  refine Tj0 [(38, .bool e113)] [0, 5] [] [0, 1, 2] ?_ ?_
  ·refine Tb H114 (fun H116 => ?_) fun H116 => ?_
   ·refine Tk ?_
    obtain rfl := sm H116
    exact Eg0 [0, 0, 0] 0
   refine Ts (Tr ?_)
   refine Lq 2 ?_
   refine Ln (Et ?_)
   refine Tb H116 (fun H117 => ?_) fun H117 => ?_
   ·refine Tk ?_
    obtain rfl := sm H117
    exact Eg0 [0, 0, 0] 0
   refine Tr ?_
   refine Lq 2 ?_
   refine Ln ?_
   obtain rfl := sm H117
   exact Eg0 [0, 0, 0] 0
  refine Tb H115 (fun H118 => ?_) fun H118 => ?_
  ·refine Ts (Tr ?_)
   refine Lq 1 ?_
   obtain ⟨r119, h120, H121⟩ := bnd H118
   refine Lk [0, 0, 0] [] (c_screen_Screen_line h120) fun ⟨a122, c123⟩ => ?_
   refine Lq 1 ?_
   refine Ln (Et (Tv (Ev ?_)))
   obtain ⟨w126, hz, H127⟩ := inrs_some H121
   subst y87
   obtain rfl := (sm H89).symm
   refine Er ?_
   obtain rfl := sm H127
   exact Eo1 (a122, c123) [0, 0, 0, 0] []
  refine Ts (Tr ?_)
  refine Lq 2 ?_
  refine Ln (Et ?_)
  refine Tb H118 (fun H128 => ?_) fun H128 => ?_
  ·refine Tr ?_
   refine Lq 5 ?_
   refine Lb 0 ?_
   obtain ⟨r129, h130, H131⟩ := bnd H128
   refine Lk [0, 0, 0] [] (c_screen_Screen_move h130) fun ⟨⟩ => ?_
   refine Ln (Eb ?_)
   obtain rfl := sm H131
   exact Eg (_, ()) rfl [2, 0, 0] [] 0
  refine Tk (Eb ?_)
  obtain rfl := sm H128
  exact Eg (_, ()) rfl [2, 0, 0] [] 0
 rintro ⟨e86, ⟨⟩⟩ hy
 subst hy
 refine Ts (Tr ?_)
 refine Lq 1 ?_
 refine Ln (Et (Tv ?_))
 refine E.nil0 tyRowRow 99 ?_
 obtain rfl := sm H89
 exact Eo1 (none, 0) [0, 1, 1, 0] []

theorem c_slices_Reverse_row_Row {s_ : List RowRow} {r : (List RowRow)} (H : p_slices_Reverse_row_Row s_ = some r) : CT G 198 [.slice A0 s_.length C0] [Ch.arr tyRowRow 99 A0 C0 s_] [] (fun _ : Unit => .tuple #[]) (fun h => [Ch.arr tyRowRow 99 A0 C0 r]) (fun h => []) := by
 delta p_slices_Reverse_row_Row at H
 refine CT.of Go.Proofs.Tryz.func198 (by kernel_rfl) rfl rfl rfl fun K => ?_
 refine Ts (Tr ?_)
 refine Lq 5 ?_
 refine Ln (Et ?_)
 obtain ⟨e937, H938, H939⟩ := bnd H
 refine T.joinE (η := Unit × Unit) (fun h => True) (fun h => [(0, .slice A0 e937.length C0)]) (fun h => [Ch.arr tyRowRow 99 A0 C0 e937]) (fun h => []) ?_ ?_
 ·refine Tl ?_
  refine Tq (η := Unit) (fun s627 h => [(0, .slice A0 s627.1.length C0), (2, .int .i64 s627.2.1), (3, .int .i64 s627.2.2)]) [] (fun s627 h => [Ch.arr tyRowRow 99 A0 C0 s627.1]) [] (fun _ _ => []) () [0] [] H938 ?_
  rintro k_ s627 ⟨⟩ z941 H940 hag942 hbr943
  refine Ts (Ts (Tr ?_))
  refine Lq 3 ?_
  refine Ln (Et ?_)
  refine Tb H940 (fun H945 => ?_) fun H945 => ?_
  ·refine Tk (Et (Ts ?_))
   obtain ⟨e1148, H1149, H1150⟩ := bnd H945
   refine Tj0 [(0, .slice A0 e1148.length C0)] [2, 3] [Ch.arr tyRowRow 99 A0 C0 e1148] [] ?_ ?_
   ·refine Tl ?_
    refine Td [15] [] mo ?_
    refine Dq 0 ?_
    refine Dq 1 ?_
    refine Dq 2 ?_
    refine Dq 3 ?_
    refine Dq 4 ?_
    refine Dq 5 ?_
    obtain ⟨x1201, h1202, H1203⟩ := bnd H1149
    refine D.addro 0 rfl (idx_lt h1202) fun b1204 e1205 => ?_
    subst e1205
    refine Dy 6 (Yl.ia h1202 rfl rfl rfl rfl rfl rfl) ?_
    refine Dq 8 ?_
    refine Dq 9 ?_
    obtain ⟨x1206, h1207, H1208⟩ := bnd H1203
    refine Dy 10 (Yl.ia h1207 rfl rfl rfl rfl rfl rfl) ?_
    obtain ⟨x1215, h1216, H1225⟩ := bnd H1208
    obtain ⟨x1219, h1220, H1226⟩ := bnd H1225
    refine D.two rfl rfl rfl ?_ ?_
    ·refine Dp.a [0] [] (Ac.lo s627.2.2.toNat 0 (v := (fun h : (Option Addr × Nat) => (fun a1227 c1228 => .agg #[.slice a1227 x1201.cells.length c1228, .bool x1201.wrapped]) h.1 h.2)) (idx_some h1202).2 rfl rfl rfl (fun _ => rfl)) rfl rfl rfl rfl rfl rfl ?_
     rintro ⟨a1227, c1228⟩
     refine Da [0] [] rfl rfl (Ac.lo s627.2.1.toNat 0 (v := (fun h : (Option Addr × Nat) => (fun a1230 c1231 => .agg #[.slice a1230 x1206.cells.length c1231, .bool x1206.wrapped]) h.1 h.2)) (idx_some h1207).2 rfl rfl rfl (fun _ => rfl)) ?_
     rintro ⟨a1230, c1231⟩
     refine Dy 12 (Yl.ia h1216 rfl rfl rfl rfl rfl rfl) ?_
     refine Da [0] [1] rfl rfl (Ac.se 0 x1201 (idx_some h1216).2 rfl rfl rfl rfl rfl rfl (fun _ => ⟨(a1227, c1228), rfl, [1], rfl⟩)) fun _ => ?_
     refine Dy 14 (Yl.ia h1220 rfl rfl rfl rfl rfl rfl) ?_
     obtain ⟨y1236, hy1237⟩ := set_some (idx_some h1220).2
     refine D.one rfl rfl rfl (Dp.al [0] [0] (Ac.se 0 x1206 hy1237 rfl rfl rfl rfl rfl rfl (fun _ => ⟨(a1230, c1231), rfl, [1], rfl⟩)) rfl rfl rfl rfl rfl rfl rfl ?_)
     intro _
     refine Dn ?_
     refine E.sl 0 (k' := ((s627.1.set s627.2.1.toNat x1201).set s627.2.2.toNat x1206).length) ((List.length_set ..).trans (List.length_set ..)) rfl ?_
     refine Eb ?_
     obtain rfl := sm H1226
     exact Eg0 [0] 2
    refine Dp.a [0] [] (Ac.lo s627.2.1.toNat 0 (v := (fun h : (Option Addr × Nat) => (fun a1239 c1240 => .agg #[.slice a1239 x1206.cells.length c1240, .bool x1206.wrapped]) h.1 h.2)) (idx_some h1207).2 rfl rfl rfl (fun _ => rfl)) rfl rfl rfl rfl rfl rfl ?_
    rintro ⟨a1239, c1240⟩
    refine Da [0] [] rfl rfl (Ac.lo s627.2.2.toNat 0 (v := (fun h : (Option Addr × Nat) => (fun a1242 c1243 => .agg #[.slice a1242 x1201.cells.length c1243, .bool x1201.wrapped]) h.1 h.2)) (idx_some h1202).2 rfl rfl rfl (fun _ => rfl)) ?_
    rintro ⟨a1242, c1243⟩
    refine Dy 12 (Yl.ia h1216 rfl rfl rfl rfl rfl rfl) ?_
    refine Da [0] [0] rfl rfl (Ac.se 0 x1201 (idx_some h1216).2 rfl rfl rfl rfl rfl rfl (fun _ => ⟨(a1242, c1243), rfl, [1], rfl⟩)) fun _ => ?_
    refine Dy 14 (Yl.ia h1220 rfl rfl rfl rfl rfl rfl) ?_
    obtain ⟨y1248, hy1249⟩ := set_some (idx_some h1220).2
    refine D.one rfl rfl rfl (Dp.al [0] [1] (Ac.se 0 x1206 hy1249 rfl rfl rfl rfl rfl rfl (fun _ => ⟨(a1239, c1240), rfl, [1], rfl⟩)) rfl rfl rfl rfl rfl rfl rfl ?_)
    intro _
    refine Dn ?_
    refine E.sl 0 (k' := ((s627.1.set s627.2.1.toNat x1201).set s627.2.2.toNat x1206).length) ((List.length_set ..).trans (List.length_set ..)) rfl ?_
    refine Eb ?_
    obtain rfl := sm H1226
    exact Eg0 [0] 2
   refine Tr ?_
   refine Lq 6 ?_
   refine Ln ?_
   obtain rfl := sm H1150
   exact Eg (_, ()) (hag942 _ rfl) [0] [] 0
  refine Tx (Ex (Ex (Eh ?_)))
  obtain rfl := sm H945
  have hb := hbr943 _ rfl
  subst e937
  exact Egx ((), ()) trivial [0] []
 rintro ⟨_, ⟨⟩⟩ _
 refine E.off ?_
 obtain rfl := sm H939
 exact Eo () [0] [] .nil

theorem c_grid_Grid_Down {g : GridGrid} {top : Int} {bottom : Int} {n_ : Int} {style : Int} {r : (List RowRow) × GridGrid} (H : p_grid_Grid_Down g top bottom n_ style = some r) : CT G 162 [.pointer (some ⟨N0, 0, none⟩), .int .i64 top, .int .i64 bottom, .int .i64 n_, .int .i64 style] [Ch.box N0 181 [.int .i64 g.w, .slice A0 g.l.length C0], Ch.arr tyRowRow 99 A0 C0 g.l] [] (fun h : (Option Addr × Nat) => .slice h.1 r.1.length h.2) (fun h => [Ch.arr tyRowRow 99 h.1 h.2 r.1, Ch.box N0 181 [.int .i64 r.2.w, .slice A0 r.2.l.length C0], Ch.arr tyRowRow 99 A0 C0 r.2.l]) (fun h => []) := by
 delta p_grid_Grid_Down at H
 refine CT.of Go.Proofs.Tryz.func162 (by kernel_rfl) rfl rfl rfl fun K => ?_
 refine Ts (Tr ?_)
 refine Lq 1 ?_
 refine Ln (Et (Ts (Tr ?_)))
 refine Lq 3 ?_
 obtain ⟨r1, h2, H3⟩ := bnd H
 rcases r1 with r1 | r1
 ·refine Lk [0, 0] [] (c_grid_Grid_region_a0 h2) fun ⟨⟩ => ?_
  refine Lq 5 ?_
  refine Ln (Et (Ts (Ts (Tr ?_))))
  refine Lq 2 ?_
  refine Ln (Et ?_)
  refine T.cond rfl (fun _ => ?_) (fun h => nomatch h)
  refine Ts (Tr ?_)
  refine Lq 1 ?_
  refine Ln (Et (Tv (Er ?_)))
  refine E.nil0 tyRowRow 99 ?_
  obtain rfl := sm H3
  exact Eo1 (none, 0) [0, 0, 0] []
 refine Lk [0, 0] [] (c_grid_Grid_region_a1 h2) fun ⟨⟩ => ?_
 obtain ⟨_, h5, H6⟩ := bnd H3
 refine L.cap 1 rfl fun h7 => ?_
 have hv8 : Vw tyRowRow g.l A0 C0 (cuta A0 C0 r1.1 (tyRowRow).sz) (C0 - r1.1.toNat) r1.1 r1.2 := vw_new h5 h7
 refine Lq 5 ?_
 refine Ln (Et (Ts (Ts (Tr ?_))))
 refine Lq 2 ?_
 refine Ln (Et ?_)
 refine T.cond rfl (fun h => nomatch h) (fun _ => ?_)
 refine Tk (Et (Ts (Tr ?_)))
 refine Lq 3 ?_
 obtain ⟨r9, h10, H11⟩ := bnd H6
 refine Lk [] [] (c_grid_clip h10) fun ⟨⟩ => ?_
 refine Lq 1 ?_
 refine Ln (Et (Ts (Tr ?_)))
 refine Lq 5 ?_
 obtain ⟨_, h12, H13⟩ := bnd H11
 refine L.vv hv8 h12 rfl rfl rfl rfl rfl rfl rfl rfl rfl rfl rfl fun a14 c15 hv16 => ?_
 obtain ⟨r17, h18, H19⟩ := bnd H13
 refine Lk [1] [] (c_slices_Clone_row_Row_w A0 C0 a14 c15 hv16 h18) fun ⟨a20, c21⟩ => ?_
 refine Lq 1 ?_
 refine Ln (Et (Ts (Tr ?_)))
 refine Lq 1 ?_
 obtain ⟨r23, h24, H25⟩ := bnd H19
 refine Lk [0] [] (c_slices_Reverse_row_Row h24) fun ⟨⟩ => ?_
 obtain ⟨_, h27, H28⟩ := bnd H25
 refine L.sl 13 (k' := r23.length) (chk_some h27) rfl ?_
 refine Ln (Et (Ts ?_))
 refine Td [] [0, 1] mo ?_
 refine Dq 0 ?_
 refine Dq 1 ?_
 obtain ⟨_, h65, H66⟩ := bnd H28
 refine D.vv 2 hv8 h65 rfl rfl rfl rfl rfl rfl rfl rfl rfl rfl rfl rfl rfl rfl fun a67 c68 hv69 => ?_
 refine Dq 3 ?_
 refine Dq 4 ?_
 refine Dq 5 ?_
 refine Dq 6 ?_
 refine Dq 7 ?_
 obtain ⟨_, h70, H71⟩ := bnd H66
 refine D.vv 8 hv8 h70 rfl rfl rfl rfl rfl rfl rfl rfl rfl rfl rfl rfl rfl rfl fun a72 c73 hv74 => ?_
 refine Da [0] [] rfl rfl (Ac.cpv (ty := tyRowRow) hv69 hv74 rfl rfl rfl rfl rfl rfl rfl) fun _ => ?_
 refine Dn ?_
 have hv76 : Vw tyRowRow (cpyv g.l (r1.1 + r9) (r1.1 + ((cut g.l r1.1 r1.2).length : Int)) (r1.1 + 0) (r1.1 + (IntKind.i64.wrap (((cut g.l r1.1 r1.2).length : Int) - r9)))) A0 C0 (cuta A0 C0 r1.1 (tyRowRow).sz) (C0 - r1.1.toNat) r1.1 r1.2 := Vw.on hv8 (cpyv_len hv69)
 refine E.sl 11 (k' := (cut (cpyv g.l (r1.1 + r9) (r1.1 + ((cut g.l r1.1 r1.2).length : Int)) (r1.1 + 0) (r1.1 + (IntKind.i64.wrap (((cut g.l r1.1 r1.2).length : Int) - r9)))) r1.1 r1.2).length) (cut_len (cpyv_len hv69)) rfl ?_
 refine E.bx 1 (cs' := [.int .i64 g.w, .slice A0 (cpyv g.l (r1.1 + r9) (r1.1 + ((cut g.l r1.1 r1.2).length : Int)) (r1.1 + 0) (r1.1 + (IntKind.i64.wrap (((cut g.l r1.1 r1.2).length : Int) - r9)))).length C0]) (by rw [(cpyv_len hv69)]) rfl ?_
 refine Et (Ts (Ts (Tr ?_)))
 refine Lq 2 ?_
 refine Ln (Et ?_)
 obtain ⟨e189, H190, H191⟩ := bnd H71
 refine Tj0 [] [13] [Ch.arr tyRowRow 99 A0 C0 e189.l, Ch.box N0 181 [.int .i64 e189.w, .slice A0 e189.l.length C0]] [1] ?_ ?_
 ·refine Tl ?_
  refine Tq (η := Unit) (fun s150 h => [(11, .slice (cuta A0 C0 r1.1 (tyRowRow).sz) (cut s150.1.l r1.1 r1.2).length (C0 - r1.1.toNat)), (48, .int .i64 s150.2)]) [0, 4, 13, 47] (fun s150 h => [Ch.arr tyRowRow 99 A0 C0 s150.1.l, Ch.box N0 181 [.int .i64 s150.1.w, .slice A0 s150.1.l.length C0]]) [1] (fun _ _ => []) () [2, 0, 0] [] H190 ?_
  rintro k_ s150 ⟨⟩ z193 H192 hag194 hbr195
  refine Ts (Tr ?_)
  refine Lq 1 ?_
  refine Ln (Et (Ts ?_))
  refine Tb H192 (fun H197 => ?_) fun H197 => ?_
  ·refine Tk (Et (Ts (Tl (Ts (Tr ?_)))))
   refine Lq 2 ?_
   refine Ln (Et (Tr ?_))
   refine Lq 5 ?_
   refine Lb 1 ?_
   refine Lq 1 ?_
   obtain ⟨r215, h216, H217⟩ := bnd H197
   refine Lk [] [] (c_row_Blank h216) fun ⟨a218, c219⟩ => ?_
   obtain ⟨_, h221, H222⟩ := bnd H217
   refine L.cap 0 rfl fun h223 => ?_
   have hv224 := vw_re hv76 h221 h223
   obtain ⟨x225, h226, H227⟩ := bnd H222
   refine L.addro 0 rfl (pos_of (cut_get h226)) fun b228 e229 => ?_
   subst e229
   refine Ly (Yl.iv (ty := tyRowRow) 0 hv224 h226 rfl rfl rfl rfl rfl rfl rfl rfl) ?_
   refine La [0] [0] (Ac.se 0 r215 (cut_get h226) rfl rfl rfl rfl rfl rfl (fun _ => ⟨(a218, c219), rfl, [1], rfl⟩)) fun _ => ?_
   have hv231 : Vw tyRowRow (s150.1.l.set (r1.1.toNat + s150.2.toNat) r215) (some ⟨b228, 0, none⟩) C0 (cuta (some ⟨b228, 0, none⟩) C0 r1.1 (tyRowRow).sz) (C0 - r1.1.toNat) r1.1 r1.2 := Vw.on hv224 (List.length_set ..)
   refine L.sl 11 (k' := (cut (s150.1.l.set (r1.1.toNat + s150.2.toNat) r215) r1.1 r1.2).length) (cut_len (List.length_set ..)) rfl ?_
   refine L.bx 1 (cs' := [.int .i64 s150.1.w, .slice (some ⟨b228, 0, none⟩) (s150.1.l.set (r1.1.toNat + s150.2.toNat) r215).length C0]) (by rw [List.length_set ..]) rfl ?_
   refine Ln (Eb (Et (Tr ?_)))
   refine Lq 2 ?_
   refine Ln ?_
   obtain rfl := sm H227
   exact Eg (_, ()) (hag194 _ rfl) [1, 0, 0] [] 1
  refine Tx (Ex (Ex (Eh ?_)))
  obtain rfl := sm H197
  have hb := hbr195 _ rfl
  subst e189
  exact Eg0 [0, 0, 0] 0
 refine Ts (Tr ?_)
 refine Lq 2 ?_
 refine Ln (Et (Tv ?_))
 obtain rfl := sm H191
 exact Eo1 (a20, c21) [2, 1, 0] []

theorem c_screen_Screen_back {s_ : ScreenScreen} {r : ScreenScreen} (H : p_screen_Screen_back s_ = some r) : CT G 155 [.pointer (some ⟨N0, 0, none⟩)] [Ch.box N0 132 [.pointer (some ⟨N1, 0, none⟩), .int .i64 s_.spot.x, .int .i64 s_.spot.y, .int .i64 s_.spot.style.fore, .int .i64 s_.spot.style.back, .bool s_.spot.style.bold, .bool s_.spot.style.under, .bool s_.spot.style.inverse, .int .i64 s_.saved.x, .int .i64 s_.saved.y, .int .i64 s_.saved.style.fore, .int .i64 s_.saved.style.back, .bool s_.saved.style.bold, .bool s_.saved.style.under, .bool s_.saved.style.inverse, .bool s_.waiting, .int .i64 s_.top, .int .i64 s_.bottom, .bool s_.wraps, .string s_.title], Ch.box N1 181 [.int .i64 s_.g.w, .slice A0 s_.g.l.length C0], Ch.arr tyRowRow 99 A0 C0 s_.g.l] [] (fun _ : Unit => .tuple #[]) (fun h => [Ch.box N0 132 [.pointer (some ⟨N1, 0, none⟩), .int .i64 r.spot.x, .int .i64 r.spot.y, .int .i64 r.spot.style.fore, .int .i64 r.spot.style.back, .bool r.spot.style.bold, .bool r.spot.style.under, .bool r.spot.style.inverse, .int .i64 r.saved.x, .int .i64 r.saved.y, .int .i64 r.saved.style.fore, .int .i64 r.saved.style.back, .bool r.saved.style.bold, .bool r.saved.style.under, .bool r.saved.style.inverse, .bool r.waiting, .int .i64 r.top, .int .i64 r.bottom, .bool r.wraps, .string r.title], Ch.box N1 181 [.int .i64 r.g.w, .slice A0 r.g.l.length C0], Ch.arr tyRowRow 99 A0 C0 r.g.l]) (fun h => []) := by
 delta p_screen_Screen_back at H
 refine CT.of Go.Proofs.Tryz.func155 (by kernel_rfl) rfl rfl rfl fun K => ?_
 refine Ts (Tr ?_)
 refine Lq 3 ?_
 refine Lt 0 ?_
 refine Ln (Et (Ts (Ts ?_)))
 refine Td [] [0, 0, 0] mo ?_
 refine Dq 0 ?_
 refine Dq 1 ?_
 refine Dq 2 ?_
 refine Dq 3 ?_
 refine Db 4 0 ?_
 refine Dq 5 ?_
 refine Dq 6 ?_
 refine Dq 7 ?_
 refine Db 8 0 ?_
 refine Dq 9 ?_
 refine Dn ?_
 refine Et ?_
 refine Tb H (fun H42 => ?_) fun H42 => ?_
 ·refine Ts ?_
  refine Td [14] [0, 0, 0] mo ?_
  refine Dq 0 ?_
  refine Dq 1 ?_
  refine Dq 2 ?_
  refine Db 3 0 ?_
  refine Dq 4 ?_
  refine Dq 5 ?_
  refine Dq 6 ?_
  refine Db 7 0 ?_
  refine Dq 8 ?_
  refine Dq 9 ?_
  refine Dq 10 ?_
  refine Db 11 0 ?_
  refine Dq 12 ?_
  obtain ⟨r73, h74, H75⟩ := bnd H42
  refine D.one rfl rfl rfl (Dp.br (Ac.call (c_screen_Screen_num h74) rfl rfl rfl rfl) (Bw.bx 0 rfl (Bw.bx 1 rfl (Bw.ch 2 rfl (Bw.nil)))) rfl rfl rfl rfl ?_)
  intro _
  obtain ⟨r76, h77, H78⟩ := bnd H75
  refine Dkl [1, 1] [] (c_grid_Grid_Down h77) fun ⟨a79, c80⟩ => ?_
  refine Dn ?_
  refine Et (Tv (Er ?_))
  obtain rfl := sm H78
  exact Eo () [3, 1, 1] [] .nil
 refine Tk (Et ?_)
 refine Td [12] [0, 0, 0] mo ?_
 refine Dq 0 ?_
 refine Dq 1 ?_
 refine Dq 2 ?_
 refine Dq 3 ?_
 refine Dq 4 ?_
 refine Db 5 0 ?_
 refine Dq 6 ?_
 refine Dq 7 ?_
 refine Dq 8 ?_
 refine Dq 9 ?_
 refine Db 10 0 ?_
 refine Dq 11 ?_
 obtain ⟨r87, h88, H89⟩ := bnd H42
 refine Dkl [0, 0, 0] [] (c_screen_Screen_move h88) fun ⟨⟩ => ?_
 refine Dn ?_
 refine E.off ?_
 obtain rfl := sm H89
 exact Eo () [0, 0, 0] [] .nil

theorem c_screen_Screen_escape {s_ : ScreenScreen} {b : Int} {r : (List RowRow) × ScreenScreen} (H : p_screen_Screen_escape s_ b = some r) : CT G 110 [.pointer (some ⟨N0, 0, none⟩), .int .u8 b] [Ch.box N0 132 [.pointer (some ⟨N1, 0, none⟩), .int .i64 s_.spot.x, .int .i64 s_.spot.y, .int .i64 s_.spot.style.fore, .int .i64 s_.spot.style.back, .bool s_.spot.style.bold, .bool s_.spot.style.under, .bool s_.spot.style.inverse, .int .i64 s_.saved.x, .int .i64 s_.saved.y, .int .i64 s_.saved.style.fore, .int .i64 s_.saved.style.back, .bool s_.saved.style.bold, .bool s_.saved.style.under, .bool s_.saved.style.inverse, .bool s_.waiting, .int .i64 s_.top, .int .i64 s_.bottom, .bool s_.wraps, .string s_.title], Ch.box N1 181 [.int .i64 s_.g.w, .slice A0 s_.g.l.length C0], Ch.arr tyRowRow 99 A0 C0 s_.g.l] [] (fun h : (Option Addr × Nat) × Nat × (Option Addr × Nat) => .slice h.1.1 r.1.length h.1.2) (fun h => [Ch.arr tyRowRow 99 h.1.1 h.1.2 r.1, Ch.box N0 132 [.pointer (some ⟨h.2.1, 0, none⟩), .int .i64 r.2.spot.x, .int .i64 r.2.spot.y, .int .i64 r.2.spot.style.fore, .int .i64 r.2.spot.style.back, .bool r.2.spot.style.bold, .bool r.2.spot.style.under, .bool r.2.spot.style.inverse, .int .i64 r.2.saved.x, .int .i64 r.2.saved.y, .int .i64 r.2.saved.style.fore, .int .i64 r.2.saved.style.back, .bool r.2.saved.style.bold, .bool r.2.saved.style.under, .bool r.2.saved.style.inverse, .bool r.2.waiting, .int .i64 r.2.top, .int .i64 r.2.bottom, .bool r.2.wraps, .string r.2.title], Ch.box h.2.1 181 [.int .i64 r.2.g.w, .slice h.2.2.1 r.2.g.l.length h.2.2.2], Ch.arr tyRowRow 99 h.2.2.1 h.2.2.2 r.2.g.l]) (fun h => []) := by
 delta p_screen_Screen_escape at H
 refine CT.of Go.Proofs.Tryz.func110 (by kernel_rfl) rfl rfl rfl fun K => ?_
 refine Ts (Tr ?_)
 refine Lq 1 ?_
 refine Ln (Et (Ts (Ts (Tr ?_))))
 refine Lq 1 ?_
 refine Ln (Et ?_)
 obtain ⟨y3165, H3166, H3167⟩ := bnd H
 refine Tj (η := ScreenScreen × (Nat × (Option Addr × Nat))) (fun h => y3165 = .inl h.1) (fun _ => []) [] (fun h => (fun e3164 => (fun g3160 a3161 c3162 => [Ch.arr tyRowRow 99 a3161 c3162 e3164.g.l, Ch.box N0 132 [.pointer (some ⟨g3160, 0, none⟩), .int .i64 e3164.spot.x, .int .i64 e3164.spot.y, .int .i64 e3164.spot.style.fore, .int .i64 e3164.spot.style.back, .bool e3164.spot.style.bold, .bool e3164.spot.style.under, .bool e3164.spot.style.inverse, .int .i64 e3164.saved.x, .int .i64 e3164.saved.y, .int .i64 e3164.saved.style.fore, .int .i64 e3164.saved.style.back, .bool e3164.saved.style.bold, .bool e3164.saved.style.under, .bool e3164.saved.style.inverse, .bool e3164.waiting, .int .i64 e3164.top, .int .i64 e3164.bottom, .bool e3164.wraps, .string e3164.title], Ch.box g3160 181 [.int .i64 e3164.g.w, .slice a3161 e3164.g.l.length c3162]]) h.2.1 h.2.2.1 h.2.2.2) h.1) [] (fun _ => []) ?_ ?_
 ·refine Tl (Ts (Tl (Ts (Tl (Ts (Tl (Ts (Tl (Ts ?_)))))))))
  obtain ⟨y4672, H4673, H4674⟩ := bnd H3166
  refine Tj (η := ScreenScreen × Unit) (fun h => y4672 = .inl h.1) (fun _ => []) [0] (fun h => (fun e4671 => [Ch.box N0 132 [.pointer (some ⟨N1, 0, none⟩), .int .i64 e4671.spot.x, .int .i64 e4671.spot.y, .int .i64 e4671.spot.style.fore, .int .i64 e4671.spot.style.back, .bool e4671.spot.style.bold, .bool e4671.spot.style.under, .bool e4671.spot.style.inverse, .int .i64 e4671.saved.x, .int .i64 e4671.saved.y, .int .i64 e4671.saved.style.fore, .int .i64 e4671.saved.style.back, .bool e4671.saved.style.bold, .bool e4671.saved.style.under, .bool e4671.saved.style.inverse, .bool e4671.waiting, .int .i64 e4671.top, .int .i64 e4671.bottom, .bool e4671.wraps, .string e4671.title]]) h.1) [1, 2] (fun _ => []) ?_ ?_
  ·refine Tl (Ts (Tl (Ts (Ts (Ts (Tr ?_))))))
   refine Lq 2 ?_
   refine Ln (Et ?_)
   refine Tb H4673 (fun H4688 => ?_) fun H4688 => ?_
   ·refine Tx (Ex (Ex (Eh (Et (Tr ?_)))))
    refine Lq 4 ?_
    refine Lt 0 ?_
    refine Ln (Eb ?_)
    obtain rfl := sm H4688
    exact Eg (_, ()) rfl [0, 0, 0] [] 0
   refine Tk (Et (Ts (Ts (Tr ?_))))
   refine Lq 2 ?_
   refine Ln (Et ?_)
   refine Tb H4688 (fun H4690 => ?_) fun H4690 => ?_
   ·refine Tx (Ex (Ex (E.block_on rfl (Ex (Eh ?_)))))
    obtain rfl := sm H4690
    exact Eg (_, ()) rfl [0, 0, 0] [] 0
   refine Tk (Et (Ts (Ts (Tr ?_))))
   refine Lq 2 ?_
   refine Ln (Et ?_)
   refine Tb H4690 (fun H4692 => ?_) fun H4692 => ?_
   ·refine Tx (Ex (Ex (E.block_on rfl (Ex (E.block_on rfl ?_)))))
    obtain ⟨w4693, hz, H4694⟩ := inrs_some H4692
    subst y4672
    obtain rfl := (sm H4674).symm
    refine Ex (Eh (Et (Ts (Tr ?_))))
    refine Lq 1 ?_
    obtain ⟨r4695, h4696, H4697⟩ := bnd H4694
    refine Lk [0, 0, 0] [] (c_screen_Screen_back h4696) fun ⟨⟩ => ?_
    refine Ln (Et (Tx (E.block_on rfl (Ex (E.block_on rfl (Ex (E.block_on rfl (Ex (Eh ?_)))))))))
    obtain rfl := sm H4697
    exact Eg (_, (N1, (A0, C0))) rfl [2, 0, 0] [] 0
   refine Tk (Et (Ts (Ts (Tr ?_))))
   refine Lq 2 ?_
   refine Ln (Et ?_)
   refine Tb H4692 (fun H4700 => ?_) fun H4700 => ?_
   ·refine Tx (Ex (Ex (E.block_on rfl (Ex (E.block_on rfl ?_)))))
    obtain ⟨w4701, hz, H4702⟩ := inrs_some H4700
    subst y4672
    obtain rfl := (sm H4674).symm
    refine Ex (E.block_on rfl (Ex (Eh (Et (Ts (Tr ?_))))))
    refine Lq 4 ?_
    refine Lb 0 ?_
    refine Lq 2 ?_
    refine Lt 0 ?_
    refine Ln (Et (Tx (E.block_on rfl (Ex (E.block_on rfl (Ex (Eh ?_)))))))
    obtain rfl := sm H4702
    exact Eg (_, (N1, (A0, C0))) rfl [2, 0, 0] [] 0
   refine Tk (Et (Ts (Ts (Tr ?_))))
   refine Lq 2 ?_
   refine Ln (Et ?_)
   refine Tb H4700 (fun H4704 => ?_) fun H4704 => ?_
   ·refine Tx (Ex (Ex (E.block_on rfl (Ex (E.block_on rfl ?_)))))
    obtain ⟨w4705, hz, H4706⟩ := inrs_some H4704
    subst y4672
    obtain rfl := (sm H4674).symm
    refine Ex (E.block_on rfl (Ex (E.block_on rfl (Ex (Eh (Et (Ts (Ts (Tr ?_)))))))))
    refine Lq 5 ?_
    refine Lb 0 ?_
    refine Lq 3 ?_
    refine Lt 0 ?_
    refine Ln (Et ?_)
    refine Td [11] [0, 0, 0] mo ?_
    refine Dq 0 ?_
    refine Dq 1 ?_
    refine Dq 2 ?_
    refine Dq 3 ?_
    refine Dq 4 ?_
    refine Db 5 0 ?_
    refine Dq 6 ?_
    refine Dq 7 ?_
    refine Dq 8 ?_
    refine Dq 9 ?_
    refine Db 10 0 ?_
    obtain ⟨r4719, h4720, H4721⟩ := bnd H4706
    refine Dkl [0, 0, 0] [] (c_screen_Screen_move h4720) fun ⟨⟩ => ?_
    refine Dn ?_
    refine Et (Tx (E.block_on rfl (Ex (Eh ?_))))
    obtain rfl := sm H4721
    exact Eg (_, (N1, (A0, C0))) rfl [2, 0, 0] [] 0
   refine Tk (Et (Ts (Tr ?_)))
   refine Lq 2 ?_
   refine Ln (Et ?_)
   refine Tb H4704 (fun H4724 => ?_) fun H4724 => ?_
   ·refine Tx (Ex (E.block_on rfl (Ex (E.block_on rfl ?_))))
    obtain ⟨w4725, hz, H4726⟩ := inrs_some H4724
    subst y4672
    obtain rfl := (sm H4674).symm
    refine Ex (E.block_on rfl (Ex (E.block_on rfl (Ex (E.block_on rfl (Ex (Eh (Et (Ts (Tr ?_))))))))))
    refine Lq 4 ?_
    refine Lb 0 ?_
    obtain ⟨r4727, h4728, H4729⟩ := bnd H4726
    refine Lk [1, 1] [] (c_grid_Grid_Size h4728) fun ⟨⟩ => ?_
    refine Lq 2 ?_
    obtain ⟨r4730, h4731, H4732⟩ := bnd H4729
    refine Lk [] [] (c_screen_New h4731) fun ⟨g4733, g4734, ⟨a4735, c4736⟩⟩ => ?_
    refine Lq 1 ?_
    refine Lb 0 ?_
    refine Lq 1 ?_
    refine Lt 5 ?_
    refine Ln (Et (Tx (Eh ?_)))
    obtain rfl := sm H4732
    exact Eg (_, (g4734, (a4735, c4736))) rfl [3, 0, 1] [] 0
   refine Tk (Et (Tx (E.block_on rfl (Ex (E.block_on rfl ?_)))))
   obtain ⟨w4738, hz, H4739⟩ := inrs_some H4724
   subst y4672
   obtain rfl := (sm H4674).symm
   refine Ex (E.block_on rfl (Ex (E.block_on rfl (Ex (E.block_on rfl (Ex (E.block_on rfl (Ex (Eh ?_)))))))))
   obtain rfl := sm H4739
   exact Eg (_, (N1, (A0, C0))) rfl [2, 0, 0] [] 0
  rintro ⟨e4671, ⟨⟩⟩ hy
  subst hy
  refine Ts (Ts (Tr ?_))
  refine Lq 1 ?_
  obtain ⟨r4740, h4741, H4742⟩ := bnd H4674
  refine Lk [0, 0, 0] [] (c_screen_Screen_line h4741) fun ⟨a4743, c4744⟩ => ?_
  refine Lq 1 ?_
  refine Ln (Et (Tv (Er (Ev (Er (Ev (Er (Ev (Er (Ev (Er (Ev ?_))))))))))))
  obtain ⟨w4747, hz, H4748⟩ := inrs_some H4742
  subst y3165
  obtain rfl := (sm H3167).symm
  refine Er ?_
  obtain rfl := sm H4748
  exact Eo1 ((a4743, c4744), N1, (A0, C0)) [0, 0, 0, 0] []
 rintro ⟨e3164, ⟨g3160, ⟨a3161, c3162⟩⟩⟩ hy
 subst hy
 refine Ts (Tr ?_)
 refine Lq 1 ?_
 refine Ln (Et (Tv ?_))
 refine E.nil0 tyRowRow 99 ?_
 obtain rfl := sm H3167
 exact Eo1 ((none, 0), g3160, (a3161, c3162)) [0, 1, 1, 0] []

theorem c_screen_at {a : SeqAction} {i : Int} {d : Int} {r : Int} (H : p_screen_at a i d = some r) : CT G 112 [.agg (bx143 a A0 C0).toArray, .int .i64 i, .int .i64 d] [] [Im.sl (Ty.int .i64) A0 C0 a.nums] (fun _ : Unit => .int .i64 r) (fun h => []) (fun h => []) := by
 delta p_screen_at at H
 refine CT.of Go.Proofs.Tryz.func112 (by kernel_rfl) rfl rfl rfl fun K => ?_
 refine Ts (Tr ?_)
 refine Lx fun g1 => ?_
 refine Lq 1 ?_
 refine Ln (Et (Ts (Ts ?_)))
 obtain ⟨e19, H20, H21⟩ := bnd H
 refine Tj0 [(19, .bool e19)] [1, 2, 3] [] [0] ?_ ?_
 ·refine Tr ?_
  refine Lq 2 ?_
  refine Lb 0 ?_
  refine Lq 3 ?_
  refine Lw 12 H20 (fun H22 => ?_) fun H22 => ?_
  ·refine Lq 7 ?_
   refine Ln ?_
   obtain rfl := sm H22
   exact Eg0 [0] 0
  refine Lq 1 ?_
  refine Lb 0 ?_
  refine Lq 1 ?_
  obtain ⟨x23, h24, H25⟩ := bnd H22
  refine L.addr 0 rfl (idx_lt h24) fun b26 o27 e28 => ?_
  subst e28
  refine Ly (Yl.ia h24 rfl rfl rfl rfl rfl rfl) ?_
  refine L.el 0 rfl (idx_some h24).2 ?_
  rintro _
  refine Lc 0 0 ?_
  refine Lq 2 ?_
  refine Ln ?_
  obtain rfl := sm H25
  exact Eg0 [0] 1
 refine Tb H21 (fun H31 => ?_) fun H31 => ?_
 ·refine Ts (Tr ?_)
  refine Lq 2 ?_
  refine Ln (Et (Tv (Er ?_)))
  obtain rfl := sm H31
  exact Eo1 () [] []
 refine Tk (Et (Ts (Tr ?_)))
 refine Lq 1 ?_
 refine Lb 0 ?_
 refine Lq 1 ?_
 obtain ⟨x32, h33, H34⟩ := bnd H31
 refine L.addr 0 rfl (idx_lt h33) fun b35 o36 e37 => ?_
 subst e37
 refine Ly (Yl.ia h33 rfl rfl rfl rfl rfl rfl) ?_
 refine L.el 0 rfl (idx_some h33).2 ?_
 rintro _
 refine Lc 0 0 ?_
 refine Lq 2 ?_
 refine Ln (Et (Tv ?_))
 obtain rfl := sm H34
 exact Eo1 () [] []

theorem c_screen_Screen_climb {s_ : ScreenScreen} {n_ : Int} {r : ScreenScreen} (H : p_screen_Screen_climb s_ n_ = some r) : CT G 156 [.pointer (some ⟨N0, 0, none⟩), .int .i64 n_] [Ch.box N0 132 [.pointer (some ⟨N1, 0, none⟩), .int .i64 s_.spot.x, .int .i64 s_.spot.y, .int .i64 s_.spot.style.fore, .int .i64 s_.spot.style.back, .bool s_.spot.style.bold, .bool s_.spot.style.under, .bool s_.spot.style.inverse, .int .i64 s_.saved.x, .int .i64 s_.saved.y, .int .i64 s_.saved.style.fore, .int .i64 s_.saved.style.back, .bool s_.saved.style.bold, .bool s_.saved.style.under, .bool s_.saved.style.inverse, .bool s_.waiting, .int .i64 s_.top, .int .i64 s_.bottom, .bool s_.wraps, .string s_.title], Ch.box N1 181 [.int .i64 s_.g.w, .slice A0 s_.g.l.length C0], Ch.arr tyRowRow 99 A0 C0 s_.g.l] [] (fun _ : Unit => .tuple #[]) (fun h => [Ch.box N0 132 [.pointer (some ⟨N1, 0, none⟩), .int .i64 r.spot.x, .int .i64 r.spot.y, .int .i64 r.spot.style.fore, .int .i64 r.spot.style.back, .bool r.spot.style.bold, .bool r.spot.style.under, .bool r.spot.style.inverse, .int .i64 r.saved.x, .int .i64 r.saved.y, .int .i64 r.saved.style.fore, .int .i64 r.saved.style.back, .bool r.saved.style.bold, .bool r.saved.style.under, .bool r.saved.style.inverse, .bool r.waiting, .int .i64 r.top, .int .i64 r.bottom, .bool r.wraps, .string r.title], Ch.box N1 181 [.int .i64 r.g.w, .slice A0 r.g.l.length C0], Ch.arr tyRowRow 99 A0 C0 r.g.l]) (fun h => []) := by
 delta p_screen_Screen_climb at H
 refine CT.of Go.Proofs.Tryz.func156 (by kernel_rfl) rfl rfl rfl fun K => ?_
 refine Ts (Tr ?_)
 refine Lq 1 ?_
 obtain ⟨r1, h2, H3⟩ := bnd H
 refine Lk [0, 0, 0] [] (c_screen_Screen_last h2) fun ⟨⟩ => ?_
 refine Lq 5 ?_
 refine Ln (Et (Ts (Tr ?_)))
 refine Lq 3 ?_
 refine Ln (Et (Ts (Ts ?_)))
 obtain ⟨e9, H10, H11⟩ := bnd H3
 refine Tj0 [(27, .bool e9)] [0, 1, 6, 7] [] [0, 1, 2] ?_ ?_
 ·refine Td [] [0, 0, 0] mo ?_
  refine Dq 0 ?_
  refine Dq 1 ?_
  refine Dq 2 ?_
  refine Dq 3 ?_
  refine Db 4 0 ?_
  refine Dq 5 ?_
  refine Dq 6 ?_
  refine Dq 7 ?_
  refine Db 8 0 ?_
  refine Dq 9 ?_
  refine Dq 10 ?_
  refine D.cs 24 H10 rfl (fun hc H13 => ?_) (fun hc H13 => ?_)
  ·refine Dq 11 ?_
   refine Dq 12 ?_
   refine Dq 13 ?_
   refine Dn ?_
   obtain rfl := sm H13
   exact Eg0 [0, 0, 0] 0
  refine Ds 11 ?_
  refine Ds 12 ?_
  refine Dq 13 ?_
  refine Dn ?_
  obtain rfl := sm H13
  exact Eg0 [0, 0, 0] 0
 obtain ⟨e17, H18, H19⟩ := bnd H11
 refine Tj0 [(6, .int .i64 e17)] [0, 1, 7] [] [0, 1, 2] ?_ ?_
 ·refine Tb H18 (fun H20 => ?_) fun H20 => ?_
  ·refine Tr ?_
   refine Lq 3 ?_
   refine Lb 0 ?_
   refine Lq 1 ?_
   refine Ln ?_
   obtain rfl := sm H20
   exact Eg0 [0, 0, 0] 0
  refine Tk ?_
  obtain rfl := sm H20
  exact Eg0 [0, 0, 0] 0
 refine Ts (Ts ?_)
 obtain ⟨e26, H27, H28⟩ := bnd H19
 refine Tj0 [(45, .bool e26)] [0, 1, 6, 7] [] [0, 1, 2] ?_ ?_
 ·refine Td [] [0, 0, 0] mo ?_
  refine Dq 0 ?_
  refine Dq 1 ?_
  refine Dq 2 ?_
  refine Dq 3 ?_
  refine Db 4 0 ?_
  refine Dq 5 ?_
  refine Dq 6 ?_
  refine Dq 7 ?_
  refine Db 8 0 ?_
  refine Dq 9 ?_
  refine Dq 10 ?_
  refine D.cs 42 H27 rfl (fun hc H30 => ?_) (fun hc H30 => ?_)
  ·refine Dq 11 ?_
   refine Dq 12 ?_
   refine Dq 13 ?_
   refine Dn ?_
   obtain rfl := sm H30
   exact Eg0 [0, 0, 0] 0
  refine Ds 11 ?_
  refine Ds 12 ?_
  refine Dq 13 ?_
  refine Dn ?_
  obtain rfl := sm H30
  exact Eg0 [0, 0, 0] 0
 obtain ⟨e34, H35, H36⟩ := bnd H28
 refine Tj0 [(7, .int .i64 e34)] [0, 1, 6] [] [0, 1, 2] ?_ ?_
 ·refine Tb H35 (fun H37 => ?_) fun H37 => ?_
  ·refine Tr ?_
   refine Lq 3 ?_
   refine Lb 0 ?_
   refine Lq 1 ?_
   refine Ln ?_
   obtain rfl := sm H37
   exact Eg0 [0, 0, 0] 0
  refine Tk ?_
  obtain rfl := sm H37
  exact Eg0 [0, 0, 0] 0
 refine Td [16] [0, 0, 0] mo ?_
 refine Dq 0 ?_
 refine Dq 1 ?_
 refine Dq 2 ?_
 refine Dq 3 ?_
 refine Dq 4 ?_
 refine Db 5 0 ?_
 refine Dq 6 ?_
 refine Dq 7 ?_
 refine Dq 8 ?_
 refine Dq 9 ?_
 refine Db 10 0 ?_
 refine Dq 11 ?_
 refine Dq 12 ?_
 refine Dq 13 ?_
 refine Dq 14 ?_
 obtain ⟨r45, h46, H47⟩ := bnd H36
 refine Dk [] [] (c_screen_clip h46) fun ⟨⟩ => ?_
 obtain ⟨r48, h49, H50⟩ := bnd H47
 refine Dkl [0, 0, 0] [] (c_screen_Screen_move h49) fun ⟨⟩ => ?_
 refine Dn ?_
 refine E.off ?_
 obtain rfl := sm H50
 exact Eo () [0, 0, 0] [] .nil

theorem c_row_Row_Erase {r_ : RowRow} {from_ : Int} {to : Int} {style : Int} {r : RowRow} (H : p_row_Row_Erase r_ from_ to style = some r) : CT G 195 [.agg #[.slice A0 r_.cells.length C0, .bool r_.wrapped], .int .i64 from_, .int .i64 to, .int .i64 style] [] [Im.sl tyRowCell A0 C0 r_.cells] (fun h : (Option Addr × Nat) => .agg #[.slice h.1 r.cells.length h.2, .bool r.wrapped]) (fun h => []) (fun h => [Im.sl tyRowCell h.1 h.2 r.cells]) := by
 delta p_row_Row_Erase at H
 refine CT.of Go.Proofs.Tryz.func195 (by kernel_rfl) rfl rfl rfl fun K => ?_
 refine Ts (Tr ?_)
 refine Lx fun g1 => ?_
 refine Ll fun g2 => ?_
 refine Ln (Et (Ts (Tr ?_)))
 refine Lb 1 ?_
 obtain ⟨r3, h4, H5⟩ := bnd H
 refine Lk [] [0] (c_row_Row_cells h4) fun ⟨a6, c7⟩ => ?_
 refine Lq 1 ?_
 refine Ln (Et (Ts (Ts (Tr ?_))))
 refine Lq 3 ?_
 obtain ⟨r9, h10, H11⟩ := bnd H5
 refine Lk [] [] (c_row_clip h10) fun ⟨⟩ => ?_
 refine Lq 1 ?_
 refine Ln (Et ?_)
 obtain ⟨e93, H94, H95⟩ := bnd H11
 refine Tj0 [(9, .slice a6 e93.length c7)] [8] [Ch.arr tyRowCell 123 a6 c7 e93] [1, 2] ?_ ?_
 ·refine Tl ?_
  refine Tq (η := Unit) (fun s67 h => [(9, .slice a6 s67.2.length c7), (10, .int .i64 s67.1)]) [2, 3, 8] (fun s67 h => [Ch.arr tyRowCell 123 a6 c7 s67.2]) [1, 2] (fun _ _ => []) () [0, 0, 0] [] H94 ?_
  rintro k_ s67 ⟨⟩ z97 H96 hag98 hbr99
  refine Ts (Ts (Tr ?_))
  refine Lq 4 ?_
  obtain ⟨r100, h101, H102⟩ := bnd H96
  refine Lk [] [] (c_row_clip h101) fun ⟨⟩ => ?_
  refine Lq 1 ?_
  refine Ln (Et ?_)
  refine Tb H102 (fun H104 => ?_) fun H104 => ?_
  ·refine Tk (Et (Ts (Tl (Tr ?_))))
   refine Lq 3 ?_
   obtain ⟨r114, h115, H116⟩ := bnd H104
   refine Lk [] [] (c_row_blank h115) fun ⟨⟩ => ?_
   obtain ⟨x117, h118, H119⟩ := bnd H116
   refine L.addro 0 rfl (idx_lt h118) fun b120 e121 => ?_
   subst e121
   refine Ly (Yl.ia h118 rfl rfl rfl rfl rfl rfl) ?_
   refine La [0] [] (Ac.se 0 r114 (idx_some h118).2 rfl rfl rfl rfl rfl rfl (fun _ => ⟨(), rfl, [], rfl⟩)) fun _ => ?_
   refine L.sl 9 (k' := (s67.2.set s67.1.toNat r114).length) (List.length_set ..) rfl ?_
   refine Ln (Eb (Et (Tr ?_)))
   refine Lq 3 ?_
   refine Ln ?_
   obtain rfl := sm H119
   exact Eg (_, ()) (hag98 _ rfl) [0, 0, 0] [] 0
  refine Tx (Ex (Ex (Eh ?_)))
  obtain rfl := sm H104
  have hb := hbr99 _ rfl
  subst e93
  exact Eg0 [0, 0, 0] 0
 refine Ts (Tr ?_)
 refine Lq 1 ?_
 obtain ⟨r123, h124, H125⟩ := bnd H95
 refine Lk [0] [] (c_row_mend h124) fun ⟨⟩ => ?_
 refine Lt 0 ?_
 refine Ln (Et (Tv ?_))
 obtain rfl := sm H125
 exact Eo (a6, c7) [] [0] (.cell 0 rfl rfl rfl .nil)

theorem c_screen_Screen_erase {s_ : ScreenScreen} {y : Int} {from_ : Int} {to : Int} {r : ScreenScreen} (H : p_screen_Screen_erase s_ y from_ to = some r) : CT G 191 [.pointer (some ⟨N0, 0, none⟩), .int .i64 y, .int .i64 from_, .int .i64 to] [Ch.box N0 132 [.pointer (some ⟨N1, 0, none⟩), .int .i64 s_.spot.x, .int .i64 s_.spot.y, .int .i64 s_.spot.style.fore, .int .i64 s_.spot.style.back, .bool s_.spot.style.bold, .bool s_.spot.style.under, .bool s_.spot.style.inverse, .int .i64 s_.saved.x, .int .i64 s_.saved.y, .int .i64 s_.saved.style.fore, .int .i64 s_.saved.style.back, .bool s_.saved.style.bold, .bool s_.saved.style.under, .bool s_.saved.style.inverse, .bool s_.waiting, .int .i64 s_.top, .int .i64 s_.bottom, .bool s_.wraps, .string s_.title], Ch.box N1 181 [.int .i64 s_.g.w, .slice A0 s_.g.l.length C0], Ch.arr tyRowRow 99 A0 C0 s_.g.l] [] (fun _ : Unit => .tuple #[]) (fun h => [Ch.box N0 132 [.pointer (some ⟨N1, 0, none⟩), .int .i64 r.spot.x, .int .i64 r.spot.y, .int .i64 r.spot.style.fore, .int .i64 r.spot.style.back, .bool r.spot.style.bold, .bool r.spot.style.under, .bool r.spot.style.inverse, .int .i64 r.saved.x, .int .i64 r.saved.y, .int .i64 r.saved.style.fore, .int .i64 r.saved.style.back, .bool r.saved.style.bold, .bool r.saved.style.under, .bool r.saved.style.inverse, .bool r.waiting, .int .i64 r.top, .int .i64 r.bottom, .bool r.wraps, .string r.title], Ch.box N1 181 [.int .i64 r.g.w, .slice A0 r.g.l.length C0], Ch.arr tyRowRow 99 A0 C0 r.g.l]) (fun h => []) := by
 delta p_screen_Screen_erase at H
 refine CT.of Go.Proofs.Tryz.func191 (by kernel_rfl) rfl rfl rfl fun K => ?_
 refine Td [16] [0, 0, 0] mo ?_
 refine Dq 0 ?_
 refine Dq 1 ?_
 refine Dq 2 ?_
 refine Db 3 0 ?_
 refine Dq 4 ?_
 refine Dq 5 ?_
 refine Dq 6 ?_
 refine Dq 7 ?_
 refine Db 8 0 ?_
 refine Dq 9 ?_
 refine Dq 11 ?_
 refine Dq 12 ?_
 refine Dq 13 ?_
 obtain ⟨r20, h21, H22⟩ := bnd H
 refine D.one rfl rfl rfl (Dp.ab [1, 1] [] [2, 0, 0] (Ac.call (c_grid_Grid_Row h21) rfl rfl rfl rfl) rfl rfl rfl rfl rfl rfl (fun _ => rfl) ?_)
 rintro ⟨a23, c24⟩
 obtain ⟨r26, h27, H28⟩ := bnd H22
 refine D.one rfl rfl rfl (Dp.br (Ac.call (c_screen_Screen_num h27) rfl rfl rfl rfl) (Bw.bx 0 rfl (Bw.bx 1 rfl (Bw.ch 2 rfl (Bw.nil)))) rfl rfl rfl rfl ?_)
 intro _
 obtain ⟨r29, h30, H31⟩ := bnd H28
 refine Dk [] [0] (c_row_Row_Erase h30) fun ⟨a32, c33⟩ => ?_
 obtain ⟨r35, h36, H37⟩ := bnd H31
 refine Dkl [1, 1] [0] (c_grid_Grid_Set h36) fun ⟨⟩ => ?_
 refine Dn ?_
 refine E.off ?_
 obtain rfl := sm H37
 exact Eo () [2, 0, 0] [] .nil

theorem c_screen_Screen_part {s_ : ScreenScreen} {n_ : Int} {r : ScreenScreen} (H : p_screen_Screen_part s_ n_ = some r) : CT G 158 [.pointer (some ⟨N0, 0, none⟩), .int .i64 n_] [Ch.box N0 132 [.pointer (some ⟨N1, 0, none⟩), .int .i64 s_.spot.x, .int .i64 s_.spot.y, .int .i64 s_.spot.style.fore, .int .i64 s_.spot.style.back, .bool s_.spot.style.bold, .bool s_.spot.style.under, .bool s_.spot.style.inverse, .int .i64 s_.saved.x, .int .i64 s_.saved.y, .int .i64 s_.saved.style.fore, .int .i64 s_.saved.style.back, .bool s_.saved.style.bold, .bool s_.saved.style.under, .bool s_.saved.style.inverse, .bool s_.waiting, .int .i64 s_.top, .int .i64 s_.bottom, .bool s_.wraps, .string s_.title], Ch.box N1 181 [.int .i64 s_.g.w, .slice A0 s_.g.l.length C0], Ch.arr tyRowRow 99 A0 C0 s_.g.l] [] (fun _ : Unit => .tuple #[]) (fun h => [Ch.box N0 132 [.pointer (some ⟨N1, 0, none⟩), .int .i64 r.spot.x, .int .i64 r.spot.y, .int .i64 r.spot.style.fore, .int .i64 r.spot.style.back, .bool r.spot.style.bold, .bool r.spot.style.under, .bool r.spot.style.inverse, .int .i64 r.saved.x, .int .i64 r.saved.y, .int .i64 r.saved.style.fore, .int .i64 r.saved.style.back, .bool r.saved.style.bold, .bool r.saved.style.under, .bool r.saved.style.inverse, .bool r.waiting, .int .i64 r.top, .int .i64 r.bottom, .bool r.wraps, .string r.title], Ch.box N1 181 [.int .i64 r.g.w, .slice A0 r.g.l.length C0], Ch.arr tyRowRow 99 A0 C0 r.g.l]) (fun h => []) := by
 delta p_screen_Screen_part at H
 refine CT.of Go.Proofs.Tryz.func158 (by kernel_rfl) rfl rfl rfl fun K => ?_
 refine Ts (Tr ?_)
 refine Lq 3 ?_
 refine Lb 0 ?_
 obtain ⟨r1, h2, H3⟩ := bnd H
 refine Lk [1, 1] [] (c_grid_Grid_Size h2) fun ⟨⟩ => ?_
 refine Lq 5 ?_
 refine Ln (Et (Ts (Ts (Tr ?_))))
 refine Lq 1 ?_
 refine Ln (Et ?_)
 obtain ⟨e53, H54, H55⟩ := bnd H3
 refine Tj0 [] [0, 1] [Ch.arr tyRowRow 99 A0 C0 e53.1.l, Ch.box N1 181 [.int .i64 e53.1.w, .slice A0 e53.1.l.length C0], Ch.box N0 132 [.pointer (some ⟨N1, 0, none⟩), .int .i64 e53.2.spot.x, .int .i64 e53.2.spot.y, .int .i64 e53.2.spot.style.fore, .int .i64 e53.2.spot.style.back, .bool e53.2.spot.style.bold, .bool e53.2.spot.style.under, .bool e53.2.spot.style.inverse, .int .i64 e53.2.saved.x, .int .i64 e53.2.saved.y, .int .i64 e53.2.saved.style.fore, .int .i64 e53.2.saved.style.back, .bool e53.2.saved.style.bold, .bool e53.2.saved.style.under, .bool e53.2.saved.style.inverse, .bool e53.2.waiting, .int .i64 e53.2.top, .int .i64 e53.2.bottom, .bool e53.2.wraps, .string e53.2.title]] [] ?_ ?_
 ·refine Tl (Ts (Tr ?_))
  refine Lq 2 ?_
  refine Ln (Et ?_)
  refine Tb H54 (fun H56 => ?_) fun H56 => ?_
  ·refine Td [12] [0, 0, 0] mo ?_
   refine Dq 0 ?_
   refine Dq 1 ?_
   refine Dq 2 ?_
   refine Dq 3 ?_
   refine Dq 4 ?_
   refine Db 5 2 ?_
   refine Dq 6 ?_
   refine Dq 7 ?_
   refine Dq 8 ?_
   refine Dq 9 ?_
   refine Db 10 2 ?_
   refine Dq 11 ?_
   obtain ⟨r61, h62, H63⟩ := bnd H56
   refine Dkl [2, 0, 0] [] (c_screen_Screen_erase h62) fun ⟨⟩ => ?_
   refine Dn ?_
   refine Eb ?_
   obtain rfl := sm H63
   exact Eg0 [2, 1, 0] 0
  refine Ts (Tr ?_)
  refine Lq 2 ?_
  refine Ln (Et ?_)
  refine Tb H56 (fun H65 => ?_) fun H65 => ?_
  ·refine Td [12] [0, 0, 0] mo ?_
   refine Dq 0 ?_
   refine Dq 1 ?_
   refine Dq 2 ?_
   refine Dq 3 ?_
   refine Dq 4 ?_
   refine Db 5 2 ?_
   refine Dq 6 ?_
   refine Dq 7 ?_
   refine Dq 8 ?_
   refine Dq 9 ?_
   refine Db 10 2 ?_
   refine Dq 11 ?_
   obtain ⟨r70, h71, H72⟩ := bnd H65
   refine Dkl [2, 0, 0] [] (c_screen_Screen_erase h71) fun ⟨⟩ => ?_
   refine Dn ?_
   refine Eb ?_
   obtain rfl := sm H72
   exact Eg0 [2, 1, 0] 0
  refine Ts (Tr ?_)
  refine Lq 2 ?_
  refine Ln (Et ?_)
  refine Tb H65 (fun H74 => ?_) fun H74 => ?_
  ·refine Tr ?_
   refine Lq 5 ?_
   refine Lb 2 ?_
   refine Lq 1 ?_
   obtain ⟨r75, h76, H77⟩ := bnd H74
   refine Lk [2, 0, 0] [] (c_screen_Screen_erase h76) fun ⟨⟩ => ?_
   refine Ln (Eb ?_)
   obtain rfl := sm H77
   exact Eg0 [2, 1, 0] 0
  refine Tk (Eb ?_)
  obtain rfl := sm H74
  exact Eg0 [1, 0, 0] 0
 refine Tr ?_
 refine Lq 4 ?_
 refine Lb 2 ?_
 refine Lq 1 ?_
 refine Lw 60 H55 (fun H79 => ?_) fun H79 => ?_
 ·refine Lq 5 ?_
  refine Lt 2 ?_
  refine Ln (E.off ?_)
  obtain rfl := sm H79
  exact Eo () [0, 1, 0] [] .nil
 refine Lq 5 ?_
 refine Lt 2 ?_
 refine Ln (E.off ?_)
 obtain rfl := sm H79
 exact Eo () [0, 1, 0] [] .nil

theorem c_screen_Screen_wipe {s_ : ScreenScreen} {n_ : Int} {r : ScreenScreen} (H : p_screen_Screen_wipe s_ n_ = some r) : CT G 157 [.pointer (some ⟨N0, 0, none⟩), .int .i64 n_] [Ch.box N0 132 [.pointer (some ⟨N1, 0, none⟩), .int .i64 s_.spot.x, .int .i64 s_.spot.y, .int .i64 s_.spot.style.fore, .int .i64 s_.spot.style.back, .bool s_.spot.style.bold, .bool s_.spot.style.under, .bool s_.spot.style.inverse, .int .i64 s_.saved.x, .int .i64 s_.saved.y, .int .i64 s_.saved.style.fore, .int .i64 s_.saved.style.back, .bool s_.saved.style.bold, .bool s_.saved.style.under, .bool s_.saved.style.inverse, .bool s_.waiting, .int .i64 s_.top, .int .i64 s_.bottom, .bool s_.wraps, .string s_.title], Ch.box N1 181 [.int .i64 s_.g.w, .slice A0 s_.g.l.length C0], Ch.arr tyRowRow 99 A0 C0 s_.g.l] [] (fun _ : Unit => .tuple #[]) (fun h => [Ch.box N0 132 [.pointer (some ⟨N1, 0, none⟩), .int .i64 r.spot.x, .int .i64 r.spot.y, .int .i64 r.spot.style.fore, .int .i64 r.spot.style.back, .bool r.spot.style.bold, .bool r.spot.style.under, .bool r.spot.style.inverse, .int .i64 r.saved.x, .int .i64 r.saved.y, .int .i64 r.saved.style.fore, .int .i64 r.saved.style.back, .bool r.saved.style.bold, .bool r.saved.style.under, .bool r.saved.style.inverse, .bool r.waiting, .int .i64 r.top, .int .i64 r.bottom, .bool r.wraps, .string r.title], Ch.box N1 181 [.int .i64 r.g.w, .slice A0 r.g.l.length C0], Ch.arr tyRowRow 99 A0 C0 r.g.l]) (fun h => []) := by
 delta p_screen_Screen_wipe at H
 refine CT.of Go.Proofs.Tryz.func157 (by kernel_rfl) rfl rfl rfl fun K => ?_
 refine Ts (Tr ?_)
 refine Lq 3 ?_
 refine Lb 0 ?_
 obtain ⟨r1, h2, H3⟩ := bnd H
 refine Lk [1, 1] [] (c_grid_Grid_Size h2) fun ⟨⟩ => ?_
 refine Lq 5 ?_
 refine Ln (Et (Ts (Ts (Tr ?_))))
 refine Lq 2 ?_
 refine Ln (Et ?_)
 obtain ⟨e395, H396, H397⟩ := bnd H3
 refine Tj0 [] [0, 1] [Ch.arr tyRowRow 99 A0 C0 e395.1.l, Ch.box N1 181 [.int .i64 e395.1.w, .slice A0 e395.1.l.length C0], Ch.box N0 132 [.pointer (some ⟨N1, 0, none⟩), .int .i64 e395.2.spot.x, .int .i64 e395.2.spot.y, .int .i64 e395.2.spot.style.fore, .int .i64 e395.2.spot.style.back, .bool e395.2.spot.style.bold, .bool e395.2.spot.style.under, .bool e395.2.spot.style.inverse, .int .i64 e395.2.saved.x, .int .i64 e395.2.saved.y, .int .i64 e395.2.saved.style.fore, .int .i64 e395.2.saved.style.back, .bool e395.2.saved.style.bold, .bool e395.2.saved.style.under, .bool e395.2.saved.style.inverse, .bool e395.2.waiting, .int .i64 e395.2.top, .int .i64 e395.2.bottom, .bool e395.2.wraps, .string e395.2.title]] [] ?_ ?_
 ·refine Tl ?_
  refine Tq (η := Unit) (fun s266 h => [(16, .int .i64 s266.2.2)]) [0, 1, 4, 15] (fun s266 h => [Ch.arr tyRowRow 99 A0 C0 s266.2.1.l, Ch.box N1 181 [.int .i64 s266.2.1.w, .slice A0 s266.2.1.l.length C0], Ch.box N0 132 [.pointer (some ⟨N1, 0, none⟩), .int .i64 s266.1.spot.x, .int .i64 s266.1.spot.y, .int .i64 s266.1.spot.style.fore, .int .i64 s266.1.spot.style.back, .bool s266.1.spot.style.bold, .bool s266.1.spot.style.under, .bool s266.1.spot.style.inverse, .int .i64 s266.1.saved.x, .int .i64 s266.1.saved.y, .int .i64 s266.1.saved.style.fore, .int .i64 s266.1.saved.style.back, .bool s266.1.saved.style.bold, .bool s266.1.saved.style.under, .bool s266.1.saved.style.inverse, .bool s266.1.waiting, .int .i64 s266.1.top, .int .i64 s266.1.bottom, .bool s266.1.wraps, .string s266.1.title]]) [] (fun _ _ => []) () [1, 0, 0] [] H396 ?_
  rintro k_ s266 ⟨⟩ z399 H398 hag400 hbr401
  refine Ts (Tr ?_)
  refine Lq 1 ?_
  refine Ln (Et (Ts ?_))
  refine Tb H398 (fun H403 => ?_) fun H403 => ?_
  ·refine Tk (Et (Ts ?_))
   obtain ⟨e485, H486, H487⟩ := bnd H403
   refine Tj0 [] [0, 1, 4, 15, 16] [Ch.arr tyRowRow 99 A0 C0 e485.1.l, Ch.box N1 181 [.int .i64 e485.1.w, .slice A0 e485.1.l.length C0], Ch.box N0 132 [.pointer (some ⟨N1, 0, none⟩), .int .i64 e485.2.spot.x, .int .i64 e485.2.spot.y, .int .i64 e485.2.spot.style.fore, .int .i64 e485.2.spot.style.back, .bool e485.2.spot.style.bold, .bool e485.2.spot.style.under, .bool e485.2.spot.style.inverse, .int .i64 e485.2.saved.x, .int .i64 e485.2.saved.y, .int .i64 e485.2.saved.style.fore, .int .i64 e485.2.saved.style.back, .bool e485.2.saved.style.bold, .bool e485.2.saved.style.under, .bool e485.2.saved.style.inverse, .bool e485.2.waiting, .int .i64 e485.2.top, .int .i64 e485.2.bottom, .bool e485.2.wraps, .string e485.2.title]] [] ?_ ?_
   ·refine Tl (Ts (Tr ?_))
    refine Lq 2 ?_
    refine Ln (Et (Ts ?_))
    obtain ⟨e509, H510, H511⟩ := bnd H486
    refine Tj0 [(55, .bool e509)] [0, 1, 4, 6, 15, 16] [] [1, 2, 0] ?_ ?_
    ·refine Tr ?_
     refine Lq 5 ?_
     refine Lb 2 ?_
     refine Lq 2 ?_
     refine Lw 26 H510 (fun H512 => ?_) fun H512 => ?_
     ·refine Lq 4 ?_
      refine Lw 30 H512 (fun H513 => ?_) fun H513 => ?_
      ·refine Lq 25 ?_
       refine Ln ?_
       obtain rfl := sm H513
       exact Eg0 [1, 1, 0] 0
      refine Lq 5 ?_
      refine Lb 2 ?_
      refine Lq 2 ?_
      refine Lw 38 H513 (fun H514 => ?_) fun H514 => ?_
      ·refine Lq 5 ?_
       refine Lw 43 H514 (fun H515 => ?_) fun H515 => ?_
       ·refine Lq 12 ?_
        refine Ln ?_
        obtain rfl := sm H515
        exact Eg0 [1, 1, 0] 0
       refine Lq 5 ?_
       refine Lb 2 ?_
       refine Lq 2 ?_
       refine Lw 51 H515 (fun H516 => ?_) fun H516 => ?_
       ·refine Lq 4 ?_
        refine Ln ?_
        obtain rfl := sm H516
        exact Eg0 [1, 1, 0] 0
       refine Lq 4 ?_
       refine Ln ?_
       obtain rfl := sm H516
       exact Eg0 [1, 1, 0] 0
      refine Lq 10 ?_
      refine Lb 2 ?_
      refine Lq 2 ?_
      refine Lw 51 H514 (fun H517 => ?_) fun H517 => ?_
      ·refine Lq 4 ?_
       refine Ln ?_
       obtain rfl := sm H517
       exact Eg0 [1, 1, 0] 0
      refine Lq 4 ?_
      refine Ln ?_
      obtain rfl := sm H517
      exact Eg0 [1, 1, 0] 0
     refine Lq 9 ?_
     refine Lb 2 ?_
     refine Lq 2 ?_
     refine Lw 38 H512 (fun H518 => ?_) fun H518 => ?_
     ·refine Lq 5 ?_
      refine Lw 43 H518 (fun H519 => ?_) fun H519 => ?_
      ·refine Lq 12 ?_
       refine Ln ?_
       obtain rfl := sm H519
       exact Eg0 [1, 1, 0] 0
      refine Lq 5 ?_
      refine Lb 2 ?_
      refine Lq 2 ?_
      refine Lw 51 H519 (fun H520 => ?_) fun H520 => ?_
      ·refine Lq 4 ?_
       refine Ln ?_
       obtain rfl := sm H520
       exact Eg0 [1, 1, 0] 0
      refine Lq 4 ?_
      refine Ln ?_
      obtain rfl := sm H520
      exact Eg0 [1, 1, 0] 0
     refine Lq 10 ?_
     refine Lb 2 ?_
     refine Lq 2 ?_
     refine Lw 51 H518 (fun H521 => ?_) fun H521 => ?_
     ·refine Lq 4 ?_
      refine Ln ?_
      obtain rfl := sm H521
      exact Eg0 [1, 1, 0] 0
     refine Lq 4 ?_
     refine Ln ?_
     obtain rfl := sm H521
     exact Eg0 [1, 1, 0] 0
    refine Tb H511 (fun H522 => ?_) fun H522 => ?_
    ·refine Tr ?_
     refine Lq 3 ?_
     obtain ⟨r523, h524, H525⟩ := bnd H522
     refine Lk [1, 0, 0] [] (c_screen_Screen_erase h524) fun ⟨⟩ => ?_
     refine Ln (Eb ?_)
     obtain rfl := sm H525
     exact Eg0 [2, 1, 0] 0
    refine Tk (Eb ?_)
    obtain rfl := sm H522
    exact Eg0 [2, 0, 0] 0
   refine Tr ?_
   refine Lq 2 ?_
   refine Ln ?_
   obtain rfl := sm H487
   exact Eg (_, ()) (hag400 _ rfl) [0, 0, 0] [] 0
  refine Tx (Ex (Ex (Eh ?_)))
  obtain rfl := sm H403
  have hb := hbr401 _ rfl
  subst e395
  exact Eg0 [0, 0, 0] 0
 refine Tr ?_
 refine Lq 2 ?_
 obtain ⟨r527, h528, H529⟩ := bnd H397
 refine Lk [2, 1, 0] [] (c_screen_Screen_part h528) fun ⟨⟩ => ?_
 refine Ln (E.off ?_)
 obtain rfl := sm H529
 exact Eo () [0, 0, 0] [] .nil

end Go.Tw.X

import Derived.Test.YtncmjkhmhfmogaaGreatDoorFw2
import Derived.Test.YtncmjkhmhfmogaaGreatDoorProg
import Derived.Test.YtncmjkhmhfmogaaGreatDoorXp1
set_option maxHeartbeats 2000000
set_option linter.unusedVariables false
set_option linter.unusedSimpArgs false
set_option maxRecDepth 10000
namespace Go.Tw.X
open Go Go.Tw
def tyRef09Cell : Ty Ref09Cell := ⟨3, Unit, fun x h => [.int .i64 x.rune, .int .i64 x.style, .int .i64 x.part], fun x h => [], fun _ _ => rfl, by simp [Value.oneCell']⟩
def tyRef09Row : Ty Ref09Row := ⟨2, (Option Addr × Nat), fun x h => [.slice h.1 x.l.length h.2, .bool x.wrapped], fun x h => [Im.sl tyRef09Cell h.1 h.2 x.l], fun _ _ => rfl, by simp [Value.oneCell']⟩
def tyRowCell : Ty RowCell := ⟨3, Unit, fun x h => [.int .i32 x.rune, .int .i64 x.style, .int .i64 x.part], fun x h => [], fun _ _ => rfl, by simp [Value.oneCell']⟩
def tyRowRow : Ty RowRow := ⟨2, (Option Addr × Nat), fun x h => [.slice h.1 x.cells.length h.2, .bool x.wrapped], fun x h => [Im.sl tyRowCell h.1 h.2 x.cells], fun _ _ => rfl, by simp [Value.oneCell']⟩
def tyRef07Action : Ty Ref07Action := ⟨6, (Option Addr × Nat), fun x h => [.int .i64 x.kind, .int .i64 x.rune, .int .i64 x.byte, .bool x.private_, .slice h.1 x.nums.length h.2, .string x.text], fun x h => [Im.sl (Ty.int .i64) h.1 h.2 x.nums], fun _ _ => rfl, by simp [Value.oneCell']⟩
def tyRowGlyph : Ty RowGlyph := ⟨2, Unit, fun x h => [.int .i32 x.rune, .int .i64 x.style], fun x h => [], fun _ _ => rfl, by simp [Value.oneCell']⟩
def tyLaw11Step : Ty Law11Step := ⟨10, (Option Addr × Nat), fun x h => [.int .i64 x.kind, .int .i64 x.w, .int .i64 x.h, .int .i64 x.a.kind, .int .i64 x.a.rune, .int .i64 x.a.byte, .bool x.a.private_, .slice h.1 x.a.nums.length h.2, .string x.a.text, .string x.text], fun x h => [Im.sl (Ty.int .i64) h.1 h.2 x.a.nums], fun _ _ => rfl, by simp [Value.oneCell']⟩
def tyWideSpan : Ty WideSpan := ⟨2, Unit, fun x h => [.int .i32 x.from_, .int .i32 x.to], fun x h => [], fun _ _ => rfl, by simp [Value.oneCell']⟩
def tyArr2Int : Ty Arr2Int := ⟨2, Unit, fun x h => [.int .i64 x.e0, .int .i64 x.e1], fun x h => [], fun _ _ => rfl, by simp [Value.oneCell']⟩
def tyRef09Glyph : Ty Ref09Glyph := ⟨2, Unit, fun x h => [.int .i64 x.rune, .int .i64 x.style], fun x h => [], fun _ _ => rfl, by simp [Value.oneCell']⟩
abbrev bx31 (x : Ref11Screen) (a1 : Option Addr) (c1 : Nat) : List Value := [.int .i64 x.g.w, .slice a1 x.g.l.length c1, .int .i64 x.x, .int .i64 x.y, .int .i64 x.s.fore, .int .i64 x.s.back, .bool x.s.bold, .bool x.s.under, .bool x.s.inverse, .int .i64 x.sX, .int .i64 x.sY, .int .i64 x.sS.fore, .int .i64 x.sS.back, .bool x.sS.bold, .bool x.sS.under, .bool x.sS.inverse, .bool x.waiting, .int .i64 x.top, .int .i64 x.bottom, .bool x.wraps, .string x.title]
abbrev bx37 (x : Ref07Action) (a1 : Option Addr) (c1 : Nat) : List Value := [.int .i64 x.kind, .int .i64 x.rune, .int .i64 x.byte, .bool x.private_, .slice a1 x.nums.length c1, .string x.text]
abbrev bx40 (x : SeqAction) (a1 : Option Addr) (c1 : Nat) : List Value := [.int .i64 x.kind, .int .i32 x.rune, .int .u8 x.byte, .bool x.private_, .slice a1 x.nums.length c1, .string x.text]
abbrev bx62 (x : Law11Step) (a1 : Option Addr) (c1 : Nat) : List Value := [.int .i64 x.kind, .int .i64 x.w, .int .i64 x.h, .int .i64 x.a.kind, .int .i64 x.a.rune, .int .i64 x.a.byte, .bool x.a.private_, .slice a1 x.a.nums.length c1, .string x.a.text, .string x.text]
def tab : Tab := [(3, ⟨.int .i64, 1, 8, [.int .i64 0], false, false⟩),
  (4, ⟨.bool, 1, 1, [.bool false], false, false⟩),
  (5, ⟨.int .u8, 1, 1, [.int .u8 0], false, false⟩),
  (9, ⟨.string, 1, 16, [.string ⟨#[]⟩], false, false⟩),
  (21, ⟨.int .i32, 1, 4, [.int .i32 0], false, false⟩),
  (23, ⟨.pointer 81, 1, 8, [.pointer none], false, false⟩),
  (25, ⟨.slice 69, 1, 24, [.slice none 0 0], false, false⟩),
  (27, ⟨.struct [(3, 0), (25, 1)], 2, 32, [.int .i64 0, .slice none 0 0], true, false⟩),
  (29, ⟨.struct [(3, 0), (3, 1), (4, 2), (4, 3), (4, 4)], 5, 24, [.int .i64 0, .int .i64 0, .bool false, .bool false, .bool false], true, true⟩),
  (31, ⟨.struct [(27, 0), (3, 2), (3, 3), (29, 4), (3, 9), (3, 10), (29, 11), (4, 16), (3, 17), (3, 18), (4, 19), (9, 20)], 21, 160, [.int .i64 0, .slice none 0 0, .int .i64 0, .int .i64 0, .int .i64 0, .int .i64 0, .bool false, .bool false, .bool false, .int .i64 0, .int .i64 0, .int .i64 0, .int .i64 0, .bool false, .bool false, .bool false, .bool false, .int .i64 0, .int .i64 0, .bool false, .string ⟨#[]⟩], true, false⟩),
  (33, ⟨.slice 52, 1, 24, [.slice none 0 0], false, false⟩),
  (35, ⟨.slice 3, 1, 24, [.slice none 0 0], false, false⟩),
  (37, ⟨.struct [(3, 0), (3, 1), (3, 2), (4, 3), (35, 4), (9, 5)], 6, 72, [.int .i64 0, .int .i64 0, .int .i64 0, .bool false, .slice none 0 0, .string ⟨#[]⟩], true, false⟩),
  (40, ⟨.struct [(3, 0), (21, 1), (5, 2), (4, 3), (35, 4), (9, 5)], 6, 56, [.int .i64 0, .int .i32 0, .int .u8 0, .bool false, .slice none 0 0, .string ⟨#[]⟩], true, false⟩),
  (42, ⟨.slice 5, 1, 24, [.slice none 0 0], false, false⟩),
  (47, ⟨.pointer 96, 1, 8, [.pointer none], false, false⟩),
  (50, ⟨.slice 98, 1, 24, [.slice none 0 0], false, false⟩),
  (52, ⟨.struct [(50, 0), (4, 1)], 2, 32, [.slice none 0 0, .bool false], true, false⟩),
  (53, ⟨.slice 56, 1, 24, [.slice none 0 0], false, false⟩),
  (56, ⟨.struct [(21, 0), (3, 1)], 2, 16, [.int .i32 0, .int .i64 0], true, false⟩),
  (58, ⟨.slice 62, 1, 24, [.slice none 0 0], false, false⟩),
  (62, ⟨.struct [(3, 0), (3, 1), (3, 2), (37, 3), (9, 9)], 10, 112, [.int .i64 0, .int .i64 0, .int .i64 0, .int .i64 0, .int .i64 0, .int .i64 0, .bool false, .slice none 0 0, .string ⟨#[]⟩, .string ⟨#[]⟩], true, false⟩),
  (67, ⟨.slice 109, 1, 24, [.slice none 0 0], false, false⟩),
  (69, ⟨.struct [(67, 0), (4, 1)], 2, 32, [.slice none 0 0, .bool false], true, false⟩),
  (75, ⟨.slice 21, 1, 24, [.slice none 0 0], false, false⟩),
  (77, ⟨.struct [(3, 0), (3, 1), (4, 2), (4, 3), (4, 4)], 5, 24, [.int .i64 0, .int .i64 0, .bool false, .bool false, .bool false], true, false⟩),
  (79, ⟨.struct [(3, 0), (3, 1), (77, 2)], 7, 40, [.int .i64 0, .int .i64 0, .int .i64 0, .int .i64 0, .bool false, .bool false, .bool false], true, false⟩),
  (81, ⟨.struct [(47, 0), (79, 1), (79, 8), (4, 15), (3, 16), (3, 17), (4, 18), (9, 19)], 20, 136, [.pointer none, .int .i64 0, .int .i64 0, .int .i64 0, .int .i64 0, .bool false, .bool false, .bool false, .int .i64 0, .int .i64 0, .int .i64 0, .int .i64 0, .bool false, .bool false, .bool false, .bool false, .int .i64 0, .int .i64 0, .bool false, .string ⟨#[]⟩], true, false⟩),
  (96, ⟨.struct [(3, 0), (33, 1)], 2, 32, [.int .i64 0, .slice none 0 0], true, false⟩),
  (98, ⟨.struct [(21, 0), (3, 1), (3, 2)], 3, 24, [.int .i32 0, .int .i64 0, .int .i64 0], true, true⟩),
  (102, ⟨.slice 37, 1, 24, [.slice none 0 0], false, false⟩),
  (109, ⟨.struct [(3, 0), (3, 1), (3, 2)], 3, 24, [.int .i64 0, .int .i64 0, .int .i64 0], true, true⟩),
  (143, ⟨.slice 9, 1, 24, [.slice none 0 0], false, false⟩),
  (148, ⟨.slice 150, 1, 24, [.slice none 0 0], false, false⟩),
  (150, ⟨.struct [(21, 0), (21, 1)], 2, 8, [.int .i32 0, .int .i32 0], true, false⟩),
  (151, ⟨.array 13 150, 26, 104, [.int .i32 0, .int .i32 0, .int .i32 0, .int .i32 0, .int .i32 0, .int .i32 0, .int .i32 0, .int .i32 0, .int .i32 0, .int .i32 0, .int .i32 0, .int .i32 0, .int .i32 0, .int .i32 0, .int .i32 0, .int .i32 0, .int .i32 0, .int .i32 0, .int .i32 0, .int .i32 0, .int .i32 0, .int .i32 0, .int .i32 0, .int .i32 0, .int .i32 0, .int .i32 0], true, false⟩),
  (152, ⟨.array 14 150, 28, 112, [.int .i32 0, .int .i32 0, .int .i32 0, .int .i32 0, .int .i32 0, .int .i32 0, .int .i32 0, .int .i32 0, .int .i32 0, .int .i32 0, .int .i32 0, .int .i32 0, .int .i32 0, .int .i32 0, .int .i32 0, .int .i32 0, .int .i32 0, .int .i32 0, .int .i32 0, .int .i32 0, .int .i32 0, .int .i32 0, .int .i32 0, .int .i32 0, .int .i32 0, .int .i32 0, .int .i32 0, .int .i32 0], true, false⟩),
  (162, ⟨.array 2 3, 2, 16, [.int .i64 0, .int .i64 0], true, false⟩),
  (163, ⟨.slice 162, 1, 24, [.slice none 0 0], false, false⟩),
  (170, ⟨.slice 173, 1, 24, [.slice none 0 0], false, false⟩),
  (173, ⟨.struct [(3, 0), (3, 1)], 2, 16, [.int .i64 0, .int .i64 0], true, false⟩),
  (181, ⟨.int .u64, 1, 8, [.int .u64 0], false, false⟩),
  (184, ⟨.slice 50, 1, 24, [.slice none 0 0], false, false⟩),
  (188, ⟨.int .u64, 1, 8, [.int .u64 0], false, false⟩)]
theorem tab_ok : TabOk Go.Proofs.Tryz.prog tab := tabb_ok (by kernel_rfl)
noncomputable def G : Pg := ⟨Go.Proofs.Tryz.prog, tab, tab_ok, none⟩
theorem mo : G.P.follows .mixedOrders = true := by kernel_rfl
end Go.Tw.X

set_option maxHeartbeats 2000000
set_option linter.unusedVariables false
set_option linter.unusedSimpArgs false
set_option maxRecDepth 10000
namespace Go.Tw.X
open Go Go.Tw
variable {A0 A1 A2 : Option Addr} {C0 C1 C2 : Nat}
variable {N0 N1 N2 N3 N4 : Nat}
theorem c_grid_clip {n_ : Int} {lo : Int} {hi : Int} {r : Int} (H : p_grid_clip n_ lo hi = some r) : CT G 98 [.int .i64 n_, .int .i64 lo, .int .i64 hi] [] [] (fun _ : Unit => .int .i64 r) (fun h => []) (fun h => []) := by
 delta p_grid_clip at H
 refine CT.of Go.Proofs.Tryz.func98 (by kernel_rfl) rfl rfl rfl fun K => ?_
 refine Ts (Tr ?_)
 refine Lq 1 ?_
 refine Ln (Et (Ts (Tr ?_)))
 refine Lq 6 ?_
 refine Ln (Et (Tv ?_))
 obtain rfl := sm H
 exact Eo1 () [] []

theorem c_grid_size {n_ : Int} {r : Int} (H : p_grid_size n_ = some r) : CT G 57 [.int .i64 n_] [] [] (fun _ : Unit => .int .i64 r) (fun h => []) (fun h => []) := by
 delta p_grid_size at H
 refine CT.of Go.Proofs.Tryz.func57 (by kernel_rfl) rfl rfl rfl fun K => ?_
 refine Ts (Tr ?_)
 refine Lq 1 ?_
 refine Ln (Et (Ts (Tr ?_)))
 refine Lq 1 ?_
 obtain ⟨r1, h2, H3⟩ := bnd H
 refine Lk [] [] (c_grid_clip h2) fun ⟨⟩ => ?_
 refine Lq 1 ?_
 refine Ln (Et (Tv ?_))
 obtain rfl := sm H3
 exact Eo1 () [] []

theorem c_row_clip {n_ : Int} {lo : Int} {hi : Int} {r : Int} (H : p_row_clip n_ lo hi = some r) : CT G 105 [.int .i64 n_, .int .i64 lo, .int .i64 hi] [] [] (fun _ : Unit => .int .i64 r) (fun h => []) (fun h => []) := by
 delta p_row_clip at H
 refine CT.of Go.Proofs.Tryz.func105 (by kernel_rfl) rfl rfl rfl fun K => ?_
 refine Ts (Tr ?_)
 refine Lq 1 ?_
 refine Ln (Et (Ts (Tr ?_)))
 refine Lq 6 ?_
 refine Ln (Et (Tv ?_))
 obtain rfl := sm H
 exact Eo1 () [] []

theorem c_row_blank {style : Int} {r : RowCell} (H : p_row_blank style = some r) : CT G 45 [.int .i64 style] [] [] (fun _ : Unit => .agg #[.int .i32 r.rune, .int .i64 r.style, .int .i64 r.part]) (fun h => []) (fun h => []) := by
 delta p_row_blank at H
 refine CT.of Go.Proofs.Tryz.func45 (by kernel_rfl) rfl rfl rfl fun K => ?_
 refine Ts (Tr ?_)
 refine Ll fun g1 => ?_
 refine Ln (Et (Ts (Tr ?_)))
 refine Lq 2 ?_
 refine Lt 0 ?_
 refine Ln (Et (Tv ?_))
 obtain rfl := sm H
 exact Eo () [] [] (.cell 0 rfl rfl rfl .nil)

theorem c_bits_Mul64 {x_ : Int} {y : Int} {r : Int × Int} (H : p_bits_Mul64 x_ y = some r) : CT G 141 [.int .u64 x_, .int .u64 y] [] [] (fun _ : Unit => .tuple #[.int .u64 r.1, .int .u64 r.2]) (fun h => []) (fun h => []) := by
 delta p_bits_Mul64 at H
 refine CT.of Go.Proofs.Tryz.func141 (by kernel_rfl) rfl rfl rfl fun K => ?_
 refine Ts (Tr ?_)
 refine Lq 2 ?_
 refine Ln (Et (Ts (Tr ?_)))
 refine Lq 3 ?_
 refine Ln (Et (Ts (Tr ?_)))
 refine Lq 3 ?_
 refine Ln (Et (Ts (Tr ?_)))
 refine Lq 3 ?_
 refine Ln (Et (Ts (Tr ?_)))
 refine Lq 3 ?_
 refine Ln (Et (Ts (Tr ?_)))
 refine Lq 4 ?_
 refine Ln (Et (Ts (Tr ?_)))
 refine Lq 7 ?_
 refine Ln (Et (Ts (Tr ?_)))
 refine Lq 3 ?_
 refine Ln (Et (Ts (Tr ?_)))
 refine Lq 3 ?_
 refine Ln (Et (Ts (Tr ?_)))
 refine Lq 6 ?_
 refine Ln (Et (Ts (Tr ?_)))
 refine Lq 9 ?_
 refine Ln (Et (Ts (Tr ?_)))
 refine Lq 4 ?_
 refine Ln (Et (Tv ?_))
 obtain rfl := sm H
 exact Eo () [] [] (.tmp rfl (.tmp rfl .nil))

theorem c_bits_Mul {x_ : Int} {y : Int} {r : Int × Int} (H : p_bits_Mul x_ y = some r) : CT G 138 [.int .u64 x_, .int .u64 y] [] [] (fun _ : Unit => .tuple #[.int .u64 r.1, .int .u64 r.2]) (fun h => []) (fun h => []) := by
 delta p_bits_Mul at H
 refine CT.of Go.Proofs.Tryz.func138 (by kernel_rfl) rfl rfl rfl fun K => ?_
 refine Ts (Tr ?_)
 refine Lq 2 ?_
 refine Ln (Et (Ts ?_))
 refine T.cond rfl (fun h => nomatch h) (fun _ => ?_)
 refine Tk (Et (Ts (Tr ?_)))
 refine Lq 2 ?_
 obtain ⟨r1, h2, H3⟩ := bnd H
 refine Lk [] [] (c_bits_Mul64 h2) fun ⟨⟩ => ?_
 refine Lq 5 ?_
 refine Ln (Et (Ts (Tr ?_)))
 refine Lq 4 ?_
 refine Ln (Et (Tv ?_))
 obtain rfl := sm H3
 exact Eo () [] [] (.tmp rfl (.tmp rfl .nil))

theorem c_slices_Repeat_row_Cell {x_ : List RowCell} {count : Int} {r : (List RowCell)} (H : p_slices_Repeat_row_Cell x_ count = some r) : CT G 131 [.slice A0 x_.length C0, .int .i64 count] [] [Im.sl tyRowCell A0 C0 x_] (fun h : (Option Addr × Nat) => .slice h.1 r.length h.2) (fun h => [Ch.arr tyRowCell 98 h.1 h.2 r]) (fun h => []) := by
 delta p_slices_Repeat_row_Cell at H
 refine CT.of Go.Proofs.Tryz.func131 (by kernel_rfl) rfl rfl rfl fun K => ?_
 refine Ts (Tr ?_)
 refine Lq 1 ?_
 refine Ln (Et (Ts (Ts (Tr ?_))))
 refine Lq 2 ?_
 refine Ln (Et ?_)
 refine Tb H (fun H2 => ?_) fun H2 => ?_
 ·cases H2
 refine Tk (Et (Ts (Tr ?_)))
 refine Lq 5 ?_
 obtain ⟨r3, h4, H5⟩ := bnd H2
 refine Lk [] [] (c_bits_Mul h4) fun ⟨⟩ => ?_
 refine Lq 5 ?_
 refine Ln (Et (Ts (Ts ?_)))
 obtain ⟨e9, H10, H11⟩ := bnd H5
 refine Tj0 [(26, .bool e9)] [0, 6] [] [] ?_ ?_
 ·refine Tr ?_
  refine Lq 3 ?_
  refine Lw 23 H10 (fun H12 => ?_) fun H12 => ?_
  ·refine Lq 3 ?_
   refine Ln ?_
   obtain rfl := sm H12
   exact Eg0 [] 0
  refine Lq 3 ?_
  refine Ln ?_
  obtain rfl := sm H12
  exact Eg0 [] 0
 refine Tb H11 (fun H14 => ?_) fun H14 => ?_
 ·cases H14
 refine Tk (Et (Ts (Tr ?_)))
 refine Lq 2 ?_
 obtain ⟨_, h15, H16⟩ := bnd H14
 refine La [] [] (Ac.mk (ty := tyRowCell) (RowCell.mk 0 0 0) () h15 (fun _ _ f hf => by cases hf) rfl rfl rfl rfl rfl rfl rfl) fun g17 => ?_
 refine Lq 1 ?_
 refine Ln (Et (Ts (Tr ?_)))
 refine Lq 2 ?_
 refine La [0] [0] (Ac.cp (ty := tyRowCell) rfl rfl rfl rfl rfl rfl rfl) fun _ => ?_
 refine L.sl 7 (k' := (cpy (List.replicate (IntKind.i64.wrap r3.2).toNat (RowCell.mk 0 0 0)) x_).length) (cpy_length ..) rfl ?_
 refine Lq 1 ?_
 refine Ln (Et (Ts ?_))
 obtain ⟨e88, H89, H90⟩ := bnd H16
 refine Tjh (η := (Option Addr × Nat)) (fun h => (fun a85 c86 => [(7, .slice a85 e88.length c86)]) h.1 h.2) [] (fun h => (fun a85 c86 => [Ch.arr tyRowCell 98 a85 c86 e88]) h.1 h.2) [] (fun _ => []) ?_ ?_
 ·refine Tl ?_
  refine Tq (η := (Option Addr × Nat)) (fun s67 h => (fun a63 c64 => [(7, .slice a63 s67.1.length c64), (8, .int .i64 s67.2)]) h.1 h.2) [] (fun s67 h => (fun a63 c64 => [Ch.arr tyRowCell 98 a63 c64 s67.1]) h.1 h.2) [] (fun _ _ => []) ((some ⟨g17, 0, none⟩), (IntKind.i64.wrap r3.2).toNat) [0] [] H89 ?_
  rintro k_ s67 ⟨a63, c64⟩ z92 H91 hag93 hbr94
  refine Ts (Ts (Tr ?_))
  refine Lq 4 ?_
  refine Ln (Et ?_)
  refine Tb H91 (fun H96 => ?_) fun H96 => ?_
  ·refine Tk (Et (Tl ?_))
   refine Td [] [] mo ?_
   refine Dq 0 ?_
   refine Dq 1 ?_
   refine Dq 2 ?_
   obtain ⟨_, h104, H105⟩ := bnd H96
   refine D.cap 0 rfl fun h106 => ?_
   refine Dy 3 (Yl.sv (ty := tyRowCell) h106 h104 rfl rfl rfl rfl rfl rfl rfl rfl) ?_
   refine Dq 4 ?_
   refine Dq 5 ?_
   obtain ⟨_, h107, H108⟩ := bnd H105
   refine D.cap 0 rfl fun h109 => ?_
   refine Dy 6 (Yl.sv (ty := tyRowCell) h109 h107 rfl rfl rfl rfl rfl rfl rfl rfl) ?_
   refine Da [0] [] rfl rfl (Ac.cps (ty := tyRowCell) h104 rfl rfl rfl rfl rfl rfl rfl) fun _ => ?_
   refine Dq 8 ?_
   refine Dq 9 ?_
   refine Dn ?_
   refine E.sl 7 (k' := (cpys s67.1 s67.2.toNat).length) (cpys_len h104) rfl ?_
   refine Eb ?_
   obtain rfl := sm H108
   exact Eg (_, (a63, c64)) (hag93 _ rfl) [0] [] 0
  refine Tx (Ex (Ex (Eh ?_)))
  obtain rfl := sm H96
  have hb := hbr94 _ rfl
  subst e88
  exact Eg (a63, c64) trivial [0] [] 0
 rintro ⟨a85, c86⟩
 refine Ts (Tr ?_)
 refine Lq 2 ?_
 refine Ln (Et (Tv ?_))
 obtain rfl := sm H90
 exact Eo1 (a85, c86) [0] []

theorem c_row_blanks {n_ : Int} {style : Int} {r : (List RowCell)} (H : p_row_blanks n_ style = some r) : CT G 104 [.int .i64 n_, .int .i64 style] [] [] (fun h : (Option Addr × Nat) => .slice h.1 r.length h.2) (fun h => [Ch.arr tyRowCell 98 h.1 h.2 r]) (fun h => []) := by
 delta p_row_blanks at H
 refine CT.of Go.Proofs.Tryz.func104 (by kernel_rfl) rfl rfl rfl fun K => ?_
 refine Ts (Tr ?_)
 refine Lq 1 ?_
 refine Ln (Et (Ts (Tr ?_)))
 refine Lq 1 ?_
 obtain ⟨r1, h2, H3⟩ := bnd H
 refine Lk [] [] (c_row_blank h2) fun ⟨⟩ => ?_
 refine La [] [] (Ac.bs (ty := tyRowCell) (xs := [r1]) (.cons () [] rfl .nil) rfl rfl rfl rfl rfl rfl rfl) fun g4 => ?_
 refine Lq 2 ?_
 refine L.frz 0 rfl ?_
 obtain ⟨r7, h8, H9⟩ := bnd H3
 refine Lk [] [0] (c_slices_Repeat_row_Cell h8) fun ⟨a10, c11⟩ => ?_
 refine Lq 1 ?_
 refine Ln (Et (Tv ?_))
 obtain rfl := sm H9
 exact Eo1 (a10, c11) [0] []

theorem c_row_Blank {w : Int} {style : Int} {r : RowRow} (H : p_row_Blank w style = some r) : CT G 58 [.int .i64 w, .int .i64 style] [] [] (fun h : (Option Addr × Nat) => .agg #[.slice h.1 r.cells.length h.2, .bool r.wrapped]) (fun h => []) (fun h => [Im.sl tyRowCell h.1 h.2 r.cells]) := by
 delta p_row_Blank at H
 refine CT.of Go.Proofs.Tryz.func58 (by kernel_rfl) rfl rfl rfl fun K => ?_
 refine Ts (Tr ?_)
 refine Ll fun g1 => ?_
 refine Ln (Et (Ts (Tr ?_)))
 refine Lq 1 ?_
 obtain ⟨r2, h3, H4⟩ := bnd H
 refine Lk [] [] (c_row_clip h3) fun ⟨⟩ => ?_
 refine Lq 1 ?_
 obtain ⟨r5, h6, H7⟩ := bnd H4
 refine Lk [] [] (c_row_blanks h6) fun ⟨a8, c9⟩ => ?_
 refine Lq 1 ?_
 refine Lt 1 ?_
 refine Ln (Et (Tv ?_))
 refine E.frz 1 rfl ?_
 obtain rfl := sm H7
 exact Eo (a8, c9) [] [0] (.cell 0 rfl rfl rfl .nil)

theorem c_grid_New {w : Int} {h_ : Int} {r : GridGrid} (H : p_grid_New w h_ = some r) : CT G 29 [.int .i64 w, .int .i64 h_] [] [] (fun h : Nat × (Option Addr × Nat) => .pointer (some ⟨h.1, 0, none⟩)) (fun h => [Ch.box h.1 96 [.int .i64 r.w, .slice h.2.1 r.l.length h.2.2], Ch.arr tyRowRow 52 h.2.1 h.2.2 r.l]) (fun h => []) := by
 delta p_grid_New at H
 refine CT.of Go.Proofs.Tryz.func29 (by kernel_rfl) rfl rfl rfl fun K => ?_
 refine Ts (Tr ?_)
 refine Lq 1 ?_
 refine Ln (Et (Ts (Tr ?_)))
 refine Lq 1 ?_
 obtain ⟨r1, h2, H3⟩ := bnd H
 refine Lk [] [] (c_grid_size h2) fun ⟨⟩ => ?_
 refine Lq 1 ?_
 refine Lx fun g4 => ?_
 refine Lq 1 ?_
 refine Ln (Et (Ts (Ts (Tr ?_))))
 refine Lq 1 ?_
 obtain ⟨r5, h6, H7⟩ := bnd H3
 refine Lk [] [] (c_grid_size h6) fun ⟨⟩ => ?_
 refine Lq 1 ?_
 refine Ln (Et ?_)
 obtain ⟨e206, H207, H208⟩ := bnd H7
 refine Tjh (η := (Option Addr × Nat)) (fun _ => []) [5] (fun h => (fun a203 c204 => [Ch.arr tyRowRow 52 a203 c204 e206.l, Ch.box g4 96 [.int .i64 e206.w, .slice a203 e206.l.length c204]]) h.1 h.2) [] (fun _ => []) ?_ ?_
 ·refine Tl ?_
  refine T.nil0 tyRowRow 52 ?_
  refine Tq (η := (Option Addr × Nat)) (fun s143 h => (fun a139 c140 => [(12, .int .i64 s143.2)]) h.1 h.2) [5, 11] (fun s143 h => (fun a139 c140 => [Ch.arr tyRowRow 52 a139 c140 s143.1.l, Ch.box g4 96 [.int .i64 s143.1.w, .slice a139 s143.1.l.length c140]]) h.1 h.2) [] (fun _ _ => []) (none, 0) [0, 0] [] H207 ?_
  rintro k_ s143 ⟨a139, c140⟩ z210 H209 hag211 hbr212
  refine Ts (Tr ?_)
  refine Lq 1 ?_
  refine Ln (Et (Ts ?_))
  refine Tb H209 (fun H214 => ?_) fun H214 => ?_
  ·refine Tk (Et (Ts (Tl ?_)))
   refine Td [14] [1] mo ?_
   refine Dq 0 ?_
   refine Dq 1 ?_
   refine Dq 2 ?_
   refine Dq 3 ?_
   refine Db 4 0 ?_
   refine Dq 5 ?_
   refine Dq 6 ?_
   refine Dq 7 ?_
   refine Db 8 0 ?_
   obtain ⟨r257, h258, H259⟩ := bnd H214
   refine Dk [] [] (c_row_Blank h258) fun ⟨a260, c261⟩ => ?_
   refine Da [] [0] rfl rfl (Ac.bs (ty := tyRowRow) (xs := [r257]) (.cons (a260, c261) [0] rfl .nil) rfl rfl rfl rfl rfl rfl rfl) fun g263 => ?_
   refine D.frz 0 rfl ?_
   obtain ⟨_, h266, H267⟩ := bnd H259
   refine Da [0] [0] rfl rfl (Ac.ap (ty := tyRowRow) h266 rfl rfl rfl rfl rfl rfl rfl) ?_
   rintro ⟨a268, c269⟩
   refine Dq 12 ?_
   refine Dq 13 ?_
   refine Dt 0 ?_
   refine Dn ?_
   refine Eb (Et (Tr ?_))
   refine Lq 2 ?_
   refine Ln ?_
   obtain rfl := sm H267
   exact Eg (_, (a268, c269)) (hag211 _ rfl) [1, 0] [] 2
  refine Tx (Ex (Ex (Eh ?_)))
  obtain rfl := sm H214
  have hb := hbr212 _ rfl
  subst e206
  exact Eg (a139, c140) trivial [0, 0] [] 0
 rintro ⟨a203, c204⟩
 refine Ts (Tr ?_)
 refine Lq 2 ?_
 refine Ln (Et (Tv ?_))
 obtain rfl := sm H208
 exact Eo1 (g4, (a203, c204)) [1, 0] []

theorem c_grid_Grid_Size {g : GridGrid} {r : Int × Int} (H : p_grid_Grid_Size g = some r) : CT G 21 [.pointer (some ⟨N0, 0, none⟩)] [Ch.box N0 96 [.int .i64 g.w, .slice A0 g.l.length C0], Ch.arr tyRowRow 52 A0 C0 g.l] [] (fun _ : Unit => .tuple #[.int .i64 r.1, .int .i64 r.2]) (fun h => [Ch.box N0 96 [.int .i64 g.w, .slice A0 g.l.length C0], Ch.arr tyRowRow 52 A0 C0 g.l]) (fun h => []) := by
 delta p_grid_Grid_Size at H
 refine CT.of Go.Proofs.Tryz.func21 (by kernel_rfl) rfl rfl rfl fun K => ?_
 refine Ts (Tr ?_)
 refine Lq 2 ?_
 refine Ln (Et (Ts ?_))
 refine Td [] [0, 0] mo ?_
 refine Dq 0 ?_
 refine Dq 1 ?_
 refine Dq 2 ?_
 refine Db 3 0 ?_
 refine Dq 4 ?_
 refine Dq 5 ?_
 refine Dq 6 ?_
 refine Db 7 0 ?_
 refine Dq 8 ?_
 refine Dq 9 ?_
 refine Dq 10 ?_
 refine Dn ?_
 refine Et (Tv ?_)
 obtain rfl := sm H
 exact Eo () [0, 0] [] (.tmp rfl (.tmp rfl .nil))

theorem c_screen_New {w : Int} {h_ : Int} {r : ScreenScreen} (H : p_screen_New w h_ = some r) : CT G 9 [.int .i64 w, .int .i64 h_] [] [] (fun h : Nat × Nat × (Option Addr × Nat) => .pointer (some ⟨h.1, 0, none⟩)) (fun h => [Ch.box h.1 81 [.pointer (some ⟨h.2.1, 0, none⟩), .int .i64 r.spot.x, .int .i64 r.spot.y, .int .i64 r.spot.style.fore, .int .i64 r.spot.style.back, .bool r.spot.style.bold, .bool r.spot.style.under, .bool r.spot.style.inverse, .int .i64 r.saved.x, .int .i64 r.saved.y, .int .i64 r.saved.style.fore, .int .i64 r.saved.style.back, .bool r.saved.style.bold, .bool r.saved.style.under, .bool r.saved.style.inverse, .bool r.waiting, .int .i64 r.top, .int .i64 r.bottom, .bool r.wraps, .string r.title], Ch.box h.2.1 96 [.int .i64 r.g.w, .slice h.2.2.1 r.g.l.length h.2.2.2], Ch.arr tyRowRow 52 h.2.2.1 h.2.2.2 r.g.l]) (fun h => []) := by
 delta p_screen_New at H
 refine CT.of Go.Proofs.Tryz.func9 (by kernel_rfl) rfl rfl rfl fun K => ?_
 refine Ts (Tr ?_)
 refine Lq 1 ?_
 refine Ln (Et (Ts (Tr ?_)))
 refine Lq 2 ?_
 obtain ⟨r1, h2, H3⟩ := bnd H
 refine Lk [] [] (c_grid_New h2) fun ⟨g4, ⟨a5, c6⟩⟩ => ?_
 refine Lq 1 ?_
 refine Lx fun g8 => ?_
 refine Lq 1 ?_
 refine Ln (Et (Ts (Tr ?_)))
 refine Lq 4 ?_
 refine Lb 0 ?_
 obtain ⟨r9, h10, H11⟩ := bnd H3
 refine Lk [1, 1] [] (c_grid_Grid_Size h10) fun ⟨⟩ => ?_
 refine Lq 5 ?_
 refine Lt 2 ?_
 refine Ln (Et (Ts (Tr ?_)))
 refine Lq 3 ?_
 refine Lb 0 ?_
 refine Lq 3 ?_
 refine Lt 0 ?_
 refine Ln (Et (Ts (Tr ?_)))
 refine Lq 2 ?_
 refine Ln (Et (Tv ?_))
 obtain rfl := sm H11
 exact Eo1 (g8, g4, (a5, c6)) [0, 0, 0] []

theorem c_wide_in {l : List WideSpan} {r_ : Int} {r : Bool} (H : p_wide_in l r_ = some r) : CT G 107 [.slice A0 l.length C0, .int .i32 r_] [] [Im.sl tyWideSpan A0 C0 l] (fun _ : Unit => .bool r) (fun h => []) (fun h => []) := by
 delta p_wide_in at H
 refine CT.of Go.Proofs.Tryz.func107 (by kernel_rfl) rfl rfl rfl fun K => ?_
 refine Ts (Tr ?_)
 refine Lq 1 ?_
 refine Ln (Et (Ts (Tr ?_)))
 refine Lq 4 ?_
 refine Ln (Et (Ts ?_))
 obtain ⟨e39, H40, H41⟩ := bnd H
 refine Tj0 [(5, .int .i64 e39)] [0, 1] [] [] ?_ ?_
 ·refine Tl ?_
  refine Tq (η := Unit) (fun s27 h => [(5, .int .i64 s27.1), (6, .int .i64 s27.2)]) [0, 1] (fun _ _ => []) [] (fun _ _ => []) () [] [] H40 ?_
  rintro k_ s27 ⟨⟩ z43 H42 hag44 hbr45
  refine Ts (Ts (Tr ?_))
  refine Lq 3 ?_
  refine Ln (Et ?_)
  refine Tb H42 (fun H47 => ?_) fun H47 => ?_
  ·refine Tk (Et (Tl (Ts (Tr ?_))))
   refine Lq 5 ?_
   refine Ln (Et (Ts (Tr ?_)))
   refine Lq 2 ?_
   obtain ⟨x48, h49, H50⟩ := bnd H47
   refine L.addr 0 rfl (idx_lt h49) fun b51 o52 e53 => ?_
   subst e53
   refine Ly (Yl.ia h49 rfl rfl rfl rfl rfl rfl) ?_
   refine L.el 0 rfl (idx_some h49).2 ?_
   rintro _
   refine Lq 1 ?_
   refine Lc 0 1 ?_
   refine Lq 2 ?_
   refine Ln (Et ?_)
   refine Tb H50 (fun H55 => ?_) fun H55 => ?_
   ·refine Tr ?_
    refine Lq 3 ?_
    refine Ln (Eb ?_)
    obtain rfl := sm H55
    exact Eg (_, ()) (hag44 _ rfl) [] [] 1
   refine Tr ?_
   refine Lq 2 ?_
   refine Ln (Eb ?_)
   obtain rfl := sm H55
   exact Eg (_, ()) (hag44 _ rfl) [] [] 1
  refine Tx (Ex (Ex (Eh ?_)))
  obtain rfl := sm H47
  have hb := hbr45 _ rfl
  subst e39
  exact Eg0 [] 0
 refine Ts ?_
 obtain ⟨e73, H74, H75⟩ := bnd H41
 refine Tj0 [(4, .bool e73)] [] [] [] ?_ ?_
 ·refine Tr ?_
  refine Lq 5 ?_
  refine Lw 31 H74 (fun H76 => ?_) fun H76 => ?_
  ·refine Lq 2 ?_
   obtain ⟨x77, h78, H79⟩ := bnd H76
   refine L.addr 0 rfl (idx_lt h78) fun b80 o81 e82 => ?_
   subst e82
   refine Ly (Yl.ia h78 rfl rfl rfl rfl rfl rfl) ?_
   refine L.el 0 rfl (idx_some h78).2 ?_
   rintro _
   refine Lq 1 ?_
   refine Lc 0 0 ?_
   refine Lq 4 ?_
   refine Ln ?_
   obtain rfl := sm H79
   exact Eg0 [] 1
  refine Lq 9 ?_
  refine Ln ?_
  obtain rfl := sm H76
  exact Eg0 [] 0
 refine Tv ?_
 obtain rfl := sm H75
 exact Eo1 () [] []

theorem c_wide_Of {r_ : Int} {r : Int} (H : p_wide_Of r_ = some r) : CT G 61 [.int .i32 r_] [] [Im.sl tyWideSpan (some ⟨0, 0, none⟩) 13 t_wide_nones, Im.sl tyWideSpan (some ⟨1, 0, none⟩) 14 t_wide_twos] (fun _ : Unit => .int .i64 r) (fun h => []) (fun h => []) := by
 delta p_wide_Of at H
 refine CT.of Go.Proofs.Tryz.func61 (by kernel_rfl) rfl rfl rfl fun K => ?_
 refine Ts (Tr ?_)
 refine Lq 1 ?_
 refine Ln (Et (Ts (Tl (Ts (Tr ?_)))))
 refine Lq 2 ?_
 obtain ⟨r9, h10, H11⟩ := bnd H
 refine Lk [] [0] (c_wide_in h10) fun ⟨⟩ => ?_
 refine Lq 1 ?_
 refine Ln (Et ?_)
 refine Tb H11 (fun H12 => ?_) fun H12 => ?_
 ·refine Ts (Tr ?_)
  refine Lq 1 ?_
  refine Ln (Et (Tv (Ev (Er ?_))))
  obtain rfl := sm H12
  exact Eo1 () [] []
 refine Ts (Tr ?_)
 refine Lq 2 ?_
 obtain ⟨r13, h14, H15⟩ := bnd H12
 refine Lk [] [1] (c_wide_in h14) fun ⟨⟩ => ?_
 refine Lq 1 ?_
 refine Ln (Et ?_)
 refine Tb H15 (fun H16 => ?_) fun H16 => ?_
 ·refine Ts (Tr ?_)
  refine Lq 1 ?_
  refine Ln (Et (Tv (Ev (Er ?_))))
  obtain rfl := sm H16
  exact Eo1 () [] []
 refine Tk (Eb (Et (Ts (Tr ?_))))
 refine Lq 1 ?_
 refine Ln (Et (Tv ?_))
 obtain rfl := sm H16
 exact Eo1 () [] []

theorem c_slices_Clone_row_Cell {s_ : List RowCell} (a_0 : Option Addr) (c_0 : Nat) {r : List RowCell} (H : p_slices_Clone_row_Cell s_ = some r) : CT G 132 [.slice a_0 s_.length c_0] [] [Im.sl tyRowCell a_0 c_0 s_] (fun h : (Option Addr × Nat) => .slice h.1 r.length h.2) (fun h => [Ch.arr tyRowCell 98 h.1 h.2 r]) (fun h => []) := by
  delta p_slices_Clone_row_Cell at H
  refine CT.of Go.Proofs.Tryz.func132 (by kernel_rfl) rfl rfl rfl fun K => ?_
  obtain ⟨_, h0, H⟩ := bnd H
  have hr := Option.some.inj H
  refine T.seq (T.region (L.q 1 rfl (L.nil (E.then (T.seq (T.seq (T.region ?_)))))))
  refine L.q 1 rfl ?_
  refine L.nilc 0 rfl rfl rfl rfl rfl rfl rfl rfl rfl (fun ha hx => ?_) ?_
  · refine L.nil (E.then (T.cond rfl (fun _ => ?_) (fun h => nomatch h)))
    refine T.seq (T.region (L.q 1 rfl (L.nil (E.then (T.ret (E.then_ret ?_))))))
    subst hx
    subst r
    refine E.nil0 tyRowCell 98 ?_
    exact E.ret (none, 0) [0] [] (.tmp rfl .nil) rfl rfl rfl
  · refine L.nil (E.then (T.cond rfl (fun h => nomatch h) (fun _ => ?_)))
    refine T.skip (E.then (T.seq (T.region ?_)))
    refine L.a [] [] (Ac.bs (ty := tyRowCell) (xs := []) .nil rfl rfl rfl rfl rfl rfl rfl) rfl rfl rfl rfl rfl ?_
    intro g1
    refine L.q 1 rfl ?_
    refine L.a [0] [0] (Ac.ap (ty := tyRowCell) h0 rfl rfl rfl rfl rfl rfl rfl) rfl rfl rfl rfl rfl ?_
    rintro ⟨a1, c1⟩
    refine L.q 1 rfl ?_
    refine L.nil (E.then (T.ret ?_))
    subst r
    exact E.ret (a1, c1) [0] [] (.tmp rfl .nil) rfl rfl rfl

theorem c_grid_own {r_ : RowRow} {r : RowRow} (H : p_grid_own r_ = some r) : CT G 124 [.agg #[.slice A0 r_.cells.length C0, .bool r_.wrapped]] [] [Im.sl tyRowCell A0 C0 r_.cells] (fun h : (Option Addr × Nat) => .agg #[.slice h.1 r.cells.length h.2, .bool r.wrapped]) (fun h => []) (fun h => [Im.sl tyRowCell h.1 h.2 r.cells]) := by
 delta p_grid_own at H
 refine CT.of Go.Proofs.Tryz.func124 (by kernel_rfl) rfl rfl rfl fun K => ?_
 refine Ts (Tr ?_)
 refine Lx fun g1 => ?_
 refine Ll fun g2 => ?_
 refine Ln (Et (Ts ?_))
 refine Td [6] [0, 0] mo ?_
 refine Dq 0 ?_
 refine Db 1 1 ?_
 refine Dq 3 ?_
 refine Db 4 1 ?_
 obtain ⟨r21, h22, H23⟩ := bnd H
 refine Dk [] [0] (c_slices_Clone_row_Cell A0 C0 h22) fun ⟨a24, c25⟩ => ?_
 refine Dq 5 ?_
 refine Dt 0 ?_
 refine Dn ?_
 refine Et (Tv ?_)
 refine E.frz 2 rfl ?_
 obtain rfl := sm H23
 exact Eo (a24, c25) [] [0] (.cell 0 rfl rfl rfl .nil)

theorem c_grid_Grid_Row {g : GridGrid} {y : Int} {r : RowRow} (H : p_grid_Grid_Row g y = some r) : CT G 102 [.pointer (some ⟨N0, 0, none⟩), .int .i64 y] [Ch.box N0 96 [.int .i64 g.w, .slice A0 g.l.length C0], Ch.arr tyRowRow 52 A0 C0 g.l] [] (fun h : (Option Addr × Nat) => .agg #[.slice h.1 r.cells.length h.2, .bool r.wrapped]) (fun h => [Ch.box N0 96 [.int .i64 g.w, .slice A0 g.l.length C0], Ch.arr tyRowRow 52 A0 C0 g.l]) (fun h => [Im.sl tyRowCell h.1 h.2 r.cells]) := by
 delta p_grid_Grid_Row at H
 refine CT.of Go.Proofs.Tryz.func102 (by kernel_rfl) rfl rfl rfl fun K => ?_
 refine Ts (Tr ?_)
 refine Ll fun g1 => ?_
 refine Ln (Et (Ts (Ts ?_)))
 obtain ⟨e5, H6, H7⟩ := bnd H
 refine Tj0 [(15, .bool e5)] [0, 1, 4] [] [0, 1, 2] ?_ ?_
 ·refine Tr ?_
  refine Lq 3 ?_
  refine Lw 7 H6 (fun H8 => ?_) fun H8 => ?_
  ·refine Lq 8 ?_
   refine Ln ?_
   obtain rfl := sm H8
   exact Eg0 [0, 0, 0] 0
  refine Lq 4 ?_
  refine Lb 1 ?_
  refine Lq 3 ?_
  refine Ln ?_
  obtain rfl := sm H8
  exact Eg0 [0, 0, 0] 0
 refine Tb H7 (fun H10 => ?_) fun H10 => ?_
 ·refine Ts (Tr ?_)
  refine Lq 1 ?_
  refine Lt 0 ?_
  refine Ln (Et (Tv (Er ?_)))
  refine E.know [Im.sl tyRowCell none 0 []] (fun A w _ _ f hf => by rw [List.mem_singleton.1 hf]; exact Im.sl_nil A w) ?_
  obtain rfl := sm H10
  exact Eo (none, 0) [1, 1] [0] (.cell 0 rfl rfl rfl .nil)
 refine Tk (Et (Ts (Tr ?_)))
 refine Lq 3 ?_
 refine Lb 1 ?_
 refine Lq 1 ?_
 obtain ⟨x12, h13, H14⟩ := bnd H10
 refine L.addro 2 rfl (idx_lt h13) fun b15 e16 => ?_
 subst e16
 refine Ly (Yl.ia h13 rfl rfl rfl rfl rfl rfl) ?_
 refine La [2] [] (Ac.lo y.toNat 0 (v := (fun h : (Option Addr × Nat) => (fun a17 c18 => .agg #[.slice a17 x12.cells.length c18, .bool x12.wrapped]) h.1 h.2)) (idx_some h13).2 rfl rfl rfl (fun _ => rfl)) ?_
 rintro ⟨a17, c18⟩
 obtain ⟨r20, h21, H22⟩ := bnd H14
 refine Lk [] [0] (c_grid_own h21) fun ⟨a23, c24⟩ => ?_
 refine Lt 1 ?_
 refine Ln (Et (Tv ?_))
 obtain rfl := sm H22
 exact Eo (a23, c24) [2, 1] [0] (.cell 0 rfl rfl rfl .nil)

theorem c_screen_Screen_print_1 {r_ : RowRow} {r : RowRow} (H : p_screen_Screen_print_1 r_ = some r) : CT G 63 [.agg #[.slice A0 r_.cells.length C0, .bool r_.wrapped]] [] [Im.sl tyRowCell A0 C0 r_.cells] (fun _ : Unit => .agg #[.slice A0 r.cells.length C0, .bool r.wrapped]) (fun h => []) (fun h => [Im.sl tyRowCell A0 C0 r.cells]) := by
 delta p_screen_Screen_print_1 at H
 refine CT.of Go.Proofs.Tryz.func63 (by kernel_rfl) rfl rfl rfl fun K => ?_
 refine Ts (Tr ?_)
 refine Lx fun g1 => ?_
 refine Ll fun g2 => ?_
 refine Ln (Et (Ts (Tr ?_)))
 refine Lq 1 ?_
 refine Lt 1 ?_
 refine Ln (Et (Ts (Tr ?_)))
 refine Lb 0 ?_
 refine Lt 1 ?_
 refine Ln (Et (Tv ?_))
 obtain rfl := sm H
 exact Eo () [] [0] (.cell 0 rfl rfl rfl .nil)

theorem c_row_Row_cells {r_ : RowRow} {r : (List RowCell)} (H : p_row_Row_cells r_ = some r) : CT G 108 [.agg #[.slice A0 r_.cells.length C0, .bool r_.wrapped]] [] [Im.sl tyRowCell A0 C0 r_.cells] (fun h : (Option Addr × Nat) => .slice h.1 r.length h.2) (fun h => [Ch.arr tyRowCell 98 h.1 h.2 r]) (fun h => []) := by
 delta p_row_Row_cells at H
 refine CT.of Go.Proofs.Tryz.func108 (by kernel_rfl) rfl rfl rfl fun K => ?_
 refine Ts (Tr ?_)
 refine Lx fun g1 => ?_
 refine Lq 1 ?_
 refine Ln (Et (Ts (Tr ?_)))
 refine Lq 1 ?_
 refine Lb 0 ?_
 obtain ⟨r2, h3, H4⟩ := bnd H
 refine Lk [] [0] (c_slices_Clone_row_Cell A0 C0 h3) fun ⟨a5, c6⟩ => ?_
 refine Lq 1 ?_
 refine Ln (Et (Tv ?_))
 obtain rfl := sm H4
 exact Eo1 (a5, c6) [0] []

theorem c_row_broken {l : List RowCell} {i : Int} {r : Bool} (H : p_row_broken l i = some r) : CT G 133 [.slice A0 l.length C0, .int .i64 i] [] [Im.sl tyRowCell A0 C0 l] (fun _ : Unit => .bool r) (fun h => []) (fun h => []) := by
 delta p_row_broken at H
 refine CT.of Go.Proofs.Tryz.func133 (by kernel_rfl) rfl rfl rfl fun K => ?_
 refine Ts (Tr ?_)
 refine Lq 1 ?_
 refine Ln (Et (Ts (Ts (Tr ?_))))
 refine Lq 2 ?_
 obtain ⟨x1, h2, H3⟩ := bnd H
 refine L.addr 0 rfl (idx_lt h2) fun b4 o5 e6 => ?_
 subst e6
 refine Ly (Yl.ia h2 rfl rfl rfl rfl rfl rfl) ?_
 refine L.el 0 rfl (idx_some h2).2 ?_
 rintro _
 refine Lq 1 ?_
 refine Lc 0 2 ?_
 refine Ln (Et (Tl (Ts (Tr ?_))))
 refine Lq 2 ?_
 refine Ln (Et ?_)
 refine Tb H3 (fun H49 => ?_) fun H49 => ?_
 ·refine Ts ?_
  obtain ⟨e61, H62, H63⟩ := bnd H49
  refine Tj0 [(4, .bool e61)] [] [] [] ?_ ?_
  ·refine Tr ?_
   refine Lq 6 ?_
   refine Lw 17 H62 (fun H64 => ?_) fun H64 => ?_
   ·refine Lq 9 ?_
    refine Ln ?_
    obtain rfl := sm H64
    exact Eg0 [] 0
   refine Lq 3 ?_
   obtain ⟨x65, h66, H67⟩ := bnd H64
   refine Ly (Yl.ia h66 rfl rfl rfl rfl rfl rfl) ?_
   refine L.el 1 rfl (idx_some h66).2 ?_
   rintro _
   refine Lq 1 ?_
   refine Lc 0 2 ?_
   refine Lq 3 ?_
   refine Ln ?_
   obtain rfl := sm H67
   exact Eg0 [] 1
  refine Tv (Ev (Er ?_))
  obtain rfl := sm H63
  exact Eo1 () [] []
 refine Ts (Tr ?_)
 refine Lq 2 ?_
 refine Ln (Et ?_)
 refine Tb H49 (fun H69 => ?_) fun H69 => ?_
 ·refine Ts ?_
  obtain ⟨e81, H82, H83⟩ := bnd H69
  refine Tj0 [(4, .bool e81)] [] [] [] ?_ ?_
  ·refine Tr ?_
   refine Lq 3 ?_
   refine Lw 30 H82 (fun H84 => ?_) fun H84 => ?_
   ·refine Lq 9 ?_
    refine Ln ?_
    obtain rfl := sm H84
    exact Eg0 [] 0
   refine Lq 3 ?_
   obtain ⟨x85, h86, H87⟩ := bnd H84
   refine Ly (Yl.ia h86 rfl rfl rfl rfl rfl rfl) ?_
   refine L.el 1 rfl (idx_some h86).2 ?_
   rintro _
   refine Lq 1 ?_
   refine Lc 0 2 ?_
   refine Lq 3 ?_
   refine Ln ?_
   obtain rfl := sm H87
   exact Eg0 [] 1
  refine Tv (Ev (Er ?_))
  obtain rfl := sm H83
  exact Eo1 () [] []
 refine Ts (Tr ?_)
 refine Lq 2 ?_
 refine Ln (Et ?_)
 refine Tb H69 (fun H89 => ?_) fun H89 => ?_
 ·refine Ts (Tr ?_)
  refine Lq 6 ?_
  refine Ln (Et (Tv (Ev (Er ?_))))
  obtain rfl := sm H89
  exact Eo1 () [] []
 refine Tk (Eb (Et (Ts (Tr ?_))))
 refine Lq 1 ?_
 refine Ln (Et (Tv ?_))
 obtain rfl := sm H89
 exact Eo1 () [] []

theorem c_row_mend {l : List RowCell} {r : RowRow} (H : p_row_mend l = some r) : CT G 109 [.slice A0 l.length C0] [Ch.arr tyRowCell 98 A0 C0 l] [] (fun _ : Unit => .agg #[.slice A0 r.cells.length C0, .bool r.wrapped]) (fun h => []) (fun h => [Im.sl tyRowCell A0 C0 r.cells]) := by
 delta p_row_mend at H
 refine CT.of Go.Proofs.Tryz.func109 (by kernel_rfl) rfl rfl rfl fun K => ?_
 refine Ts (Tr ?_)
 refine Ll fun g1 => ?_
 refine Ln (Et (Ts (Ts (Tr ?_))))
 refine Lq 3 ?_
 refine Ln (Et ?_)
 obtain ⟨e179, H180, H181⟩ := bnd H
 refine Tj0 [(0, .slice A0 e179.length C0)] [2] [Ch.arr tyRowCell 98 A0 C0 e179] [0] ?_ ?_
 ·refine Tl ?_
  refine Tq (η := Unit) (fun s121 h => [(0, .slice A0 s121.1.length C0), (6, .int .i64 s121.2)]) [2, 5] (fun s121 h => [Ch.arr tyRowCell 98 A0 C0 s121.1]) [0] (fun _ _ => []) () [1, 0] [] H180 ?_
  rintro k_ s121 ⟨⟩ z183 H182 hag184 hbr185
  refine Ts (Tr ?_)
  refine Lq 1 ?_
  refine Ln (Et (Ts ?_))
  refine Tb H182 (fun H187 => ?_) fun H187 => ?_
  ·refine Tk (Et (Ts ?_))
   obtain ⟨e222, H223, H224⟩ := bnd H187
   refine Tj0 [(0, .slice A0 e222.length C0)] [2, 5, 6] [Ch.arr tyRowCell 98 A0 C0 e222] [1] ?_ ?_
   ·refine Tl (Ts (Tr ?_))
    refine Lq 2 ?_
    refine Ln (Et (Ts (Tr ?_)))
    refine Lq 2 ?_
    obtain ⟨r225, h226, H227⟩ := bnd H223
    refine L.br (Ac.call (c_row_broken h226) rfl rfl rfl rfl) (Bw.ch 0 rfl (Bw.nil)) rfl rfl rfl ?_
    intro _
    refine Ln (Et ?_)
    refine Tb H227 (fun H228 => ?_) fun H228 => ?_
    ·refine Tr ?_
     refine Lq 4 ?_
     obtain ⟨x229, h230, H231⟩ := bnd H228
     refine L.addro 0 rfl (idx_lt h230) fun b232 e233 => ?_
     subst e233
     refine Ly (Yl.ia h230 rfl rfl rfl rfl rfl rfl) ?_
     refine Lq 1 ?_
     refine Ly (Yl.lo (v := .int .i64 x229.style) 0 s121.2.toNat 1 (idx_some h230).2 rfl rfl rfl rfl (fun _ => rfl)) ?_
     obtain ⟨r234, h235, H236⟩ := bnd H231
     refine Lk [] [] (c_row_blank h235) fun ⟨⟩ => ?_
     obtain ⟨x237, h238, H239⟩ := bnd H236
     refine Ly (Yl.ia h238 rfl rfl rfl rfl rfl rfl) ?_
     refine La [0] [] (Ac.se 0 r234 (idx_some h238).2 rfl rfl rfl rfl rfl rfl (fun _ => ⟨(), rfl, [], rfl⟩)) fun _ => ?_
     refine L.sl 0 (k' := (s121.1.set s121.2.toNat r234).length) (List.length_set ..) rfl ?_
     refine Ln (Eb ?_)
     obtain rfl := sm H239
     exact Eg0 [0, 0] 0
    refine Tk (Eb ?_)
    obtain rfl := sm H228
    exact Eg0 [0, 0] 0
   refine Tr ?_
   refine Lq 2 ?_
   refine Ln ?_
   obtain rfl := sm H224
   exact Eg (_, ()) (hag184 _ rfl) [0, 0] [] 0
  refine Tx (Ex (Ex (Eh ?_)))
  obtain rfl := sm H187
  have hb := hbr185 _ rfl
  subst e179
  exact Eg0 [0, 0] 0
 refine Ts (Tr ?_)
 refine Lq 2 ?_
 refine Lt 1 ?_
 refine Ln (Et (Tv ?_))
 refine E.frz 1 rfl ?_
 obtain rfl := sm H181
 exact Eo () [] [0] (.cell 0 rfl rfl rfl .nil)

theorem c_row_Row_Resize {r_ : RowRow} {w : Int} {r : RowRow} (H : p_row_Row_Resize r_ w = some r) : CT G 127 [.agg #[.slice A0 r_.cells.length C0, .bool r_.wrapped], .int .i64 w] [] [Im.sl tyRowCell A0 C0 r_.cells] (fun h : (Option Addr × Nat) => .agg #[.slice h.1 r.cells.length h.2, .bool r.wrapped]) (fun h => []) (fun h => [Im.sl tyRowCell h.1 h.2 r.cells]) := by
 delta p_row_Row_Resize at H
 refine CT.of Go.Proofs.Tryz.func127 (by kernel_rfl) rfl rfl rfl fun K => ?_
 refine Ts (Tr ?_)
 refine Lx fun g1 => ?_
 refine Ll fun g2 => ?_
 refine Ln (Et (Ts (Tr ?_)))
 refine Lq 1 ?_
 obtain ⟨r3, h4, H5⟩ := bnd H
 refine Lk [] [] (c_row_clip h4) fun ⟨⟩ => ?_
 refine Lq 1 ?_
 refine Ln (Et (Ts (Tr ?_)))
 refine Lb 1 ?_
 obtain ⟨r6, h7, H8⟩ := bnd H5
 refine Lk [] [0] (c_row_Row_cells h7) fun ⟨a9, c10⟩ => ?_
 refine Lq 1 ?_
 refine Ln (Et (Ts (Ts (Tr ?_))))
 refine Lq 4 ?_
 refine Ln (Et ?_)
 refine Tb H8 (fun H13 => ?_) fun H13 => ?_
 ·refine Ts (Tr ?_)
  refine Lq 2 ?_
  refine Lb 2 ?_
  refine Lq 1 ?_
  refine Lt 1 ?_
  refine Ln (Et (Tv (Er ?_)))
  refine E.frz 1 rfl ?_
  obtain rfl := sm H13
  exact Eo (a9, c10) [] [0] (.cell 0 rfl rfl rfl .nil)
 refine Tk (Et (Ts ?_))
 refine Td [13] [1, 1] mo ?_
 refine Dq 0 ?_
 refine Dq 1 ?_
 refine Dq 2 ?_
 refine Dq 3 ?_
 refine Dq 4 ?_
 refine Dq 6 ?_
 refine Dq 7 ?_
 refine Dq 8 ?_
 refine Dq 9 ?_
 refine DF.of rfl ?_
 obtain ⟨r78, h79, H80⟩ := bnd H13
 refine DF.add _ (FSp.ac 10 [] (Ac.frz (Ac.call (c_row_blanks h79) rfl rfl rfl rfl)) rfl rfl rfl rfl rfl) rfl ?_
 refine DF.step 5 rfl rfl rfl rfl rfl ?_
 obtain ⟨_, h85, H86⟩ := bnd H80
 refine DFp.a [0] [] (Ac.rso h85 rfl rfl rfl rfl rfl rfl rfl) rfl rfl rfl rfl rfl rfl rfl rfl ?_
 intro _
 refine DF.step 11 rfl rfl rfl rfl rfl ?_
 refine DFp.use 0 rfl rfl rfl ?_
 rintro ⟨a81, c82⟩
 obtain ⟨_, h90, H91⟩ := bnd H86
 refine DFp.a [0] [0] (Ac.ap (ty := tyRowCell) h90 rfl rfl rfl rfl rfl rfl rfl) rfl rfl rfl rfl rfl rfl rfl rfl ?_
 rintro ⟨a92, c93⟩
 refine DF.step 12 rfl rfl rfl rfl rfl ?_
 obtain ⟨r95, h96, H97⟩ := bnd H91
 refine DFp.a [0] [] (Ac.call (c_row_mend h96) rfl rfl rfl rfl) rfl rfl rfl rfl rfl rfl rfl rfl ?_
 rintro ⟨⟩
 refine DF.step 13 rfl rfl rfl rfl rfl ?_
 refine DFp.al [0] [] (Ac.stb rfl rfl rfl rfl rfl rfl) rfl rfl rfl rfl rfl rfl rfl ?_
 intro _
 refine DF.fin rfl rfl rfl rfl rfl ?_
 refine DFe.nil ?_
 refine Et (Tv ?_)
 obtain rfl := sm H97
 exact Eo (a92, c93) [] [0] (.cell 0 rfl rfl rfl .nil)

theorem c_grid_Grid_Set {g : GridGrid} {y : Int} {r_ : RowRow} {r : Bool × GridGrid} (H : p_grid_Grid_Set g y r_ = some r) : CT G 100 [.pointer (some ⟨N0, 0, none⟩), .int .i64 y, .agg #[.slice A1 r_.cells.length C1, .bool r_.wrapped]] [Ch.box N0 96 [.int .i64 g.w, .slice A0 g.l.length C0], Ch.arr tyRowRow 52 A0 C0 g.l] [Im.sl tyRowCell A1 C1 r_.cells] (fun _ : Unit => .bool r.1) (fun h => [Ch.box N0 96 [.int .i64 r.2.w, .slice A0 r.2.l.length C0], Ch.arr tyRowRow 52 A0 C0 r.2.l]) (fun h => []) := by
 delta p_grid_Grid_Set at H
 refine CT.of Go.Proofs.Tryz.func100 (by kernel_rfl) rfl rfl rfl fun K => ?_
 refine Ts (Tr ?_)
 refine Lx fun g1 => ?_
 refine Lq 1 ?_
 refine Ln (Et (Ts (Ts ?_)))
 obtain ⟨e5, H6, H7⟩ := bnd H
 refine Tj0 [(17, .bool e5)] [0, 1, 5] [] [0, 1, 2] ?_ ?_
 ·refine Tr ?_
  refine Lq 3 ?_
  refine Lw 9 H6 (fun H8 => ?_) fun H8 => ?_
  ·refine Lq 8 ?_
   refine Ln ?_
   obtain rfl := sm H8
   exact Eg0 [0, 0, 0] 0
  refine Lq 4 ?_
  refine Lb 1 ?_
  refine Lq 3 ?_
  refine Ln ?_
  obtain rfl := sm H8
  exact Eg0 [0, 0, 0] 0
 refine Tb H7 (fun H10 => ?_) fun H10 => ?_
 ·refine Ts (Tr ?_)
  refine Lq 1 ?_
  refine Ln (Et (Tv (Er ?_)))
  obtain rfl := sm H10
  exact Eo1 () [1, 1] []
 refine Tk (Et (Ts ?_))
 refine Td [12] [0, 0, 0] mo ?_
 refine Dq 0 ?_
 refine Dq 1 ?_
 refine Dq 2 ?_
 refine Db 3 1 ?_
 refine Dq 4 ?_
 refine Db 5 0 ?_
 refine Dq 6 ?_
 refine Dq 7 ?_
 refine Dq 8 ?_
 refine Db 9 1 ?_
 obtain ⟨r47, h48, H49⟩ := bnd H10
 refine Dk [] [0] (c_row_Row_Resize h48) fun ⟨a50, c51⟩ => ?_
 obtain ⟨x53, h54, H55⟩ := bnd H49
 refine D.addro 2 rfl (idx_lt h54) fun b56 e57 => ?_
 subst e57
 refine Dy 11 (Yl.ia h54 rfl rfl rfl rfl rfl rfl) ?_
 refine D.one rfl rfl rfl (Dp.al [2] [0] (Ac.se 0 r47 (idx_some h54).2 rfl rfl rfl rfl rfl rfl (fun _ => ⟨(a50, c51), rfl, [1], rfl⟩)) rfl rfl rfl rfl rfl rfl rfl ?_)
 intro _
 refine Dn ?_
 refine E.bx 2 (cs' := [.int .i64 g.w, .slice (some ⟨b56, 0, none⟩) (g.l.set y.toNat r47).length C0]) (by rw [(List.length_set ..)]) rfl ?_
 refine Et (Ts (Tr ?_))
 refine Lq 1 ?_
 refine Ln (Et (Tv ?_))
 obtain rfl := sm H55
 exact Eo1 () [0, 0] []

theorem c_screen_Screen_edit_Screen_print_1 {s_ : ScreenScreen} {r : ScreenScreen} (H : p_screen_Screen_edit_Screen_print_1 s_ = some r) : CT G 62 [.pointer (some ⟨N0, 0, none⟩), .func (.func 63) #[] #[]] [Ch.box N0 81 [.pointer (some ⟨N1, 0, none⟩), .int .i64 s_.spot.x, .int .i64 s_.spot.y, .int .i64 s_.spot.style.fore, .int .i64 s_.spot.style.back, .bool s_.spot.style.bold, .bool s_.spot.style.under, .bool s_.spot.style.inverse, .int .i64 s_.saved.x, .int .i64 s_.saved.y, .int .i64 s_.saved.style.fore, .int .i64 s_.saved.style.back, .bool s_.saved.style.bold, .bool s_.saved.style.under, .bool s_.saved.style.inverse, .bool s_.waiting, .int .i64 s_.top, .int .i64 s_.bottom, .bool s_.wraps, .string s_.title], Ch.box N1 96 [.int .i64 s_.g.w, .slice A0 s_.g.l.length C0], Ch.arr tyRowRow 52 A0 C0 s_.g.l] [] (fun _ : Unit => .tuple #[]) (fun h => [Ch.box N0 81 [.pointer (some ⟨N1, 0, none⟩), .int .i64 r.spot.x, .int .i64 r.spot.y, .int .i64 r.spot.style.fore, .int .i64 r.spot.style.back, .bool r.spot.style.bold, .bool r.spot.style.under, .bool r.spot.style.inverse, .int .i64 r.saved.x, .int .i64 r.saved.y, .int .i64 r.saved.style.fore, .int .i64 r.saved.style.back, .bool r.saved.style.bold, .bool r.saved.style.under, .bool r.saved.style.inverse, .bool r.waiting, .int .i64 r.top, .int .i64 r.bottom, .bool r.wraps, .string r.title], Ch.box N1 96 [.int .i64 r.g.w, .slice A0 r.g.l.length C0], Ch.arr tyRowRow 52 A0 C0 r.g.l]) (fun h => []) := by
 delta p_screen_Screen_edit_Screen_print_1 at H
 refine CT.of Go.Proofs.Tryz.func62 (by kernel_rfl) rfl rfl rfl fun K => ?_
 refine Td [21] [0, 0, 0] mo ?_
 refine Dq 0 ?_
 refine Dq 1 ?_
 refine Dq 2 ?_
 refine Db 3 0 ?_
 refine Dq 4 ?_
 refine Dq 5 ?_
 refine Dq 6 ?_
 refine Dq 7 ?_
 refine Db 8 0 ?_
 refine Dq 9 ?_
 refine Dq 10 ?_
 refine Dq 11 ?_
 refine Dq 12 ?_
 refine Db 13 0 ?_
 refine Dq 14 ?_
 refine Dq 15 ?_
 refine Dq 16 ?_
 refine Dq 17 ?_
 refine Db 18 0 ?_
 obtain ⟨r15, h16, H17⟩ := bnd H
 refine D.one rfl rfl rfl (Dp.ab [1, 1] [] [2, 0, 0] (Ac.call (c_grid_Grid_Row h16) rfl rfl rfl rfl) rfl rfl rfl rfl rfl rfl (fun _ => rfl) ?_)
 rintro ⟨a18, c19⟩
 obtain ⟨r21, h22, H23⟩ := bnd H17
 refine Dk [] [0] (c_screen_Screen_print_1 h22) fun ⟨⟩ => ?_
 obtain ⟨r25, h26, H27⟩ := bnd H23
 refine Dkl [1, 1] [0] (c_grid_Grid_Set h26) fun ⟨⟩ => ?_
 refine Dn ?_
 refine E.off ?_
 obtain rfl := sm H27
 exact Eo () [2, 0, 0] [] .nil

theorem c_style_Style_may {s_ : StyleStyle} {r : Bool} (H : p_style_Style_may s_ = some r) : CT G 134 [.agg #[.int .i64 s_.fore, .int .i64 s_.back, .bool s_.bold, .bool s_.under, .bool s_.inverse]] [] [] (fun _ : Unit => .bool r) (fun h => []) (fun h => []) := by
 delta p_style_Style_may at H
 refine CT.of Go.Proofs.Tryz.func134 (by kernel_rfl) rfl rfl rfl fun K => ?_
 refine Ts (Tr ?_)
 refine Lx fun g1 => ?_
 refine Lq 1 ?_
 refine Ln (Et (Ts ?_))
 obtain ⟨e9, H10, H11⟩ := bnd H
 refine Tj0 [(2, .bool e9)] [] [] [0] ?_ ?_
 ·refine Tr ?_
  refine Lq 1 ?_
  refine Lb 0 ?_
  refine Lq 2 ?_
  refine Lw 6 H10 (fun H12 => ?_) fun H12 => ?_
  ·refine Lq 1 ?_
   refine Lb 0 ?_
   refine Lq 3 ?_
   refine Lw 11 H12 (fun H13 => ?_) fun H13 => ?_
   ·refine Lq 1 ?_
    refine Lb 0 ?_
    refine Lq 3 ?_
    refine Lw 16 H13 (fun H14 => ?_) fun H14 => ?_
    ·refine Lq 1 ?_
     refine Lb 0 ?_
     refine Lq 3 ?_
     refine Ln ?_
     obtain rfl := sm H14
     exact Eg0 [0] 0
    refine Lq 5 ?_
    refine Ln ?_
    obtain rfl := sm H14
    exact Eg0 [0] 0
   refine Lq 10 ?_
   refine Ln ?_
   obtain rfl := sm H13
   exact Eg0 [0] 0
  refine Lq 15 ?_
  refine Ln ?_
  obtain rfl := sm H12
  exact Eg0 [0] 0
 refine Tv ?_
 obtain rfl := sm H11
 exact Eo1 () [] []

theorem c_style_bit {is : Bool} {n_ : Int} {r : Int} (H : p_style_bit is n_ = some r) : CT G 135 [.bool is, .int .i64 n_] [] [] (fun _ : Unit => .int .i64 r) (fun h => []) (fun h => []) := by
 delta p_style_bit at H
 refine CT.of Go.Proofs.Tryz.func135 (by kernel_rfl) rfl rfl rfl fun K => ?_
 refine Ts (Tr ?_)
 refine Lq 1 ?_
 refine Ln (Et (Ts (Ts (Tr ?_))))
 refine Lq 1 ?_
 refine Ln (Et ?_)
 refine Tb H (fun H2 => ?_) fun H2 => ?_
 ·refine Ts (Tr ?_)
  refine Lq 2 ?_
  refine Ln (Et (Tv (Er ?_)))
  obtain rfl := sm H2
  exact Eo1 () [] []
 refine Tk (Et (Ts (Tr ?_)))
 refine Lq 1 ?_
 refine Ln (Et (Tv ?_))
 obtain rfl := sm H2
 exact Eo1 () [] []

theorem c_style_Style_Num {s_ : StyleStyle} {r : Int} (H : p_style_Style_Num s_ = some r) : CT G 110 [.agg #[.int .i64 s_.fore, .int .i64 s_.back, .bool s_.bold, .bool s_.under, .bool s_.inverse]] [] [] (fun _ : Unit => .int .i64 r) (fun h => []) (fun h => []) := by
 delta p_style_Style_Num at H
 refine CT.of Go.Proofs.Tryz.func110 (by kernel_rfl) rfl rfl rfl fun K => ?_
 refine Ts (Tr ?_)
 refine Lx fun g1 => ?_
 refine Lq 1 ?_
 refine Ln (Et (Ts (Ts (Tr ?_))))
 refine Lb 0 ?_
 obtain ⟨r2, h3, H4⟩ := bnd H
 refine Lk [] [] (c_style_Style_may h3) fun ⟨⟩ => ?_
 refine Lq 1 ?_
 refine Ln (Et ?_)
 refine Tb H4 (fun H6 => ?_) fun H6 => ?_
 ·refine Ts (Tr ?_)
  refine Lq 1 ?_
  refine Ln (Et (Tv (Er ?_)))
  obtain rfl := sm H6
  exact Eo1 () [] []
 refine Tk (Et (Ts ?_))
 refine Td [] [0] mo ?_
 refine Dq 0 ?_
 refine Db 1 0 ?_
 refine Dq 2 ?_
 refine Db 3 0 ?_
 refine Dq 4 ?_
 refine Dq 5 ?_
 refine Dq 6 ?_
 refine Db 7 0 ?_
 refine Dq 10 ?_
 refine Db 11 0 ?_
 refine Dq 14 ?_
 refine Db 15 0 ?_
 obtain ⟨r34, h35, H36⟩ := bnd H6
 refine Dk [] [] (c_style_bit h35) fun ⟨⟩ => ?_
 refine Dq 9 ?_
 obtain ⟨r37, h38, H39⟩ := bnd H36
 refine Dk [] [] (c_style_bit h38) fun ⟨⟩ => ?_
 refine Dq 13 ?_
 obtain ⟨r40, h41, H42⟩ := bnd H39
 refine Dk [] [] (c_style_bit h41) fun ⟨⟩ => ?_
 refine Dq 17 ?_
 refine Dq 18 ?_
 refine Dn ?_
 refine Et (Tv ?_)
 obtain rfl := sm H42
 exact Eo1 () [] []

theorem c_screen_Screen_num {s_ : ScreenScreen} {r : Int} (H : p_screen_Screen_num s_ = some r) : CT G 67 [.pointer (some ⟨N0, 0, none⟩)] [] [Im.cells N0 0 [.pointer (some ⟨N1, 0, none⟩), .int .i64 s_.spot.x, .int .i64 s_.spot.y, .int .i64 s_.spot.style.fore, .int .i64 s_.spot.style.back, .bool s_.spot.style.bold, .bool s_.spot.style.under, .bool s_.spot.style.inverse, .int .i64 s_.saved.x, .int .i64 s_.saved.y, .int .i64 s_.saved.style.fore, .int .i64 s_.saved.style.back, .bool s_.saved.style.bold, .bool s_.saved.style.under, .bool s_.saved.style.inverse, .bool s_.waiting, .int .i64 s_.top, .int .i64 s_.bottom, .bool s_.wraps, .string s_.title], Im.cells N1 0 [.int .i64 s_.g.w, .slice A0 s_.g.l.length C0], Im.sl tyRowRow A0 C0 s_.g.l] (fun _ : Unit => .int .i64 r) (fun h => []) (fun h => []) := by
 delta p_screen_Screen_num at H
 refine CT.of Go.Proofs.Tryz.func67 (by kernel_rfl) rfl rfl rfl fun K => ?_
 refine Ts (Tr ?_)
 refine Lq 1 ?_
 refine Ln (Et (Ts (Tr ?_)))
 refine Lq 4 ?_
 refine Lc 0 3 ?_
 obtain ⟨r1, h2, H3⟩ := bnd H
 refine Lk [] [] (c_style_Style_Num h2) fun ⟨⟩ => ?_
 refine Lq 1 ?_
 refine Ln (Et (Tv ?_))
 obtain rfl := sm H3
 exact Eo1 () [] []

theorem c_grid_Grid_region_a0 {g : GridGrid} {top : Int} {bottom : Int} {r : Unit} (H : p_grid_Grid_region g top bottom = some (.inl r)) : CT G 117 [.pointer (some ⟨N0, 0, none⟩), .int .i64 top, .int .i64 bottom] [Ch.box N0 96 [.int .i64 g.w, .slice A0 g.l.length C0], Ch.arr tyRowRow 52 A0 C0 g.l] [] (fun _ : Unit => .tuple #[.slice none 0 0, .bool false]) (fun h => [Ch.box N0 96 [.int .i64 g.w, .slice A0 g.l.length C0], Ch.arr tyRowRow 52 A0 C0 g.l]) (fun h => []) := by
 delta p_grid_Grid_region at H
 refine CT.of Go.Proofs.Tryz.func117 (by kernel_rfl) rfl rfl rfl fun K => ?_
 refine Ts (Tr ?_)
 refine Lq 2 ?_
 refine Ln (Et (Ts (Tr ?_)))
 refine Lq 3 ?_
 refine Lb 0 ?_
 refine Lq 3 ?_
 refine Ln (Et (Ts (Tr ?_)))
 refine Lq 2 ?_
 obtain ⟨r1, h2, H3⟩ := bnd H
 refine Lk [] [] (c_grid_clip h2) fun ⟨⟩ => ?_
 refine Lq 2 ?_
 obtain ⟨r4, h5, H6⟩ := bnd H3
 refine Lk [] [] (c_grid_clip h5) fun ⟨⟩ => ?_
 refine Lq 2 ?_
 refine Ln (Et (Ts (Ts (Tr ?_))))
 refine Lq 3 ?_
 refine Ln (Et ?_)
 refine Tb H6 (fun H8 => ?_) fun H8 => ?_
 ·refine Ts (Tr ?_)
  refine Lq 2 ?_
  refine Ln (Et (Tv (Er ?_)))
  have hr := Sum.inl.inj (Option.some.inj H8)
  subst r
  exact Eo () [0, 0] [] (.tmp rfl (.tmp rfl .nil))
 refine Tk (Et (Ts (Tr ?_)))
 refine Lq 3 ?_
 refine Lb 0 ?_
 refine Lq 3 ?_
 obtain ⟨_, h9, H10⟩ := bnd H8
 refine L.cap 1 rfl fun h14 => ?_
 refine Ly (Yl.sv (ty := tyRowRow) h14 h9 rfl rfl rfl rfl rfl rfl rfl rfl) ?_
 have hv13 : Vw tyRowRow g.l A0 C0 (cuta A0 C0 r1 (tyRowRow).sz) (C0 - r1.toNat) r1 (IntKind.i64.wrap (r4 + 1)) := vw_new h9 h14
 refine Lq 2 ?_
 refine Ln (Et (Tv ?_))
 exact nomatch (Option.some.inj H10)
theorem c_grid_Grid_region_a1 {g : GridGrid} {top : Int} {bottom : Int} {r : (Int × Int)} (H : p_grid_Grid_region g top bottom = some (.inr r)) : CT G 117 [.pointer (some ⟨N0, 0, none⟩), .int .i64 top, .int .i64 bottom] [Ch.box N0 96 [.int .i64 g.w, .slice A0 g.l.length C0], Ch.arr tyRowRow 52 A0 C0 g.l] [] (fun _ : Unit => .tuple #[.slice (cuta A0 C0 r.1 (tyRowRow).sz) (cut g.l r.1 r.2).length (C0 - r.1.toNat), .bool true]) (fun h => [Ch.box N0 96 [.int .i64 g.w, .slice A0 g.l.length C0], Ch.arr tyRowRow 52 A0 C0 g.l]) (fun h => []) := by
 delta p_grid_Grid_region at H
 refine CT.of Go.Proofs.Tryz.func117 (by kernel_rfl) rfl rfl rfl fun K => ?_
 refine Ts (Tr ?_)
 refine Lq 2 ?_
 refine Ln (Et (Ts (Tr ?_)))
 refine Lq 3 ?_
 refine Lb 0 ?_
 refine Lq 3 ?_
 refine Ln (Et (Ts (Tr ?_)))
 refine Lq 2 ?_
 obtain ⟨r1, h2, H3⟩ := bnd H
 refine Lk [] [] (c_grid_clip h2) fun ⟨⟩ => ?_
 refine Lq 2 ?_
 obtain ⟨r4, h5, H6⟩ := bnd H3
 refine Lk [] [] (c_grid_clip h5) fun ⟨⟩ => ?_
 refine Lq 2 ?_
 refine Ln (Et (Ts (Ts (Tr ?_))))
 refine Lq 3 ?_
 refine Ln (Et ?_)
 refine Tb H6 (fun H8 => ?_) fun H8 => ?_
 ·refine Ts (Tr ?_)
  refine Lq 2 ?_
  refine Ln (Et (Tv (Er ?_)))
  exact nomatch (Option.some.inj H8)
 refine Tk (Et (Ts (Tr ?_)))
 refine Lq 3 ?_
 refine Lb 0 ?_
 refine Lq 3 ?_
 obtain ⟨_, h9, H10⟩ := bnd H8
 refine L.cap 1 rfl fun h14 => ?_
 refine Ly (Yl.sv (ty := tyRowRow) h14 h9 rfl rfl rfl rfl rfl rfl rfl rfl) ?_
 have hv13 : Vw tyRowRow g.l A0 C0 (cuta A0 C0 r1 (tyRowRow).sz) (C0 - r1.toNat) r1 (IntKind.i64.wrap (r4 + 1)) := vw_new h9 h14
 refine Lq 2 ?_
 refine Ln (Et (Tv ?_))
 have hr := Sum.inr.inj (Option.some.inj H10)
 subst r
 exact Eo () [0, 0] [] (.tmp rfl (.tmp rfl .nil))

theorem c_slices_Clone_row_Row_w {ys : List RowRow} (a_0 : Option Addr) (c_0 : Nat) (a9 : Option Addr) (c9 : Nat) {lo hi : Int} (hv : Vw tyRowRow ys a_0 c_0 a9 c9 lo hi) {r : List RowRow} (H : p_slices_Clone_row_Row (cut ys lo hi) = some r) : CT G 99 [.slice a9 (cut ys lo hi).length c9] [Ch.arr tyRowRow 52 a_0 c_0 ys] [] (fun h : (Option Addr × Nat) => .slice h.1 r.length h.2) (fun h => [Ch.arr tyRowRow 52 h.1 h.2 r, Ch.arr tyRowRow 52 a_0 c_0 ys]) (fun h => []) := by
  delta p_slices_Clone_row_Row at H
  refine CT.of Go.Proofs.Tryz.func99 (by kernel_rfl) rfl rfl rfl fun K => ?_
  obtain ⟨_, h0, H⟩ := bnd H
  have hr := Option.some.inj H
  refine T.seq (T.region (L.q 1 rfl (L.nil (E.then (T.seq (T.seq (T.region ?_)))))))
  refine L.q 1 rfl ?_
  refine L.nilv 0 hv rfl rfl rfl rfl rfl rfl rfl rfl rfl (fun hx => ?_) ?_
  · refine L.nil (E.then (T.cond rfl (fun _ => ?_) (fun h => nomatch h)))
    refine T.seq (T.region (L.q 1 rfl (L.nil (E.then (T.ret (E.then_ret ?_))))))
    rw [hx] at hr
    subst r
    refine E.nil0 tyRowRow 52 ?_
    exact E.ret (none, 0) [0, 0] [] (.tmp rfl .nil) rfl rfl rfl
  · refine L.nil (E.then (T.cond rfl (fun h => nomatch h) (fun _ => ?_)))
    refine T.skip (E.then (T.seq (T.region ?_)))
    refine L.a [] [] (Ac.bs (ty := tyRowRow) (xs := []) .nil rfl rfl rfl rfl rfl rfl rfl) rfl rfl rfl rfl rfl ?_
    intro g1
    refine L.q 1 rfl ?_
    refine L.a [0, 0] [] (Ac.apv (ty := tyRowRow) hv h0 rfl rfl rfl rfl rfl rfl rfl) rfl rfl rfl rfl rfl ?_
    rintro ⟨a1, c1⟩
    refine L.q 1 rfl ?_
    refine L.nil (E.then (T.ret ?_))
    subst r
    exact E.ret (a1, c1) [0, 0] [] (.tmp rfl .nil) rfl rfl rfl

theorem c_grid_Grid_Up {g : GridGrid} {top : Int} {bottom : Int} {n_ : Int} {style : Int} {r : (List RowRow) × GridGrid} (H : p_grid_Grid_Up g top bottom n_ style = some r) : CT G 116 [.pointer (some ⟨N0, 0, none⟩), .int .i64 top, .int .i64 bottom, .int .i64 n_, .int .i64 style] [Ch.box N0 96 [.int .i64 g.w, .slice A0 g.l.length C0], Ch.arr tyRowRow 52 A0 C0 g.l] [] (fun h : (Option Addr × Nat) => .slice h.1 r.1.length h.2) (fun h => [Ch.arr tyRowRow 52 h.1 h.2 r.1, Ch.box N0 96 [.int .i64 r.2.w, .slice A0 r.2.l.length C0], Ch.arr tyRowRow 52 A0 C0 r.2.l]) (fun h => []) := by
 delta p_grid_Grid_Up at H
 refine CT.of Go.Proofs.Tryz.func116 (by kernel_rfl) rfl rfl rfl fun K => ?_
 refine Ts (Tr ?_)
 refine Lq 1 ?_
 refine Ln (Et (Ts (Tr ?_)))
 refine Lq 3 ?_
 obtain ⟨r1, h2, H3⟩ := bnd H
 rcases r1 with r1 | r1
 ·refine Lk [0, 0] [] (c_grid_Grid_region_a0 h2) fun ⟨⟩ => ?_
  refine Lq 5 ?_
  refine Ln (Et (Ts (Ts (Tr ?_))))
  refine Lq 2 ?_
  refine Ln (Et ?_)
  refine T.cond rfl (fun _ => ?_) (fun h => nomatch h)
  refine Ts (Tr ?_)
  refine Lq 1 ?_
  refine Ln (Et (Tv (Er ?_)))
  refine E.nil0 tyRowRow 52 ?_
  obtain rfl := sm H3
  exact Eo1 (none, 0) [0, 0, 0] []
 refine Lk [0, 0] [] (c_grid_Grid_region_a1 h2) fun ⟨⟩ => ?_
 obtain ⟨_, h5, H6⟩ := bnd H3
 refine L.cap 1 rfl fun h7 => ?_
 have hv8 : Vw tyRowRow g.l A0 C0 (cuta A0 C0 r1.1 (tyRowRow).sz) (C0 - r1.1.toNat) r1.1 r1.2 := vw_new h5 h7
 refine Lq 5 ?_
 refine Ln (Et (Ts (Ts (Tr ?_))))
 refine Lq 2 ?_
 refine Ln (Et ?_)
 refine T.cond rfl (fun h => nomatch h) (fun _ => ?_)
 refine Tk (Et (Ts (Tr ?_)))
 refine Lq 3 ?_
 obtain ⟨r9, h10, H11⟩ := bnd H6
 refine Lk [] [] (c_grid_clip h10) fun ⟨⟩ => ?_
 refine Lq 1 ?_
 refine Ln (Et (Ts (Tr ?_)))
 refine Lq 2 ?_
 obtain ⟨_, h12, H13⟩ := bnd H11
 refine L.vv hv8 h12 rfl rfl rfl rfl rfl rfl rfl rfl rfl rfl rfl fun a14 c15 hv16 => ?_
 obtain ⟨r17, h18, H19⟩ := bnd H13
 refine Lk [1] [] (c_slices_Clone_row_Row_w A0 C0 a14 c15 hv16 h18) fun ⟨a20, c21⟩ => ?_
 refine Lq 1 ?_
 refine Ln (Et (Ts (Tr ?_)))
 refine Lq 3 ?_
 obtain ⟨_, h23, H24⟩ := bnd H19
 refine L.vv hv8 h23 rfl rfl rfl rfl rfl rfl rfl rfl rfl rfl rfl fun a25 c26 hv27 => ?_
 refine La [1] [] (Ac.cpv (ty := tyRowRow) hv8 hv27 rfl rfl rfl rfl rfl rfl rfl) fun _ => ?_
 have hv29 : Vw tyRowRow (cpyv g.l r1.1 r1.2 (r1.1 + r9) (r1.1 + ((cut g.l r1.1 r1.2).length : Int))) A0 C0 (cuta A0 C0 r1.1 (tyRowRow).sz) (C0 - r1.1.toNat) r1.1 r1.2 := Vw.on hv8 (cpyv_len hv8)
 refine L.sl 11 (k' := (cut (cpyv g.l r1.1 r1.2 (r1.1 + r9) (r1.1 + ((cut g.l r1.1 r1.2).length : Int))) r1.1 r1.2).length) (cut_len (cpyv_len hv8)) rfl ?_
 refine L.bx 2 (cs' := [.int .i64 g.w, .slice A0 (cpyv g.l r1.1 r1.2 (r1.1 + r9) (r1.1 + ((cut g.l r1.1 r1.2).length : Int))).length C0]) (by rw [cpyv_len hv8]) rfl ?_
 refine Ln (Et (Ts (Ts (Tr ?_))))
 refine Lq 5 ?_
 refine Ln (Et ?_)
 obtain ⟨e142, H143, H144⟩ := bnd H24
 refine Tj0 [] [13] [Ch.arr tyRowRow 52 A0 C0 e142.l, Ch.box N0 96 [.int .i64 e142.w, .slice A0 e142.l.length C0]] [2] ?_ ?_
 ·refine Tl ?_
  refine Tq (η := Unit) (fun s103 h => [(11, .slice (cuta A0 C0 r1.1 (tyRowRow).sz) (cut s103.1.l r1.1 r1.2).length (C0 - r1.1.toNat)), (14, .int .i64 s103.2)]) [0, 4, 13] (fun s103 h => [Ch.arr tyRowRow 52 A0 C0 s103.1.l, Ch.box N0 96 [.int .i64 s103.1.w, .slice A0 s103.1.l.length C0]]) [2] (fun _ _ => []) () [1, 0, 0] [] H143 ?_
  rintro k_ s103 ⟨⟩ z146 H145 hag147 hbr148
  refine Ts (Ts (Tr ?_))
  refine Lq 4 ?_
  refine Ln (Et ?_)
  refine Tb H145 (fun H150 => ?_) fun H150 => ?_
  ·refine Tk (Et (Ts (Tl (Tr ?_))))
   refine Lq 5 ?_
   refine Lb 1 ?_
   refine Lq 1 ?_
   obtain ⟨r168, h169, H170⟩ := bnd H150
   refine Lk [] [] (c_row_Blank h169) fun ⟨a171, c172⟩ => ?_
   obtain ⟨_, h174, H175⟩ := bnd H170
   refine L.cap 0 rfl fun h176 => ?_
   have hv177 := vw_re hv29 h174 h176
   obtain ⟨x178, h179, H180⟩ := bnd H175
   refine L.addro 0 rfl (pos_of (cut_get h179)) fun b181 e182 => ?_
   subst e182
   refine Ly (Yl.iv (ty := tyRowRow) 0 hv177 h179 rfl rfl rfl rfl rfl rfl rfl rfl) ?_
   refine La [0] [0] (Ac.se 0 r168 (cut_get h179) rfl rfl rfl rfl rfl rfl (fun _ => ⟨(a171, c172), rfl, [1], rfl⟩)) fun _ => ?_
   have hv184 : Vw tyRowRow (s103.1.l.set (r1.1.toNat + s103.2.toNat) r168) (some ⟨b181, 0, none⟩) C0 (cuta (some ⟨b181, 0, none⟩) C0 r1.1 (tyRowRow).sz) (C0 - r1.1.toNat) r1.1 r1.2 := Vw.on hv177 (List.length_set ..)
   refine L.sl 11 (k' := (cut (s103.1.l.set (r1.1.toNat + s103.2.toNat) r168) r1.1 r1.2).length) (cut_len (List.length_set ..)) rfl ?_
   refine L.bx 1 (cs' := [.int .i64 s103.1.w, .slice (some ⟨b181, 0, none⟩) (s103.1.l.set (r1.1.toNat + s103.2.toNat) r168).length C0]) (by rw [List.length_set ..]) rfl ?_
   refine Ln (Eb (Et (Tr ?_)))
   refine Lq 3 ?_
   refine Ln ?_
   obtain rfl := sm H180
   exact Eg (_, ()) (hag147 _ rfl) [1, 0, 0] [] 1
  refine Tx (Ex (Ex (Eh ?_)))
  obtain rfl := sm H150
  have hb := hbr148 _ rfl
  subst e142
  exact Eg0 [0, 0, 0] 0
 refine Ts (Tr ?_)
 refine Lq 2 ?_
 refine Ln (Et (Tv ?_))
 obtain rfl := sm H144
 exact Eo1 (a20, c21) [2, 1, 0] []

theorem c_screen_Screen_up {s_ : ScreenScreen} {n_ : Int} {r : (List RowRow) × ScreenScreen} (H : p_screen_Screen_up s_ n_ = some r) : CT G 76 [.pointer (some ⟨N0, 0, none⟩), .int .i64 n_] [Ch.box N0 81 [.pointer (some ⟨N1, 0, none⟩), .int .i64 s_.spot.x, .int .i64 s_.spot.y, .int .i64 s_.spot.style.fore, .int .i64 s_.spot.style.back, .bool s_.spot.style.bold, .bool s_.spot.style.under, .bool s_.spot.style.inverse, .int .i64 s_.saved.x, .int .i64 s_.saved.y, .int .i64 s_.saved.style.fore, .int .i64 s_.saved.style.back, .bool s_.saved.style.bold, .bool s_.saved.style.under, .bool s_.saved.style.inverse, .bool s_.waiting, .int .i64 s_.top, .int .i64 s_.bottom, .bool s_.wraps, .string s_.title], Ch.box N1 96 [.int .i64 s_.g.w, .slice A0 s_.g.l.length C0], Ch.arr tyRowRow 52 A0 C0 s_.g.l] [] (fun h : (Option Addr × Nat) => .slice h.1 r.1.length h.2) (fun h => [Ch.arr tyRowRow 52 h.1 h.2 r.1, Ch.box N0 81 [.pointer (some ⟨N1, 0, none⟩), .int .i64 r.2.spot.x, .int .i64 r.2.spot.y, .int .i64 r.2.spot.style.fore, .int .i64 r.2.spot.style.back, .bool r.2.spot.style.bold, .bool r.2.spot.style.under, .bool r.2.spot.style.inverse, .int .i64 r.2.saved.x, .int .i64 r.2.saved.y, .int .i64 r.2.saved.style.fore, .int .i64 r.2.saved.style.back, .bool r.2.saved.style.bold, .bool r.2.saved.style.under, .bool r.2.saved.style.inverse, .bool r.2.waiting, .int .i64 r.2.top, .int .i64 r.2.bottom, .bool r.2.wraps, .string r.2.title], Ch.box N1 96 [.int .i64 r.2.g.w, .slice A0 r.2.g.l.length C0], Ch.arr tyRowRow 52 A0 C0 r.2.g.l]) (fun h => []) := by
 delta p_screen_Screen_up at H
 refine CT.of Go.Proofs.Tryz.func76 (by kernel_rfl) rfl rfl rfl fun K => ?_
 refine Ts (Tr ?_)
 refine Lq 1 ?_
 refine Ln (Et (Ts ?_))
 refine Td [15] [0, 0, 0] mo ?_
 refine Dq 0 ?_
 refine Dq 1 ?_
 refine Dq 2 ?_
 refine Db 3 0 ?_
 refine Dq 4 ?_
 refine Dq 5 ?_
 refine Dq 6 ?_
 refine Db 7 0 ?_
 refine Dq 8 ?_
 refine Dq 9 ?_
 refine Dq 10 ?_
 refine Db 11 0 ?_
 refine Dq 12 ?_
 refine Dq 13 ?_
 obtain ⟨r31, h32, H33⟩ := bnd H
 refine D.one rfl rfl rfl (Dp.br (Ac.call (c_screen_Screen_num h32) rfl rfl rfl rfl) (Bw.bx 0 rfl (Bw.bx 1 rfl (Bw.ch 2 rfl (Bw.nil)))) rfl rfl rfl rfl ?_)
 intro _
 obtain ⟨r34, h35, H36⟩ := bnd H33
 refine Dkl [1, 1] [] (c_grid_Grid_Up h35) fun ⟨a37, c38⟩ => ?_
 refine Dq 16 ?_
 refine Dn ?_
 refine Et (Ts (Ts (Tr ?_)))
 refine Lq 3 ?_
 refine Lb 3 ?_
 refine Lq 1 ?_
 refine Ln (Et ?_)
 refine Tb H36 (fun H42 => ?_) fun H42 => ?_
 ·refine Ts (Tr ?_)
  refine Lq 1 ?_
  refine Ln (Et (Tv (Er ?_)))
  refine E.nil0 tyRowRow 52 ?_
  obtain rfl := sm H42
  exact Eo1 (none, 0) [0, 3, 1, 1] []
 refine Tk (Et (Ts (Tr ?_)))
 refine Lq 2 ?_
 refine Ln (Et (Tv ?_))
 obtain rfl := sm H42
 exact Eo1 (a37, c38) [0, 2, 0, 0] []

theorem c_screen_Screen_last {s_ : ScreenScreen} {r : Int × Int} (H : p_screen_Screen_last s_ = some r) : CT G 52 [.pointer (some ⟨N0, 0, none⟩)] [Ch.box N0 81 [.pointer (some ⟨N1, 0, none⟩), .int .i64 s_.spot.x, .int .i64 s_.spot.y, .int .i64 s_.spot.style.fore, .int .i64 s_.spot.style.back, .bool s_.spot.style.bold, .bool s_.spot.style.under, .bool s_.spot.style.inverse, .int .i64 s_.saved.x, .int .i64 s_.saved.y, .int .i64 s_.saved.style.fore, .int .i64 s_.saved.style.back, .bool s_.saved.style.bold, .bool s_.saved.style.under, .bool s_.saved.style.inverse, .bool s_.waiting, .int .i64 s_.top, .int .i64 s_.bottom, .bool s_.wraps, .string s_.title], Ch.box N1 96 [.int .i64 s_.g.w, .slice A0 s_.g.l.length C0], Ch.arr tyRowRow 52 A0 C0 s_.g.l] [] (fun _ : Unit => .tuple #[.int .i64 r.1, .int .i64 r.2]) (fun h => [Ch.box N0 81 [.pointer (some ⟨N1, 0, none⟩), .int .i64 s_.spot.x, .int .i64 s_.spot.y, .int .i64 s_.spot.style.fore, .int .i64 s_.spot.style.back, .bool s_.spot.style.bold, .bool s_.spot.style.under, .bool s_.spot.style.inverse, .int .i64 s_.saved.x, .int .i64 s_.saved.y, .int .i64 s_.saved.style.fore, .int .i64 s_.saved.style.back, .bool s_.saved.style.bold, .bool s_.saved.style.under, .bool s_.saved.style.inverse, .bool s_.waiting, .int .i64 s_.top, .int .i64 s_.bottom, .bool s_.wraps, .string s_.title], Ch.box N1 96 [.int .i64 s_.g.w, .slice A0 s_.g.l.length C0], Ch.arr tyRowRow 52 A0 C0 s_.g.l]) (fun h => []) := by
 delta p_screen_Screen_last at H
 refine CT.of Go.Proofs.Tryz.func52 (by kernel_rfl) rfl rfl rfl fun K => ?_
 refine Ts (Tr ?_)
 refine Lq 2 ?_
 refine Ln (Et (Ts (Tr ?_)))
 refine Lq 3 ?_
 refine Lb 0 ?_
 obtain ⟨r1, h2, H3⟩ := bnd H
 refine Lk [1, 1] [] (c_grid_Grid_Size h2) fun ⟨⟩ => ?_
 refine Lq 5 ?_
 refine Ln (Et (Ts (Tr ?_)))
 refine Lq 6 ?_
 refine Ln (Et (Tv ?_))
 obtain rfl := sm H3
 exact Eo () [2, 0, 0] [] (.tmp rfl (.tmp rfl .nil))

theorem c_screen_clip {n_ : Int} {lo : Int} {hi : Int} {r : Int} (H : p_screen_clip n_ lo hi = some r) : CT G 49 [.int .i64 n_, .int .i64 lo, .int .i64 hi] [] [] (fun _ : Unit => .int .i64 r) (fun h => []) (fun h => []) := by
 delta p_screen_clip at H
 refine CT.of Go.Proofs.Tryz.func49 (by kernel_rfl) rfl rfl rfl fun K => ?_
 refine Ts (Tr ?_)
 refine Lq 1 ?_
 refine Ln (Et (Ts (Tr ?_)))
 refine Lq 6 ?_
 refine Ln (Et (Tv ?_))
 obtain rfl := sm H
 exact Eo1 () [] []

theorem c_screen_Screen_move {s_ : ScreenScreen} {x_ : Int} {y : Int} {r : ScreenScreen} (H : p_screen_Screen_move s_ x_ y = some r) : CT G 51 [.pointer (some ⟨N0, 0, none⟩), .int .i64 x_, .int .i64 y] [Ch.box N0 81 [.pointer (some ⟨N1, 0, none⟩), .int .i64 s_.spot.x, .int .i64 s_.spot.y, .int .i64 s_.spot.style.fore, .int .i64 s_.spot.style.back, .bool s_.spot.style.bold, .bool s_.spot.style.under, .bool s_.spot.style.inverse, .int .i64 s_.saved.x, .int .i64 s_.saved.y, .int .i64 s_.saved.style.fore, .int .i64 s_.saved.style.back, .bool s_.saved.style.bold, .bool s_.saved.style.under, .bool s_.saved.style.inverse, .bool s_.waiting, .int .i64 s_.top, .int .i64 s_.bottom, .bool s_.wraps, .string s_.title], Ch.box N1 96 [.int .i64 s_.g.w, .slice A0 s_.g.l.length C0], Ch.arr tyRowRow 52 A0 C0 s_.g.l] [] (fun _ : Unit => .tuple #[]) (fun h => [Ch.box N0 81 [.pointer (some ⟨N1, 0, none⟩), .int .i64 r.spot.x, .int .i64 r.spot.y, .int .i64 r.spot.style.fore, .int .i64 r.spot.style.back, .bool r.spot.style.bold, .bool r.spot.style.under, .bool r.spot.style.inverse, .int .i64 r.saved.x, .int .i64 r.saved.y, .int .i64 r.saved.style.fore, .int .i64 r.saved.style.back, .bool r.saved.style.bold, .bool r.saved.style.under, .bool r.saved.style.inverse, .bool r.waiting, .int .i64 r.top, .int .i64 r.bottom, .bool r.wraps, .string r.title], Ch.box N1 96 [.int .i64 r.g.w, .slice A0 r.g.l.length C0], Ch.arr tyRowRow 52 A0 C0 r.g.l]) (fun h => []) := by
 delta p_screen_Screen_move at H
 refine CT.of Go.Proofs.Tryz.func51 (by kernel_rfl) rfl rfl rfl fun K => ?_
 refine Ts (Tr ?_)
 refine Lq 1 ?_
 obtain ⟨r1, h2, H3⟩ := bnd H
 refine Lk [0, 0, 0] [] (c_screen_Screen_last h2) fun ⟨⟩ => ?_
 refine Lq 5 ?_
 refine Ln (Et (Tr ?_))
 refine Lq 5 ?_
 obtain ⟨r4, h5, H6⟩ := bnd H3
 refine Lk [] [] (c_screen_clip h5) fun ⟨⟩ => ?_
 refine Lq 2 ?_
 obtain ⟨r7, h8, H9⟩ := bnd H6
 refine Lk [] [] (c_screen_clip h8) fun ⟨⟩ => ?_
 refine Lq 3 ?_
 refine Lt 0 ?_
 refine Lq 3 ?_
 refine Lt 0 ?_
 refine Lq 2 ?_
 refine Lt 0 ?_
 refine Ln (E.off ?_)
 obtain rfl := sm H9
 exact Eo () [0, 0, 0] [] .nil

theorem c_screen_Screen_line {s_ : ScreenScreen} {r : (List RowRow) × ScreenScreen} (H : p_screen_Screen_line s_ = some r) : CT G 64 [.pointer (some ⟨N0, 0, none⟩)] [Ch.box N0 81 [.pointer (some ⟨N1, 0, none⟩), .int .i64 s_.spot.x, .int .i64 s_.spot.y, .int .i64 s_.spot.style.fore, .int .i64 s_.spot.style.back, .bool s_.spot.style.bold, .bool s_.spot.style.under, .bool s_.spot.style.inverse, .int .i64 s_.saved.x, .int .i64 s_.saved.y, .int .i64 s_.saved.style.fore, .int .i64 s_.saved.style.back, .bool s_.saved.style.bold, .bool s_.saved.style.under, .bool s_.saved.style.inverse, .bool s_.waiting, .int .i64 s_.top, .int .i64 s_.bottom, .bool s_.wraps, .string s_.title], Ch.box N1 96 [.int .i64 s_.g.w, .slice A0 s_.g.l.length C0], Ch.arr tyRowRow 52 A0 C0 s_.g.l] [] (fun h : (Option Addr × Nat) => .slice h.1 r.1.length h.2) (fun h => [Ch.arr tyRowRow 52 h.1 h.2 r.1, Ch.box N0 81 [.pointer (some ⟨N1, 0, none⟩), .int .i64 r.2.spot.x, .int .i64 r.2.spot.y, .int .i64 r.2.spot.style.fore, .int .i64 r.2.spot.style.back, .bool r.2.spot.style.bold, .bool r.2.spot.style.under, .bool r.2.spot.style.inverse, .int .i64 r.2.saved.x, .int .i64 r.2.saved.y, .int .i64 r.2.saved.style.fore, .int .i64 r.2.saved.style.back, .bool r.2.saved.style.bold, .bool r.2.saved.style.under, .bool r.2.saved.style.inverse, .bool r.2.waiting, .int .i64 r.2.top, .int .i64 r.2.bottom, .bool r.2.wraps, .string r.2.title], Ch.box N1 96 [.int .i64 r.2.g.w, .slice A0 r.2.g.l.length C0], Ch.arr tyRowRow 52 A0 C0 r.2.g.l]) (fun h => []) := by
 delta p_screen_Screen_line at H
 refine CT.of Go.Proofs.Tryz.func64 (by kernel_rfl) rfl rfl rfl fun K => ?_
 refine Ts (Tr ?_)
 refine Lq 1 ?_
 refine Ln (Et (Ts (Tr ?_)))
 refine Lq 3 ?_
 refine Lt 0 ?_
 refine Ln (Et (Ts (Ts ?_)))
 refine Td [] [0, 0, 0] mo ?_
 refine Dq 0 ?_
 refine Dq 1 ?_
 refine Dq 2 ?_
 refine Dq 3 ?_
 refine Db 4 0 ?_
 refine Dq 5 ?_
 refine Dq 6 ?_
 refine Dq 7 ?_
 refine Db 8 0 ?_
 refine Dq 9 ?_
 refine Dn ?_
 refine Et ?_
 refine Tb H (fun H9 => ?_) fun H9 => ?_
 ·refine Ts (Tr ?_)
  refine Lq 1 ?_
  obtain ⟨r10, h11, H12⟩ := bnd H9
  refine Lk [0, 0, 0] [] (c_screen_Screen_up h11) fun ⟨a13, c14⟩ => ?_
  refine Lq 1 ?_
  refine Ln (Et (Tv (Er ?_)))
  obtain rfl := sm H12
  exact Eo1 (a13, c14) [0, 0, 0, 0] []
 refine Tk (Et (Ts ?_))
 refine Td [12] [0, 0, 0] mo ?_
 refine Dq 0 ?_
 refine Dq 1 ?_
 refine Dq 2 ?_
 refine Dq 3 ?_
 refine Dq 4 ?_
 refine Db 5 0 ?_
 refine Dq 6 ?_
 refine Dq 7 ?_
 refine Dq 8 ?_
 refine Dq 9 ?_
 refine Db 10 0 ?_
 refine Dq 11 ?_
 obtain ⟨r29, h30, H31⟩ := bnd H9
 refine Dkl [0, 0, 0] [] (c_screen_Screen_move h30) fun ⟨⟩ => ?_
 refine Dn ?_
 refine Et (Ts (Tr ?_))
 refine Lq 1 ?_
 refine Ln (Et (Tv ?_))
 refine E.nil0 tyRowRow 52 ?_
 obtain rfl := sm H31
 exact Eo1 (none, 0) [0, 0, 0, 0] []

end Go.Tw.X

set_option maxHeartbeats 2000000
set_option linter.unusedVariables false
set_option linter.unusedSimpArgs false
set_option maxRecDepth 10000
namespace Go.Tw.X
open Go Go.Tw
variable {A0 A1 A2 : Option Addr} {C0 C1 C2 : Nat}
variable {N0 N1 N2 N3 N4 : Nat}
theorem c_row_Row_Fill {r_ : RowRow} {style : Int} {r : RowRow} (H : p_row_Row_Fill r_ style = some r) : CT G 66 [.agg #[.slice A0 r_.cells.length C0, .bool r_.wrapped], .int .i64 style] [] [Im.sl tyRowCell A0 C0 r_.cells] (fun h : (Option Addr × Nat) => .agg #[.slice h.1 r.cells.length h.2, .bool r.wrapped]) (fun h => []) (fun h => [Im.sl tyRowCell h.1 h.2 r.cells]) := by
 delta p_row_Row_Fill at H
 refine CT.of Go.Proofs.Tryz.func66 (by kernel_rfl) rfl rfl rfl fun K => ?_
 refine Ts (Tr ?_)
 refine Lx fun g1 => ?_
 refine Ll fun g2 => ?_
 refine Ln (Et (Ts (Tr ?_)))
 refine Lb 1 ?_
 obtain ⟨r3, h4, H5⟩ := bnd H
 refine Lk [] [0] (c_row_Row_cells h4) fun ⟨a6, c7⟩ => ?_
 refine Lq 1 ?_
 refine Ln (Et (Ts (Ts (Tr ?_))))
 refine Lq 3 ?_
 refine Ln (Et (Ts (Tr ?_)))
 refine Lq 2 ?_
 refine Ln (Et ?_)
 obtain ⟨e25, H26, H27⟩ := bnd H5
 refine Tj0 [(5, .slice a6 e25.length c7)] [4] [Ch.arr tyRowCell 98 a6 c7 e25] [1, 2] ?_ ?_
 ·refine Tb H26 (fun H28 => ?_) fun H28 => ?_
  ·refine Tr ?_
   refine Lq 5 ?_
   obtain ⟨x29, h30, H31⟩ := bnd H28
   refine L.addro 0 rfl (idx_lt h30) fun b32 e33 => ?_
   subst e33
   refine Ly (Yl.ia h30 rfl rfl rfl rfl rfl rfl) ?_
   refine La [0] [] (Ac.se 0 (RowCell.mk 32 style 3) (idx_some h30).2 rfl rfl rfl rfl rfl rfl (fun _ => ⟨(), rfl, [], rfl⟩)) fun _ => ?_
   refine L.sl 5 (k' := (r3.set ((IntKind.i64.wrap ((r3.length : Int) - 1)).toNat) (RowCell.mk 32 style 3)).length) (List.length_set ..) rfl ?_
   refine Ln ?_
   obtain rfl := sm H31
   exact Eg0 [0, 0, 0] 0
  refine Tk ?_
  obtain rfl := sm H28
  exact Eg0 [0, 0, 0] 0
 refine Ts (Tr ?_)
 refine Lq 1 ?_
 obtain ⟨r35, h36, H37⟩ := bnd H27
 refine Lk [0] [] (c_row_mend h36) fun ⟨⟩ => ?_
 refine Ll fun g39 => ?_
 refine Lt 0 ?_
 refine Ln (Et (Ts (Tr ?_)))
 refine Lq 1 ?_
 refine Lt 0 ?_
 refine Ln (Et (Ts (Tr ?_)))
 refine Lb 0 ?_
 refine Lt 1 ?_
 refine Ln (Et (Tv ?_))
 obtain rfl := sm H37
 exact Eo (a6, c7) [] [0] (.cell 0 rfl rfl rfl .nil)

theorem c_screen_Screen_print_2 {r_ : RowRow} {x1 : ScreenScreen} {r : RowRow} (H : p_screen_Screen_print_2 r_ x1 = some r) : CT G 65 [.agg #[.slice A0 r_.cells.length C0, .bool r_.wrapped], .pointer (some ⟨N0, 0, none⟩)] [Ch.box N0 23 [.pointer (some ⟨N1, 0, none⟩)], Ch.box N1 81 [.pointer (some ⟨N2, 0, none⟩), .int .i64 x1.spot.x, .int .i64 x1.spot.y, .int .i64 x1.spot.style.fore, .int .i64 x1.spot.style.back, .bool x1.spot.style.bold, .bool x1.spot.style.under, .bool x1.spot.style.inverse, .int .i64 x1.saved.x, .int .i64 x1.saved.y, .int .i64 x1.saved.style.fore, .int .i64 x1.saved.style.back, .bool x1.saved.style.bold, .bool x1.saved.style.under, .bool x1.saved.style.inverse, .bool x1.waiting, .int .i64 x1.top, .int .i64 x1.bottom, .bool x1.wraps, .string x1.title], Ch.box N2 96 [.int .i64 x1.g.w, .slice A1 x1.g.l.length C1], Ch.arr tyRowRow 52 A1 C1 x1.g.l] [Im.sl tyRowCell A0 C0 r_.cells] (fun h : (Option Addr × Nat) => .agg #[.slice h.1 r.cells.length h.2, .bool r.wrapped]) (fun h => [Ch.box N0 23 [.pointer (some ⟨N1, 0, none⟩)], Ch.box N1 81 [.pointer (some ⟨N2, 0, none⟩), .int .i64 x1.spot.x, .int .i64 x1.spot.y, .int .i64 x1.spot.style.fore, .int .i64 x1.spot.style.back, .bool x1.spot.style.bold, .bool x1.spot.style.under, .bool x1.spot.style.inverse, .int .i64 x1.saved.x, .int .i64 x1.saved.y, .int .i64 x1.saved.style.fore, .int .i64 x1.saved.style.back, .bool x1.saved.style.bold, .bool x1.saved.style.under, .bool x1.saved.style.inverse, .bool x1.waiting, .int .i64 x1.top, .int .i64 x1.bottom, .bool x1.wraps, .string x1.title], Ch.box N2 96 [.int .i64 x1.g.w, .slice A1 x1.g.l.length C1], Ch.arr tyRowRow 52 A1 C1 x1.g.l]) (fun h => [Im.sl tyRowCell h.1 h.2 r.cells]) := by
 delta p_screen_Screen_print_2 at H
 refine CT.of Go.Proofs.Tryz.func65 (by kernel_rfl) rfl rfl rfl fun K => ?_
 refine Ts (Tr ?_)
 refine Lx fun g1 => ?_
 refine Ll fun g2 => ?_
 refine Ln (Et (Ts ?_))
 refine Td [3, 4] [0, 0, 0, 0, 0, 0] mo ?_
 refine Db 0 1 ?_
 refine Db 1 2 ?_
 obtain ⟨r30, h31, H32⟩ := bnd H
 refine D.one rfl rfl rfl (Dp.br (Ac.call (c_screen_Screen_num h31) rfl rfl rfl rfl) (Bw.bx 3 rfl (Bw.bx 4 rfl (Bw.ch 5 rfl (Bw.nil)))) rfl rfl rfl rfl ?_)
 intro _
 obtain ⟨r33, h34, H35⟩ := bnd H32
 refine Dkl [] [0] (c_row_Row_Fill h34) fun ⟨a36, c37⟩ => ?_
 refine Dt 0 ?_
 refine Dn ?_
 refine Et (Tv ?_)
 obtain rfl := sm H35
 exact Eo (a36, c37) [2, 2, 2, 2] [0] (.cell 0 rfl rfl rfl .nil)

theorem c_screen_Screen_edit_Screen_print_2 {s_ : ScreenScreen} {r : ScreenScreen} (H : p_screen_Screen_edit_Screen_print_2 s_ = some r) : CT G 62 [.pointer (some ⟨N0, 0, none⟩), .func (.func 65) #[] #[.pointer (some ⟨N2, 0, none⟩)]] [Ch.box N0 81 [.pointer (some ⟨N1, 0, none⟩), .int .i64 s_.spot.x, .int .i64 s_.spot.y, .int .i64 s_.spot.style.fore, .int .i64 s_.spot.style.back, .bool s_.spot.style.bold, .bool s_.spot.style.under, .bool s_.spot.style.inverse, .int .i64 s_.saved.x, .int .i64 s_.saved.y, .int .i64 s_.saved.style.fore, .int .i64 s_.saved.style.back, .bool s_.saved.style.bold, .bool s_.saved.style.under, .bool s_.saved.style.inverse, .bool s_.waiting, .int .i64 s_.top, .int .i64 s_.bottom, .bool s_.wraps, .string s_.title], Ch.box N1 96 [.int .i64 s_.g.w, .slice A0 s_.g.l.length C0], Ch.arr tyRowRow 52 A0 C0 s_.g.l, Ch.box N2 23 [.pointer (some ⟨N0, 0, none⟩)]] [] (fun _ : Unit => .tuple #[]) (fun h => [Ch.box N0 81 [.pointer (some ⟨N1, 0, none⟩), .int .i64 r.spot.x, .int .i64 r.spot.y, .int .i64 r.spot.style.fore, .int .i64 r.spot.style.back, .bool r.spot.style.bold, .bool r.spot.style.under, .bool r.spot.style.inverse, .int .i64 r.saved.x, .int .i64 r.saved.y, .int .i64 r.saved.style.fore, .int .i64 r.saved.style.back, .bool r.saved.style.bold, .bool r.saved.style.under, .bool r.saved.style.inverse, .bool r.waiting, .int .i64 r.top, .int .i64 r.bottom, .bool r.wraps, .string r.title], Ch.box N1 96 [.int .i64 r.g.w, .slice A0 r.g.l.length C0], Ch.arr tyRowRow 52 A0 C0 r.g.l, Ch.box N2 23 [.pointer (some ⟨N0, 0, none⟩)]]) (fun h => []) := by
 delta p_screen_Screen_edit_Screen_print_2 at H
 refine CT.of Go.Proofs.Tryz.func62 (by kernel_rfl) rfl rfl rfl fun K => ?_
 refine Td [21] [0, 0, 0, 0] mo ?_
 refine Dq 0 ?_
 refine Dq 1 ?_
 refine Dq 2 ?_
 refine Db 3 0 ?_
 refine Dq 4 ?_
 refine Dq 5 ?_
 refine Dq 6 ?_
 refine Dq 7 ?_
 refine Db 8 0 ?_
 refine Dq 9 ?_
 refine Dq 10 ?_
 refine Dq 11 ?_
 refine Dq 12 ?_
 refine Db 13 0 ?_
 refine Dq 14 ?_
 refine Dq 15 ?_
 refine Dq 16 ?_
 refine Dq 17 ?_
 refine Db 18 0 ?_
 obtain ⟨r17, h18, H19⟩ := bnd H
 refine D.one rfl rfl rfl (Dp.ab [1, 1] [] [2, 0, 0, 0] (Ac.call (c_grid_Grid_Row h18) rfl rfl rfl rfl) rfl rfl rfl rfl rfl rfl (fun _ => rfl) ?_)
 rintro ⟨a20, c21⟩
 obtain ⟨r23, h24, H25⟩ := bnd H19
 refine D.one rfl rfl rfl (Dp.ab [3, 0, 0, 0] [0] [1, 1, 1, 0] (Ac.call (c_screen_Screen_print_2 h24) rfl rfl rfl rfl) rfl rfl rfl rfl rfl rfl (fun _ => rfl) ?_)
 rintro ⟨a26, c27⟩
 obtain ⟨r29, h30, H31⟩ := bnd H25
 refine Dkl [1, 1] [0] (c_grid_Grid_Set h30) fun ⟨⟩ => ?_
 refine Dn ?_
 refine E.off ?_
 obtain rfl := sm H31
 exact Eo () [2, 0, 0, 0] [] .nil

theorem c_row_Row_Put {r_ : RowRow} {at_ : Int} {x_ : Int} {style : Int} {r : RowRow} (H : p_row_Row_Put r_ at_ x_ style = some r) : CT G 69 [.agg #[.slice A0 r_.cells.length C0, .bool r_.wrapped], .int .i64 at_, .int .i32 x_, .int .i64 style] [] [Im.sl tyRowCell A0 C0 r_.cells, Im.sl tyWideSpan (some ⟨0, 0, none⟩) 13 t_wide_nones, Im.sl tyWideSpan (some ⟨1, 0, none⟩) 14 t_wide_twos] (fun h : (Option Addr × Nat) => .agg #[.slice h.1 r.cells.length h.2, .bool r.wrapped]) (fun h => []) (fun h => [Im.sl tyRowCell h.1 h.2 r.cells]) := by
 delta p_row_Row_Put at H
 refine CT.of Go.Proofs.Tryz.func69 (by kernel_rfl) rfl rfl rfl fun K => ?_
 refine Ts (Tr ?_)
 refine Lx fun g1 => ?_
 refine Ll fun g2 => ?_
 refine Ln (Et (Ts (Tr ?_)))
 refine Lb 1 ?_
 obtain ⟨r3, h4, H5⟩ := bnd H
 refine Lk [] [0] (c_row_Row_cells h4) fun ⟨a6, c7⟩ => ?_
 refine Lq 1 ?_
 refine Ln (Et (Ts (Tr ?_)))
 refine Lq 1 ?_
 obtain ⟨r9, h10, H11⟩ := bnd H5
 refine Lk [] [1, 2] (c_wide_Of h10) fun ⟨⟩ => ?_
 refine Lq 1 ?_
 refine Ln (Et (Ts ?_))
 obtain ⟨e124, H125, H126⟩ := bnd H11
 refine Tj0 [(9, .slice a6 e124.length c7)] [8] [Ch.arr tyRowCell 98 a6 c7 e124] [1, 2] ?_ ?_
 ·refine Tl (Ts ?_)
  obtain ⟨e132, H133, H134⟩ := bnd H125
  refine Tj0 [(50, .bool e132)] [1, 2, 3, 8, 9, 10] [] [1, 2, 0] ?_ ?_
  ·refine Tr ?_
   refine Lq 3 ?_
   refine Lw 53 H133 (fun H135 => ?_) fun H135 => ?_
   ·refine Lq 12 ?_
    refine Ln ?_
    obtain rfl := sm H135
    exact Eg0 [1, 1, 0] 0
   refine Lq 4 ?_
   refine Lw 57 H135 (fun H136 => ?_) fun H136 => ?_
   ·refine Lq 8 ?_
    refine Ln ?_
    obtain rfl := sm H136
    exact Eg0 [1, 1, 0] 0
   refine Lq 8 ?_
   refine Ln ?_
   obtain rfl := sm H136
   exact Eg0 [1, 1, 0] 0
  refine Tb H134 (fun H137 => ?_) fun H137 => ?_
  ·refine Tk (Eb ?_)
   obtain rfl := sm H137
   exact Eg0 [2, 0, 0] 0
  refine Ts (Tr ?_)
  refine Lq 3 ?_
  refine Ln (Et ?_)
  refine Tb H137 (fun H138 => ?_) fun H138 => ?_
  ·refine Tr ?_
   refine Lq 5 ?_
   obtain ⟨x139, h140, H141⟩ := bnd H138
   refine L.addro 2 rfl (idx_lt h140) fun b142 e143 => ?_
   subst e143
   refine Ly (Yl.ia h140 rfl rfl rfl rfl rfl rfl) ?_
   refine La [2] [] (Ac.se 0 (RowCell.mk x_ style 0) (idx_some h140).2 rfl rfl rfl rfl rfl rfl (fun _ => ⟨(), rfl, [], rfl⟩)) fun _ => ?_
   refine L.sl 9 (k' := (r3.set at_.toNat (RowCell.mk x_ style 0)).length) (List.length_set ..) rfl ?_
   refine Ln (Eb ?_)
   obtain rfl := sm H141
   exact Eg0 [0, 0, 0] 0
  refine Ts (Tr ?_)
  refine Lq 11 ?_
  obtain ⟨x145, h146, H147⟩ := bnd H138
  refine L.addro 2 rfl (idx_lt h146) fun b148 e149 => ?_
  subst e149
  refine Ly (Yl.ia h146 rfl rfl rfl rfl rfl rfl) ?_
  refine La [2] [] (Ac.se 0 (RowCell.mk x_ style 1) (idx_some h146).2 rfl rfl rfl rfl rfl rfl (fun _ => ⟨(), rfl, [], rfl⟩)) fun _ => ?_
  refine L.sl 9 (k' := (r3.set at_.toNat (RowCell.mk x_ style 1)).length) (List.length_set ..) rfl ?_
  refine L.sl 17 (k' := (r3.set at_.toNat (RowCell.mk x_ style 1)).length) (List.length_set ..) rfl ?_
  obtain ⟨x151, h152, H153⟩ := bnd H147
  refine Ly (Yl.ia h152 rfl rfl rfl rfl rfl rfl) ?_
  refine La [0] [] (Ac.se 0 (RowCell.mk x_ style 2) (idx_some h152).2 rfl rfl rfl rfl rfl rfl (fun _ => ⟨(), rfl, [], rfl⟩)) fun _ => ?_
  refine L.sl 9 (k' := ((r3.set at_.toNat (RowCell.mk x_ style 1)).set ((IntKind.i64.wrap (at_ + 1)).toNat) (RowCell.mk x_ style 2)).length) (List.length_set ..) rfl ?_
  refine Ln (Et (Ts ?_))
  obtain ⟨e164, H165, H166⟩ := bnd H153
  refine Tj0 [(38, .bool e164)] [1, 8, 9] [] [1, 2, 0] ?_ ?_
  ·refine Tr ?_
   refine Lq 3 ?_
   refine Lw 30 H165 (fun H167 => ?_) fun H167 => ?_
   ·refine Lq 3 ?_
    obtain ⟨x168, h169, H170⟩ := bnd H167
    refine Ly (Yl.ia h169 rfl rfl rfl rfl rfl rfl) ?_
    refine Lq 1 ?_
    refine Ly (Yl.lo (v := .int .i64 x168.part) 0 ((IntKind.i64.wrap (at_ - 1)).toNat) 2 (idx_some h169).2 rfl rfl rfl rfl (fun _ => rfl)) ?_
    refine Lq 2 ?_
    refine Ln ?_
    obtain rfl := sm H170
    exact Eg0 [1, 1, 0] 0
   refine Lq 8 ?_
   refine Ln ?_
   obtain rfl := sm H167
   exact Eg0 [1, 1, 0] 0
  refine Tb H166 (fun H171 => ?_) fun H171 => ?_
  ·refine Tr ?_
   refine Lq 6 ?_
   obtain ⟨x172, h173, H174⟩ := bnd H171
   refine Ly (Yl.ia h173 rfl rfl rfl rfl rfl rfl) ?_
   refine Lq 1 ?_
   refine Ly (Yl.lo (v := .int .i64 x172.style) 2 ((IntKind.i64.wrap (at_ - 1)).toNat) 1 (idx_some h173).2 rfl rfl rfl rfl (fun _ => rfl)) ?_
   obtain ⟨r175, h176, H177⟩ := bnd H174
   refine Lk [] [] (c_row_blank h176) fun ⟨⟩ => ?_
   obtain ⟨x178, h179, H180⟩ := bnd H177
   refine Ly (Yl.ia h179 rfl rfl rfl rfl rfl rfl) ?_
   refine La [2] [] (Ac.se 0 r175 (idx_some h179).2 rfl rfl rfl rfl rfl rfl (fun _ => ⟨(), rfl, [], rfl⟩)) fun _ => ?_
   refine L.sl 9 (k' := (((r3.set at_.toNat (RowCell.mk x_ style 1)).set ((IntKind.i64.wrap (at_ + 1)).toNat) (RowCell.mk x_ style 2)).set ((IntKind.i64.wrap (at_ - 1)).toNat) r175).length) (List.length_set ..) rfl ?_
   refine Ln (Eb ?_)
   obtain rfl := sm H180
   exact Eg0 [0, 0, 0] 0
  refine Tk (Eb ?_)
  obtain rfl := sm H171
  exact Eg0 [2, 0, 0] 0
 refine Ts (Tr ?_)
 refine Lq 1 ?_
 obtain ⟨r182, h183, H184⟩ := bnd H126
 refine Lk [0] [] (c_row_mend h183) fun ⟨⟩ => ?_
 refine Lt 0 ?_
 refine Ln (Et (Tv ?_))
 obtain rfl := sm H184
 exact Eo (a6, c7) [] [0] (.cell 0 rfl rfl rfl .nil)

theorem c_screen_Screen_print_3 {q : RowRow} {x1 : ScreenScreen} {x2 : Int} {r : RowRow} (H : p_screen_Screen_print_3 q x1 x2 = some r) : CT G 68 [.agg #[.slice A0 q.cells.length C0, .bool q.wrapped], .pointer (some ⟨N0, 0, none⟩), .pointer (some ⟨N3, 0, none⟩)] [Ch.box N0 23 [.pointer (some ⟨N1, 0, none⟩)], Ch.box N1 81 [.pointer (some ⟨N2, 0, none⟩), .int .i64 x1.spot.x, .int .i64 x1.spot.y, .int .i64 x1.spot.style.fore, .int .i64 x1.spot.style.back, .bool x1.spot.style.bold, .bool x1.spot.style.under, .bool x1.spot.style.inverse, .int .i64 x1.saved.x, .int .i64 x1.saved.y, .int .i64 x1.saved.style.fore, .int .i64 x1.saved.style.back, .bool x1.saved.style.bold, .bool x1.saved.style.under, .bool x1.saved.style.inverse, .bool x1.waiting, .int .i64 x1.top, .int .i64 x1.bottom, .bool x1.wraps, .string x1.title], Ch.box N2 96 [.int .i64 x1.g.w, .slice A1 x1.g.l.length C1], Ch.arr tyRowRow 52 A1 C1 x1.g.l, Ch.box N3 21 [.int .i32 x2]] [Im.sl tyRowCell A0 C0 q.cells, Im.sl tyWideSpan (some ⟨0, 0, none⟩) 13 t_wide_nones, Im.sl tyWideSpan (some ⟨1, 0, none⟩) 14 t_wide_twos] (fun h : (Option Addr × Nat) => .agg #[.slice h.1 r.cells.length h.2, .bool r.wrapped]) (fun h => [Ch.box N0 23 [.pointer (some ⟨N1, 0, none⟩)], Ch.box N1 81 [.pointer (some ⟨N2, 0, none⟩), .int .i64 x1.spot.x, .int .i64 x1.spot.y, .int .i64 x1.spot.style.fore, .int .i64 x1.spot.style.back, .bool x1.spot.style.bold, .bool x1.spot.style.under, .bool x1.spot.style.inverse, .int .i64 x1.saved.x, .int .i64 x1.saved.y, .int .i64 x1.saved.style.fore, .int .i64 x1.saved.style.back, .bool x1.saved.style.bold, .bool x1.saved.style.under, .bool x1.saved.style.inverse, .bool x1.waiting, .int .i64 x1.top, .int .i64 x1.bottom, .bool x1.wraps, .string x1.title], Ch.box N2 96 [.int .i64 x1.g.w, .slice A1 x1.g.l.length C1], Ch.arr tyRowRow 52 A1 C1 x1.g.l, Ch.box N3 21 [.int .i32 x2]]) (fun h => [Im.sl tyRowCell h.1 h.2 r.cells]) := by
 delta p_screen_Screen_print_3 at H
 refine CT.of Go.Proofs.Tryz.func68 (by kernel_rfl) rfl rfl rfl fun K => ?_
 refine Ts (Tr ?_)
 refine Lx fun g1 => ?_
 refine Ll fun g2 => ?_
 refine Ln (Et (Ts ?_))
 refine Td [9, 10] [0, 0, 0, 0, 0, 0, 0] mo ?_
 refine Db 0 1 ?_
 refine Db 1 2 ?_
 refine Dq 2 ?_
 refine Dq 3 ?_
 refine Dq 4 ?_
 refine Db 5 3 ?_
 refine Db 6 6 ?_
 refine Db 7 2 ?_
 obtain ⟨r30, h31, H32⟩ := bnd H
 refine D.one rfl rfl rfl (Dp.br (Ac.call (c_screen_Screen_num h31) rfl rfl rfl rfl) (Bw.bx 3 rfl (Bw.bx 4 rfl (Bw.ch 5 rfl (Bw.nil)))) rfl rfl rfl rfl ?_)
 intro _
 obtain ⟨r33, h34, H35⟩ := bnd H32
 refine Dkl [] [0, 1, 2] (c_row_Row_Put h34) fun ⟨a36, c37⟩ => ?_
 refine Dt 0 ?_
 refine Dn ?_
 refine Et (Tv ?_)
 obtain rfl := sm H35
 exact Eo (a36, c37) [2, 2, 2, 2, 2] [0] (.cell 0 rfl rfl rfl .nil)

theorem c_screen_Screen_edit_Screen_print_3 {s_ : ScreenScreen} {f_1 : Int} {r : ScreenScreen} (H : p_screen_Screen_edit_Screen_print_3 s_ f_1 = some r) : CT G 62 [.pointer (some ⟨N0, 0, none⟩), .func (.func 68) #[] #[.pointer (some ⟨N2, 0, none⟩), .pointer (some ⟨N3, 0, none⟩)]] [Ch.box N0 81 [.pointer (some ⟨N1, 0, none⟩), .int .i64 s_.spot.x, .int .i64 s_.spot.y, .int .i64 s_.spot.style.fore, .int .i64 s_.spot.style.back, .bool s_.spot.style.bold, .bool s_.spot.style.under, .bool s_.spot.style.inverse, .int .i64 s_.saved.x, .int .i64 s_.saved.y, .int .i64 s_.saved.style.fore, .int .i64 s_.saved.style.back, .bool s_.saved.style.bold, .bool s_.saved.style.under, .bool s_.saved.style.inverse, .bool s_.waiting, .int .i64 s_.top, .int .i64 s_.bottom, .bool s_.wraps, .string s_.title], Ch.box N1 96 [.int .i64 s_.g.w, .slice A0 s_.g.l.length C0], Ch.arr tyRowRow 52 A0 C0 s_.g.l, Ch.box N2 23 [.pointer (some ⟨N0, 0, none⟩)], Ch.box N3 21 [.int .i32 f_1]] [Im.sl tyWideSpan (some ⟨0, 0, none⟩) 13 t_wide_nones, Im.sl tyWideSpan (some ⟨1, 0, none⟩) 14 t_wide_twos] (fun _ : Unit => .tuple #[]) (fun h => [Ch.box N0 81 [.pointer (some ⟨N1, 0, none⟩), .int .i64 r.spot.x, .int .i64 r.spot.y, .int .i64 r.spot.style.fore, .int .i64 r.spot.style.back, .bool r.spot.style.bold, .bool r.spot.style.under, .bool r.spot.style.inverse, .int .i64 r.saved.x, .int .i64 r.saved.y, .int .i64 r.saved.style.fore, .int .i64 r.saved.style.back, .bool r.saved.style.bold, .bool r.saved.style.under, .bool r.saved.style.inverse, .bool r.waiting, .int .i64 r.top, .int .i64 r.bottom, .bool r.wraps, .string r.title], Ch.box N1 96 [.int .i64 r.g.w, .slice A0 r.g.l.length C0], Ch.arr tyRowRow 52 A0 C0 r.g.l, Ch.box N2 23 [.pointer (some ⟨N0, 0, none⟩)], Ch.box N3 21 [.int .i32 f_1]]) (fun h => []) := by
 delta p_screen_Screen_edit_Screen_print_3 at H
 refine CT.of Go.Proofs.Tryz.func62 (by kernel_rfl) rfl rfl rfl fun K => ?_
 refine Td [21] [0, 0, 0, 0, 0] mo ?_
 refine Dq 0 ?_
 refine Dq 1 ?_
 refine Dq 2 ?_
 refine Db 3 0 ?_
 refine Dq 4 ?_
 refine Dq 5 ?_
 refine Dq 6 ?_
 refine Dq 7 ?_
 refine Db 8 0 ?_
 refine Dq 9 ?_
 refine Dq 10 ?_
 refine Dq 11 ?_
 refine Dq 12 ?_
 refine Db 13 0 ?_
 refine Dq 14 ?_
 refine Dq 15 ?_
 refine Dq 16 ?_
 refine Dq 17 ?_
 refine Db 18 0 ?_
 obtain ⟨r17, h18, H19⟩ := bnd H
 refine D.one rfl rfl rfl (Dp.ab [1, 1] [] [2, 0, 0, 0, 0] (Ac.call (c_grid_Grid_Row h18) rfl rfl rfl rfl) rfl rfl rfl rfl rfl rfl (fun _ => rfl) ?_)
 rintro ⟨a20, c21⟩
 obtain ⟨r23, h24, H25⟩ := bnd H19
 refine D.one rfl rfl rfl (Dp.ab [3, 0, 0, 0, 0] [0, 1, 2] [1, 1, 1, 0, 0] (Ac.call (c_screen_Screen_print_3 h24) rfl rfl rfl rfl) rfl rfl rfl rfl rfl rfl (fun _ => rfl) ?_)
 rintro ⟨a26, c27⟩
 obtain ⟨r29, h30, H31⟩ := bnd H25
 refine Dkl [1, 1] [0] (c_grid_Grid_Set h30) fun ⟨⟩ => ?_
 refine Dn ?_
 refine E.off ?_
 obtain rfl := sm H31
 exact Eo () [2, 0, 0, 0, 0] [] .nil

theorem c_screen_Screen_print {s_ : ScreenScreen} {r_ : Int} {r : (List RowRow) × ScreenScreen} (H : p_screen_Screen_print s_ r_ = some r) : CT G 31 [.pointer (some ⟨N0, 0, none⟩), .int .i32 r_] [Ch.box N0 81 [.pointer (some ⟨N1, 0, none⟩), .int .i64 s_.spot.x, .int .i64 s_.spot.y, .int .i64 s_.spot.style.fore, .int .i64 s_.spot.style.back, .bool s_.spot.style.bold, .bool s_.spot.style.under, .bool s_.spot.style.inverse, .int .i64 s_.saved.x, .int .i64 s_.saved.y, .int .i64 s_.saved.style.fore, .int .i64 s_.saved.style.back, .bool s_.saved.style.bold, .bool s_.saved.style.under, .bool s_.saved.style.inverse, .bool s_.waiting, .int .i64 s_.top, .int .i64 s_.bottom, .bool s_.wraps, .string s_.title], Ch.box N1 96 [.int .i64 s_.g.w, .slice A0 s_.g.l.length C0], Ch.arr tyRowRow 52 A0 C0 s_.g.l] [Im.sl tyWideSpan (some ⟨0, 0, none⟩) 13 t_wide_nones, Im.sl tyWideSpan (some ⟨1, 0, none⟩) 14 t_wide_twos] (fun h : (Option Addr × Nat) => .slice h.1 r.1.length h.2) (fun h => [Ch.arr tyRowRow 52 h.1 h.2 r.1, Ch.box N0 81 [.pointer (some ⟨N1, 0, none⟩), .int .i64 r.2.spot.x, .int .i64 r.2.spot.y, .int .i64 r.2.spot.style.fore, .int .i64 r.2.spot.style.back, .bool r.2.spot.style.bold, .bool r.2.spot.style.under, .bool r.2.spot.style.inverse, .int .i64 r.2.saved.x, .int .i64 r.2.saved.y, .int .i64 r.2.saved.style.fore, .int .i64 r.2.saved.style.back, .bool r.2.saved.style.bold, .bool r.2.saved.style.under, .bool r.2.saved.style.inverse, .bool r.2.waiting, .int .i64 r.2.top, .int .i64 r.2.bottom, .bool r.2.wraps, .string r.2.title], Ch.box N1 96 [.int .i64 r.2.g.w, .slice A0 r.2.g.l.length C0], Ch.arr tyRowRow 52 A0 C0 r.2.g.l]) (fun h => []) := by
 delta p_screen_Screen_print at H
 refine CT.of Go.Proofs.Tryz.func31 (by kernel_rfl) rfl rfl rfl fun K => ?_
 refine Ts (Tr ?_)
 refine Lx fun g1 => ?_
 refine Lx fun g2 => ?_
 refine Lq 1 ?_
 refine Ln (Et (Ts (Tr ?_)))
 refine Lb 0 ?_
 obtain ⟨r3, h4, H5⟩ := bnd H
 refine Lk [] [0, 1] (c_wide_Of h4) fun ⟨⟩ => ?_
 refine Lq 1 ?_
 refine Ln (Et (Ts (Tr ?_)))
 refine Lb 1 ?_
 refine Lq 2 ?_
 refine Lb 2 ?_
 obtain ⟨r6, h7, H8⟩ := bnd H5
 refine Lk [3, 3] [] (c_grid_Grid_Size h7) fun ⟨⟩ => ?_
 refine Lq 5 ?_
 refine Ln (Et (Ts (Ts ?_)))
 obtain ⟨e12, H13, H14⟩ := bnd H8
 refine Tj0 [(25, .bool e12)] [2, 3, 5, 6] [] [0, 2, 3, 4, 1] ?_ ?_
 ·refine Tr ?_
  refine Lq 3 ?_
  refine Lw 21 H13 (fun H15 => ?_) fun H15 => ?_
  ·refine Lq 4 ?_
   refine Ln ?_
   obtain rfl := sm H15
   exact Eg0 [0, 1, 1, 1, 0] 0
  refine Lq 4 ?_
  refine Ln ?_
  obtain rfl := sm H15
  exact Eg0 [0, 1, 1, 1, 0] 0
 refine Tb H14 (fun H17 => ?_) fun H17 => ?_
 ·refine Ts (Tr ?_)
  refine Lq 1 ?_
  refine Ln (Et (Tv (Er ?_)))
  refine E.nil0 tyRowRow 52 ?_
  obtain rfl := sm H17
  exact Eo1 (none, 0) [0, 3, 0, 2] []
 refine Tk (Et (Ts (Tr ?_)))
 refine Lq 1 ?_
 refine Ln (Et (Ts (Ts ?_)))
 obtain ⟨e22, H23, H24⟩ := bnd H17
 refine Tj0 [(35, .bool e22)] [2, 3, 5, 6, 8] [] [0, 1, 2, 3, 4] ?_ ?_
 ·refine Tr ?_
  refine Lb 2 ?_
  refine Lq 2 ?_
  refine Lb 3 ?_
  refine Lq 1 ?_
  refine Lw 30 H23 (fun H25 => ?_) fun H25 => ?_
  ·refine Lb 2 ?_
   refine Lq 2 ?_
   refine Lb 3 ?_
   refine Lq 1 ?_
   refine Ln ?_
   obtain rfl := sm H25
   exact Eg0 [0, 0, 0, 0, 0] 0
  refine Lq 5 ?_
  refine Ln ?_
  obtain rfl := sm H25
  exact Eg0 [0, 0, 0, 0, 0] 0
 obtain ⟨e71, H72, H73⟩ := bnd H24
 refine Tjh (η := (Option Addr × Nat)) (fun h => (fun a65 c66 => [(8, .slice a65 e71.1.length c66)]) h.1 h.2) [2, 3, 5, 6] (fun h => (fun a65 c66 => [Ch.arr tyRowRow 52 a65 c66 e71.1, Ch.arr tyRowRow 52 A0 C0 e71.2.1.l, Ch.box N1 96 [.int .i64 e71.2.1.w, .slice A0 e71.2.1.l.length C0], Ch.box N0 81 [.pointer (some ⟨N1, 0, none⟩), .int .i64 e71.2.2.spot.x, .int .i64 e71.2.2.spot.y, .int .i64 e71.2.2.spot.style.fore, .int .i64 e71.2.2.spot.style.back, .bool e71.2.2.spot.style.bold, .bool e71.2.2.spot.style.under, .bool e71.2.2.spot.style.inverse, .int .i64 e71.2.2.saved.x, .int .i64 e71.2.2.saved.y, .int .i64 e71.2.2.saved.style.fore, .int .i64 e71.2.2.saved.style.back, .bool e71.2.2.saved.style.bold, .bool e71.2.2.saved.style.under, .bool e71.2.2.saved.style.inverse, .bool e71.2.2.waiting, .int .i64 e71.2.2.top, .int .i64 e71.2.2.bottom, .bool e71.2.2.wraps, .string e71.2.2.title]]) h.1 h.2) [1, 2] (fun _ => []) ?_ ?_
 ·refine Tb H72 (fun H74 => ?_) fun H74 => ?_
  ·refine Ts (Tr ?_)
   refine Lb 2 ?_
   obtain ⟨r75, h76, H77⟩ := bnd H74
   refine Lk [3, 0, 2] [] (c_screen_Screen_edit_Screen_print_1 h76) fun ⟨⟩ => ?_
   refine Ln (Et (Ts (Tr ?_)))
   refine Lb 4 ?_
   refine Lq 3 ?_
   refine Lt 0 ?_
   refine Ln (Et (Tr ?_))
   refine Lq 1 ?_
   refine Lb 4 ?_
   obtain ⟨r79, h80, H81⟩ := bnd H77
   refine Lk [0, 0, 0] [] (c_screen_Screen_line h80) fun ⟨a82, c83⟩ => ?_
   refine L.nil0 tyRowRow 52 ?_
   refine L.frz 1 rfl ?_
   obtain ⟨_, h88, H89⟩ := bnd H81
   refine La [0] [0] (Ac.ap (ty := tyRowRow) h88 rfl rfl rfl rfl rfl rfl rfl) ?_
   rintro ⟨a90, c91⟩
   refine Lq 1 ?_
   refine Ln ?_
   obtain rfl := sm H89
   exact Eg (a90, c91) trivial [0, 2, 1, 0, 0, 0] [] 1
  refine Tk ?_
  refine E.nil0 tyRowRow 52 ?_
  obtain rfl := sm H74
  exact Eg (none, 0) trivial [0, 4, 0, 2, 0, 0] [] 0
 rintro ⟨a65, c66⟩
 refine Ts (Ts (Tr ?_))
 refine Lb 5 ?_
 refine Lq 3 ?_
 refine Lb 3 ?_
 refine Lq 4 ?_
 refine Ln (Et ?_)
 obtain ⟨e139, H140, H141⟩ := bnd H73
 refine Tjh (η := (Option Addr × Nat)) (fun h => (fun a133 c134 => [(8, .slice a133 e139.1.length c134)]) h.1 h.2) [2, 3, 5, 6] (fun h => (fun a133 c134 => [Ch.arr tyRowRow 52 a133 c134 e139.1, Ch.arr tyRowRow 52 A0 C0 e139.2.1.l, Ch.box N1 96 [.int .i64 e139.2.1.w, .slice A0 e139.2.1.l.length C0], Ch.box N0 81 [.pointer (some ⟨N1, 0, none⟩), .int .i64 e139.2.2.spot.x, .int .i64 e139.2.2.spot.y, .int .i64 e139.2.2.spot.style.fore, .int .i64 e139.2.2.spot.style.back, .bool e139.2.2.spot.style.bold, .bool e139.2.2.spot.style.under, .bool e139.2.2.spot.style.inverse, .int .i64 e139.2.2.saved.x, .int .i64 e139.2.2.saved.y, .int .i64 e139.2.2.saved.style.fore, .int .i64 e139.2.2.saved.style.back, .bool e139.2.2.saved.style.bold, .bool e139.2.2.saved.style.under, .bool e139.2.2.saved.style.inverse, .bool e139.2.2.waiting, .int .i64 e139.2.2.top, .int .i64 e139.2.2.bottom, .bool e139.2.2.wraps, .string e139.2.2.title]]) h.1 h.2) [4, 5] (fun _ => []) ?_ ?_
 ·refine Tb H140 (fun H142 => ?_) fun H142 => ?_
  ·refine Ts (Tr ?_)
   refine Lb 5 ?_
   refine Lq 2 ?_
   refine Lb 3 ?_
   refine Ln (Et ?_)
   refine Tb H142 (fun H143 => ?_) fun H143 => ?_
   ·refine Ts (Tr ?_)
    refine Lb 5 ?_
    refine Lq 1 ?_
    obtain ⟨r144, h145, H146⟩ := bnd H143
    refine Lk [3, 2, 1, 2] [] (c_screen_Screen_edit_Screen_print_2 h145) fun ⟨⟩ => ?_
    refine Ln (Et (Ts (Tr ?_)))
    refine Lb 3 ?_
    refine Lq 3 ?_
    refine Lt 0 ?_
    refine Ln (Et (Tr ?_))
    refine Lq 1 ?_
    refine Lb 3 ?_
    obtain ⟨r148, h149, H150⟩ := bnd H146
    refine Lk [0, 0, 0] [] (c_screen_Screen_line h149) fun ⟨a151, c152⟩ => ?_
    refine L.frz 0 rfl ?_
    obtain ⟨_, h156, H157⟩ := bnd H150
    refine La [4] [0] (Ac.ap (ty := tyRowRow) h156 rfl rfl rfl rfl rfl rfl rfl) ?_
    rintro ⟨a158, c159⟩
    refine Lq 1 ?_
    refine Ln ?_
    obtain rfl := sm H157
    exact Eg (a158, c159) trivial [0, 2, 1, 0, 1, 0] [] 1
   refine Tr ?_
   refine Lb 5 ?_
   refine Lq 3 ?_
   refine Lb 3 ?_
   refine Lq 4 ?_
   refine Lt 3 ?_
   refine Ln ?_
   obtain rfl := sm H143
   exact Eg (a65, c66) trivial [1, 1, 1, 0, 0, 0] [] 0
  refine Tk ?_
  obtain rfl := sm H142
  exact Eg (a65, c66) trivial [0, 0, 0, 0, 0, 0] [] 0
 rintro ⟨a133, c134⟩
 refine Ts (Tr ?_)
 refine Lb 5 ?_
 refine Lq 1 ?_
 obtain ⟨r161, h162, H163⟩ := bnd H141
 refine Lk [3, 2, 1, 2, 1] [0, 1] (c_screen_Screen_edit_Screen_print_3 h162) fun ⟨⟩ => ?_
 refine Ln (Et (Ts (Tr ?_)))
 refine Lb 3 ?_
 refine Lq 3 ?_
 refine Lb 0 ?_
 refine Lq 5 ?_
 refine Lt 0 ?_
 refine Ln (Et (Ts ?_))
 refine Td [10] [0, 0, 0, 0, 0, 0] mo ?_
 refine Db 0 3 ?_
 refine Db 1 3 ?_
 refine Dq 2 ?_
 refine Dq 3 ?_
 refine Dq 4 ?_
 refine Db 5 0 ?_
 refine Dq 6 ?_
 refine Dq 7 ?_
 refine Dq 8 ?_
 refine Dq 9 ?_
 refine Dt 0 ?_
 refine Dn ?_
 refine Et (Ts ?_)
 refine Td [12] [0, 0, 0, 0, 0, 0] mo ?_
 refine Db 0 3 ?_
 refine Db 1 3 ?_
 refine Dq 2 ?_
 refine Dq 3 ?_
 refine Dq 4 ?_
 refine Db 5 0 ?_
 refine Dq 6 ?_
 refine Dq 7 ?_
 refine Dq 8 ?_
 refine Dq 9 ?_
 refine Dq 10 ?_
 refine Dq 11 ?_
 refine Dt 0 ?_
 refine Dn ?_
 refine Et (Ts (Tr ?_))
 refine Lq 2 ?_
 refine Ln (Et (Tv ?_))
 obtain rfl := sm H163
 exact Eo1 (a133, c134) [5, 0, 0, 0] []

theorem c_screen_Screen_control {s_ : ScreenScreen} {b : Int} {r : (List RowRow) × ScreenScreen} (H : p_screen_Screen_control s_ b = some r) : CT G 32 [.pointer (some ⟨N0, 0, none⟩), .int .u8 b] [Ch.box N0 81 [.pointer (some ⟨N1, 0, none⟩), .int .i64 s_.spot.x, .int .i64 s_.spot.y, .int .i64 s_.spot.style.fore, .int .i64 s_.spot.style.back, .bool s_.spot.style.bold, .bool s_.spot.style.under, .bool s_.spot.style.inverse, .int .i64 s_.saved.x, .int .i64 s_.saved.y, .int .i64 s_.saved.style.fore, .int .i64 s_.saved.style.back, .bool s_.saved.style.bold, .bool s_.saved.style.under, .bool s_.saved.style.inverse, .bool s_.waiting, .int .i64 s_.top, .int .i64 s_.bottom, .bool s_.wraps, .string s_.title], Ch.box N1 96 [.int .i64 s_.g.w, .slice A0 s_.g.l.length C0], Ch.arr tyRowRow 52 A0 C0 s_.g.l] [] (fun h : (Option Addr × Nat) => .slice h.1 r.1.length h.2) (fun h => [Ch.arr tyRowRow 52 h.1 h.2 r.1, Ch.box N0 81 [.pointer (some ⟨N1, 0, none⟩), .int .i64 r.2.spot.x, .int .i64 r.2.spot.y, .int .i64 r.2.spot.style.fore, .int .i64 r.2.spot.style.back, .bool r.2.spot.style.bold, .bool r.2.spot.style.under, .bool r.2.spot.style.inverse, .int .i64 r.2.saved.x, .int .i64 r.2.saved.y, .int .i64 r.2.saved.style.fore, .int .i64 r.2.saved.style.back, .bool r.2.saved.style.bold, .bool r.2.saved.style.under, .bool r.2.saved.style.inverse, .bool r.2.waiting, .int .i64 r.2.top, .int .i64 r.2.bottom, .bool r.2.wraps, .string r.2.title], Ch.box N1 96 [.int .i64 r.2.g.w, .slice A0 r.2.g.l.length C0], Ch.arr tyRowRow 52 A0 C0 r.2.g.l]) (fun h => []) := by
 delta p_screen_Screen_control at H
 refine CT.of Go.Proofs.Tryz.func32 (by kernel_rfl) rfl rfl rfl fun K => ?_
 refine Ts (Tr ?_)
 refine Lq 1 ?_
 refine Ln (Et (Ts (Ts (Tr ?_))))
 refine Lq 1 ?_
 refine Ln (Et ?_)
 obtain ⟨y87, H88, H89⟩ := bnd H
 refine Tj (η := (ScreenScreen × GridGrid) × Unit) (fun h => y87 = .inl h.1) (fun _ => []) [] (fun h => (fun e86 => [Ch.arr tyRowRow 52 A0 C0 e86.2.l, Ch.box N0 81 [.pointer (some ⟨N1, 0, none⟩), .int .i64 e86.1.spot.x, .int .i64 e86.1.spot.y, .int .i64 e86.1.spot.style.fore, .int .i64 e86.1.spot.style.back, .bool e86.1.spot.style.bold, .bool e86.1.spot.style.under, .bool e86.1.spot.style.inverse, .int .i64 e86.1.saved.x, .int .i64 e86.1.saved.y, .int .i64 e86.1.saved.style.fore, .int .i64 e86.1.saved.style.back, .bool e86.1.saved.style.bold, .bool e86.1.saved.style.under, .bool e86.1.saved.style.inverse, .bool e86.1.waiting, .int .i64 e86.1.top, .int .i64 e86.1.bottom, .bool e86.1.wraps, .string e86.1.title], Ch.box N1 96 [.int .i64 e86.2.w, .slice A0 e86.2.l.length C0]]) h.1) [] (fun _ => []) ?_ ?_
 ·refine Tl (Ts (Tr ?_))
  refine Lq 2 ?_
  refine Ln (Et ?_)
  refine Tb H88 (fun H90 => ?_) fun H90 => ?_
  ·refine Td [12] [0, 0, 0] mo ?_
   refine Dq 0 ?_
   refine Dq 1 ?_
   refine Dq 2 ?_
   refine Dq 3 ?_
   refine Dq 4 ?_
   refine Db 5 0 ?_
   refine Dq 6 ?_
   refine Dq 7 ?_
   refine Dq 8 ?_
   refine Dq 9 ?_
   refine Dq 10 ?_
   refine Db 11 0 ?_
   obtain ⟨r95, h96, H97⟩ := bnd H90
   refine Dkl [0, 0, 0] [] (c_screen_Screen_move h96) fun ⟨⟩ => ?_
   refine Dn ?_
   refine Eb ?_
   obtain rfl := sm H97
   exact Eg (_, ()) rfl [2, 0, 0] [] 0
  refine Ts (Tr ?_)
  refine Lq 2 ?_
  refine Ln (Et ?_)
  refine Tb H90 (fun H99 => ?_) fun H99 => ?_
  ·refine Td [14] [0, 0, 0] mo ?_
   refine Dq 0 ?_
   refine Dq 1 ?_
   refine Dq 2 ?_
   refine Dq 3 ?_
   refine Dq 4 ?_
   refine Db 5 0 ?_
   refine Dq 6 ?_
   refine Dq 7 ?_
   refine Dq 8 ?_
   refine Dq 9 ?_
   refine Dq 10 ?_
   refine Dq 11 ?_
   refine Dq 12 ?_
   refine Db 13 0 ?_
   obtain ⟨r104, h105, H106⟩ := bnd H99
   refine Dkl [0, 0, 0] [] (c_screen_Screen_move h105) fun ⟨⟩ => ?_
   refine Dn ?_
   refine Eb ?_
   obtain rfl := sm H106
   exact Eg (_, ()) rfl [2, 0, 0] [] 0
  refine Ts (Ts (Tr ?_))
  refine Lq 2 ?_
  refine Ln (Et ?_)
  obtain ⟨e113, H114, H115⟩ := bnd H99
  refine Tj0 [(38, .bool e113)] [0, 5] [] [0, 1, 2] ?_ ?_
  ·refine Tb H114 (fun H116 => ?_) fun H116 => ?_
   ·refine Tk ?_
    obtain rfl := sm H116
    exact Eg0 [0, 0, 0] 0
   refine Ts (Tr ?_)
   refine Lq 2 ?_
   refine Ln (Et ?_)
   refine Tb H116 (fun H117 => ?_) fun H117 => ?_
   ·refine Tk ?_
    obtain rfl := sm H117
    exact Eg0 [0, 0, 0] 0
   refine Tr ?_
   refine Lq 2 ?_
   refine Ln ?_
   obtain rfl := sm H117
   exact Eg0 [0, 0, 0] 0
  refine Tb H115 (fun H118 => ?_) fun H118 => ?_
  ·refine Ts (Tr ?_)
   refine Lq 1 ?_
   obtain ⟨r119, h120, H121⟩ := bnd H118
   refine Lk [0, 0, 0] [] (c_screen_Screen_line h120) fun ⟨a122, c123⟩ => ?_
   refine Lq 1 ?_
   refine Ln (Et (Tv (Ev ?_)))
   obtain ⟨w126, hz, H127⟩ := inrs_some H121
   subst y87
   obtain rfl := (sm H89).symm
   refine Er ?_
   obtain rfl := sm H127
   exact Eo1 (a122, c123) [0, 0, 0, 0] []
  refine Ts (Tr ?_)
  refine Lq 2 ?_
  refine Ln (Et ?_)
  refine Tb H118 (fun H128 => ?_) fun H128 => ?_
  ·refine Tr ?_
   refine Lq 5 ?_
   refine Lb 0 ?_
   obtain ⟨r129, h130, H131⟩ := bnd H128
   refine Lk [0, 0, 0] [] (c_screen_Screen_move h130) fun ⟨⟩ => ?_
   refine Ln (Eb ?_)
   obtain rfl := sm H131
   exact Eg (_, ()) rfl [2, 0, 0] [] 0
  refine Tk (Eb ?_)
  obtain rfl := sm H128
  exact Eg (_, ()) rfl [2, 0, 0] [] 0
 rintro ⟨e86, ⟨⟩⟩ hy
 subst hy
 refine Ts (Tr ?_)
 refine Lq 1 ?_
 refine Ln (Et (Tv ?_))
 refine E.nil0 tyRowRow 52 ?_
 obtain rfl := sm H89
 exact Eo1 (none, 0) [0, 1, 1, 0] []

theorem c_slices_Reverse_row_Row {s_ : List RowRow} {r : (List RowRow)} (H : p_slices_Reverse_row_Row s_ = some r) : CT G 118 [.slice A0 s_.length C0] [Ch.arr tyRowRow 52 A0 C0 s_] [] (fun _ : Unit => .tuple #[]) (fun h => [Ch.arr tyRowRow 52 A0 C0 r]) (fun h => []) := by
 delta p_slices_Reverse_row_Row at H
 refine CT.of Go.Proofs.Tryz.func118 (by kernel_rfl) rfl rfl rfl fun K => ?_
 refine Ts (Tr ?_)
 refine Lq 5 ?_
 refine Ln (Et ?_)
 obtain ⟨e937, H938, H939⟩ := bnd H
 refine T.joinE (η := Unit × Unit) (fun h => True) (fun h => [(0, .slice A0 e937.length C0)]) (fun h => [Ch.arr tyRowRow 52 A0 C0 e937]) (fun h => []) ?_ ?_
 ·refine Tl ?_
  refine Tq (η := Unit) (fun s627 h => [(0, .slice A0 s627.1.length C0), (2, .int .i64 s627.2.1), (3, .int .i64 s627.2.2)]) [] (fun s627 h => [Ch.arr tyRowRow 52 A0 C0 s627.1]) [] (fun _ _ => []) () [0] [] H938 ?_
  rintro k_ s627 ⟨⟩ z941 H940 hag942 hbr943
  refine Ts (Ts (Tr ?_))
  refine Lq 3 ?_
  refine Ln (Et ?_)
  refine Tb H940 (fun H945 => ?_) fun H945 => ?_
  ·refine Tk (Et (Ts ?_))
   obtain ⟨e1148, H1149, H1150⟩ := bnd H945
   refine Tj0 [(0, .slice A0 e1148.length C0)] [2, 3] [Ch.arr tyRowRow 52 A0 C0 e1148] [] ?_ ?_
   ·refine Tl ?_
    refine Td [15] [] mo ?_
    refine Dq 0 ?_
    refine Dq 1 ?_
    refine Dq 2 ?_
    refine Dq 3 ?_
    refine Dq 4 ?_
    refine Dq 5 ?_
    obtain ⟨x1201, h1202, H1203⟩ := bnd H1149
    refine D.addro 0 rfl (idx_lt h1202) fun b1204 e1205 => ?_
    subst e1205
    refine Dy 6 (Yl.ia h1202 rfl rfl rfl rfl rfl rfl) ?_
    refine Dq 8 ?_
    refine Dq 9 ?_
    obtain ⟨x1206, h1207, H1208⟩ := bnd H1203
    refine Dy 10 (Yl.ia h1207 rfl rfl rfl rfl rfl rfl) ?_
    obtain ⟨x1215, h1216, H1225⟩ := bnd H1208
    obtain ⟨x1219, h1220, H1226⟩ := bnd H1225
    refine D.two rfl rfl rfl ?_ ?_
    ·refine Dp.a [0] [] (Ac.lo s627.2.2.toNat 0 (v := (fun h : (Option Addr × Nat) => (fun a1227 c1228 => .agg #[.slice a1227 x1201.cells.length c1228, .bool x1201.wrapped]) h.1 h.2)) (idx_some h1202).2 rfl rfl rfl (fun _ => rfl)) rfl rfl rfl rfl rfl rfl ?_
     rintro ⟨a1227, c1228⟩
     refine Da [0] [] rfl rfl (Ac.lo s627.2.1.toNat 0 (v := (fun h : (Option Addr × Nat) => (fun a1230 c1231 => .agg #[.slice a1230 x1206.cells.length c1231, .bool x1206.wrapped]) h.1 h.2)) (idx_some h1207).2 rfl rfl rfl (fun _ => rfl)) ?_
     rintro ⟨a1230, c1231⟩
     refine Dy 12 (Yl.ia h1216 rfl rfl rfl rfl rfl rfl) ?_
     refine Da [0] [1] rfl rfl (Ac.se 0 x1201 (idx_some h1216).2 rfl rfl rfl rfl rfl rfl (fun _ => ⟨(a1227, c1228), rfl, [1], rfl⟩)) fun _ => ?_
     refine Dy 14 (Yl.ia h1220 rfl rfl rfl rfl rfl rfl) ?_
     obtain ⟨y1236, hy1237⟩ := set_some (idx_some h1220).2
     refine D.one rfl rfl rfl (Dp.al [0] [0] (Ac.se 0 x1206 hy1237 rfl rfl rfl rfl rfl rfl (fun _ => ⟨(a1230, c1231), rfl, [1], rfl⟩)) rfl rfl rfl rfl rfl rfl rfl ?_)
     intro _
     refine Dn ?_
     refine E.sl 0 (k' := ((s627.1.set s627.2.1.toNat x1201).set s627.2.2.toNat x1206).length) ((List.length_set ..).trans (List.length_set ..)) rfl ?_
     refine Eb ?_
     obtain rfl := sm H1226
     exact Eg0 [0] 2
    refine Dp.a [0] [] (Ac.lo s627.2.1.toNat 0 (v := (fun h : (Option Addr × Nat) => (fun a1239 c1240 => .agg #[.slice a1239 x1206.cells.length c1240, .bool x1206.wrapped]) h.1 h.2)) (idx_some h1207).2 rfl rfl rfl (fun _ => rfl)) rfl rfl rfl rfl rfl rfl ?_
    rintro ⟨a1239, c1240⟩
    refine Da [0] [] rfl rfl (Ac.lo s627.2.2.toNat 0 (v := (fun h : (Option Addr × Nat) => (fun a1242 c1243 => .agg #[.slice a1242 x1201.cells.length c1243, .bool x1201.wrapped]) h.1 h.2)) (idx_some h1202).2 rfl rfl rfl (fun _ => rfl)) ?_
    rintro ⟨a1242, c1243⟩
    refine Dy 12 (Yl.ia h1216 rfl rfl rfl rfl rfl rfl) ?_
    refine Da [0] [0] rfl rfl (Ac.se 0 x1201 (idx_some h1216).2 rfl rfl rfl rfl rfl rfl (fun _ => ⟨(a1242, c1243), rfl, [1], rfl⟩)) fun _ => ?_
    refine Dy 14 (Yl.ia h1220 rfl rfl rfl rfl rfl rfl) ?_
    obtain ⟨y1248, hy1249⟩ := set_some (idx_some h1220).2
    refine D.one rfl rfl rfl (Dp.al [0] [1] (Ac.se 0 x1206 hy1249 rfl rfl rfl rfl rfl rfl (fun _ => ⟨(a1239, c1240), rfl, [1], rfl⟩)) rfl rfl rfl rfl rfl rfl rfl ?_)
    intro _
    refine Dn ?_
    refine E.sl 0 (k' := ((s627.1.set s627.2.1.toNat x1201).set s627.2.2.toNat x1206).length) ((List.length_set ..).trans (List.length_set ..)) rfl ?_
    refine Eb ?_
    obtain rfl := sm H1226
    exact Eg0 [0] 2
   refine Tr ?_
   refine Lq 6 ?_
   refine Ln ?_
   obtain rfl := sm H1150
   exact Eg (_, ()) (hag942 _ rfl) [0] [] 0
  refine Tx (Ex (Ex (Eh ?_)))
  obtain rfl := sm H945
  have hb := hbr943 _ rfl
  subst e937
  exact Egx ((), ()) trivial [0] []
 rintro ⟨_, ⟨⟩⟩ _
 refine E.off ?_
 obtain rfl := sm H939
 exact Eo () [0] [] .nil

theorem c_grid_Grid_Down {g : GridGrid} {top : Int} {bottom : Int} {n_ : Int} {style : Int} {r : (List RowRow) × GridGrid} (H : p_grid_Grid_Down g top bottom n_ style = some r) : CT G 77 [.pointer (some ⟨N0, 0, none⟩), .int .i64 top, .int .i64 bottom, .int .i64 n_, .int .i64 style] [Ch.box N0 96 [.int .i64 g.w, .slice A0 g.l.length C0], Ch.arr tyRowRow 52 A0 C0 g.l] [] (fun h : (Option Addr × Nat) => .slice h.1 r.1.length h.2) (fun h => [Ch.arr tyRowRow 52 h.1 h.2 r.1, Ch.box N0 96 [.int .i64 r.2.w, .slice A0 r.2.l.length C0], Ch.arr tyRowRow 52 A0 C0 r.2.l]) (fun h => []) := by
 delta p_grid_Grid_Down at H
 refine CT.of Go.Proofs.Tryz.func77 (by kernel_rfl) rfl rfl rfl fun K => ?_
 refine Ts (Tr ?_)
 refine Lq 1 ?_
 refine Ln (Et (Ts (Tr ?_)))
 refine Lq 3 ?_
 obtain ⟨r1, h2, H3⟩ := bnd H
 rcases r1 with r1 | r1
 ·refine Lk [0, 0] [] (c_grid_Grid_region_a0 h2) fun ⟨⟩ => ?_
  refine Lq 5 ?_
  refine Ln (Et (Ts (Ts (Tr ?_))))
  refine Lq 2 ?_
  refine Ln (Et ?_)
  refine T.cond rfl (fun _ => ?_) (fun h => nomatch h)
  refine Ts (Tr ?_)
  refine Lq 1 ?_
  refine Ln (Et (Tv (Er ?_)))
  refine E.nil0 tyRowRow 52 ?_
  obtain rfl := sm H3
  exact Eo1 (none, 0) [0, 0, 0] []
 refine Lk [0, 0] [] (c_grid_Grid_region_a1 h2) fun ⟨⟩ => ?_
 obtain ⟨_, h5, H6⟩ := bnd H3
 refine L.cap 1 rfl fun h7 => ?_
 have hv8 : Vw tyRowRow g.l A0 C0 (cuta A0 C0 r1.1 (tyRowRow).sz) (C0 - r1.1.toNat) r1.1 r1.2 := vw_new h5 h7
 refine Lq 5 ?_
 refine Ln (Et (Ts (Ts (Tr ?_))))
 refine Lq 2 ?_
 refine Ln (Et ?_)
 refine T.cond rfl (fun h => nomatch h) (fun _ => ?_)
 refine Tk (Et (Ts (Tr ?_)))
 refine Lq 3 ?_
 obtain ⟨r9, h10, H11⟩ := bnd H6
 refine Lk [] [] (c_grid_clip h10) fun ⟨⟩ => ?_
 refine Lq 1 ?_
 refine Ln (Et (Ts (Tr ?_)))
 refine Lq 5 ?_
 obtain ⟨_, h12, H13⟩ := bnd H11
 refine L.vv hv8 h12 rfl rfl rfl rfl rfl rfl rfl rfl rfl rfl rfl fun a14 c15 hv16 => ?_
 obtain ⟨r17, h18, H19⟩ := bnd H13
 refine Lk [1] [] (c_slices_Clone_row_Row_w A0 C0 a14 c15 hv16 h18) fun ⟨a20, c21⟩ => ?_
 refine Lq 1 ?_
 refine Ln (Et (Ts (Tr ?_)))
 refine Lq 1 ?_
 obtain ⟨r23, h24, H25⟩ := bnd H19
 refine Lk [0] [] (c_slices_Reverse_row_Row h24) fun ⟨⟩ => ?_
 obtain ⟨_, h27, H28⟩ := bnd H25
 refine L.sl 13 (k' := r23.length) (chk_some h27) rfl ?_
 refine Ln (Et (Ts ?_))
 refine Td [] [0, 1] mo ?_
 refine Dq 0 ?_
 refine Dq 1 ?_
 obtain ⟨_, h65, H66⟩ := bnd H28
 refine D.vv 2 hv8 h65 rfl rfl rfl rfl rfl rfl rfl rfl rfl rfl rfl rfl rfl rfl fun a67 c68 hv69 => ?_
 refine Dq 3 ?_
 refine Dq 4 ?_
 refine Dq 5 ?_
 refine Dq 6 ?_
 refine Dq 7 ?_
 obtain ⟨_, h70, H71⟩ := bnd H66
 refine D.vv 8 hv8 h70 rfl rfl rfl rfl rfl rfl rfl rfl rfl rfl rfl rfl rfl rfl fun a72 c73 hv74 => ?_
 refine Da [0] [] rfl rfl (Ac.cpv (ty := tyRowRow) hv69 hv74 rfl rfl rfl rfl rfl rfl rfl) fun _ => ?_
 refine Dn ?_
 have hv76 : Vw tyRowRow (cpyv g.l (r1.1 + r9) (r1.1 + ((cut g.l r1.1 r1.2).length : Int)) (r1.1 + 0) (r1.1 + (IntKind.i64.wrap (((cut g.l r1.1 r1.2).length : Int) - r9)))) A0 C0 (cuta A0 C0 r1.1 (tyRowRow).sz) (C0 - r1.1.toNat) r1.1 r1.2 := Vw.on hv8 (cpyv_len hv69)
 refine E.sl 11 (k' := (cut (cpyv g.l (r1.1 + r9) (r1.1 + ((cut g.l r1.1 r1.2).length : Int)) (r1.1 + 0) (r1.1 + (IntKind.i64.wrap (((cut g.l r1.1 r1.2).length : Int) - r9)))) r1.1 r1.2).length) (cut_len (cpyv_len hv69)) rfl ?_
 refine E.bx 1 (cs' := [.int .i64 g.w, .slice A0 (cpyv g.l (r1.1 + r9) (r1.1 + ((cut g.l r1.1 r1.2).length : Int)) (r1.1 + 0) (r1.1 + (IntKind.i64.wrap (((cut g.l r1.1 r1.2).length : Int) - r9)))).length C0]) (by rw [(cpyv_len hv69)]) rfl ?_
 refine Et (Ts (Ts (Tr ?_)))
 refine Lq 2 ?_
 refine Ln (Et ?_)
 obtain ⟨e189, H190, H191⟩ := bnd H71
 refine Tj0 [] [13] [Ch.arr tyRowRow 52 A0 C0 e189.l, Ch.box N0 96 [.int .i64 e189.w, .slice A0 e189.l.length C0]] [1] ?_ ?_
 ·refine Tl ?_
  refine Tq (η := Unit) (fun s150 h => [(11, .slice (cuta A0 C0 r1.1 (tyRowRow).sz) (cut s150.1.l r1.1 r1.2).length (C0 - r1.1.toNat)), (48, .int .i64 s150.2)]) [0, 4, 13, 47] (fun s150 h => [Ch.arr tyRowRow 52 A0 C0 s150.1.l, Ch.box N0 96 [.int .i64 s150.1.w, .slice A0 s150.1.l.length C0]]) [1] (fun _ _ => []) () [2, 0, 0] [] H190 ?_
  rintro k_ s150 ⟨⟩ z193 H192 hag194 hbr195
  refine Ts (Tr ?_)
  refine Lq 1 ?_
  refine Ln (Et (Ts ?_))
  refine Tb H192 (fun H197 => ?_) fun H197 => ?_
  ·refine Tk (Et (Ts (Tl (Ts (Tr ?_)))))
   refine Lq 2 ?_
   refine Ln (Et (Tr ?_))
   refine Lq 5 ?_
   refine Lb 1 ?_
   refine Lq 1 ?_
   obtain ⟨r215, h216, H217⟩ := bnd H197
   refine Lk [] [] (c_row_Blank h216) fun ⟨a218, c219⟩ => ?_
   obtain ⟨_, h221, H222⟩ := bnd H217
   refine L.cap 0 rfl fun h223 => ?_
   have hv224 := vw_re hv76 h221 h223
   obtain ⟨x225, h226, H227⟩ := bnd H222
   refine L.addro 0 rfl (pos_of (cut_get h226)) fun b228 e229 => ?_
   subst e229
   refine Ly (Yl.iv (ty := tyRowRow) 0 hv224 h226 rfl rfl rfl rfl rfl rfl rfl rfl) ?_
   refine La [0] [0] (Ac.se 0 r215 (cut_get h226) rfl rfl rfl rfl rfl rfl (fun _ => ⟨(a218, c219), rfl, [1], rfl⟩)) fun _ => ?_
   have hv231 : Vw tyRowRow (s150.1.l.set (r1.1.toNat + s150.2.toNat) r215) (some ⟨b228, 0, none⟩) C0 (cuta (some ⟨b228, 0, none⟩) C0 r1.1 (tyRowRow).sz) (C0 - r1.1.toNat) r1.1 r1.2 := Vw.on hv224 (List.length_set ..)
   refine L.sl 11 (k' := (cut (s150.1.l.set (r1.1.toNat + s150.2.toNat) r215) r1.1 r1.2).length) (cut_len (List.length_set ..)) rfl ?_
   refine L.bx 1 (cs' := [.int .i64 s150.1.w, .slice (some ⟨b228, 0, none⟩) (s150.1.l.set (r1.1.toNat + s150.2.toNat) r215).length C0]) (by rw [List.length_set ..]) rfl ?_
   refine Ln (Eb (Et (Tr ?_)))
   refine Lq 2 ?_
   refine Ln ?_
   obtain rfl := sm H227
   exact Eg (_, ()) (hag194 _ rfl) [1, 0, 0] [] 1
  refine Tx (Ex (Ex (Eh ?_)))
  obtain rfl := sm H197
  have hb := hbr195 _ rfl
  subst e189
  exact Eg0 [0, 0, 0] 0
 refine Ts (Tr ?_)
 refine Lq 2 ?_
 refine Ln (Et (Tv ?_))
 obtain rfl := sm H191
 exact Eo1 (a20, c21) [2, 1, 0] []

theorem c_screen_Screen_back {s_ : ScreenScreen} {r : ScreenScreen} (H : p_screen_Screen_back s_ = some r) : CT G 70 [.pointer (some ⟨N0, 0, none⟩)] [Ch.box N0 81 [.pointer (some ⟨N1, 0, none⟩), .int .i64 s_.spot.x, .int .i64 s_.spot.y, .int .i64 s_.spot.style.fore, .int .i64 s_.spot.style.back, .bool s_.spot.style.bold, .bool s_.spot.style.under, .bool s_.spot.style.inverse, .int .i64 s_.saved.x, .int .i64 s_.saved.y, .int .i64 s_.saved.style.fore, .int .i64 s_.saved.style.back, .bool s_.saved.style.bold, .bool s_.saved.style.under, .bool s_.saved.style.inverse, .bool s_.waiting, .int .i64 s_.top, .int .i64 s_.bottom, .bool s_.wraps, .string s_.title], Ch.box N1 96 [.int .i64 s_.g.w, .slice A0 s_.g.l.length C0], Ch.arr tyRowRow 52 A0 C0 s_.g.l] [] (fun _ : Unit => .tuple #[]) (fun h => [Ch.box N0 81 [.pointer (some ⟨N1, 0, none⟩), .int .i64 r.spot.x, .int .i64 r.spot.y, .int .i64 r.spot.style.fore, .int .i64 r.spot.style.back, .bool r.spot.style.bold, .bool r.spot.style.under, .bool r.spot.style.inverse, .int .i64 r.saved.x, .int .i64 r.saved.y, .int .i64 r.saved.style.fore, .int .i64 r.saved.style.back, .bool r.saved.style.bold, .bool r.saved.style.under, .bool r.saved.style.inverse, .bool r.waiting, .int .i64 r.top, .int .i64 r.bottom, .bool r.wraps, .string r.title], Ch.box N1 96 [.int .i64 r.g.w, .slice A0 r.g.l.length C0], Ch.arr tyRowRow 52 A0 C0 r.g.l]) (fun h => []) := by
 delta p_screen_Screen_back at H
 refine CT.of Go.Proofs.Tryz.func70 (by kernel_rfl) rfl rfl rfl fun K => ?_
 refine Ts (Tr ?_)
 refine Lq 3 ?_
 refine Lt 0 ?_
 refine Ln (Et (Ts (Ts ?_)))
 refine Td [] [0, 0, 0] mo ?_
 refine Dq 0 ?_
 refine Dq 1 ?_
 refine Dq 2 ?_
 refine Dq 3 ?_
 refine Db 4 0 ?_
 refine Dq 5 ?_
 refine Dq 6 ?_
 refine Dq 7 ?_
 refine Db 8 0 ?_
 refine Dq 9 ?_
 refine Dn ?_
 refine Et ?_
 refine Tb H (fun H42 => ?_) fun H42 => ?_
 ·refine Ts ?_
  refine Td [14] [0, 0, 0] mo ?_
  refine Dq 0 ?_
  refine Dq 1 ?_
  refine Dq 2 ?_
  refine Db 3 0 ?_
  refine Dq 4 ?_
  refine Dq 5 ?_
  refine Dq 6 ?_
  refine Db 7 0 ?_
  refine Dq 8 ?_
  refine Dq 9 ?_
  refine Dq 10 ?_
  refine Db 11 0 ?_
  refine Dq 12 ?_
  obtain ⟨r73, h74, H75⟩ := bnd H42
  refine D.one rfl rfl rfl (Dp.br (Ac.call (c_screen_Screen_num h74) rfl rfl rfl rfl) (Bw.bx 0 rfl (Bw.bx 1 rfl (Bw.ch 2 rfl (Bw.nil)))) rfl rfl rfl rfl ?_)
  intro _
  obtain ⟨r76, h77, H78⟩ := bnd H75
  refine Dkl [1, 1] [] (c_grid_Grid_Down h77) fun ⟨a79, c80⟩ => ?_
  refine Dn ?_
  refine Et (Tv (Er ?_))
  obtain rfl := sm H78
  exact Eo () [3, 1, 1] [] .nil
 refine Tk (Et ?_)
 refine Td [12] [0, 0, 0] mo ?_
 refine Dq 0 ?_
 refine Dq 1 ?_
 refine Dq 2 ?_
 refine Dq 3 ?_
 refine Dq 4 ?_
 refine Db 5 0 ?_
 refine Dq 6 ?_
 refine Dq 7 ?_
 refine Dq 8 ?_
 refine Dq 9 ?_
 refine Db 10 0 ?_
 refine Dq 11 ?_
 obtain ⟨r87, h88, H89⟩ := bnd H42
 refine Dkl [0, 0, 0] [] (c_screen_Screen_move h88) fun ⟨⟩ => ?_
 refine Dn ?_
 refine E.off ?_
 obtain rfl := sm H89
 exact Eo () [0, 0, 0] [] .nil

theorem c_screen_Screen_escape {s_ : ScreenScreen} {b : Int} {r : (List RowRow) × ScreenScreen} (H : p_screen_Screen_escape s_ b = some r) : CT G 33 [.pointer (some ⟨N0, 0, none⟩), .int .u8 b] [Ch.box N0 81 [.pointer (some ⟨N1, 0, none⟩), .int .i64 s_.spot.x, .int .i64 s_.spot.y, .int .i64 s_.spot.style.fore, .int .i64 s_.spot.style.back, .bool s_.spot.style.bold, .bool s_.spot.style.under, .bool s_.spot.style.inverse, .int .i64 s_.saved.x, .int .i64 s_.saved.y, .int .i64 s_.saved.style.fore, .int .i64 s_.saved.style.back, .bool s_.saved.style.bold, .bool s_.saved.style.under, .bool s_.saved.style.inverse, .bool s_.waiting, .int .i64 s_.top, .int .i64 s_.bottom, .bool s_.wraps, .string s_.title], Ch.box N1 96 [.int .i64 s_.g.w, .slice A0 s_.g.l.length C0], Ch.arr tyRowRow 52 A0 C0 s_.g.l] [] (fun h : (Option Addr × Nat) × Nat × (Option Addr × Nat) => .slice h.1.1 r.1.length h.1.2) (fun h => [Ch.arr tyRowRow 52 h.1.1 h.1.2 r.1, Ch.box N0 81 [.pointer (some ⟨h.2.1, 0, none⟩), .int .i64 r.2.spot.x, .int .i64 r.2.spot.y, .int .i64 r.2.spot.style.fore, .int .i64 r.2.spot.style.back, .bool r.2.spot.style.bold, .bool r.2.spot.style.under, .bool r.2.spot.style.inverse, .int .i64 r.2.saved.x, .int .i64 r.2.saved.y, .int .i64 r.2.saved.style.fore, .int .i64 r.2.saved.style.back, .bool r.2.saved.style.bold, .bool r.2.saved.style.under, .bool r.2.saved.style.inverse, .bool r.2.waiting, .int .i64 r.2.top, .int .i64 r.2.bottom, .bool r.2.wraps, .string r.2.title], Ch.box h.2.1 96 [.int .i64 r.2.g.w, .slice h.2.2.1 r.2.g.l.length h.2.2.2], Ch.arr tyRowRow 52 h.2.2.1 h.2.2.2 r.2.g.l]) (fun h => []) := by
 delta p_screen_Screen_escape at H
 refine CT.of Go.Proofs.Tryz.func33 (by kernel_rfl) rfl rfl rfl fun K => ?_
 refine Ts (Tr ?_)
 refine Lq 1 ?_
 refine Ln (Et (Ts (Ts (Tr ?_))))
 refine Lq 1 ?_
 refine Ln (Et ?_)
 obtain ⟨y3165, H3166, H3167⟩ := bnd H
 refine Tj (η := ScreenScreen × (Nat × (Option Addr × Nat))) (fun h => y3165 = .inl h.1) (fun _ => []) [] (fun h => (fun e3164 => (fun g3160 a3161 c3162 => [Ch.arr tyRowRow 52 a3161 c3162 e3164.g.l, Ch.box N0 81 [.pointer (some ⟨g3160, 0, none⟩), .int .i64 e3164.spot.x, .int .i64 e3164.spot.y, .int .i64 e3164.spot.style.fore, .int .i64 e3164.spot.style.back, .bool e3164.spot.style.bold, .bool e3164.spot.style.under, .bool e3164.spot.style.inverse, .int .i64 e3164.saved.x, .int .i64 e3164.saved.y, .int .i64 e3164.saved.style.fore, .int .i64 e3164.saved.style.back, .bool e3164.saved.style.bold, .bool e3164.saved.style.under, .bool e3164.saved.style.inverse, .bool e3164.waiting, .int .i64 e3164.top, .int .i64 e3164.bottom, .bool e3164.wraps, .string e3164.title], Ch.box g3160 96 [.int .i64 e3164.g.w, .slice a3161 e3164.g.l.length c3162]]) h.2.1 h.2.2.1 h.2.2.2) h.1) [] (fun _ => []) ?_ ?_
 ·refine Tl (Ts (Tl (Ts (Tl (Ts (Tl (Ts (Tl (Ts ?_)))))))))
  obtain ⟨y4672, H4673, H4674⟩ := bnd H3166
  refine Tj (η := ScreenScreen × Unit) (fun h => y4672 = .inl h.1) (fun _ => []) [0] (fun h => (fun e4671 => [Ch.box N0 81 [.pointer (some ⟨N1, 0, none⟩), .int .i64 e4671.spot.x, .int .i64 e4671.spot.y, .int .i64 e4671.spot.style.fore, .int .i64 e4671.spot.style.back, .bool e4671.spot.style.bold, .bool e4671.spot.style.under, .bool e4671.spot.style.inverse, .int .i64 e4671.saved.x, .int .i64 e4671.saved.y, .int .i64 e4671.saved.style.fore, .int .i64 e4671.saved.style.back, .bool e4671.saved.style.bold, .bool e4671.saved.style.under, .bool e4671.saved.style.inverse, .bool e4671.waiting, .int .i64 e4671.top, .int .i64 e4671.bottom, .bool e4671.wraps, .string e4671.title]]) h.1) [1, 2] (fun _ => []) ?_ ?_
  ·refine Tl (Ts (Tl (Ts (Ts (Ts (Tr ?_))))))
   refine Lq 2 ?_
   refine Ln (Et ?_)
   refine Tb H4673 (fun H4688 => ?_) fun H4688 => ?_
   ·refine Tx (Ex (Ex (Eh (Et (Tr ?_)))))
    refine Lq 4 ?_
    refine Lt 0 ?_
    refine Ln (Eb ?_)
    obtain rfl := sm H4688
    exact Eg (_, ()) rfl [0, 0, 0] [] 0
   refine Tk (Et (Ts (Ts (Tr ?_))))
   refine Lq 2 ?_
   refine Ln (Et ?_)
   refine Tb H4688 (fun H4690 => ?_) fun H4690 => ?_
   ·refine Tx (Ex (Ex (E.block_on rfl (Ex (Eh ?_)))))
    obtain rfl := sm H4690
    exact Eg (_, ()) rfl [0, 0, 0] [] 0
   refine Tk (Et (Ts (Ts (Tr ?_))))
   refine Lq 2 ?_
   refine Ln (Et ?_)
   refine Tb H4690 (fun H4692 => ?_) fun H4692 => ?_
   ·refine Tx (Ex (Ex (E.block_on rfl (Ex (E.block_on rfl ?_)))))
    obtain ⟨w4693, hz, H4694⟩ := inrs_some H4692
    subst y4672
    obtain rfl := (sm H4674).symm
    refine Ex (Eh (Et (Ts (Tr ?_))))
    refine Lq 1 ?_
    obtain ⟨r4695, h4696, H4697⟩ := bnd H4694
    refine Lk [0, 0, 0] [] (c_screen_Screen_back h4696) fun ⟨⟩ => ?_
    refine Ln (Et (Tx (E.block_on rfl (Ex (E.block_on rfl (Ex (E.block_on rfl (Ex (Eh ?_)))))))))
    obtain rfl := sm H4697
    exact Eg (_, (N1, (A0, C0))) rfl [2, 0, 0] [] 0
   refine Tk (Et (Ts (Ts (Tr ?_))))
   refine Lq 2 ?_
   refine Ln (Et ?_)
   refine Tb H4692 (fun H4700 => ?_) fun H4700 => ?_
   ·refine Tx (Ex (Ex (E.block_on rfl (Ex (E.block_on rfl ?_)))))
    obtain ⟨w4701, hz, H4702⟩ := inrs_some H4700
    subst y4672
    obtain rfl := (sm H4674).symm
    refine Ex (E.block_on rfl (Ex (Eh (Et (Ts (Tr ?_))))))
    refine Lq 4 ?_
    refine Lb 0 ?_
    refine Lq 2 ?_
    refine Lt 0 ?_
    refine Ln (Et (Tx (E.block_on rfl (Ex (E.block_on rfl (Ex (Eh ?_)))))))
    obtain rfl := sm H4702
    exact Eg (_, (N1, (A0, C0))) rfl [2, 0, 0] [] 0
   refine Tk (Et (Ts (Ts (Tr ?_))))
   refine Lq 2 ?_
   refine Ln (Et ?_)
   refine Tb H4700 (fun H4704 => ?_) fun H4704 => ?_
   ·refine Tx (Ex (Ex (E.block_on rfl (Ex (E.block_on rfl ?_)))))
    obtain ⟨w4705, hz, H4706⟩ := inrs_some H4704
    subst y4672
    obtain rfl := (sm H4674).symm
    refine Ex (E.block_on rfl (Ex (E.block_on rfl (Ex (Eh (Et (Ts (Ts (Tr ?_)))))))))
    refine Lq 5 ?_
    refine Lb 0 ?_
    refine Lq 3 ?_
    refine Lt 0 ?_
    refine Ln (Et ?_)
    refine Td [11] [0, 0, 0] mo ?_
    refine Dq 0 ?_
    refine Dq 1 ?_
    refine Dq 2 ?_
    refine Dq 3 ?_
    refine Dq 4 ?_
    refine Db 5 0 ?_
    refine Dq 6 ?_
    refine Dq 7 ?_
    refine Dq 8 ?_
    refine Dq 9 ?_
    refine Db 10 0 ?_
    obtain ⟨r4719, h4720, H4721⟩ := bnd H4706
    refine Dkl [0, 0, 0] [] (c_screen_Screen_move h4720) fun ⟨⟩ => ?_
    refine Dn ?_
    refine Et (Tx (E.block_on rfl (Ex (Eh ?_))))
    obtain rfl := sm H4721
    exact Eg (_, (N1, (A0, C0))) rfl [2, 0, 0] [] 0
   refine Tk (Et (Ts (Tr ?_)))
   refine Lq 2 ?_
   refine Ln (Et ?_)
   refine Tb H4704 (fun H4724 => ?_) fun H4724 => ?_
   ·refine Tx (Ex (E.block_on rfl (Ex (E.block_on rfl ?_))))
    obtain ⟨w4725, hz, H4726⟩ := inrs_some H4724
    subst y4672
    obtain rfl := (sm H4674).symm
    refine Ex (E.block_on rfl (Ex (E.block_on rfl (Ex (E.block_on rfl (Ex (Eh (Et (Ts (Tr ?_))))))))))
    refine Lq 4 ?_
    refine Lb 0 ?_
    obtain ⟨r4727, h4728, H4729⟩ := bnd H4726
    refine Lk [1, 1] [] (c_grid_Grid_Size h4728) fun ⟨⟩ => ?_
    refine Lq 2 ?_
    obtain ⟨r4730, h4731, H4732⟩ := bnd H4729
    refine Lk [] [] (c_screen_New h4731) fun ⟨g4733, g4734, ⟨a4735, c4736⟩⟩ => ?_
    refine Lq 1 ?_
    refine Lb 0 ?_
    refine Lq 1 ?_
    refine Lt 5 ?_
    refine Ln (Et (Tx (Eh ?_)))
    obtain rfl := sm H4732
    exact Eg (_, (g4734, (a4735, c4736))) rfl [3, 0, 1] [] 0
   refine Tk (Et (Tx (E.block_on rfl (Ex (E.block_on rfl ?_)))))
   obtain ⟨w4738, hz, H4739⟩ := inrs_some H4724
   subst y4672
   obtain rfl := (sm H4674).symm
   refine Ex (E.block_on rfl (Ex (E.block_on rfl (Ex (E.block_on rfl (Ex (E.block_on rfl (Ex (Eh ?_)))))))))
   obtain rfl := sm H4739
   exact Eg (_, (N1, (A0, C0))) rfl [2, 0, 0] [] 0
  rintro ⟨e4671, ⟨⟩⟩ hy
  subst hy
  refine Ts (Ts (Tr ?_))
  refine Lq 1 ?_
  obtain ⟨r4740, h4741, H4742⟩ := bnd H4674
  refine Lk [0, 0, 0] [] (c_screen_Screen_line h4741) fun ⟨a4743, c4744⟩ => ?_
  refine Lq 1 ?_
  refine Ln (Et (Tv (Er (Ev (Er (Ev (Er (Ev (Er (Ev (Er (Ev ?_))))))))))))
  obtain ⟨w4747, hz, H4748⟩ := inrs_some H4742
  subst y3165
  obtain rfl := (sm H3167).symm
  refine Er ?_
  obtain rfl := sm H4748
  exact Eo1 ((a4743, c4744), N1, (A0, C0)) [0, 0, 0, 0] []
 rintro ⟨e3164, ⟨g3160, ⟨a3161, c3162⟩⟩⟩ hy
 subst hy
 refine Ts (Tr ?_)
 refine Lq 1 ?_
 refine Ln (Et (Tv ?_))
 refine E.nil0 tyRowRow 52 ?_
 obtain rfl := sm H3167
 exact Eo1 ((none, 0), g3160, (a3161, c3162)) [0, 1, 1, 0] []

theorem c_screen_at {a : SeqAction} {i : Int} {d : Int} {r : Int} (H : p_screen_at a i d = some r) : CT G 35 [.agg (bx40 a A0 C0).toArray, .int .i64 i, .int .i64 d] [] [Im.sl (Ty.int .i64) A0 C0 a.nums] (fun _ : Unit => .int .i64 r) (fun h => []) (fun h => []) := by
 delta p_screen_at at H
 refine CT.of Go.Proofs.Tryz.func35 (by kernel_rfl) rfl rfl rfl fun K => ?_
 refine Ts (Tr ?_)
 refine Lx fun g1 => ?_
 refine Lq 1 ?_
 refine Ln (Et (Ts (Ts ?_)))
 obtain ⟨e19, H20, H21⟩ := bnd H
 refine Tj0 [(19, .bool e19)] [1, 2, 3] [] [0] ?_ ?_
 ·refine Tr ?_
  refine Lq 2 ?_
  refine Lb 0 ?_
  refine Lq 3 ?_
  refine Lw 12 H20 (fun H22 => ?_) fun H22 => ?_
  ·refine Lq 7 ?_
   refine Ln ?_
   obtain rfl := sm H22
   exact Eg0 [0] 0
  refine Lq 1 ?_
  refine Lb 0 ?_
  refine Lq 1 ?_
  obtain ⟨x23, h24, H25⟩ := bnd H22
  refine L.addr 0 rfl (idx_lt h24) fun b26 o27 e28 => ?_
  subst e28
  refine Ly (Yl.ia h24 rfl rfl rfl rfl rfl rfl) ?_
  refine L.el 0 rfl (idx_some h24).2 ?_
  rintro _
  refine Lc 0 0 ?_
  refine Lq 2 ?_
  refine Ln ?_
  obtain rfl := sm H25
  exact Eg0 [0] 1
 refine Tb H21 (fun H31 => ?_) fun H31 => ?_
 ·refine Ts (Tr ?_)
  refine Lq 2 ?_
  refine Ln (Et (Tv (Er ?_)))
  obtain rfl := sm H31
  exact Eo1 () [] []
 refine Tk (Et (Ts (Tr ?_)))
 refine Lq 1 ?_
 refine Lb 0 ?_
 refine Lq 1 ?_
 obtain ⟨x32, h33, H34⟩ := bnd H31
 refine L.addr 0 rfl (idx_lt h33) fun b35 o36 e37 => ?_
 subst e37
 refine Ly (Yl.ia h33 rfl rfl rfl rfl rfl rfl) ?_
 refine L.el 0 rfl (idx_some h33).2 ?_
 rintro _
 refine Lc 0 0 ?_
 refine Lq 2 ?_
 refine Ln (Et (Tv ?_))
 obtain rfl := sm H34
 exact Eo1 () [] []

theorem c_screen_Screen_climb {s_ : ScreenScreen} {n_ : Int} {r : ScreenScreen} (H : p_screen_Screen_climb s_ n_ = some r) : CT G 71 [.pointer (some ⟨N0, 0, none⟩), .int .i64 n_] [Ch.box N0 81 [.pointer (some ⟨N1, 0, none⟩), .int .i64 s_.spot.x, .int .i64 s_.spot.y, .int .i64 s_.spot.style.fore, .int .i64 s_.spot.style.back, .bool s_.spot.style.bold, .bool s_.spot.style.under, .bool s_.spot.style.inverse, .int .i64 s_.saved.x, .int .i64 s_.saved.y, .int .i64 s_.saved.style.fore, .int .i64 s_.saved.style.back, .bool s_.saved.style.bold, .bool s_.saved.style.under, .bool s_.saved.style.inverse, .bool s_.waiting, .int .i64 s_.top, .int .i64 s_.bottom, .bool s_.wraps, .string s_.title], Ch.box N1 96 [.int .i64 s_.g.w, .slice A0 s_.g.l.length C0], Ch.arr tyRowRow 52 A0 C0 s_.g.l] [] (fun _ : Unit => .tuple #[]) (fun h => [Ch.box N0 81 [.pointer (some ⟨N1, 0, none⟩), .int .i64 r.spot.x, .int .i64 r.spot.y, .int .i64 r.spot.style.fore, .int .i64 r.spot.style.back, .bool r.spot.style.bold, .bool r.spot.style.under, .bool r.spot.style.inverse, .int .i64 r.saved.x, .int .i64 r.saved.y, .int .i64 r.saved.style.fore, .int .i64 r.saved.style.back, .bool r.saved.style.bold, .bool r.saved.style.under, .bool r.saved.style.inverse, .bool r.waiting, .int .i64 r.top, .int .i64 r.bottom, .bool r.wraps, .string r.title], Ch.box N1 96 [.int .i64 r.g.w, .slice A0 r.g.l.length C0], Ch.arr tyRowRow 52 A0 C0 r.g.l]) (fun h => []) := by
 delta p_screen_Screen_climb at H
 refine CT.of Go.Proofs.Tryz.func71 (by kernel_rfl) rfl rfl rfl fun K => ?_
 refine Ts (Tr ?_)
 refine Lq 1 ?_
 obtain ⟨r1, h2, H3⟩ := bnd H
 refine Lk [0, 0, 0] [] (c_screen_Screen_last h2) fun ⟨⟩ => ?_
 refine Lq 5 ?_
 refine Ln (Et (Ts (Tr ?_)))
 refine Lq 3 ?_
 refine Ln (Et (Ts (Ts ?_)))
 obtain ⟨e9, H10, H11⟩ := bnd H3
 refine Tj0 [(27, .bool e9)] [0, 1, 6, 7] [] [0, 1, 2] ?_ ?_
 ·refine Td [] [0, 0, 0] mo ?_
  refine Dq 0 ?_
  refine Dq 1 ?_
  refine Dq 2 ?_
  refine Dq 3 ?_
  refine Db 4 0 ?_
  refine Dq 5 ?_
  refine Dq 6 ?_
  refine Dq 7 ?_
  refine Db 8 0 ?_
  refine Dq 9 ?_
  refine Dq 10 ?_
  refine D.cs 24 H10 rfl (fun hc H13 => ?_) (fun hc H13 => ?_)
  ·refine Dq 11 ?_
   refine Dq 12 ?_
   refine Dq 13 ?_
   refine Dn ?_
   obtain rfl := sm H13
   exact Eg0 [0, 0, 0] 0
  refine Ds 11 ?_
  refine Ds 12 ?_
  refine Dq 13 ?_
  refine Dn ?_
  obtain rfl := sm H13
  exact Eg0 [0, 0, 0] 0
 obtain ⟨e17, H18, H19⟩ := bnd H11
 refine Tj0 [(6, .int .i64 e17)] [0, 1, 7] [] [0, 1, 2] ?_ ?_
 ·refine Tb H18 (fun H20 => ?_) fun H20 => ?_
  ·refine Tr ?_
   refine Lq 3 ?_
   refine Lb 0 ?_
   refine Lq 1 ?_
   refine Ln ?_
   obtain rfl := sm H20
   exact Eg0 [0, 0, 0] 0
  refine Tk ?_
  obtain rfl := sm H20
  exact Eg0 [0, 0, 0] 0
 refine Ts (Ts ?_)
 obtain ⟨e26, H27, H28⟩ := bnd H19
 refine Tj0 [(45, .bool e26)] [0, 1, 6, 7] [] [0, 1, 2] ?_ ?_
 ·refine Td [] [0, 0, 0] mo ?_
  refine Dq 0 ?_
  refine Dq 1 ?_
  refine Dq 2 ?_
  refine Dq 3 ?_
  refine Db 4 0 ?_
  refine Dq 5 ?_
  refine Dq 6 ?_
  refine Dq 7 ?_
  refine Db 8 0 ?_
  refine Dq 9 ?_
  refine Dq 10 ?_
  refine D.cs 42 H27 rfl (fun hc H30 => ?_) (fun hc H30 => ?_)
  ·refine Dq 11 ?_
   refine Dq 12 ?_
   refine Dq 13 ?_
   refine Dn ?_
   obtain rfl := sm H30
   exact Eg0 [0, 0, 0] 0
  refine Ds 11 ?_
  refine Ds 12 ?_
  refine Dq 13 ?_
  refine Dn ?_
  obtain rfl := sm H30
  exact Eg0 [0, 0, 0] 0
 obtain ⟨e34, H35, H36⟩ := bnd H28
 refine Tj0 [(7, .int .i64 e34)] [0, 1, 6] [] [0, 1, 2] ?_ ?_
 ·refine Tb H35 (fun H37 => ?_) fun H37 => ?_
  ·refine Tr ?_
   refine Lq 3 ?_
   refine Lb 0 ?_
   refine Lq 1 ?_
   refine Ln ?_
   obtain rfl := sm H37
   exact Eg0 [0, 0, 0] 0
  refine Tk ?_
  obtain rfl := sm H37
  exact Eg0 [0, 0, 0] 0
 refine Td [16] [0, 0, 0] mo ?_
 refine Dq 0 ?_
 refine Dq 1 ?_
 refine Dq 2 ?_
 refine Dq 3 ?_
 refine Dq 4 ?_
 refine Db 5 0 ?_
 refine Dq 6 ?_
 refine Dq 7 ?_
 refine Dq 8 ?_
 refine Dq 9 ?_
 refine Db 10 0 ?_
 refine Dq 11 ?_
 refine Dq 12 ?_
 refine Dq 13 ?_
 refine Dq 14 ?_
 obtain ⟨r45, h46, H47⟩ := bnd H36
 refine Dk [] [] (c_screen_clip h46) fun ⟨⟩ => ?_
 obtain ⟨r48, h49, H50⟩ := bnd H47
 refine Dkl [0, 0, 0] [] (c_screen_Screen_move h49) fun ⟨⟩ => ?_
 refine Dn ?_
 refine E.off ?_
 obtain rfl := sm H50
 exact Eo () [0, 0, 0] [] .nil

end Go.Tw.X

set_option maxHeartbeats 2000000
set_option linter.unusedVariables false
set_option linter.unusedSimpArgs false
set_option maxRecDepth 10000
namespace Go.Tw.X
open Go Go.Tw
variable {A0 A1 A2 : Option Addr} {C0 C1 C2 : Nat}
variable {N0 N1 N2 N3 N4 : Nat}
theorem c_row_Row_Erase {r_ : RowRow} {from_ : Int} {to : Int} {style : Int} {r : RowRow} (H : p_row_Row_Erase r_ from_ to style = some r) : CT G 115 [.agg #[.slice A0 r_.cells.length C0, .bool r_.wrapped], .int .i64 from_, .int .i64 to, .int .i64 style] [] [Im.sl tyRowCell A0 C0 r_.cells] (fun h : (Option Addr × Nat) => .agg #[.slice h.1 r.cells.length h.2, .bool r.wrapped]) (fun h => []) (fun h => [Im.sl tyRowCell h.1 h.2 r.cells]) := by
 delta p_row_Row_Erase at H
 refine CT.of Go.Proofs.Tryz.func115 (by kernel_rfl) rfl rfl rfl fun K => ?_
 refine Ts (Tr ?_)
 refine Lx fun g1 => ?_
 refine Ll fun g2 => ?_
 refine Ln (Et (Ts (Tr ?_)))
 refine Lb 1 ?_
 obtain ⟨r3, h4, H5⟩ := bnd H
 refine Lk [] [0] (c_row_Row_cells h4) fun ⟨a6, c7⟩ => ?_
 refine Lq 1 ?_
 refine Ln (Et (Ts (Ts (Tr ?_))))
 refine Lq 3 ?_
 obtain ⟨r9, h10, H11⟩ := bnd H5
 refine Lk [] [] (c_row_clip h10) fun ⟨⟩ => ?_
 refine Lq 1 ?_
 refine Ln (Et ?_)
 obtain ⟨e93, H94, H95⟩ := bnd H11
 refine Tj0 [(9, .slice a6 e93.length c7)] [8] [Ch.arr tyRowCell 98 a6 c7 e93] [1, 2] ?_ ?_
 ·refine Tl ?_
  refine Tq (η := Unit) (fun s67 h => [(9, .slice a6 s67.2.length c7), (10, .int .i64 s67.1)]) [2, 3, 8] (fun s67 h => [Ch.arr tyRowCell 98 a6 c7 s67.2]) [1, 2] (fun _ _ => []) () [0, 0, 0] [] H94 ?_
  rintro k_ s67 ⟨⟩ z97 H96 hag98 hbr99
  refine Ts (Ts (Tr ?_))
  refine Lq 4 ?_
  obtain ⟨r100, h101, H102⟩ := bnd H96
  refine Lk [] [] (c_row_clip h101) fun ⟨⟩ => ?_
  refine Lq 1 ?_
  refine Ln (Et ?_)
  refine Tb H102 (fun H104 => ?_) fun H104 => ?_
  ·refine Tk (Et (Ts (Tl (Tr ?_))))
   refine Lq 3 ?_
   obtain ⟨r114, h115, H116⟩ := bnd H104
   refine Lk [] [] (c_row_blank h115) fun ⟨⟩ => ?_
   obtain ⟨x117, h118, H119⟩ := bnd H116
   refine L.addro 0 rfl (idx_lt h118) fun b120 e121 => ?_
   subst e121
   refine Ly (Yl.ia h118 rfl rfl rfl rfl rfl rfl) ?_
   refine La [0] [] (Ac.se 0 r114 (idx_some h118).2 rfl rfl rfl rfl rfl rfl (fun _ => ⟨(), rfl, [], rfl⟩)) fun _ => ?_
   refine L.sl 9 (k' := (s67.2.set s67.1.toNat r114).length) (List.length_set ..) rfl ?_
   refine Ln (Eb (Et (Tr ?_)))
   refine Lq 3 ?_
   refine Ln ?_
   obtain rfl := sm H119
   exact Eg (_, ()) (hag98 _ rfl) [0, 0, 0] [] 0
  refine Tx (Ex (Ex (Eh ?_)))
  obtain rfl := sm H104
  have hb := hbr99 _ rfl
  subst e93
  exact Eg0 [0, 0, 0] 0
 refine Ts (Tr ?_)
 refine Lq 1 ?_
 obtain ⟨r123, h124, H125⟩ := bnd H95
 refine Lk [0] [] (c_row_mend h124) fun ⟨⟩ => ?_
 refine Lt 0 ?_
 refine Ln (Et (Tv ?_))
 obtain rfl := sm H125
 exact Eo (a6, c7) [] [0] (.cell 0 rfl rfl rfl .nil)

theorem c_screen_Screen_erase {s_ : ScreenScreen} {y : Int} {from_ : Int} {to : Int} {r : ScreenScreen} (H : p_screen_Screen_erase s_ y from_ to = some r) : CT G 111 [.pointer (some ⟨N0, 0, none⟩), .int .i64 y, .int .i64 from_, .int .i64 to] [Ch.box N0 81 [.pointer (some ⟨N1, 0, none⟩), .int .i64 s_.spot.x, .int .i64 s_.spot.y, .int .i64 s_.spot.style.fore, .int .i64 s_.spot.style.back, .bool s_.spot.style.bold, .bool s_.spot.style.under, .bool s_.spot.style.inverse, .int .i64 s_.saved.x, .int .i64 s_.saved.y, .int .i64 s_.saved.style.fore, .int .i64 s_.saved.style.back, .bool s_.saved.style.bold, .bool s_.saved.style.under, .bool s_.saved.style.inverse, .bool s_.waiting, .int .i64 s_.top, .int .i64 s_.bottom, .bool s_.wraps, .string s_.title], Ch.box N1 96 [.int .i64 s_.g.w, .slice A0 s_.g.l.length C0], Ch.arr tyRowRow 52 A0 C0 s_.g.l] [] (fun _ : Unit => .tuple #[]) (fun h => [Ch.box N0 81 [.pointer (some ⟨N1, 0, none⟩), .int .i64 r.spot.x, .int .i64 r.spot.y, .int .i64 r.spot.style.fore, .int .i64 r.spot.style.back, .bool r.spot.style.bold, .bool r.spot.style.under, .bool r.spot.style.inverse, .int .i64 r.saved.x, .int .i64 r.saved.y, .int .i64 r.saved.style.fore, .int .i64 r.saved.style.back, .bool r.saved.style.bold, .bool r.saved.style.under, .bool r.saved.style.inverse, .bool r.waiting, .int .i64 r.top, .int .i64 r.bottom, .bool r.wraps, .string r.title], Ch.box N1 96 [.int .i64 r.g.w, .slice A0 r.g.l.length C0], Ch.arr tyRowRow 52 A0 C0 r.g.l]) (fun h => []) := by
 delta p_screen_Screen_erase at H
 refine CT.of Go.Proofs.Tryz.func111 (by kernel_rfl) rfl rfl rfl fun K => ?_
 refine Td [16] [0, 0, 0] mo ?_
 refine Dq 0 ?_
 refine Dq 1 ?_
 refine Dq 2 ?_
 refine Db 3 0 ?_
 refine Dq 4 ?_
 refine Dq 5 ?_
 refine Dq 6 ?_
 refine Dq 7 ?_
 refine Db 8 0 ?_
 refine Dq 9 ?_
 refine Dq 11 ?_
 refine Dq 12 ?_
 refine Dq 13 ?_
 obtain ⟨r20, h21, H22⟩ := bnd H
 refine D.one rfl rfl rfl (Dp.ab [1, 1] [] [2, 0, 0] (Ac.call (c_grid_Grid_Row h21) rfl rfl rfl rfl) rfl rfl rfl rfl rfl rfl (fun _ => rfl) ?_)
 rintro ⟨a23, c24⟩
 obtain ⟨r26, h27, H28⟩ := bnd H22
 refine D.one rfl rfl rfl (Dp.br (Ac.call (c_screen_Screen_num h27) rfl rfl rfl rfl) (Bw.bx 0 rfl (Bw.bx 1 rfl (Bw.ch 2 rfl (Bw.nil)))) rfl rfl rfl rfl ?_)
 intro _
 obtain ⟨r29, h30, H31⟩ := bnd H28
 refine Dk [] [0] (c_row_Row_Erase h30) fun ⟨a32, c33⟩ => ?_
 obtain ⟨r35, h36, H37⟩ := bnd H31
 refine Dkl [1, 1] [0] (c_grid_Grid_Set h36) fun ⟨⟩ => ?_
 refine Dn ?_
 refine E.off ?_
 obtain rfl := sm H37
 exact Eo () [2, 0, 0] [] .nil

theorem c_screen_Screen_part {s_ : ScreenScreen} {n_ : Int} {r : ScreenScreen} (H : p_screen_Screen_part s_ n_ = some r) : CT G 73 [.pointer (some ⟨N0, 0, none⟩), .int .i64 n_] [Ch.box N0 81 [.pointer (some ⟨N1, 0, none⟩), .int .i64 s_.spot.x, .int .i64 s_.spot.y, .int .i64 s_.spot.style.fore, .int .i64 s_.spot.style.back, .bool s_.spot.style.bold, .bool s_.spot.style.under, .bool s_.spot.style.inverse, .int .i64 s_.saved.x, .int .i64 s_.saved.y, .int .i64 s_.saved.style.fore, .int .i64 s_.saved.style.back, .bool s_.saved.style.bold, .bool s_.saved.style.under, .bool s_.saved.style.inverse, .bool s_.waiting, .int .i64 s_.top, .int .i64 s_.bottom, .bool s_.wraps, .string s_.title], Ch.box N1 96 [.int .i64 s_.g.w, .slice A0 s_.g.l.length C0], Ch.arr tyRowRow 52 A0 C0 s_.g.l] [] (fun _ : Unit => .tuple #[]) (fun h => [Ch.box N0 81 [.pointer (some ⟨N1, 0, none⟩), .int .i64 r.spot.x, .int .i64 r.spot.y, .int .i64 r.spot.style.fore, .int .i64 r.spot.style.back, .bool r.spot.style.bold, .bool r.spot.style.under, .bool r.spot.style.inverse, .int .i64 r.saved.x, .int .i64 r.saved.y, .int .i64 r.saved.style.fore, .int .i64 r.saved.style.back, .bool r.saved.style.bold, .bool r.saved.style.under, .bool r.saved.style.inverse, .bool r.waiting, .int .i64 r.top, .int .i64 r.bottom, .bool r.wraps, .string r.title], Ch.box N1 96 [.int .i64 r.g.w, .slice A0 r.g.l.length C0], Ch.arr tyRowRow 52 A0 C0 r.g.l]) (fun h => []) := by
 delta p_screen_Screen_part at H
 refine CT.of Go.Proofs.Tryz.func73 (by kernel_rfl) rfl rfl rfl fun K => ?_
 refine Ts (Tr ?_)
 refine Lq 3 ?_
 refine Lb 0 ?_
 obtain ⟨r1, h2, H3⟩ := bnd H
 refine Lk [1, 1] [] (c_grid_Grid_Size h2) fun ⟨⟩ => ?_
 refine Lq 5 ?_
 refine Ln (Et (Ts (Ts (Tr ?_))))
 refine Lq 1 ?_
 refine Ln (Et ?_)
 obtain ⟨e53, H54, H55⟩ := bnd H3
 refine Tj0 [] [0, 1] [Ch.arr tyRowRow 52 A0 C0 e53.1.l, Ch.box N1 96 [.int .i64 e53.1.w, .slice A0 e53.1.l.length C0], Ch.box N0 81 [.pointer (some ⟨N1, 0, none⟩), .int .i64 e53.2.spot.x, .int .i64 e53.2.spot.y, .int .i64 e53.2.spot.style.fore, .int .i64 e53.2.spot.style.back, .bool e53.2.spot.style.bold, .bool e53.2.spot.style.under, .bool e53.2.spot.style.inverse, .int .i64 e53.2.saved.x, .int .i64 e53.2.saved.y, .int .i64 e53.2.saved.style.fore, .int .i64 e53.2.saved.style.back, .bool e53.2.saved.style.bold, .bool e53.2.saved.style.under, .bool e53.2.saved.style.inverse, .bool e53.2.waiting, .int .i64 e53.2.top, .int .i64 e53.2.bottom, .bool e53.2.wraps, .string e53.2.title]] [] ?_ ?_
 ·refine Tl (Ts (Tr ?_))
  refine Lq 2 ?_
  refine Ln (Et ?_)
  refine Tb H54 (fun H56 => ?_) fun H56 => ?_
  ·refine Td [12] [0, 0, 0] mo ?_
   refine Dq 0 ?_
   refine Dq 1 ?_
   refine Dq 2 ?_
   refine Dq 3 ?_
   refine Dq 4 ?_
   refine Db 5 2 ?_
   refine Dq 6 ?_
   refine Dq 7 ?_
   refine Dq 8 ?_
   refine Dq 9 ?_
   refine Db 10 2 ?_
   refine Dq 11 ?_
   obtain ⟨r61, h62, H63⟩ := bnd H56
   refine Dkl [2, 0, 0] [] (c_screen_Screen_erase h62) fun ⟨⟩ => ?_
   refine Dn ?_
   refine Eb ?_
   obtain rfl := sm H63
   exact Eg0 [2, 1, 0] 0
  refine Ts (Tr ?_)
  refine Lq 2 ?_
  refine Ln (Et ?_)
  refine Tb H56 (fun H65 => ?_) fun H65 => ?_
  ·refine Td [12] [0, 0, 0] mo ?_
   refine Dq 0 ?_
   refine Dq 1 ?_
   refine Dq 2 ?_
   refine Dq 3 ?_
   refine Dq 4 ?_
   refine Db 5 2 ?_
   refine Dq 6 ?_
   refine Dq 7 ?_
   refine Dq 8 ?_
   refine Dq 9 ?_
   refine Db 10 2 ?_
   refine Dq 11 ?_
   obtain ⟨r70, h71, H72⟩ := bnd H65
   refine Dkl [2, 0, 0] [] (c_screen_Screen_erase h71) fun ⟨⟩ => ?_
   refine Dn ?_
   refine Eb ?_
   obtain rfl := sm H72
   exact Eg0 [2, 1, 0] 0
  refine Ts (Tr ?_)
  refine Lq 2 ?_
  refine Ln (Et ?_)
  refine Tb H65 (fun H74 => ?_) fun H74 => ?_
  ·refine Tr ?_
   refine Lq 5 ?_
   refine Lb 2 ?_
   refine Lq 1 ?_
   obtain ⟨r75, h76, H77⟩ := bnd H74
   refine Lk [2, 0, 0] [] (c_screen_Screen_erase h76) fun ⟨⟩ => ?_
   refine Ln (Eb ?_)
   obtain rfl := sm H77
   exact Eg0 [2, 1, 0] 0
  refine Tk (Eb ?_)
  obtain rfl := sm H74
  exact Eg0 [1, 0, 0] 0
 refine Tr ?_
 refine Lq 4 ?_
 refine Lb 2 ?_
 refine Lq 1 ?_
 refine Lw 60 H55 (fun H79 => ?_) fun H79 => ?_
 ·refine Lq 5 ?_
  refine Lt 2 ?_
  refine Ln (E.off ?_)
  obtain rfl := sm H79
  exact Eo () [0, 1, 0] [] .nil
 refine Lq 5 ?_
 refine Lt 2 ?_
 refine Ln (E.off ?_)
 obtain rfl := sm H79
 exact Eo () [0, 1, 0] [] .nil

theorem c_screen_Screen_wipe {s_ : ScreenScreen} {n_ : Int} {r : ScreenScreen} (H : p_screen_Screen_wipe s_ n_ = some r) : CT G 72 [.pointer (some ⟨N0, 0, none⟩), .int .i64 n_] [Ch.box N0 81 [.pointer (some ⟨N1, 0, none⟩), .int .i64 s_.spot.x, .int .i64 s_.spot.y, .int .i64 s_.spot.style.fore, .int .i64 s_.spot.style.back, .bool s_.spot.style.bold, .bool s_.spot.style.under, .bool s_.spot.style.inverse, .int .i64 s_.saved.x, .int .i64 s_.saved.y, .int .i64 s_.saved.style.fore, .int .i64 s_.saved.style.back, .bool s_.saved.style.bold, .bool s_.saved.style.under, .bool s_.saved.style.inverse, .bool s_.waiting, .int .i64 s_.top, .int .i64 s_.bottom, .bool s_.wraps, .string s_.title], Ch.box N1 96 [.int .i64 s_.g.w, .slice A0 s_.g.l.length C0], Ch.arr tyRowRow 52 A0 C0 s_.g.l] [] (fun _ : Unit => .tuple #[]) (fun h => [Ch.box N0 81 [.pointer (some ⟨N1, 0, none⟩), .int .i64 r.spot.x, .int .i64 r.spot.y, .int .i64 r.spot.style.fore, .int .i64 r.spot.style.back, .bool r.spot.style.bold, .bool r.spot.style.under, .bool r.spot.style.inverse, .int .i64 r.saved.x, .int .i64 r.saved.y, .int .i64 r.saved.style.fore, .int .i64 r.saved.style.back, .bool r.saved.style.bold, .bool r.saved.style.under, .bool r.saved.style.inverse, .bool r.waiting, .int .i64 r.top, .int .i64 r.bottom, .bool r.wraps, .string r.title], Ch.box N1 96 [.int .i64 r.g.w, .slice A0 r.g.l.length C0], Ch.arr tyRowRow 52 A0 C0 r.g.l]) (fun h => []) := by
 delta p_screen_Screen_wipe at H
 refine CT.of Go.Proofs.Tryz.func72 (by kernel_rfl) rfl rfl rfl fun K => ?_
 refine Ts (Tr ?_)
 refine Lq 3 ?_
 refine Lb 0 ?_
 obtain ⟨r1, h2, H3⟩ := bnd H
 refine Lk [1, 1] [] (c_grid_Grid_Size h2) fun ⟨⟩ => ?_
 refine Lq 5 ?_
 refine Ln (Et (Ts (Ts (Tr ?_))))
 refine Lq 2 ?_
 refine Ln (Et ?_)
 obtain ⟨e395, H396, H397⟩ := bnd H3
 refine Tj0 [] [0, 1] [Ch.arr tyRowRow 52 A0 C0 e395.1.l, Ch.box N1 96 [.int .i64 e395.1.w, .slice A0 e395.1.l.length C0], Ch.box N0 81 [.pointer (some ⟨N1, 0, none⟩), .int .i64 e395.2.spot.x, .int .i64 e395.2.spot.y, .int .i64 e395.2.spot.style.fore, .int .i64 e395.2.spot.style.back, .bool e395.2.spot.style.bold, .bool e395.2.spot.style.under, .bool e395.2.spot.style.inverse, .int .i64 e395.2.saved.x, .int .i64 e395.2.saved.y, .int .i64 e395.2.saved.style.fore, .int .i64 e395.2.saved.style.back, .bool e395.2.saved.style.bold, .bool e395.2.saved.style.under, .bool e395.2.saved.style.inverse, .bool e395.2.waiting, .int .i64 e395.2.top, .int .i64 e395.2.bottom, .bool e395.2.wraps, .string e395.2.title]] [] ?_ ?_
 ·refine Tl ?_
  refine Tq (η := Unit) (fun s266 h => [(16, .int .i64 s266.2.2)]) [0, 1, 4, 15] (fun s266 h => [Ch.arr tyRowRow 52 A0 C0 s266.2.1.l, Ch.box N1 96 [.int .i64 s266.2.1.w, .slice A0 s266.2.1.l.length C0], Ch.box N0 81 [.pointer (some ⟨N1, 0, none⟩), .int .i64 s266.1.spot.x, .int .i64 s266.1.spot.y, .int .i64 s266.1.spot.style.fore, .int .i64 s266.1.spot.style.back, .bool s266.1.spot.style.bold, .bool s266.1.spot.style.under, .bool s266.1.spot.style.inverse, .int .i64 s266.1.saved.x, .int .i64 s266.1.saved.y, .int .i64 s266.1.saved.style.fore, .int .i64 s266.1.saved.style.back, .bool s266.1.saved.style.bold, .bool s266.1.saved.style.under, .bool s266.1.saved.style.inverse, .bool s266.1.waiting, .int .i64 s266.1.top, .int .i64 s266.1.bottom, .bool s266.1.wraps, .string s266.1.title]]) [] (fun _ _ => []) () [1, 0, 0] [] H396 ?_
  rintro k_ s266 ⟨⟩ z399 H398 hag400 hbr401
  refine Ts (Tr ?_)
  refine Lq 1 ?_
  refine Ln (Et (Ts ?_))
  refine Tb H398 (fun H403 => ?_) fun H403 => ?_
  ·refine Tk (Et (Ts ?_))
   obtain ⟨e485, H486, H487⟩ := bnd H403
   refine Tj0 [] [0, 1, 4, 15, 16] [Ch.arr tyRowRow 52 A0 C0 e485.1.l, Ch.box N1 96 [.int .i64 e485.1.w, .slice A0 e485.1.l.length C0], Ch.box N0 81 [.pointer (some ⟨N1, 0, none⟩), .int .i64 e485.2.spot.x, .int .i64 e485.2.spot.y, .int .i64 e485.2.spot.style.fore, .int .i64 e485.2.spot.style.back, .bool e485.2.spot.style.bold, .bool e485.2.spot.style.under, .bool e485.2.spot.style.inverse, .int .i64 e485.2.saved.x, .int .i64 e485.2.saved.y, .int .i64 e485.2.saved.style.fore, .int .i64 e485.2.saved.style.back, .bool e485.2.saved.style.bold, .bool e485.2.saved.style.under, .bool e485.2.saved.style.inverse, .bool e485.2.waiting, .int .i64 e485.2.top, .int .i64 e485.2.bottom, .bool e485.2.wraps, .string e485.2.title]] [] ?_ ?_
   ·refine Tl (Ts (Tr ?_))
    refine Lq 2 ?_
    refine Ln (Et (Ts ?_))
    obtain ⟨e509, H510, H511⟩ := bnd H486
    refine Tj0 [(55, .bool e509)] [0, 1, 4, 6, 15, 16] [] [1, 2, 0] ?_ ?_
    ·refine Tr ?_
     refine Lq 5 ?_
     refine Lb 2 ?_
     refine Lq 2 ?_
     refine Lw 26 H510 (fun H512 => ?_) fun H512 => ?_
     ·refine Lq 4 ?_
      refine Lw 30 H512 (fun H513 => ?_) fun H513 => ?_
      ·refine Lq 25 ?_
       refine Ln ?_
       obtain rfl := sm H513
       exact Eg0 [1, 1, 0] 0
      refine Lq 5 ?_
      refine Lb 2 ?_
      refine Lq 2 ?_
      refine Lw 38 H513 (fun H514 => ?_) fun H514 => ?_
      ·refine Lq 5 ?_
       refine Lw 43 H514 (fun H515 => ?_) fun H515 => ?_
       ·refine Lq 12 ?_
        refine Ln ?_
        obtain rfl := sm H515
        exact Eg0 [1, 1, 0] 0
       refine Lq 5 ?_
       refine Lb 2 ?_
       refine Lq 2 ?_
       refine Lw 51 H515 (fun H516 => ?_) fun H516 => ?_
       ·refine Lq 4 ?_
        refine Ln ?_
        obtain rfl := sm H516
        exact Eg0 [1, 1, 0] 0
       refine Lq 4 ?_
       refine Ln ?_
       obtain rfl := sm H516
       exact Eg0 [1, 1, 0] 0
      refine Lq 10 ?_
      refine Lb 2 ?_
      refine Lq 2 ?_
      refine Lw 51 H514 (fun H517 => ?_) fun H517 => ?_
      ·refine Lq 4 ?_
       refine Ln ?_
       obtain rfl := sm H517
       exact Eg0 [1, 1, 0] 0
      refine Lq 4 ?_
      refine Ln ?_
      obtain rfl := sm H517
      exact Eg0 [1, 1, 0] 0
     refine Lq 9 ?_
     refine Lb 2 ?_
     refine Lq 2 ?_
     refine Lw 38 H512 (fun H518 => ?_) fun H518 => ?_
     ·refine Lq 5 ?_
      refine Lw 43 H518 (fun H519 => ?_) fun H519 => ?_
      ·refine Lq 12 ?_
       refine Ln ?_
       obtain rfl := sm H519
       exact Eg0 [1, 1, 0] 0
      refine Lq 5 ?_
      refine Lb 2 ?_
      refine Lq 2 ?_
      refine Lw 51 H519 (fun H520 => ?_) fun H520 => ?_
      ·refine Lq 4 ?_
       refine Ln ?_
       obtain rfl := sm H520
       exact Eg0 [1, 1, 0] 0
      refine Lq 4 ?_
      refine Ln ?_
      obtain rfl := sm H520
      exact Eg0 [1, 1, 0] 0
     refine Lq 10 ?_
     refine Lb 2 ?_
     refine Lq 2 ?_
     refine Lw 51 H518 (fun H521 => ?_) fun H521 => ?_
     ·refine Lq 4 ?_
      refine Ln ?_
      obtain rfl := sm H521
      exact Eg0 [1, 1, 0] 0
     refine Lq 4 ?_
     refine Ln ?_
     obtain rfl := sm H521
     exact Eg0 [1, 1, 0] 0
    refine Tb H511 (fun H522 => ?_) fun H522 => ?_
    ·refine Tr ?_
     refine Lq 3 ?_
     obtain ⟨r523, h524, H525⟩ := bnd H522
     refine Lk [1, 0, 0] [] (c_screen_Screen_erase h524) fun ⟨⟩ => ?_
     refine Ln (Eb ?_)
     obtain rfl := sm H525
     exact Eg0 [2, 1, 0] 0
    refine Tk (Eb ?_)
    obtain rfl := sm H522
    exact Eg0 [2, 0, 0] 0
   refine Tr ?_
   refine Lq 2 ?_
   refine Ln ?_
   obtain rfl := sm H487
   exact Eg (_, ()) (hag400 _ rfl) [0, 0, 0] [] 0
  refine Tx (Ex (Ex (Eh ?_)))
  obtain rfl := sm H403
  have hb := hbr401 _ rfl
  subst e395
  exact Eg0 [0, 0, 0] 0
 refine Tr ?_
 refine Lq 2 ?_
 obtain ⟨r527, h528, H529⟩ := bnd H397
 refine Lk [2, 1, 0] [] (c_screen_Screen_part h528) fun ⟨⟩ => ?_
 refine Ln (E.off ?_)
 obtain rfl := sm H529
 exact Eo () [0, 0, 0] [] .nil

theorem c_row_Row_within {r_ : RowRow} {at_ : Int} {n_ : Int} {r : Int} (H : p_row_Row_within r_ at_ n_ = some r) : CT G 136 [.agg #[.slice A0 r_.cells.length C0, .bool r_.wrapped], .int .i64 at_, .int .i64 n_] [] [Im.sl tyRowCell A0 C0 r_.cells] (fun _ : Unit => .int .i64 r) (fun h => []) (fun h => []) := by
 delta p_row_Row_within at H
 refine CT.of Go.Proofs.Tryz.func136 (by kernel_rfl) rfl rfl rfl fun K => ?_
 refine Ts (Tr ?_)
 refine Lx fun g1 => ?_
 refine Lq 1 ?_
 refine Ln (Et (Ts (Ts ?_)))
 obtain ⟨e5, H6, H7⟩ := bnd H
 refine Tj0 [(15, .bool e5)] [1, 2, 3] [] [0] ?_ ?_
 ·refine Tr ?_
  refine Lq 3 ?_
  refine Lw 9 H6 (fun H8 => ?_) fun H8 => ?_
  ·refine Lq 6 ?_
   refine Ln ?_
   obtain rfl := sm H8
   exact Eg0 [0] 0
  refine Lq 2 ?_
  refine Lb 0 ?_
  refine Lq 3 ?_
  refine Ln ?_
  obtain rfl := sm H8
  exact Eg0 [0] 0
 refine Tb H7 (fun H10 => ?_) fun H10 => ?_
 ·refine Ts (Tr ?_)
  refine Lq 1 ?_
  refine Ln (Et (Tv (Er ?_)))
  obtain rfl := sm H10
  exact Eo1 () [] []
 refine Tk (Et (Ts (Tr ?_)))
 refine Lq 2 ?_
 refine Lb 0 ?_
 refine Lq 3 ?_
 obtain ⟨r11, h12, H13⟩ := bnd H10
 refine Lk [] [] (c_row_clip h12) fun ⟨⟩ => ?_
 refine Lq 1 ?_
 refine Ln (Et (Tv ?_))
 obtain rfl := sm H13
 exact Eo1 () [] []

theorem c_slices_Grow_row_Cell {n_ : Int} {r : (List RowCell)} (H : p_slices_Grow_row_Cell n_ = some r) : CT G 139 [.slice none 0 0, .int .i64 n_] [] [] (fun h : (Option Addr × Nat) => .slice h.1 r.length h.2) (fun h => [Ch.arr tyRowCell 98 h.1 h.2 r]) (fun h => []) := by
 delta p_slices_Grow_row_Cell at H
 refine CT.of Go.Proofs.Tryz.func139 (by kernel_rfl) rfl rfl rfl fun K => ?_
 refine Ts (Tr ?_)
 refine Lq 1 ?_
 refine Ln (Et (Ts (Ts (Tr ?_))))
 refine Lq 2 ?_
 refine Ln (Et ?_)
 refine Tb H (fun H2 => ?_) fun H2 => ?_
 ·cases H2
 refine Tk (Et (Ts (Ts (Tr ?_))))
 refine Lq 8 ?_
 refine Ln (Et (Ts (Tr ?_)))
 refine Lq 2 ?_
 refine Ln (Et ?_)
 obtain ⟨e29, H30, H31⟩ := bnd H2
 refine Tjh (η := (Option Addr × Nat)) (fun h => (fun a26 c27 => [(0, .slice a26 e29.length c27)]) h.1 h.2) [] (fun h => (fun a26 c27 => [Ch.arr tyRowCell 98 a26 c27 e29]) h.1 h.2) [] (fun _ => []) ?_ ?_
 ·refine Tb H30 (fun H32 => ?_) fun H32 => ?_
  ·refine Tr ?_
   refine Lq 3 ?_
   refine Ly (Yl.snil rfl rfl rfl rfl rfl rfl rfl) ?_
   refine Lq 1 ?_
   obtain ⟨_, h33, H34⟩ := bnd H32
   refine La [] [] (Ac.gz (ty := tyRowCell) (RowCell.mk 0 0 0) () h33 (fun _ _ f hf => by cases hf) rfl rfl rfl rfl rfl rfl rfl rfl rfl rfl) ?_
   rintro ⟨a35, c36⟩
   refine Lq 2 ?_
   obtain ⟨_, h38, H39⟩ := bnd H34
   refine La [0] [] (Ac.rso h38 rfl rfl rfl rfl rfl rfl rfl) fun _ => ?_
   refine Lq 1 ?_
   refine Ln ?_
   obtain rfl := sm H39
   exact Eg (a35, c36) trivial [0] [] 0
  refine Tk ?_
  refine E.nil0 tyRowCell 98 ?_
  obtain rfl := sm H32
  exact Eg (none, 0) trivial [0] [] 0
 rintro ⟨a26, c27⟩
 refine Ts (Tr ?_)
 refine Lq 2 ?_
 refine Ln (Et (Tv ?_))
 obtain rfl := sm H31
 exact Eo1 (a26, c27) [0] []

theorem c_slices_Concat_row_Cell {slices : List (List RowCell)} {r : (List RowCell)} (H : p_slices_Concat_row_Cell slices = some r) : CT G 137 [.slice A0 slices.length C0] [] [Im.sl (Ty.slice tyRowCell) A0 C0 slices] (fun h : (Option Addr × Nat) => .slice h.1 r.length h.2) (fun h => [Ch.arr tyRowCell 98 h.1 h.2 r]) (fun h => []) := by
 delta p_slices_Concat_row_Cell at H
 refine CT.of Go.Proofs.Tryz.func137 (by kernel_rfl) rfl rfl rfl fun K => ?_
 refine Ts (Tr ?_)
 refine Lq 1 ?_
 refine Ln (Et (Ts (Tr ?_)))
 refine Lq 1 ?_
 refine Ln (Et (Ts (Ts (Tr ?_))))
 refine Lq 3 ?_
 refine Ln (Et ?_)
 obtain ⟨e81, H82, H83⟩ := bnd H
 refine Tj0 [(3, .int .i64 e81)] [0] [] [] ?_ ?_
 ·refine Tl ?_
  refine Tq (η := Unit) (fun s55 h => [(3, .int .i64 s55.2), (11, .int .i64 s55.1)]) [0, 9, 10] (fun _ _ => []) [] (fun _ _ => []) () [] [] H82 ?_
  rintro k_ s55 ⟨⟩ z85 H84 hag86 hbr87
  refine Ts (Tr ?_)
  refine Lq 1 ?_
  refine Ln (Et (Ts ?_))
  refine Tb H84 (fun H89 => ?_) fun H89 => ?_
  ·refine Tk (Et (Ts (Tl (Ts (Tr ?_)))))
   obtain ⟨x101, h102, H103⟩ := bnd H89
   refine L.addr 0 rfl (idx_lt h102) fun b104 o105 e106 => ?_
   subst e106
   refine Ly (Yl.ia h102 rfl rfl rfl rfl rfl rfl) ?_
   refine L.el 0 rfl (idx_some h102).2 ?_
   rintro ⟨a107, c108⟩
   refine Lc 0 0 ?_
   refine Lq 1 ?_
   refine Ln (Et (Ts (Tr ?_)))
   refine Lq 5 ?_
   refine Ln (Et (Ts (Tr ?_)))
   refine Lq 2 ?_
   refine Ln (Et ?_)
   refine Tb H103 (fun H111 => ?_) fun H111 => ?_
   ·cases H111
   refine Tk (Eb (Et (Tr ?_)))
   refine Lq 2 ?_
   refine Ln ?_
   obtain rfl := sm H111
   exact Eg (_, ()) (hag86 _ rfl) [] [] 2
  refine Tx (Ex (Ex (Eh ?_)))
  obtain rfl := sm H89
  have hb := hbr87 _ rfl
  subst e81
  exact Eg0 [] 0
 refine Ts (Tr ?_)
 refine Lq 1 ?_
 obtain ⟨r112, h113, H114⟩ := bnd H83
 refine Lk [] [] (c_slices_Grow_row_Cell h113) fun ⟨a115, c116⟩ => ?_
 refine Lq 1 ?_
 refine Ln (Et (Ts (Ts (Tr ?_))))
 refine Lq 3 ?_
 refine Ln (Et ?_)
 obtain ⟨e234, H235, H236⟩ := bnd H114
 refine Tjh (η := (Option Addr × Nat)) (fun h => (fun a231 c232 => [(6, .slice a231 e234.length c232)]) h.1 h.2) [] (fun h => (fun a231 c232 => [Ch.arr tyRowCell 98 a231 c232 e234]) h.1 h.2) [] (fun _ => []) ?_ ?_
 ·refine Tl ?_
  refine Tq (η := (Option Addr × Nat)) (fun s197 h => (fun a194 c195 => [(6, .slice a194 s197.2.length c195), (27, .int .i64 s197.1)]) h.1 h.2) [25, 26] (fun s197 h => (fun a194 c195 => [Ch.arr tyRowCell 98 a194 c195 s197.2]) h.1 h.2) [] (fun _ _ => []) (a115, c116) [0] [] H235 ?_
  rintro k_ s197 ⟨a194, c195⟩ z238 H237 hag239 hbr240
  refine Ts (Tr ?_)
  refine Lq 1 ?_
  refine Ln (Et (Ts ?_))
  refine Tb H237 (fun H242 => ?_) fun H242 => ?_
  ·refine Tk (Et (Ts (Tl (Ts (Tr ?_)))))
   obtain ⟨x258, h259, H260⟩ := bnd H242
   refine L.addr 0 rfl (idx_lt h259) fun b261 o262 e263 => ?_
   subst e263
   refine Ly (Yl.ia h259 rfl rfl rfl rfl rfl rfl) ?_
   refine L.el 0 rfl (idx_some h259).2 ?_
   rintro ⟨a264, c265⟩
   refine Lc 0 0 ?_
   refine Lq 1 ?_
   refine Ln (Et (Tr ?_))
   refine Lq 2 ?_
   obtain ⟨_, h268, H269⟩ := bnd H260
   refine La [0] [1] (Ac.ap (ty := tyRowCell) h268 rfl rfl rfl rfl rfl rfl rfl) ?_
   rintro ⟨a270, c271⟩
   refine Lq 1 ?_
   refine Ln (Eb (Et (Tr ?_)))
   refine Lq 2 ?_
   refine Ln ?_
   obtain rfl := sm H269
   exact Eg (_, (a270, c271)) (hag239 _ rfl) [0] [] 2
  refine Tx (Ex (Ex (Eh ?_)))
  obtain rfl := sm H242
  have hb := hbr240 _ rfl
  subst e234
  exact Eg (a194, c195) trivial [0] [] 0
 rintro ⟨a231, c232⟩
 refine Ts (Tr ?_)
 refine Lq 2 ?_
 refine Ln (Et (Tv ?_))
 obtain rfl := sm H236
 exact Eo1 (a231, c232) [0] []

theorem c_row_Row_Insert {r_ : RowRow} {at_ : Int} {n_ : Int} {style : Int} {r : RowRow} (H : p_row_Row_Insert r_ at_ n_ style = some r) : CT G 113 [.agg #[.slice A0 r_.cells.length C0, .bool r_.wrapped], .int .i64 at_, .int .i64 n_, .int .i64 style] [] [Im.sl tyRowCell A0 C0 r_.cells] (fun h : (Option Addr × Nat) => .agg #[.slice h.1 r.cells.length h.2, .bool r.wrapped]) (fun h => []) (fun h => [Im.sl tyRowCell h.1 h.2 r.cells]) := by
 delta p_row_Row_Insert at H
 refine CT.of Go.Proofs.Tryz.func113 (by kernel_rfl) rfl rfl rfl fun K => ?_
 refine Ts (Tr ?_)
 refine Lx fun g1 => ?_
 refine Ll fun g2 => ?_
 refine Ln (Et (Ts (Tr ?_)))
 refine Lb 1 ?_
 refine Lq 2 ?_
 obtain ⟨r3, h4, H5⟩ := bnd H
 refine Lk [] [0] (c_row_Row_within h4) fun ⟨⟩ => ?_
 refine Lq 1 ?_
 refine Ln (Et (Ts (Ts (Tr ?_))))
 refine Lq 2 ?_
 refine Ln (Et ?_)
 refine Tb H5 (fun H17 => ?_) fun H17 => ?_
 ·refine Ts (Tr ?_)
  refine Lb 1 ?_
  obtain ⟨r18, h19, H20⟩ := bnd H17
  refine Lk [] [0] (c_row_Row_cells h19) fun ⟨a21, c22⟩ => ?_
  obtain ⟨r24, h25, H26⟩ := bnd H20
  refine Lk [0] [] (c_row_mend h25) fun ⟨⟩ => ?_
  refine Lt 0 ?_
  refine Ln (Et (Tv (Er ?_)))
  obtain rfl := sm H26
  exact Eo (a21, c22) [] [0] (.cell 0 rfl rfl rfl .nil)
 refine Tk (Et (Ts ?_))
 refine Td [] [0, 0] mo ?_
 refine Dq 0 ?_
 refine Db 1 1 ?_
 refine Dq 2 ?_
 obtain ⟨_, h106, H107⟩ := bnd H17
 refine D.rsl 0 3 h106 rfl rfl rfl rfl rfl rfl rfl rfl rfl rfl rfl rfl rfl rfl ?_
 intro a108 c109
 refine Dq 4 ?_
 refine Dq 5 ?_
 refine Dq 7 ?_
 refine Db 8 1 ?_
 refine Dq 9 ?_
 obtain ⟨_, h111, H112⟩ := bnd H107
 refine D.rsl 1 10 h111 rfl rfl rfl rfl rfl rfl rfl rfl rfl rfl rfl rfl rfl rfl ?_
 intro a113 c114
 obtain ⟨r116, h117, H118⟩ := bnd H112
 refine Dk [] [] (c_row_blanks h117) fun ⟨a119, c120⟩ => ?_
 refine D.frz 0 rfl ?_
 refine Da [] [2, 0, 1] rfl rfl (Ac.bs (ty := (Ty.slice tyRowCell)) (xs := [(cut r_.cells 0 at_), r116, (cut r_.cells at_ (r_.cells.length : Int))]) (.cons (a108, c109) [0] rfl (.cons (a119, c120) [1] rfl (.cons (a113, c114) [2] rfl .nil))) rfl rfl rfl rfl rfl rfl rfl) fun g123 => ?_
 refine D.frz 0 rfl ?_
 obtain ⟨r126, h127, H128⟩ := bnd H118
 refine Dk [] [0] (c_slices_Concat_row_Cell h127) fun ⟨a129, c130⟩ => ?_
 refine Dq 13 ?_
 refine Dn ?_
 refine Et (Ts (Tr ?_))
 refine Lq 2 ?_
 refine Lb 1 ?_
 refine Lq 1 ?_
 obtain ⟨_, h132, H133⟩ := bnd H128
 refine La [2] [] (Ac.rso h132 rfl rfl rfl rfl rfl rfl rfl) fun _ => ?_
 obtain ⟨r137, h138, H139⟩ := bnd H133
 refine Lk [0] [] (c_row_mend h138) fun ⟨⟩ => ?_
 refine Lt 0 ?_
 refine Ln (Et (Tv ?_))
 obtain rfl := sm H139
 exact Eo (a129, c130) [] [0] (.cell 0 rfl rfl rfl .nil)

theorem c_row_Row_Delete {r_ : RowRow} {at_ : Int} {n_ : Int} {style : Int} {r : RowRow} (H : p_row_Row_Delete r_ at_ n_ style = some r) : CT G 114 [.agg #[.slice A0 r_.cells.length C0, .bool r_.wrapped], .int .i64 at_, .int .i64 n_, .int .i64 style] [] [Im.sl tyRowCell A0 C0 r_.cells] (fun h : (Option Addr × Nat) => .agg #[.slice h.1 r.cells.length h.2, .bool r.wrapped]) (fun h => []) (fun h => [Im.sl tyRowCell h.1 h.2 r.cells]) := by
 delta p_row_Row_Delete at H
 refine CT.of Go.Proofs.Tryz.func114 (by kernel_rfl) rfl rfl rfl fun K => ?_
 refine Ts (Tr ?_)
 refine Lx fun g1 => ?_
 refine Ll fun g2 => ?_
 refine Ln (Et (Ts (Tr ?_)))
 refine Lb 1 ?_
 refine Lq 2 ?_
 obtain ⟨r3, h4, H5⟩ := bnd H
 refine Lk [] [0] (c_row_Row_within h4) fun ⟨⟩ => ?_
 refine Lq 1 ?_
 refine Ln (Et (Ts (Ts (Tr ?_))))
 refine Lq 2 ?_
 refine Ln (Et ?_)
 refine Tb H5 (fun H17 => ?_) fun H17 => ?_
 ·refine Ts (Tr ?_)
  refine Lb 1 ?_
  obtain ⟨r18, h19, H20⟩ := bnd H17
  refine Lk [] [0] (c_row_Row_cells h19) fun ⟨a21, c22⟩ => ?_
  obtain ⟨r24, h25, H26⟩ := bnd H20
  refine Lk [0] [] (c_row_mend h25) fun ⟨⟩ => ?_
  refine Lt 0 ?_
  refine Ln (Et (Tv (Er ?_)))
  obtain rfl := sm H26
  exact Eo (a21, c22) [] [0] (.cell 0 rfl rfl rfl .nil)
 refine Tk (Et (Ts ?_))
 refine Td [16] [0, 0] mo ?_
 refine Dq 0 ?_
 refine Db 1 1 ?_
 refine Dq 2 ?_
 obtain ⟨_, h118, H119⟩ := bnd H17
 refine D.rsl 0 3 h118 rfl rfl rfl rfl rfl rfl rfl rfl rfl rfl rfl rfl rfl rfl ?_
 intro a120 c121
 refine Dq 4 ?_
 refine Db 5 1 ?_
 refine Dq 6 ?_
 refine Dq 7 ?_
 refine Dq 8 ?_
 obtain ⟨_, h123, H124⟩ := bnd H119
 refine D.rsl 1 9 h123 rfl rfl rfl rfl rfl rfl rfl rfl rfl rfl rfl rfl rfl rfl ?_
 intro a125 c126
 refine Dq 10 ?_
 refine Dq 11 ?_
 obtain ⟨r128, h129, H130⟩ := bnd H124
 refine Dk [] [] (c_row_blanks h129) fun ⟨a131, c132⟩ => ?_
 refine D.frz 0 rfl ?_
 refine Da [] [2, 1, 0] rfl rfl (Ac.bs (ty := (Ty.slice tyRowCell)) (xs := [(cut r_.cells 0 at_), (cut r_.cells (IntKind.i64.wrap (at_ + r3)) (r_.cells.length : Int)), r128]) (.cons (a120, c121) [0] rfl (.cons (a125, c126) [1] rfl (.cons (a131, c132) [2] rfl .nil))) rfl rfl rfl rfl rfl rfl rfl) fun g135 => ?_
 refine D.frz 0 rfl ?_
 obtain ⟨r138, h139, H140⟩ := bnd H130
 refine Dk [] [0] (c_slices_Concat_row_Cell h139) fun ⟨a141, c142⟩ => ?_
 obtain ⟨r144, h145, H146⟩ := bnd H140
 refine Dk [0] [] (c_row_mend h145) fun ⟨⟩ => ?_
 refine Dt 0 ?_
 refine Dn ?_
 refine Et (Tv ?_)
 obtain rfl := sm H146
 exact Eo (a141, c142) [] [0] (.cell 0 rfl rfl rfl .nil)

theorem c_screen_Screen_cells_1 {r_ : RowRow} {x1 : Int} {x2 : ScreenScreen} {x3 : Int} {r : RowRow} (H : p_screen_Screen_cells_1 r_ x1 x2 x3 = some r) : CT G 112 [.agg #[.slice A0 r_.cells.length C0, .bool r_.wrapped], .pointer (some ⟨N0, 0, none⟩), .pointer (some ⟨N1, 0, none⟩), .pointer (some ⟨N4, 0, none⟩)] [Ch.box N0 5 [.int .u8 x1], Ch.box N1 23 [.pointer (some ⟨N2, 0, none⟩)], Ch.box N2 81 [.pointer (some ⟨N3, 0, none⟩), .int .i64 x2.spot.x, .int .i64 x2.spot.y, .int .i64 x2.spot.style.fore, .int .i64 x2.spot.style.back, .bool x2.spot.style.bold, .bool x2.spot.style.under, .bool x2.spot.style.inverse, .int .i64 x2.saved.x, .int .i64 x2.saved.y, .int .i64 x2.saved.style.fore, .int .i64 x2.saved.style.back, .bool x2.saved.style.bold, .bool x2.saved.style.under, .bool x2.saved.style.inverse, .bool x2.waiting, .int .i64 x2.top, .int .i64 x2.bottom, .bool x2.wraps, .string x2.title], Ch.box N3 96 [.int .i64 x2.g.w, .slice A1 x2.g.l.length C1], Ch.arr tyRowRow 52 A1 C1 x2.g.l, Ch.box N4 3 [.int .i64 x3]] [Im.sl tyRowCell A0 C0 r_.cells] (fun h : (Option Addr × Nat) => .agg #[.slice h.1 r.cells.length h.2, .bool r.wrapped]) (fun h => [Ch.box N0 5 [.int .u8 x1], Ch.box N1 23 [.pointer (some ⟨N2, 0, none⟩)], Ch.box N2 81 [.pointer (some ⟨N3, 0, none⟩), .int .i64 x2.spot.x, .int .i64 x2.spot.y, .int .i64 x2.spot.style.fore, .int .i64 x2.spot.style.back, .bool x2.spot.style.bold, .bool x2.spot.style.under, .bool x2.spot.style.inverse, .int .i64 x2.saved.x, .int .i64 x2.saved.y, .int .i64 x2.saved.style.fore, .int .i64 x2.saved.style.back, .bool x2.saved.style.bold, .bool x2.saved.style.under, .bool x2.saved.style.inverse, .bool x2.waiting, .int .i64 x2.top, .int .i64 x2.bottom, .bool x2.wraps, .string x2.title], Ch.box N3 96 [.int .i64 x2.g.w, .slice A1 x2.g.l.length C1], Ch.arr tyRowRow 52 A1 C1 x2.g.l, Ch.box N4 3 [.int .i64 x3]]) (fun h => [Im.sl tyRowCell h.1 h.2 r.cells]) := by
 delta p_screen_Screen_cells_1 at H
 refine CT.of Go.Proofs.Tryz.func112 (by kernel_rfl) rfl rfl rfl fun K => ?_
 refine Ts (Tr ?_)
 refine Lx fun g1 => ?_
 refine Ll fun g2 => ?_
 refine Ln (Et (Ts (Ts (Tr ?_))))
 refine Lb 2 ?_
 refine Ln (Et (Tl (Ts (Tr ?_))))
 refine Lq 2 ?_
 refine Ln (Et ?_)
 refine Tb H (fun H77 => ?_) fun H77 => ?_
 ·refine Ts ?_
  refine Td [9, 10] [0, 0, 0, 0, 0, 0, 0, 0] mo ?_
  refine Db 0 1 ?_
  refine Db 1 3 ?_
  refine Dq 2 ?_
  refine Dq 3 ?_
  refine Dq 4 ?_
  refine Db 5 4 ?_
  refine Db 6 7 ?_
  refine Db 7 3 ?_
  obtain ⟨r105, h106, H107⟩ := bnd H77
  refine D.one rfl rfl rfl (Dp.br (Ac.call (c_screen_Screen_num h106) rfl rfl rfl rfl) (Bw.bx 4 rfl (Bw.bx 5 rfl (Bw.ch 6 rfl (Bw.nil)))) rfl rfl rfl rfl ?_)
  intro _
  obtain ⟨r108, h109, H110⟩ := bnd H107
  refine Dkl [] [0] (c_row_Row_Insert h109) fun ⟨a111, c112⟩ => ?_
  refine Dt 0 ?_
  refine Dn ?_
  refine Et (Tv (Ev (Er ?_)))
  obtain rfl := sm H110
  exact Eo (a111, c112) [2, 2, 2, 2, 2, 2] [0] (.cell 0 rfl rfl rfl .nil)
 refine Ts (Tr ?_)
 refine Lq 2 ?_
 refine Ln (Et ?_)
 refine Tb H77 (fun H114 => ?_) fun H114 => ?_
 ·refine Ts ?_
  refine Td [9, 10] [0, 0, 0, 0, 0, 0, 0, 0] mo ?_
  refine Db 0 1 ?_
  refine Db 1 3 ?_
  refine Dq 2 ?_
  refine Dq 3 ?_
  refine Dq 4 ?_
  refine Db 5 4 ?_
  refine Db 6 7 ?_
  refine Db 7 3 ?_
  obtain ⟨r142, h143, H144⟩ := bnd H114
  refine D.one rfl rfl rfl (Dp.br (Ac.call (c_screen_Screen_num h143) rfl rfl rfl rfl) (Bw.bx 4 rfl (Bw.bx 5 rfl (Bw.ch 6 rfl (Bw.nil)))) rfl rfl rfl rfl ?_)
  intro _
  obtain ⟨r145, h146, H147⟩ := bnd H144
  refine Dkl [] [0] (c_row_Row_Delete h146) fun ⟨a148, c149⟩ => ?_
  refine Dt 0 ?_
  refine Dn ?_
  refine Et (Tv (Ev (Er ?_)))
  obtain rfl := sm H147
  exact Eo (a148, c149) [2, 2, 2, 2, 2, 2] [0] (.cell 0 rfl rfl rfl .nil)
 refine Tk (Eb (Et (Ts ?_)))
 refine Td [16] [0, 0, 0, 0, 0, 0, 0, 0] mo ?_
 refine Db 0 1 ?_
 refine Db 1 3 ?_
 refine Dq 2 ?_
 refine Dq 3 ?_
 refine Dq 4 ?_
 refine Db 5 4 ?_
 refine Db 6 3 ?_
 refine Dq 7 ?_
 refine Dq 8 ?_
 refine Dq 9 ?_
 refine Db 10 4 ?_
 refine Db 11 7 ?_
 refine Dq 12 ?_
 refine Db 13 3 ?_
 obtain ⟨r178, h179, H180⟩ := bnd H114
 refine D.one rfl rfl rfl (Dp.br (Ac.call (c_screen_Screen_num h179) rfl rfl rfl rfl) (Bw.bx 4 rfl (Bw.bx 5 rfl (Bw.ch 6 rfl (Bw.nil)))) rfl rfl rfl rfl ?_)
 intro _
 obtain ⟨r181, h182, H183⟩ := bnd H180
 refine Dk [] [0] (c_row_Row_Erase h182) fun ⟨a184, c185⟩ => ?_
 refine Dt 0 ?_
 refine Dn ?_
 refine Et (Tv ?_)
 obtain rfl := sm H183
 exact Eo (a184, c185) [2, 2, 2, 2, 2, 2] [0] (.cell 0 rfl rfl rfl .nil)

theorem c_screen_Screen_edit_Screen_cells_1 {s_ : ScreenScreen} {f_0 : Int} {f_2 : Int} {r : ScreenScreen} (H : p_screen_Screen_edit_Screen_cells_1 s_ f_0 f_2 = some r) : CT G 62 [.pointer (some ⟨N0, 0, none⟩), .func (.func 112) #[] #[.pointer (some ⟨N2, 0, none⟩), .pointer (some ⟨N3, 0, none⟩), .pointer (some ⟨N4, 0, none⟩)]] [Ch.box N0 81 [.pointer (some ⟨N1, 0, none⟩), .int .i64 s_.spot.x, .int .i64 s_.spot.y, .int .i64 s_.spot.style.fore, .int .i64 s_.spot.style.back, .bool s_.spot.style.bold, .bool s_.spot.style.under, .bool s_.spot.style.inverse, .int .i64 s_.saved.x, .int .i64 s_.saved.y, .int .i64 s_.saved.style.fore, .int .i64 s_.saved.style.back, .bool s_.saved.style.bold, .bool s_.saved.style.under, .bool s_.saved.style.inverse, .bool s_.waiting, .int .i64 s_.top, .int .i64 s_.bottom, .bool s_.wraps, .string s_.title], Ch.box N1 96 [.int .i64 s_.g.w, .slice A0 s_.g.l.length C0], Ch.arr tyRowRow 52 A0 C0 s_.g.l, Ch.box N2 5 [.int .u8 f_0], Ch.box N3 23 [.pointer (some ⟨N0, 0, none⟩)], Ch.box N4 3 [.int .i64 f_2]] [] (fun _ : Unit => .tuple #[]) (fun h => [Ch.box N0 81 [.pointer (some ⟨N1, 0, none⟩), .int .i64 r.spot.x, .int .i64 r.spot.y, .int .i64 r.spot.style.fore, .int .i64 r.spot.style.back, .bool r.spot.style.bold, .bool r.spot.style.under, .bool r.spot.style.inverse, .int .i64 r.saved.x, .int .i64 r.saved.y, .int .i64 r.saved.style.fore, .int .i64 r.saved.style.back, .bool r.saved.style.bold, .bool r.saved.style.under, .bool r.saved.style.inverse, .bool r.waiting, .int .i64 r.top, .int .i64 r.bottom, .bool r.wraps, .string r.title], Ch.box N1 96 [.int .i64 r.g.w, .slice A0 r.g.l.length C0], Ch.arr tyRowRow 52 A0 C0 r.g.l, Ch.box N2 5 [.int .u8 f_0], Ch.box N3 23 [.pointer (some ⟨N0, 0, none⟩)], Ch.box N4 3 [.int .i64 f_2]]) (fun h => []) := by
 delta p_screen_Screen_edit_Screen_cells_1 at H
 refine CT.of Go.Proofs.Tryz.func62 (by kernel_rfl) rfl rfl rfl fun K => ?_
 refine Td [21] [0, 0, 0, 0, 0, 0] mo ?_
 refine Dq 0 ?_
 refine Dq 1 ?_
 refine Dq 2 ?_
 refine Db 3 0 ?_
 refine Dq 4 ?_
 refine Dq 5 ?_
 refine Dq 6 ?_
 refine Dq 7 ?_
 refine Db 8 0 ?_
 refine Dq 9 ?_
 refine Dq 10 ?_
 refine Dq 11 ?_
 refine Dq 12 ?_
 refine Db 13 0 ?_
 refine Dq 14 ?_
 refine Dq 15 ?_
 refine Dq 16 ?_
 refine Dq 17 ?_
 refine Db 18 0 ?_
 obtain ⟨r17, h18, H19⟩ := bnd H
 refine D.one rfl rfl rfl (Dp.ab [1, 1] [] [2, 0, 0, 0, 0, 0] (Ac.call (c_grid_Grid_Row h18) rfl rfl rfl rfl) rfl rfl rfl rfl rfl rfl (fun _ => rfl) ?_)
 rintro ⟨a20, c21⟩
 obtain ⟨r23, h24, H25⟩ := bnd H19
 refine D.one rfl rfl rfl (Dp.ab [3, 3, 0, 0, 0, 0] [0] [2, 2, 2, 0, 0, 0] (Ac.call (c_screen_Screen_cells_1 h24) rfl rfl rfl rfl) rfl rfl rfl rfl rfl rfl (fun _ => rfl) ?_)
 rintro ⟨a26, c27⟩
 obtain ⟨r29, h30, H31⟩ := bnd H25
 refine Dkl [1, 1] [0] (c_grid_Grid_Set h30) fun ⟨⟩ => ?_
 refine Dn ?_
 refine E.off ?_
 obtain rfl := sm H31
 exact Eo () [2, 0, 0, 0, 0, 0] [] .nil

theorem c_screen_Screen_cells {s_ : ScreenScreen} {b : Int} {n_ : Int} {r : ScreenScreen} (H : p_screen_Screen_cells s_ b n_ = some r) : CT G 74 [.pointer (some ⟨N0, 0, none⟩), .int .u8 b, .int .i64 n_] [Ch.box N0 81 [.pointer (some ⟨N1, 0, none⟩), .int .i64 s_.spot.x, .int .i64 s_.spot.y, .int .i64 s_.spot.style.fore, .int .i64 s_.spot.style.back, .bool s_.spot.style.bold, .bool s_.spot.style.under, .bool s_.spot.style.inverse, .int .i64 s_.saved.x, .int .i64 s_.saved.y, .int .i64 s_.saved.style.fore, .int .i64 s_.saved.style.back, .bool s_.saved.style.bold, .bool s_.saved.style.under, .bool s_.saved.style.inverse, .bool s_.waiting, .int .i64 s_.top, .int .i64 s_.bottom, .bool s_.wraps, .string s_.title], Ch.box N1 96 [.int .i64 s_.g.w, .slice A0 s_.g.l.length C0], Ch.arr tyRowRow 52 A0 C0 s_.g.l] [] (fun _ : Unit => .tuple #[]) (fun h => [Ch.box N0 81 [.pointer (some ⟨N1, 0, none⟩), .int .i64 r.spot.x, .int .i64 r.spot.y, .int .i64 r.spot.style.fore, .int .i64 r.spot.style.back, .bool r.spot.style.bold, .bool r.spot.style.under, .bool r.spot.style.inverse, .int .i64 r.saved.x, .int .i64 r.saved.y, .int .i64 r.saved.style.fore, .int .i64 r.saved.style.back, .bool r.saved.style.bold, .bool r.saved.style.under, .bool r.saved.style.inverse, .bool r.waiting, .int .i64 r.top, .int .i64 r.bottom, .bool r.wraps, .string r.title], Ch.box N1 96 [.int .i64 r.g.w, .slice A0 r.g.l.length C0], Ch.arr tyRowRow 52 A0 C0 r.g.l]) (fun h => []) := by
 delta p_screen_Screen_cells at H
 refine CT.of Go.Proofs.Tryz.func74 (by kernel_rfl) rfl rfl rfl fun K => ?_
 refine Ts (Tr ?_)
 refine Lx fun g1 => ?_
 refine Lx fun g2 => ?_
 refine Lx fun g3 => ?_
 refine Ln (Et (Ts (Tr ?_)))
 refine Lb 2 ?_
 refine Lq 1 ?_
 obtain ⟨r4, h5, H6⟩ := bnd H
 refine Lk [3, 3, 3, 1, 1, 0] [] (c_screen_Screen_edit_Screen_cells_1 h5) fun ⟨⟩ => ?_
 refine Ln (Et (Tr ?_))
 refine Lb 4 ?_
 refine Lq 2 ?_
 refine Lt 0 ?_
 refine Ln (E.off ?_)
 obtain rfl := sm H6
 exact Eo () [0, 0, 0] [] .nil

theorem c_screen_Screen_shift {s_ : ScreenScreen} {b : Int} {n_ : Int} {r : ScreenScreen} (H : p_screen_Screen_shift s_ b n_ = some r) : CT G 75 [.pointer (some ⟨N0, 0, none⟩), .int .u8 b, .int .i64 n_] [Ch.box N0 81 [.pointer (some ⟨N1, 0, none⟩), .int .i64 s_.spot.x, .int .i64 s_.spot.y, .int .i64 s_.spot.style.fore, .int .i64 s_.spot.style.back, .bool s_.spot.style.bold, .bool s_.spot.style.under, .bool s_.spot.style.inverse, .int .i64 s_.saved.x, .int .i64 s_.saved.y, .int .i64 s_.saved.style.fore, .int .i64 s_.saved.style.back, .bool s_.saved.style.bold, .bool s_.saved.style.under, .bool s_.saved.style.inverse, .bool s_.waiting, .int .i64 s_.top, .int .i64 s_.bottom, .bool s_.wraps, .string s_.title], Ch.box N1 96 [.int .i64 s_.g.w, .slice A0 s_.g.l.length C0], Ch.arr tyRowRow 52 A0 C0 s_.g.l] [] (fun _ : Unit => .tuple #[]) (fun h => [Ch.box N0 81 [.pointer (some ⟨N1, 0, none⟩), .int .i64 r.spot.x, .int .i64 r.spot.y, .int .i64 r.spot.style.fore, .int .i64 r.spot.style.back, .bool r.spot.style.bold, .bool r.spot.style.under, .bool r.spot.style.inverse, .int .i64 r.saved.x, .int .i64 r.saved.y, .int .i64 r.saved.style.fore, .int .i64 r.saved.style.back, .bool r.saved.style.bold, .bool r.saved.style.under, .bool r.saved.style.inverse, .bool r.waiting, .int .i64 r.top, .int .i64 r.bottom, .bool r.wraps, .string r.title], Ch.box N1 96 [.int .i64 r.g.w, .slice A0 r.g.l.length C0], Ch.arr tyRowRow 52 A0 C0 r.g.l]) (fun h => []) := by
 delta p_screen_Screen_shift at H
 refine CT.of Go.Proofs.Tryz.func75 (by kernel_rfl) rfl rfl rfl fun K => ?_
 refine Ts (Ts ?_)
 obtain ⟨e6, H7, H8⟩ := bnd H
 refine Tj0 [(27, .bool e6)] [0, 1, 2] [] [0, 1, 2] ?_ ?_
 ·refine Td [] [0, 0, 0] mo ?_
  refine Dq 0 ?_
  refine Dq 1 ?_
  refine Dq 2 ?_
  refine Dq 3 ?_
  refine Db 4 0 ?_
  refine Dq 5 ?_
  refine Dq 6 ?_
  refine Dq 7 ?_
  refine Db 8 0 ?_
  refine Dq 9 ?_
  refine Dq 10 ?_
  refine D.cs 16 H7 rfl (fun hc H10 => ?_) (fun hc H10 => ?_)
  ·refine Ds 11 ?_
   refine Ds 12 ?_
   refine Ds 13 ?_
   refine Ds 14 ?_
   refine Ds 15 ?_
   refine Ds 16 ?_
   refine Ds 17 ?_
   refine Ds 18 ?_
   refine Ds 19 ?_
   refine Ds 20 ?_
   refine Dq 21 ?_
   refine Dn ?_
   obtain rfl := sm H10
   exact Eg0 [0, 0, 0] 0
  refine Dq 11 ?_
  refine Dq 12 ?_
  refine Dq 13 ?_
  refine Dq 14 ?_
  refine Db 15 0 ?_
  refine Dq 16 ?_
  refine Dq 17 ?_
  refine Dq 18 ?_
  refine Db 19 0 ?_
  refine Dq 20 ?_
  refine Dq 21 ?_
  refine Dn ?_
  obtain rfl := sm H10
  exact Eg0 [0, 0, 0] 0
 refine Tb H8 (fun H12 => ?_) fun H12 => ?_
 ·refine Tv (Er ?_)
  obtain rfl := sm H12
  exact Eo () [0, 0, 0] [] .nil
 refine Tk (Et (Ts (Ts (Tr ?_))))
 refine Lq 2 ?_
 refine Ln (Et ?_)
 obtain ⟨e97, H98, H99⟩ := bnd H12
 refine Tj0 [] [0] [Ch.arr tyRowRow 52 A0 C0 e97.l, Ch.box N1 96 [.int .i64 e97.w, .slice A0 e97.l.length C0]] [0] ?_ ?_
 ·refine Tb H98 (fun H100 => ?_) fun H100 => ?_
  ·refine Td [16] [0, 0, 0] mo ?_
   refine Dq 0 ?_
   refine Dq 1 ?_
   refine Dq 2 ?_
   refine Db 3 0 ?_
   refine Dq 4 ?_
   refine Dq 5 ?_
   refine Dq 6 ?_
   refine Dq 7 ?_
   refine Db 8 0 ?_
   refine Dq 9 ?_
   refine Dq 10 ?_
   refine Dq 11 ?_
   refine Db 12 0 ?_
   refine Dq 13 ?_
   refine Dq 14 ?_
   obtain ⟨r111, h112, H113⟩ := bnd H100
   refine D.one rfl rfl rfl (Dp.br (Ac.call (c_screen_Screen_num h112) rfl rfl rfl rfl) (Bw.bx 0 rfl (Bw.bx 1 rfl (Bw.ch 2 rfl (Bw.nil)))) rfl rfl rfl rfl ?_)
   intro _
   obtain ⟨r114, h115, H116⟩ := bnd H113
   refine Dkl [1, 1] [] (c_grid_Grid_Down h115) fun ⟨a117, c118⟩ => ?_
   refine Dn ?_
   obtain rfl := sm H116
   exact Eg0 [2, 1, 1] 0
  refine Td [16] [0, 0, 0] mo ?_
  refine Dq 0 ?_
  refine Dq 1 ?_
  refine Dq 2 ?_
  refine Db 3 0 ?_
  refine Dq 4 ?_
  refine Dq 5 ?_
  refine Dq 6 ?_
  refine Dq 7 ?_
  refine Db 8 0 ?_
  refine Dq 9 ?_
  refine Dq 10 ?_
  refine Dq 11 ?_
  refine Db 12 0 ?_
  refine Dq 13 ?_
  refine Dq 14 ?_
  obtain ⟨r131, h132, H133⟩ := bnd H100
  refine D.one rfl rfl rfl (Dp.br (Ac.call (c_screen_Screen_num h132) rfl rfl rfl rfl) (Bw.bx 0 rfl (Bw.bx 1 rfl (Bw.ch 2 rfl (Bw.nil)))) rfl rfl rfl rfl ?_)
  intro _
  obtain ⟨r134, h135, H136⟩ := bnd H133
  refine Dkl [1, 1] [] (c_grid_Grid_Up h135) fun ⟨a137, c138⟩ => ?_
  refine Dn ?_
  obtain rfl := sm H136
  exact Eg0 [2, 1, 1] 0
 refine Tr ?_
 refine Lq 5 ?_
 refine Lb 2 ?_
 obtain ⟨r141, h142, H143⟩ := bnd H99
 refine Lk [2, 1, 0] [] (c_screen_Screen_move h142) fun ⟨⟩ => ?_
 refine Ln (E.off ?_)
 obtain rfl := sm H143
 exact Eo () [0, 0, 0] [] .nil

theorem c_style_skip {l : List Int} {r : Int} (H : p_style_skip l = some r) : CT G 119 [.slice A0 l.length C0] [] [Im.sl (Ty.int .i64) A0 C0 l] (fun _ : Unit => .int .i64 r) (fun h => []) (fun h => []) := by
 delta p_style_skip at H
 refine CT.of Go.Proofs.Tryz.func119 (by kernel_rfl) rfl rfl rfl fun K => ?_
 refine Ts (Tr ?_)
 refine Lq 1 ?_
 refine Ln (Et (Ts (Tl (Ts ?_))))
 obtain ⟨e76, H77, H78⟩ := bnd H
 refine Tj0 [(3, .bool e76)] [0] [] [] ?_ ?_
 ·refine Tr ?_
  refine Lq 4 ?_
  refine Lw 7 H77 (fun H79 => ?_) fun H79 => ?_
  ·refine Lq 1 ?_
   obtain ⟨x80, h81, H82⟩ := bnd H79
   refine L.addr 0 rfl (idx_lt h81) fun b83 o84 e85 => ?_
   subst e85
   refine Ly (Yl.ia h81 rfl rfl rfl rfl rfl rfl) ?_
   refine L.el 0 rfl (idx_some h81).2 ?_
   rintro _
   refine Lc 0 0 ?_
   refine Lq 3 ?_
   refine Ln ?_
   obtain rfl := sm H82
   exact Eg0 [] 1
  refine Lq 6 ?_
  refine Ln ?_
  obtain rfl := sm H79
  exact Eg0 [] 0
 refine Tb H78 (fun H87 => ?_) fun H87 => ?_
 ·refine Ts (Tr ?_)
  refine Lq 4 ?_
  refine Ln (Et (Tv (Ev (Er ?_))))
  obtain rfl := sm H87
  exact Eo1 () [] []
 refine Ts ?_
 obtain ⟨e105, H106, H107⟩ := bnd H87
 refine Tj0 [(16, .bool e105)] [0] [] [] ?_ ?_
 ·refine Tr ?_
  refine Lq 4 ?_
  refine Lw 20 H106 (fun H108 => ?_) fun H108 => ?_
  ·refine Lq 1 ?_
   obtain ⟨x109, h110, H111⟩ := bnd H108
   refine L.addr 0 rfl (idx_lt h110) fun b112 o113 e114 => ?_
   subst e114
   refine Ly (Yl.ia h110 rfl rfl rfl rfl rfl rfl) ?_
   refine L.el 0 rfl (idx_some h110).2 ?_
   rintro _
   refine Lc 0 0 ?_
   refine Lq 3 ?_
   refine Ln ?_
   obtain rfl := sm H111
   exact Eg0 [] 1
  refine Lq 6 ?_
  refine Ln ?_
  obtain rfl := sm H108
  exact Eg0 [] 0
 refine Tb H107 (fun H116 => ?_) fun H116 => ?_
 ·refine Ts (Tr ?_)
  refine Lq 4 ?_
  refine Ln (Et (Tv (Ev (Er ?_))))
  obtain rfl := sm H116
  exact Eo1 () [] []
 refine Tk (Eb (Et (Ts (Tr ?_))))
 refine Lq 1 ?_
 refine Ln (Et (Tv ?_))
 obtain rfl := sm H116
 exact Eo1 () [] []

theorem c_style_Style_one {s_ : StyleStyle} {n_ : Int} {r : StyleStyle} (H : p_style_Style_one s_ n_ = some r) : CT G 120 [.agg #[.int .i64 s_.fore, .int .i64 s_.back, .bool s_.bold, .bool s_.under, .bool s_.inverse], .int .i64 n_] [] [] (fun _ : Unit => .agg #[.int .i64 r.fore, .int .i64 r.back, .bool r.bold, .bool r.under, .bool r.inverse]) (fun h => []) (fun h => []) := by
 delta p_style_Style_one at H
 refine CT.of Go.Proofs.Tryz.func120 (by kernel_rfl) rfl rfl rfl fun K => ?_
 refine Ts (Tr ?_)
 refine Lx fun g1 => ?_
 refine Ll fun g2 => ?_
 refine Ln (Et (Ts ?_))
 obtain ⟨y91, H92, H93⟩ := bnd H
 refine Tj (η := StyleStyle × Unit) (fun h => y91 = .inl h.1) (fun _ => []) [2, 4] (fun h => (fun e90 => [Ch.box g1 77 [.int .i64 e90.fore, .int .i64 e90.back, .bool e90.bold, .bool e90.under, .bool e90.inverse]]) h.1) [0] (fun _ => []) ?_ ?_
 ·refine Tl (Ts (Tr ?_))
  refine Lq 3 ?_
  refine Ln (Et ?_)
  refine Tb H92 (fun H94 => ?_) fun H94 => ?_
  ·refine Ts (Tr ?_)
   refine Lq 1 ?_
   refine Lt 0 ?_
   refine Ln (Et (Tv (Ev ?_)))
   obtain ⟨w95, hz, H96⟩ := inrs_some H94
   subst y91
   obtain rfl := (sm H93).symm
   refine Er ?_
   obtain rfl := sm H96
   exact Eo () [] [] (.cell 0 rfl rfl rfl .nil)
  refine Ts ?_
  obtain ⟨e100, H101, H102⟩ := bnd H94
  refine Tj0 [(9, .bool e100)] [1, 2, 4] [] [0, 1] ?_ ?_
  ·refine Tr ?_
   refine Lq 3 ?_
   refine Lw 12 H101 (fun H103 => ?_) fun H103 => ?_
   ·refine Lq 4 ?_
    refine Ln ?_
    obtain rfl := sm H103
    exact Eg0 [0, 0] 0
   refine Lq 4 ?_
   refine Ln ?_
   obtain rfl := sm H103
   exact Eg0 [0, 0] 0
  refine Tb H102 (fun H104 => ?_) fun H104 => ?_
  ·refine Tr ?_
   refine Lq 3 ?_
   refine Lt 1 ?_
   refine Ln (Eb ?_)
   obtain rfl := sm H104
   exact Eg (_, ()) rfl [0, 0] [] 0
  refine Ts ?_
  obtain ⟨e108, H109, H110⟩ := bnd H104
  refine Tj0 [(19, .bool e108)] [1, 2, 4] [] [0, 1] ?_ ?_
  ·refine Tr ?_
   refine Lq 3 ?_
   refine Lw 22 H109 (fun H111 => ?_) fun H111 => ?_
   ·refine Lq 4 ?_
    refine Ln ?_
    obtain rfl := sm H111
    exact Eg0 [0, 0] 0
   refine Lq 4 ?_
   refine Ln ?_
   obtain rfl := sm H111
   exact Eg0 [0, 0] 0
  refine Tb H110 (fun H112 => ?_) fun H112 => ?_
  ·refine Tr ?_
   refine Lq 3 ?_
   refine Lt 1 ?_
   refine Ln (Eb ?_)
   obtain rfl := sm H112
   exact Eg (_, ()) rfl [0, 0] [] 0
  refine Ts ?_
  obtain ⟨e116, H117, H118⟩ := bnd H112
  refine Tj0 [(29, .bool e116)] [1, 2, 4] [] [0, 1] ?_ ?_
  ·refine Tr ?_
   refine Lq 3 ?_
   refine Lw 32 H117 (fun H119 => ?_) fun H119 => ?_
   ·refine Lq 4 ?_
    refine Ln ?_
    obtain rfl := sm H119
    exact Eg0 [0, 0] 0
   refine Lq 4 ?_
   refine Ln ?_
   obtain rfl := sm H119
   exact Eg0 [0, 0] 0
  refine Tb H118 (fun H120 => ?_) fun H120 => ?_
  ·refine Tr ?_
   refine Lq 3 ?_
   refine Lt 1 ?_
   refine Ln (Eb ?_)
   obtain rfl := sm H120
   exact Eg (_, ()) rfl [0, 0] [] 0
  refine Ts ?_
  obtain ⟨e124, H125, H126⟩ := bnd H120
  refine Tj0 [(39, .bool e124)] [1, 2, 4] [] [0, 1] ?_ ?_
  ·refine Tr ?_
   refine Lq 3 ?_
   refine Lw 42 H125 (fun H127 => ?_) fun H127 => ?_
   ·refine Lq 4 ?_
    refine Ln ?_
    obtain rfl := sm H127
    exact Eg0 [0, 0] 0
   refine Lq 4 ?_
   refine Ln ?_
   obtain rfl := sm H127
   exact Eg0 [0, 0] 0
  refine Tb H126 (fun H128 => ?_) fun H128 => ?_
  ·refine Tr ?_
   refine Lq 4 ?_
   refine Lt 1 ?_
   refine Ln (Eb ?_)
   obtain rfl := sm H128
   exact Eg (_, ()) rfl [0, 0] [] 0
  refine Ts (Tr ?_)
  refine Lq 3 ?_
  refine Ln (Et ?_)
  refine Tb H128 (fun H129 => ?_) fun H129 => ?_
  ·refine Tr ?_
   refine Lq 1 ?_
   refine Lt 1 ?_
   refine Ln (Eb ?_)
   obtain rfl := sm H129
   exact Eg (_, ()) rfl [0, 0] [] 0
  refine Ts ?_
  obtain ⟨e133, H134, H135⟩ := bnd H129
  refine Tj0 [(54, .bool e133)] [1, 2, 4] [] [0, 1] ?_ ?_
  ·refine Tr ?_
   refine Lq 3 ?_
   refine Lw 57 H134 (fun H136 => ?_) fun H136 => ?_
   ·refine Lq 4 ?_
    refine Ln ?_
    obtain rfl := sm H136
    exact Eg0 [0, 0] 0
   refine Lq 4 ?_
   refine Ln ?_
   obtain rfl := sm H136
   exact Eg0 [0, 0] 0
  refine Tb H135 (fun H137 => ?_) fun H137 => ?_
  ·refine Tr ?_
   refine Lq 4 ?_
   refine Lt 1 ?_
   refine Ln (Eb ?_)
   obtain rfl := sm H137
   exact Eg (_, ()) rfl [0, 0] [] 0
  refine Ts (Tr ?_)
  refine Lq 3 ?_
  refine Ln (Et ?_)
  refine Tb H137 (fun H138 => ?_) fun H138 => ?_
  ·refine Tr ?_
   refine Lq 1 ?_
   refine Lt 1 ?_
   refine Ln (Eb ?_)
   obtain rfl := sm H138
   exact Eg (_, ()) rfl [0, 0] [] 0
  refine Tk (Eb ?_)
  obtain rfl := sm H138
  exact Eg (_, ()) rfl [1, 0] [] 0
 rintro ⟨e90, ⟨⟩⟩ hy
 subst hy
 refine Ts (Tr ?_)
 refine Lb 0 ?_
 refine Lt 1 ?_
 refine Ln (Et (Tv ?_))
 obtain rfl := sm H93
 exact Eo () [] [] (.cell 0 rfl rfl rfl .nil)

theorem c_style_Style_Set {s_ : StyleStyle} {nums : List Int} {r : StyleStyle} (H : p_style_Style_Set s_ nums = some r) : CT G 78 [.agg #[.int .i64 s_.fore, .int .i64 s_.back, .bool s_.bold, .bool s_.under, .bool s_.inverse], .slice A0 nums.length C0] [] [Im.sl (Ty.int .i64) A0 C0 nums] (fun _ : Unit => .agg #[.int .i64 r.fore, .int .i64 r.back, .bool r.bold, .bool r.under, .bool r.inverse]) (fun h => []) (fun h => []) := by
 delta p_style_Style_Set at H
 refine CT.of Go.Proofs.Tryz.func78 (by kernel_rfl) rfl rfl rfl fun K => ?_
 refine Ts (Tr ?_)
 refine Lx fun g1 => ?_
 refine Ll fun g2 => ?_
 refine Ln (Et (Ts (Ts (Tr ?_))))
 refine Lq 3 ?_
 refine Ln (Et ?_)
 refine Tb H (fun H4 => ?_) fun H4 => ?_
 ·refine Ts (Tr ?_)
  refine Lq 1 ?_
  refine Lt 0 ?_
  refine Ln (Et (Tv (Er ?_)))
  obtain rfl := sm H4
  exact Eo () [] [] (.cell 0 rfl rfl rfl .nil)
 refine Tk (Et (Ts (Ts (Tr ?_))))
 refine Lq 1 ?_
 refine Ln (Et ?_)
 obtain ⟨e448, H449, H450⟩ := bnd H4
 refine Tj0 [] [2, 4] [Ch.box g1 77 [.int .i64 e448.fore, .int .i64 e448.back, .bool e448.bold, .bool e448.under, .bool e448.inverse]] [0] ?_ ?_
 ·refine Tl ?_
  refine Tq (η := Unit) (fun s301 h => [(5, .int .i64 s301.2)]) [1, 2, 4] (fun s301 h => [Ch.box g1 77 [.int .i64 s301.1.fore, .int .i64 s301.1.back, .bool s301.1.bold, .bool s301.1.under, .bool s301.1.inverse]]) [0] (fun _ _ => []) () [1, 0] [] H449 ?_
  rintro k_ s301 ⟨⟩ z452 H451 hag453 hbr454
  refine Ts (Ts (Tr ?_))
  refine Lq 4 ?_
  refine Ln (Et ?_)
  refine Tb H451 (fun H456 => ?_) fun H456 => ?_
  ·refine Tk (Et (Ts ?_))
   obtain ⟨e551, H552, H553⟩ := bnd H456
   refine Tj0 [(5, .int .i64 e551.1)] [1, 2, 4] [Ch.box g1 77 [.int .i64 e551.2.fore, .int .i64 e551.2.back, .bool e551.2.bold, .bool e551.2.under, .bool e551.2.inverse]] [1] ?_ ?_
   ·refine Tl (Ts (Ts (Tr ?_)))
    refine Lq 2 ?_
    obtain ⟨x554, h555, H556⟩ := bnd H552
    refine L.addr 0 rfl (idx_lt h555) fun b557 o558 e559 => ?_
    subst e559
    refine Ly (Yl.ia h555 rfl rfl rfl rfl rfl rfl) ?_
    refine L.el 0 rfl (idx_some h555).2 ?_
    rintro _
    refine Lc 0 0 ?_
    refine Lq 1 ?_
    refine Ln (Et (Ts ?_))
    obtain ⟨e564, H565, H566⟩ := bnd H556
    refine Tj0 [(26, .bool e564)] [1, 2, 4, 5] [] [0, 1] ?_ ?_
    ·refine Tr ?_
     refine Lq 3 ?_
     refine Lw 23 H565 (fun H567 => ?_) fun H567 => ?_
     ·refine Lq 3 ?_
      refine Ln ?_
      obtain rfl := sm H567
      exact Eg0 [0, 0] 0
     refine Lq 3 ?_
     refine Ln ?_
     obtain rfl := sm H567
     exact Eg0 [0, 0] 0
    refine Tb H566 (fun H577 => ?_) fun H577 => ?_
    ·refine Ts (Tr ?_)
     refine Lq 4 ?_
     obtain ⟨_, h578, H579⟩ := bnd H577
     refine L.rs 1 h578 rfl rfl rfl rfl rfl rfl rfl rfl rfl rfl rfl rfl ?_
     intro a580 c581
     obtain ⟨r583, h584, H585⟩ := bnd H579
     refine Lk [] [0] (c_style_skip h584) fun ⟨⟩ => ?_
     refine Lq 2 ?_
     refine Ln (Et (Tx (Ex (Eh ?_))))
     obtain rfl := sm H585
     exact Eg0 [0, 0] 2
    refine Tk (Et ?_)
    refine Td [6] [0, 0] mo ?_
    refine Db 0 0 ?_
    refine Dq 1 ?_
    refine Dq 2 ?_
    obtain ⟨x593, h594, H595⟩ := bnd H577
    refine Dy 3 (Yl.ia h594 rfl rfl rfl rfl rfl rfl) ?_
    refine D.el 1 rfl (idx_some h594).2 ?_
    rintro _
    refine Dy 4 (Yl.ldc 0 0 rfl rfl rfl rfl) ?_
    obtain ⟨r597, h598, H599⟩ := bnd H595
    refine Dk [] [] (c_style_Style_one h598) fun ⟨⟩ => ?_
    refine Dt 0 ?_
    refine Dn ?_
    refine Eb ?_
    obtain rfl := sm H599
    exact Eg0 [0, 0] 2
   refine Tr ?_
   refine Lq 3 ?_
   refine Ln ?_
   obtain rfl := sm H553
   exact Eg (_, ()) (hag453 _ rfl) [0, 0] [] 0
  refine Tx (Ex (Ex (Eh ?_)))
  obtain rfl := sm H456
  have hb := hbr454 _ rfl
  subst e448
  exact Eg0 [0, 0] 0
 refine Ts (Tr ?_)
 refine Lb 0 ?_
 refine Lt 1 ?_
 refine Ln (Et (Tv ?_))
 obtain rfl := sm H450
 exact Eo () [] [] (.cell 0 rfl rfl rfl .nil)

theorem c_screen_Screen_region {s_ : ScreenScreen} {a : SeqAction} {r : ScreenScreen} (H : p_screen_Screen_region s_ a = some r) : CT G 79 [.pointer (some ⟨N0, 0, none⟩), .agg (bx40 a A1 C1).toArray] [Ch.box N0 81 [.pointer (some ⟨N1, 0, none⟩), .int .i64 s_.spot.x, .int .i64 s_.spot.y, .int .i64 s_.spot.style.fore, .int .i64 s_.spot.style.back, .bool s_.spot.style.bold, .bool s_.spot.style.under, .bool s_.spot.style.inverse, .int .i64 s_.saved.x, .int .i64 s_.saved.y, .int .i64 s_.saved.style.fore, .int .i64 s_.saved.style.back, .bool s_.saved.style.bold, .bool s_.saved.style.under, .bool s_.saved.style.inverse, .bool s_.waiting, .int .i64 s_.top, .int .i64 s_.bottom, .bool s_.wraps, .string s_.title], Ch.box N1 96 [.int .i64 s_.g.w, .slice A0 s_.g.l.length C0], Ch.arr tyRowRow 52 A0 C0 s_.g.l] [Im.sl (Ty.int .i64) A1 C1 a.nums] (fun _ : Unit => .tuple #[]) (fun h => [Ch.box N0 81 [.pointer (some ⟨N1, 0, none⟩), .int .i64 r.spot.x, .int .i64 r.spot.y, .int .i64 r.spot.style.fore, .int .i64 r.spot.style.back, .bool r.spot.style.bold, .bool r.spot.style.under, .bool r.spot.style.inverse, .int .i64 r.saved.x, .int .i64 r.saved.y, .int .i64 r.saved.style.fore, .int .i64 r.saved.style.back, .bool r.saved.style.bold, .bool r.saved.style.under, .bool r.saved.style.inverse, .bool r.waiting, .int .i64 r.top, .int .i64 r.bottom, .bool r.wraps, .string r.title], Ch.box N1 96 [.int .i64 r.g.w, .slice A0 r.g.l.length C0], Ch.arr tyRowRow 52 A0 C0 r.g.l]) (fun h => []) := by
 delta p_screen_Screen_region at H
 refine CT.of Go.Proofs.Tryz.func79 (by kernel_rfl) rfl rfl rfl fun K => ?_
 refine Ts (Tr ?_)
 refine Lx fun g1 => ?_
 refine Ln (Et (Ts (Tr ?_)))
 refine Lq 3 ?_
 refine Lb 1 ?_
 obtain ⟨r2, h3, H4⟩ := bnd H
 refine Lk [2, 2] [] (c_grid_Grid_Size h3) fun ⟨⟩ => ?_
 refine Lq 5 ?_
 refine Ln (Et (Ts ?_))
 refine Td [9] [0, 0, 0, 0] mo ?_
 refine Db 0 2 ?_
 refine Dq 2 ?_
 refine Db 5 2 ?_
 refine Dq 6 ?_
 refine Dq 8 ?_
 obtain ⟨r41, h42, H43⟩ := bnd H4
 refine Dk [] [0] (c_screen_at h42) fun ⟨⟩ => ?_
 obtain ⟨r44, h45, H46⟩ := bnd H43
 refine Dk [] [] (c_screen_clip h45) fun ⟨⟩ => ?_
 refine Dq 4 ?_
 obtain ⟨r47, h48, H49⟩ := bnd H46
 refine Dk [] [0] (c_screen_at h48) fun ⟨⟩ => ?_
 obtain ⟨r50, h51, H52⟩ := bnd H49
 refine Dkl [] [] (c_screen_clip h51) fun ⟨⟩ => ?_
 refine Dq 10 ?_
 refine Dq 11 ?_
 refine Dq 12 ?_
 refine Dn ?_
 refine Et (Ts (Tr ?_))
 refine Lq 3 ?_
 refine Ln (Et ?_)
 refine Tb H52 (fun H53 => ?_) fun H53 => ?_
 ·refine Ts (Tr ?_)
  refine Lq 6 ?_
  refine Lt 3 ?_
  refine Lq 2 ?_
  refine Lt 0 ?_
  refine Ln (Et (Tr ?_))
  refine Lq 1 ?_
  obtain ⟨r54, h55, H56⟩ := bnd H53
  refine Lk [0, 0, 0] [] (c_screen_Screen_move h55) fun ⟨⟩ => ?_
  refine Ln (E.off ?_)
  obtain rfl := sm H56
  exact Eo () [0, 0, 0] [] .nil
 refine Tk (E.off ?_)
 obtain rfl := sm H53
 exact Eo () [3, 0, 0] [] .nil

theorem c_screen_Screen_order {s_ : ScreenScreen} {a : SeqAction} {r : (List RowRow) × ScreenScreen} (H : p_screen_Screen_order s_ a = some r) : CT G 34 [.pointer (some ⟨N0, 0, none⟩), .agg (bx40 a A1 C1).toArray] [Ch.box N0 81 [.pointer (some ⟨N1, 0, none⟩), .int .i64 s_.spot.x, .int .i64 s_.spot.y, .int .i64 s_.spot.style.fore, .int .i64 s_.spot.style.back, .bool s_.spot.style.bold, .bool s_.spot.style.under, .bool s_.spot.style.inverse, .int .i64 s_.saved.x, .int .i64 s_.saved.y, .int .i64 s_.saved.style.fore, .int .i64 s_.saved.style.back, .bool s_.saved.style.bold, .bool s_.saved.style.under, .bool s_.saved.style.inverse, .bool s_.waiting, .int .i64 s_.top, .int .i64 s_.bottom, .bool s_.wraps, .string s_.title], Ch.box N1 96 [.int .i64 s_.g.w, .slice A0 s_.g.l.length C0], Ch.arr tyRowRow 52 A0 C0 s_.g.l] [Im.sl (Ty.int .i64) A1 C1 a.nums] (fun h : (Option Addr × Nat) => .slice h.1 r.1.length h.2) (fun h => [Ch.arr tyRowRow 52 h.1 h.2 r.1, Ch.box N0 81 [.pointer (some ⟨N1, 0, none⟩), .int .i64 r.2.spot.x, .int .i64 r.2.spot.y, .int .i64 r.2.spot.style.fore, .int .i64 r.2.spot.style.back, .bool r.2.spot.style.bold, .bool r.2.spot.style.under, .bool r.2.spot.style.inverse, .int .i64 r.2.saved.x, .int .i64 r.2.saved.y, .int .i64 r.2.saved.style.fore, .int .i64 r.2.saved.style.back, .bool r.2.saved.style.bold, .bool r.2.saved.style.under, .bool r.2.saved.style.inverse, .bool r.2.waiting, .int .i64 r.2.top, .int .i64 r.2.bottom, .bool r.2.wraps, .string r.2.title], Ch.box N1 96 [.int .i64 r.2.g.w, .slice A0 r.2.g.l.length C0], Ch.arr tyRowRow 52 A0 C0 r.2.g.l]) (fun h => []) := by
 delta p_screen_Screen_order at H
 refine CT.of Go.Proofs.Tryz.func34 (by kernel_rfl) rfl rfl rfl fun K => ?_
 refine Ts (Tr ?_)
 refine Lx fun g1 => ?_
 refine Lq 1 ?_
 refine Ln (Et (Ts (Tr ?_)))
 refine Lb 0 ?_
 obtain ⟨r2, h3, H4⟩ := bnd H
 refine Lk [] [0] (c_screen_at h3) fun ⟨⟩ => ?_
 refine Lq 1 ?_
 refine Ln (Et (Ts (Ts (Tr ?_))))
 refine Lq 1 ?_
 refine Lb 0 ?_
 refine Ln (Et ?_)
 obtain ⟨y311, H312, H313⟩ := bnd H4
 refine Tj (η := (ScreenScreen × GridGrid) × Unit) (fun h => y311 = .inl h.1) (fun _ => []) [0, 3] (fun h => (fun e310 => [Ch.arr tyRowRow 52 A0 C0 e310.2.l, Ch.box N0 81 [.pointer (some ⟨N1, 0, none⟩), .int .i64 e310.1.spot.x, .int .i64 e310.1.spot.y, .int .i64 e310.1.spot.style.fore, .int .i64 e310.1.spot.style.back, .bool e310.1.spot.style.bold, .bool e310.1.spot.style.under, .bool e310.1.spot.style.inverse, .int .i64 e310.1.saved.x, .int .i64 e310.1.saved.y, .int .i64 e310.1.saved.style.fore, .int .i64 e310.1.saved.style.back, .bool e310.1.saved.style.bold, .bool e310.1.saved.style.under, .bool e310.1.saved.style.inverse, .bool e310.1.waiting, .int .i64 e310.1.top, .int .i64 e310.1.bottom, .bool e310.1.wraps, .string e310.1.title], Ch.box N1 96 [.int .i64 e310.2.w, .slice A0 e310.2.l.length C0]]) h.1) [0] (fun _ => []) ?_ ?_
 ·refine Tl (Ts (Ts (Tr ?_)))
  refine Lq 2 ?_
  refine Ln (Et ?_)
  obtain ⟨e317, H318, H319⟩ := bnd H312
  refine Tj0 [(10, .bool e317)] [0, 3, 5, 9] [] [0, 1, 2, 3] ?_ ?_
  ·refine Tb H318 (fun H320 => ?_) fun H320 => ?_
   ·refine Tk ?_
    obtain rfl := sm H320
    exact Eg0 [0, 0, 0, 0] 0
   refine Tr ?_
   refine Lq 2 ?_
   refine Ln ?_
   obtain rfl := sm H320
   exact Eg0 [0, 0, 0, 0] 0
  refine Tb H319 (fun H321 => ?_) fun H321 => ?_
  ·refine Tr ?_
   refine Lq 3 ?_
   obtain ⟨r322, h323, H324⟩ := bnd H321
   refine Lk [1, 1, 1] [] (c_screen_Screen_climb h323) fun ⟨⟩ => ?_
   refine Ln (Eb ?_)
   obtain rfl := sm H324
   exact Eg (_, ()) rfl [2, 0, 0, 0] [] 0
  refine Ts (Ts (Tr ?_))
  refine Lq 2 ?_
  refine Ln (Et ?_)
  obtain ⟨e329, H330, H331⟩ := bnd H321
  refine Tj0 [(17, .bool e329)] [0, 3, 5, 9] [] [0, 1, 2, 3] ?_ ?_
  ·refine Tb H330 (fun H332 => ?_) fun H332 => ?_
   ·refine Tk ?_
    obtain rfl := sm H332
    exact Eg0 [0, 0, 0, 0] 0
   refine Tr ?_
   refine Lq 2 ?_
   refine Ln ?_
   obtain rfl := sm H332
   exact Eg0 [0, 0, 0, 0] 0
  refine Tb H331 (fun H333 => ?_) fun H333 => ?_
  ·refine Tr ?_
   refine Lq 2 ?_
   obtain ⟨r334, h335, H336⟩ := bnd H333
   refine Lk [1, 1, 1] [] (c_screen_Screen_climb h335) fun ⟨⟩ => ?_
   refine Ln (Eb ?_)
   obtain rfl := sm H336
   exact Eg (_, ()) rfl [2, 0, 0, 0] [] 0
  refine Ts (Tr ?_)
  refine Lq 2 ?_
  refine Ln (Et ?_)
  refine Tb H333 (fun H338 => ?_) fun H338 => ?_
  ·refine Td [13] [0, 0, 0, 0] mo ?_
   refine Dq 0 ?_
   refine Dq 1 ?_
   refine Dq 2 ?_
   refine Dq 3 ?_
   refine Dq 4 ?_
   refine Db 5 1 ?_
   refine Dq 6 ?_
   refine Dq 7 ?_
   refine Dq 8 ?_
   refine Dq 9 ?_
   refine Dq 10 ?_
   refine Dq 11 ?_
   refine Db 12 1 ?_
   obtain ⟨r343, h344, H345⟩ := bnd H338
   refine Dkl [1, 1, 1] [] (c_screen_Screen_move h344) fun ⟨⟩ => ?_
   refine Dn ?_
   refine Eb ?_
   obtain rfl := sm H345
   exact Eg (_, ()) rfl [2, 0, 0, 0] [] 0
  refine Ts (Tr ?_)
  refine Lq 2 ?_
  refine Ln (Et ?_)
  refine Tb H338 (fun H347 => ?_) fun H347 => ?_
  ·refine Td [13] [0, 0, 0, 0] mo ?_
   refine Dq 0 ?_
   refine Dq 1 ?_
   refine Dq 2 ?_
   refine Dq 3 ?_
   refine Dq 4 ?_
   refine Db 5 1 ?_
   refine Dq 6 ?_
   refine Dq 7 ?_
   refine Dq 8 ?_
   refine Dq 9 ?_
   refine Dq 10 ?_
   refine Dq 11 ?_
   refine Db 12 1 ?_
   obtain ⟨r352, h353, H354⟩ := bnd H347
   refine Dkl [1, 1, 1] [] (c_screen_Screen_move h353) fun ⟨⟩ => ?_
   refine Dn ?_
   refine Eb ?_
   obtain rfl := sm H354
   exact Eg (_, ()) rfl [2, 0, 0, 0] [] 0
  refine Ts (Tr ?_)
  refine Lq 2 ?_
  refine Ln (Et ?_)
  refine Tb H347 (fun H356 => ?_) fun H356 => ?_
  ·refine Tr ?_
   refine Lq 7 ?_
   refine Lb 1 ?_
   obtain ⟨r357, h358, H359⟩ := bnd H356
   refine Lk [1, 1, 1] [] (c_screen_Screen_move h358) fun ⟨⟩ => ?_
   refine Ln (Eb ?_)
   obtain rfl := sm H359
   exact Eg (_, ()) rfl [2, 0, 0, 0] [] 0
  refine Ts (Tr ?_)
  refine Lq 2 ?_
  refine Ln (Et ?_)
  refine Tb H356 (fun H361 => ?_) fun H361 => ?_
  ·refine Tr ?_
   refine Lq 5 ?_
   refine Lb 1 ?_
   refine Lq 2 ?_
   obtain ⟨r362, h363, H364⟩ := bnd H361
   refine Lk [1, 1, 1] [] (c_screen_Screen_move h363) fun ⟨⟩ => ?_
   refine Ln (Eb ?_)
   obtain rfl := sm H364
   exact Eg (_, ()) rfl [2, 0, 0, 0] [] 0
  refine Ts (Ts (Tr ?_))
  refine Lq 2 ?_
  refine Ln (Et ?_)
  obtain ⟨e369, H370, H371⟩ := bnd H361
  refine Tj0 [(77, .bool e369)] [0, 3, 5, 9] [] [0, 1, 2, 3] ?_ ?_
  ·refine Tb H370 (fun H372 => ?_) fun H372 => ?_
   ·refine Tk ?_
    obtain rfl := sm H372
    exact Eg0 [0, 0, 0, 0] 0
   refine Tr ?_
   refine Lq 2 ?_
   refine Ln ?_
   obtain rfl := sm H372
   exact Eg0 [0, 0, 0, 0] 0
  refine Tb H371 (fun H373 => ?_) fun H373 => ?_
  ·refine Tr ?_
   refine Lq 1 ?_
   refine Lb 0 ?_
   obtain ⟨r374, h375, H376⟩ := bnd H373
   refine Lk [] [0] (c_screen_at h375) fun ⟨⟩ => ?_
   refine Lq 3 ?_
   obtain ⟨r377, h378, H379⟩ := bnd H376
   refine Lk [1, 1, 1] [] (c_screen_Screen_move h378) fun ⟨⟩ => ?_
   refine Ln (Eb ?_)
   obtain rfl := sm H379
   exact Eg (_, ()) rfl [2, 0, 0, 0] [] 0
  refine Ts (Tr ?_)
  refine Lq 2 ?_
  refine Ln (Et ?_)
  refine Tb H373 (fun H381 => ?_) fun H381 => ?_
  ·refine Tr ?_
   refine Lq 1 ?_
   refine Lb 0 ?_
   obtain ⟨r382, h383, H384⟩ := bnd H381
   refine Lk [] [0] (c_screen_at h383) fun ⟨⟩ => ?_
   obtain ⟨r385, h386, H387⟩ := bnd H384
   refine Lk [1, 1, 1] [] (c_screen_Screen_wipe h386) fun ⟨⟩ => ?_
   refine Ln (Eb ?_)
   obtain rfl := sm H387
   exact Eg (_, ()) rfl [2, 0, 0, 0] [] 0
  refine Ts (Tr ?_)
  refine Lq 2 ?_
  refine Ln (Et ?_)
  refine Tb H381 (fun H389 => ?_) fun H389 => ?_
  ·refine Tr ?_
   refine Lq 1 ?_
   refine Lb 0 ?_
   obtain ⟨r390, h391, H392⟩ := bnd H389
   refine Lk [] [0] (c_screen_at h391) fun ⟨⟩ => ?_
   obtain ⟨r393, h394, H395⟩ := bnd H392
   refine Lk [1, 1, 1] [] (c_screen_Screen_part h394) fun ⟨⟩ => ?_
   refine Ln (Eb ?_)
   obtain rfl := sm H395
   exact Eg (_, ()) rfl [2, 0, 0, 0] [] 0
  refine Ts (Ts (Tr ?_))
  refine Lq 2 ?_
  refine Ln (Et ?_)
  obtain ⟨e402, H403, H404⟩ := bnd H389
  refine Tj0 [(99, .bool e402)] [0, 3, 5, 9] [] [0, 1, 2, 3] ?_ ?_
  ·refine Tb H403 (fun H405 => ?_) fun H405 => ?_
   ·refine Tk ?_
    obtain rfl := sm H405
    exact Eg0 [0, 0, 0, 0] 0
   refine Ts (Tr ?_)
   refine Lq 2 ?_
   refine Ln (Et ?_)
   refine Tb H405 (fun H406 => ?_) fun H406 => ?_
   ·refine Tk ?_
    obtain rfl := sm H406
    exact Eg0 [0, 0, 0, 0] 0
   refine Tr ?_
   refine Lq 2 ?_
   refine Ln ?_
   obtain rfl := sm H406
   exact Eg0 [0, 0, 0, 0] 0
  refine Tb H404 (fun H407 => ?_) fun H407 => ?_
  ·refine Tr ?_
   refine Lq 2 ?_
   refine Lb 0 ?_
   refine Lq 1 ?_
   obtain ⟨r408, h409, H410⟩ := bnd H407
   refine Lk [1, 1, 1] [] (c_screen_Screen_cells h409) fun ⟨⟩ => ?_
   refine Ln (Eb ?_)
   obtain rfl := sm H410
   exact Eg (_, ()) rfl [2, 0, 0, 0] [] 0
  refine Ts (Ts (Tr ?_))
  refine Lq 2 ?_
  refine Ln (Et ?_)
  obtain ⟨e415, H416, H417⟩ := bnd H407
  refine Tj0 [(108, .bool e415)] [0, 3, 5, 9] [] [0, 1, 2, 3] ?_ ?_
  ·refine Tb H416 (fun H418 => ?_) fun H418 => ?_
   ·refine Tk ?_
    obtain rfl := sm H418
    exact Eg0 [0, 0, 0, 0] 0
   refine Tr ?_
   refine Lq 2 ?_
   refine Ln ?_
   obtain rfl := sm H418
   exact Eg0 [0, 0, 0, 0] 0
  refine Tb H417 (fun H419 => ?_) fun H419 => ?_
  ·refine Tr ?_
   refine Lq 2 ?_
   refine Lb 0 ?_
   refine Lq 1 ?_
   obtain ⟨r420, h421, H422⟩ := bnd H419
   refine Lk [1, 1, 1] [] (c_screen_Screen_shift h421) fun ⟨⟩ => ?_
   refine Ln (Eb ?_)
   obtain rfl := sm H422
   exact Eg (_, ()) rfl [2, 0, 0, 0] [] 0
  refine Ts (Tr ?_)
  refine Lq 2 ?_
  refine Ln (Et ?_)
  refine Tb H419 (fun H424 => ?_) fun H424 => ?_
  ·refine Ts (Tr ?_)
   refine Lq 3 ?_
   refine Lt 1 ?_
   refine Ln (Et (Ts (Tr ?_)))
   refine Lq 2 ?_
   obtain ⟨r425, h426, H427⟩ := bnd H424
   refine Lk [0, 1, 1] [] (c_screen_Screen_up h426) fun ⟨a428, c429⟩ => ?_
   refine Lq 1 ?_
   refine Ln (Et (Tv (Ev ?_)))
   obtain ⟨w432, hz, H433⟩ := inrs_some H427
   subst y311
   obtain rfl := (sm H313).symm
   refine Er ?_
   obtain rfl := sm H433
   exact Eo1 (a428, c429) [0, 0, 0, 0] []
  refine Ts (Tr ?_)
  refine Lq 2 ?_
  refine Ln (Et ?_)
  refine Tb H424 (fun H434 => ?_) fun H434 => ?_
  ·refine Ts (Tr ?_)
   refine Lq 3 ?_
   refine Lt 1 ?_
   refine Ln (Et ?_)
   refine Td [15] [0, 0, 0, 0] mo ?_
   refine Dq 0 ?_
   refine Dq 1 ?_
   refine Dq 2 ?_
   refine Db 3 0 ?_
   refine Dq 4 ?_
   refine Dq 5 ?_
   refine Dq 6 ?_
   refine Db 7 0 ?_
   refine Dq 8 ?_
   refine Dq 9 ?_
   refine Dq 10 ?_
   refine Db 11 0 ?_
   refine Dq 12 ?_
   refine Dq 13 ?_
   obtain ⟨r445, h446, H447⟩ := bnd H434
   refine D.one rfl rfl rfl (Dp.br (Ac.call (c_screen_Screen_num h446) rfl rfl rfl rfl) (Bw.bx 0 rfl (Bw.bx 2 rfl (Bw.ch 3 rfl (Bw.nil)))) rfl rfl rfl rfl ?_)
   intro _
   obtain ⟨r448, h449, H450⟩ := bnd H447
   refine Dkl [2, 2] [] (c_grid_Grid_Down h449) fun ⟨a451, c452⟩ => ?_
   refine Dn ?_
   refine Eb ?_
   obtain rfl := sm H450
   exact Eg (_, ()) rfl [2, 2, 1, 1] [] 0
  refine Ts (Tr ?_)
  refine Lq 2 ?_
  refine Ln (Et ?_)
  refine Tb H434 (fun H455 => ?_) fun H455 => ?_
  ·refine Td [8, 12] [0, 0, 0, 0] mo ?_
   refine Dq 0 ?_
   refine Dq 1 ?_
   refine Dq 2 ?_
   refine Dq 3 ?_
   refine Dq 4 ?_
   refine Db 5 1 ?_
   refine Dq 6 ?_
   refine Db 7 0 ?_
   obtain ⟨r459, h460, H461⟩ := bnd H455
   refine Dkl [] [0] (c_style_Style_Set h460) fun ⟨⟩ => ?_
   refine Dq 9 ?_
   refine Dq 10 ?_
   refine Dq 11 ?_
   refine Dt 1 ?_
   refine Dn ?_
   refine Eb ?_
   obtain rfl := sm H461
   exact Eg (_, ()) rfl [3, 0, 1, 0] [] 0
  refine Ts (Tr ?_)
  refine Lq 2 ?_
  refine Ln (Et ?_)
  refine Tb H455 (fun H462 => ?_) fun H462 => ?_
  ·refine Tr ?_
   refine Lq 1 ?_
   refine Lb 0 ?_
   obtain ⟨r463, h464, H465⟩ := bnd H462
   refine Lk [1, 1, 1] [0] (c_screen_Screen_region h464) fun ⟨⟩ => ?_
   refine Ln (Eb ?_)
   obtain rfl := sm H465
   exact Eg (_, ()) rfl [2, 0, 0, 0] [] 0
  refine Tk (Eb ?_)
  obtain rfl := sm H462
  exact Eg (_, ()) rfl [3, 1, 1, 0] [] 0
 rintro ⟨e310, ⟨⟩⟩ hy
 subst hy
 refine Ts (Ts ?_)
 obtain ⟨e470, H471, H472⟩ := bnd H313
 refine Tj0 [(171, .bool e470)] [0] [] [1, 2, 3, 0] ?_ ?_
 ·refine Tr ?_
  refine Lq 1 ?_
  refine Lb 3 ?_
  refine Lq 2 ?_
  refine Lw 167 H471 (fun H473 => ?_) fun H473 => ?_
  ·refine Lq 4 ?_
   refine Ln ?_
   obtain rfl := sm H473
   exact Eg0 [1, 1, 1, 0] 0
  refine Lq 1 ?_
  refine Lb 3 ?_
  refine Lq 2 ?_
  refine Ln ?_
  obtain rfl := sm H473
  exact Eg0 [1, 1, 1, 0] 0
 obtain ⟨e477, H478, H479⟩ := bnd H472
 refine Tj0 [] [] [Ch.box N0 81 [.pointer (some ⟨N1, 0, none⟩), .int .i64 e477.spot.x, .int .i64 e477.spot.y, .int .i64 e477.spot.style.fore, .int .i64 e477.spot.style.back, .bool e477.spot.style.bold, .bool e477.spot.style.under, .bool e477.spot.style.inverse, .int .i64 e477.saved.x, .int .i64 e477.saved.y, .int .i64 e477.saved.style.fore, .int .i64 e477.saved.style.back, .bool e477.saved.style.bold, .bool e477.saved.style.under, .bool e477.saved.style.inverse, .bool e477.waiting, .int .i64 e477.top, .int .i64 e477.bottom, .bool e477.wraps, .string e477.title]] [1, 2, 3] ?_ ?_
 ·refine Tb H478 (fun H480 => ?_) fun H480 => ?_
  ·refine Tr ?_
   refine Lq 4 ?_
   refine Lt 0 ?_
   refine Ln ?_
   obtain rfl := sm H480
   exact Eg0 [0, 0, 0, 0] 0
  refine Tk ?_
  obtain rfl := sm H480
  exact Eg0 [0, 0, 0, 0] 0
 refine Ts (Tr ?_)
 refine Lq 1 ?_
 refine Ln (Et (Tv ?_))
 refine E.nil0 tyRowRow 52 ?_
 obtain rfl := sm H479
 exact Eo1 (none, 0) [0, 0, 0, 1] []

end Go.Tw.X

set_option maxHeartbeats 2000000
set_option linter.unusedVariables false
set_option linter.unusedSimpArgs false
set_option maxRecDepth 10000
namespace Go.Tw.X
open Go Go.Tw
variable {A0 A1 A2 : Option Addr} {C0 C1 C2 : Nat}
variable {N0 N1 N2 N3 N4 : Nat}
theorem c_screen_Screen_Do {s_ : ScreenScreen} {a : SeqAction} {r : (List RowRow) × ScreenScreen} (H : p_screen_Screen_Do s_ a = some r) : CT G 12 [.pointer (some ⟨N0, 0, none⟩), .agg (bx40 a A1 C1).toArray] [Ch.box N0 81 [.pointer (some ⟨N1, 0, none⟩), .int .i64 s_.spot.x, .int .i64 s_.spot.y, .int .i64 s_.spot.style.fore, .int .i64 s_.spot.style.back, .bool s_.spot.style.bold, .bool s_.spot.style.under, .bool s_.spot.style.inverse, .int .i64 s_.saved.x, .int .i64 s_.saved.y, .int .i64 s_.saved.style.fore, .int .i64 s_.saved.style.back, .bool s_.saved.style.bold, .bool s_.saved.style.under, .bool s_.saved.style.inverse, .bool s_.waiting, .int .i64 s_.top, .int .i64 s_.bottom, .bool s_.wraps, .string s_.title], Ch.box N1 96 [.int .i64 s_.g.w, .slice A0 s_.g.l.length C0], Ch.arr tyRowRow 52 A0 C0 s_.g.l] [Im.sl (Ty.int .i64) A1 C1 a.nums, Im.sl tyWideSpan (some ⟨0, 0, none⟩) 13 t_wide_nones, Im.sl tyWideSpan (some ⟨1, 0, none⟩) 14 t_wide_twos] (fun h : (Option Addr × Nat) × Nat × (Option Addr × Nat) => .slice h.1.1 r.1.length h.1.2) (fun h => [Ch.arr tyRowRow 52 h.1.1 h.1.2 r.1, Ch.box N0 81 [.pointer (some ⟨h.2.1, 0, none⟩), .int .i64 r.2.spot.x, .int .i64 r.2.spot.y, .int .i64 r.2.spot.style.fore, .int .i64 r.2.spot.style.back, .bool r.2.spot.style.bold, .bool r.2.spot.style.under, .bool r.2.spot.style.inverse, .int .i64 r.2.saved.x, .int .i64 r.2.saved.y, .int .i64 r.2.saved.style.fore, .int .i64 r.2.saved.style.back, .bool r.2.saved.style.bold, .bool r.2.saved.style.under, .bool r.2.saved.style.inverse, .bool r.2.waiting, .int .i64 r.2.top, .int .i64 r.2.bottom, .bool r.2.wraps, .string r.2.title], Ch.box h.2.1 96 [.int .i64 r.2.g.w, .slice h.2.2.1 r.2.g.l.length h.2.2.2], Ch.arr tyRowRow 52 h.2.2.1 h.2.2.2 r.2.g.l]) (fun h => []) := by
 delta p_screen_Screen_Do at H
 refine CT.of Go.Proofs.Tryz.func12 (by kernel_rfl) rfl rfl rfl fun K => ?_
 refine Ts (Tr ?_)
 refine Lx fun g1 => ?_
 refine Lq 1 ?_
 refine Ln (Et (Ts (Ts (Tr ?_))))
 refine Lq 1 ?_
 refine Lb 0 ?_
 refine Ln (Et ?_)
 obtain ⟨y134, H135, H136⟩ := bnd H
 refine Tj (η := ScreenScreen × Unit) (fun h => y134 = .inl h.1) (fun _ => []) [] (fun h => (fun e133 => [Ch.box N0 81 [.pointer (some ⟨N1, 0, none⟩), .int .i64 e133.spot.x, .int .i64 e133.spot.y, .int .i64 e133.spot.style.fore, .int .i64 e133.spot.style.back, .bool e133.spot.style.bold, .bool e133.spot.style.under, .bool e133.spot.style.inverse, .int .i64 e133.saved.x, .int .i64 e133.saved.y, .int .i64 e133.saved.style.fore, .int .i64 e133.saved.style.back, .bool e133.saved.style.bold, .bool e133.saved.style.under, .bool e133.saved.style.inverse, .bool e133.waiting, .int .i64 e133.top, .int .i64 e133.bottom, .bool e133.wraps, .string e133.title]]) h.1) [0, 2, 3] (fun _ => []) ?_ ?_
 ·refine Tl (Ts (Tr ?_))
  refine Lq 2 ?_
  refine Ln (Et ?_)
  refine Tb H135 (fun H137 => ?_) fun H137 => ?_
  ·refine Ts (Tr ?_)
   refine Lq 2 ?_
   refine Lb 0 ?_
   obtain ⟨r138, h139, H140⟩ := bnd H137
   refine Lk [1, 1, 1] [1, 2] (c_screen_Screen_print h139) fun ⟨a141, c142⟩ => ?_
   refine Lq 1 ?_
   refine Ln (Et (Tv (Ev ?_)))
   obtain ⟨w145, hz, H146⟩ := inrs_some H140
   subst y134
   obtain rfl := (sm H136).symm
   refine Er ?_
   obtain rfl := sm H146
   exact Eo1 ((a141, c142), N1, (A0, C0)) [0, 0, 0, 0] []
  refine Ts (Tr ?_)
  refine Lq 2 ?_
  refine Ln (Et ?_)
  refine Tb H137 (fun H147 => ?_) fun H147 => ?_
  ·refine Ts (Tr ?_)
   refine Lq 2 ?_
   refine Lb 0 ?_
   obtain ⟨r148, h149, H150⟩ := bnd H147
   refine Lk [1, 1, 1] [] (c_screen_Screen_control h149) fun ⟨a151, c152⟩ => ?_
   refine Lq 1 ?_
   refine Ln (Et (Tv (Ev ?_)))
   obtain ⟨w155, hz, H156⟩ := inrs_some H150
   subst y134
   obtain rfl := (sm H136).symm
   refine Er ?_
   obtain rfl := sm H156
   exact Eo1 ((a151, c152), N1, (A0, C0)) [0, 0, 0, 0] []
  refine Ts (Tr ?_)
  refine Lq 2 ?_
  refine Ln (Et ?_)
  refine Tb H147 (fun H157 => ?_) fun H157 => ?_
  ·refine Ts (Tr ?_)
   refine Lq 2 ?_
   refine Lb 0 ?_
   obtain ⟨r158, h159, H160⟩ := bnd H157
   refine Lk [1, 1, 1] [] (c_screen_Screen_escape h159) fun ⟨⟨a161, c162⟩, g163, ⟨a164, c165⟩⟩ => ?_
   refine Lq 1 ?_
   refine Ln (Et (Tv (Ev ?_)))
   obtain ⟨w168, hz, H169⟩ := inrs_some H160
   subst y134
   obtain rfl := (sm H136).symm
   refine Er ?_
   obtain rfl := sm H169
   exact Eo1 ((a161, c162), g163, (a164, c165)) [0, 0, 0, 0] []
  refine Ts (Tr ?_)
  refine Lq 2 ?_
  refine Ln (Et ?_)
  refine Tb H157 (fun H170 => ?_) fun H170 => ?_
  ·refine Tr ?_
   refine Lq 2 ?_
   refine Lb 0 ?_
   refine Lq 2 ?_
   refine Lt 1 ?_
   refine Ln (Eb ?_)
   obtain rfl := sm H170
   exact Eg (_, ()) rfl [0, 0, 0, 0] [] 0
  refine Ts (Tr ?_)
  refine Lq 2 ?_
  refine Ln (Et ?_)
  refine Tb H170 (fun H171 => ?_) fun H171 => ?_
  ·refine Ts (Ts (Tr ?_))
   refine Lq 1 ?_
   refine Lb 0 ?_
   refine Lq 1 ?_
   refine Ln (Et ?_)
   refine Tb H171 (fun H180 => ?_) fun H180 => ?_
   ·refine Ts (Tr ?_)
    refine Lq 1 ?_
    refine Lb 0 ?_
    obtain ⟨r181, h182, H183⟩ := bnd H180
    refine Lk [1, 1, 1] [0] (c_screen_Screen_order h182) fun ⟨a184, c185⟩ => ?_
    refine Lq 1 ?_
    refine Ln (Et (Tv (Er (Ev ?_))))
    obtain ⟨w188, hz, H189⟩ := inrs_some H183
    subst y134
    obtain rfl := (sm H136).symm
    refine Er ?_
    obtain rfl := sm H189
    exact Eo1 ((a184, c185), N1, (A0, C0)) [0, 0, 0, 0] []
   refine Tk (Et (Ts ?_))
   obtain ⟨e201, H202, H203⟩ := bnd H180
   refine Tj0 [(52, .bool e201)] [0, 3] [] [0, 1, 2, 3] ?_ ?_
   ·refine Tr ?_
    refine Lb 0 ?_
    obtain ⟨r204, h205, H206⟩ := bnd H202
    refine Lk [] [0] (c_screen_at h205) fun ⟨⟩ => ?_
    refine Lq 2 ?_
    refine Lw 43 H206 (fun H207 => ?_) fun H207 => ?_
    ·refine Lq 1 ?_
     refine Lb 0 ?_
     refine Lq 2 ?_
     refine Lw 47 H207 (fun H208 => ?_) fun H208 => ?_
     ·refine Lq 5 ?_
      refine Ln ?_
      obtain rfl := sm H208
      exact Eg0 [0, 0, 0, 0] 0
     refine Lq 1 ?_
     refine Lb 0 ?_
     refine Lq 3 ?_
     refine Ln ?_
     obtain rfl := sm H208
     exact Eg0 [0, 0, 0, 0] 0
    refine Lq 9 ?_
    refine Ln ?_
    obtain rfl := sm H207
    exact Eg0 [0, 0, 0, 0] 0
   refine Tb H203 (fun H209 => ?_) fun H209 => ?_
   ·refine Tr ?_
    refine Lq 2 ?_
    refine Lb 0 ?_
    refine Lq 3 ?_
    refine Lt 1 ?_
    refine Ln (Eb ?_)
    obtain rfl := sm H209
    exact Eg (_, ()) rfl [0, 0, 0, 0] [] 0
   refine Tk (Eb ?_)
   obtain rfl := sm H209
   exact Eg (_, ()) rfl [1, 0, 0, 0] [] 0
  refine Tk (Eb ?_)
  obtain rfl := sm H171
  exact Eg (_, ()) rfl [1, 0, 0, 0] [] 0
 rintro ⟨e133, ⟨⟩⟩ hy
 subst hy
 refine Ts (Tr ?_)
 refine Lq 1 ?_
 refine Ln (Et (Tv ?_))
 refine E.nil0 tyRowRow 52 ?_
 obtain rfl := sm H136
 exact Eo1 ((none, 0), N1, (A0, C0)) [0, 0, 1, 1] []

theorem c_screen_Screen_Cursor {s_ : ScreenScreen} {r : Int × Int} (H : p_screen_Screen_Cursor s_ = some r) : CT G 15 [.pointer (some ⟨N0, 0, none⟩)] [Ch.box N0 81 [.pointer (some ⟨N1, 0, none⟩), .int .i64 s_.spot.x, .int .i64 s_.spot.y, .int .i64 s_.spot.style.fore, .int .i64 s_.spot.style.back, .bool s_.spot.style.bold, .bool s_.spot.style.under, .bool s_.spot.style.inverse, .int .i64 s_.saved.x, .int .i64 s_.saved.y, .int .i64 s_.saved.style.fore, .int .i64 s_.saved.style.back, .bool s_.saved.style.bold, .bool s_.saved.style.under, .bool s_.saved.style.inverse, .bool s_.waiting, .int .i64 s_.top, .int .i64 s_.bottom, .bool s_.wraps, .string s_.title], Ch.box N1 96 [.int .i64 s_.g.w, .slice A0 s_.g.l.length C0], Ch.arr tyRowRow 52 A0 C0 s_.g.l] [] (fun _ : Unit => .tuple #[.int .i64 r.1, .int .i64 r.2]) (fun h => [Ch.box N0 81 [.pointer (some ⟨N1, 0, none⟩), .int .i64 s_.spot.x, .int .i64 s_.spot.y, .int .i64 s_.spot.style.fore, .int .i64 s_.spot.style.back, .bool s_.spot.style.bold, .bool s_.spot.style.under, .bool s_.spot.style.inverse, .int .i64 s_.saved.x, .int .i64 s_.saved.y, .int .i64 s_.saved.style.fore, .int .i64 s_.saved.style.back, .bool s_.saved.style.bold, .bool s_.saved.style.under, .bool s_.saved.style.inverse, .bool s_.waiting, .int .i64 s_.top, .int .i64 s_.bottom, .bool s_.wraps, .string s_.title], Ch.box N1 96 [.int .i64 s_.g.w, .slice A0 s_.g.l.length C0], Ch.arr tyRowRow 52 A0 C0 s_.g.l]) (fun h => []) := by
 delta p_screen_Screen_Cursor at H
 refine CT.of Go.Proofs.Tryz.func15 (by kernel_rfl) rfl rfl rfl fun K => ?_
 refine Ts (Tr ?_)
 refine Lq 2 ?_
 refine Ln (Et (Ts ?_))
 refine Td [] [0, 0, 0] mo ?_
 refine Dq 0 ?_
 refine Dq 1 ?_
 refine Dq 2 ?_
 refine Dq 3 ?_
 refine Db 4 0 ?_
 refine Dq 5 ?_
 refine Dq 6 ?_
 refine Dq 7 ?_
 refine Dq 8 ?_
 refine Db 9 0 ?_
 refine Dq 10 ?_
 refine Dq 11 ?_
 refine Dn ?_
 refine Et (Tv ?_)
 obtain rfl := sm H
 exact Eo () [0, 0, 0] [] (.tmp rfl (.tmp rfl .nil))

theorem c_row_Row_Glyphs {r_ : RowRow} {r : (List RowGlyph)} (H : p_row_Row_Glyphs r_ = some r) : CT G 18 [.agg #[.slice A0 r_.cells.length C0, .bool r_.wrapped]] [] [Im.sl tyRowCell A0 C0 r_.cells] (fun h : (Option Addr × Nat) => .slice h.1 r.length h.2) (fun h => [Ch.arr tyRowGlyph 56 h.1 h.2 r]) (fun h => []) := by
 delta p_row_Row_Glyphs at H
 refine CT.of Go.Proofs.Tryz.func18 (by kernel_rfl) rfl rfl rfl fun K => ?_
 refine Ts (Tr ?_)
 refine Lx fun g1 => ?_
 refine Lq 1 ?_
 refine Ln (Et (Ts (Tr ?_)))
 refine Lq 1 ?_
 refine Lb 0 ?_
 refine Lq 1 ?_
 refine Ln (Et (Ts ?_))
 obtain ⟨e268, H269, H270⟩ := bnd H
 refine Tjh (η := (Option Addr × Nat)) (fun h => (fun a265 c266 => [(3, .slice a265 e268.length c266)]) h.1 h.2) [] (fun _ => []) [0] (fun h => (fun a265 c266 => [Im.sl tyRowCell a265 c266 e268]) h.1 h.2) ?_ ?_
 ·refine Tl ?_
  refine Tq (η := (Option Addr × Nat)) (fun s180 h => (fun a177 c178 => [(3, .slice a177 s180.length c178)]) h.1 h.2) [1] (fun _ _ => []) [0] (fun s180 h => (fun a177 c178 => [Im.sl tyRowCell a177 c178 s180]) h.1 h.2) (A0, C0) [0] [0] H269 ?_
  rintro k_ s180 ⟨a177, c178⟩ z272 H271 hag273 hbr274
  refine Ts (Ts ?_)
  obtain ⟨e324, H325, H326⟩ := bnd H271
  refine Tj0 [(26, .bool e324)] [1, 3] [] [0] ?_ ?_
  ·refine Td [] [0] mo ?_
   refine Dq 0 ?_
   refine Db 1 0 ?_
   refine Dq 2 ?_
   refine Dq 3 ?_
   refine D.cs 12 H325 rfl (fun hc H339 => ?_) (fun hc H339 => ?_)
   ·refine Dq 4 ?_
    refine Dq 5 ?_
    refine Dq 6 ?_
    refine Dq 7 ?_
    refine Dq 8 ?_
    refine D.cs 17 H339 rfl (fun hc H340 => ?_) (fun hc H340 => ?_)
    ·refine Dq 9 ?_
     refine Dq 10 ?_
     refine Dq 11 ?_
     refine Dq 12 ?_
     obtain ⟨x341, h342, H343⟩ := bnd H340
     refine D.addr 0 rfl (idx_lt h342) fun b344 o345 e346 => ?_
     subst e346
     refine Dy 13 (Yl.ia h342 rfl rfl rfl rfl rfl rfl) ?_
     refine D.el 0 rfl (idx_some h342).2 ?_
     rintro _
     refine Dy 14 (Yl.ldc 0 0 rfl rfl rfl rfl) ?_
     obtain ⟨r348, h349, H350⟩ := bnd H343
     refine Dk [] [] (c_row_blank h349) fun ⟨⟩ => ?_
     refine Dq 16 ?_
     refine Dq 17 ?_
     refine Dn ?_
     obtain rfl := sm H350
     exact Eg0 [0] 1
    refine Ds 9 ?_
    refine Ds 10 ?_
    refine Ds 11 ?_
    refine Ds 12 ?_
    refine Ds 13 ?_
    refine Ds 14 ?_
    refine Ds 15 ?_
    refine Ds 16 ?_
    refine Dq 17 ?_
    refine Dn ?_
    obtain rfl := sm H340
    exact Eg0 [0] 0
   refine Ds 4 ?_
   refine Ds 5 ?_
   refine Ds 6 ?_
   refine Dq 7 ?_
   refine Dq 8 ?_
   refine Ds 9 ?_
   refine Ds 10 ?_
   refine Ds 11 ?_
   refine Ds 12 ?_
   refine Ds 13 ?_
   refine Ds 14 ?_
   refine Ds 15 ?_
   refine Ds 16 ?_
   refine Dq 17 ?_
   refine Dn ?_
   obtain rfl := sm H339
   exact Eg0 [0] 0
  refine Tb H326 (fun H352 => ?_) fun H352 => ?_
  ·refine Tk (Et (Tl (Tr ?_)))
   refine Lq 4 ?_
   obtain ⟨_, h353, H354⟩ := bnd H352
   refine L.rs 0 h353 rfl rfl rfl rfl rfl rfl rfl rfl rfl rfl rfl rfl ?_
   intro a355 c356
   refine Lq 1 ?_
   refine Ln (Eb ?_)
   obtain rfl := sm H354
   exact Eg (_, (a355, c356)) (hag273 _ rfl) [0] [0] 2
  refine Tx (Ex (Ex (Eh ?_)))
  obtain rfl := sm H352
  have hb := hbr274 _ rfl
  subst e268
  exact Eg (a177, c178) trivial [0] [0] 1
 rintro ⟨a265, c266⟩
 refine Ts (Tr ?_)
 refine Lq 1 ?_
 refine Ln (Et (Ts (Ts (Tr ?_))))
 refine Lq 3 ?_
 refine Ln (Et ?_)
 obtain ⟨e625, H626, H627⟩ := bnd H270
 refine Tjh (η := (Option Addr × Nat)) (fun h => (fun a622 c623 => [(4, .slice a622 e625.length c623)]) h.1 h.2) [] (fun h => (fun a622 c623 => [Ch.arr tyRowGlyph 56 a622 c623 e625]) h.1 h.2) [0] (fun _ => []) ?_ ?_
 ·refine Tl ?_
  refine T.nil0 tyRowGlyph 56 ?_
  refine Tq (η := (Option Addr × Nat)) (fun s539 h => (fun a536 c537 => [(4, .slice a536 s539.2.length c537), (34, .int .i64 s539.1)]) h.1 h.2) [32, 33] (fun s539 h => (fun a536 c537 => [Ch.arr tyRowGlyph 56 a536 c537 s539.2]) h.1 h.2) [1] (fun _ _ => []) (none, 0) [0, 0] [] H626 ?_
  rintro k_ s539 ⟨a536, c537⟩ z629 H628 hag630 hbr631
  refine Ts (Tr ?_)
  refine Lq 1 ?_
  refine Ln (Et (Ts ?_))
  refine Tb H628 (fun H633 => ?_) fun H633 => ?_
  ·refine Tk (Et (Ts ?_))
   obtain ⟨e686, H687, H688⟩ := bnd H633
   refine Tjh (η := (Option Addr × Nat)) (fun h => (fun a683 c684 => [(4, .slice a683 e686.length c684)]) h.1 h.2) [32, 33, 34] (fun h => (fun a683 c684 => [Ch.arr tyRowGlyph 56 a683 c684 e686]) h.1 h.2) [1] (fun _ => []) ?_ ?_
   ·refine Tl (Ts (Tr ?_))
    obtain ⟨x689, h690, H691⟩ := bnd H687
    refine L.addr 0 rfl (idx_lt h690) fun b692 o693 e694 => ?_
    subst e694
    refine Ly (Yl.ia h690 rfl rfl rfl rfl rfl rfl) ?_
    refine L.el 0 rfl (idx_some h690).2 ?_
    rintro _
    refine Lc 0 0 ?_
    refine Ll fun g696 => ?_
    refine Lt 0 ?_
    refine Ln (Et (Ts ?_))
    obtain ⟨e700, H701, H702⟩ := bnd H691
    refine Tj0 [(45, .bool e700)] [4, 6, 32, 33, 34] [] [0, 2, 1] ?_ ?_
    ·refine Tr ?_
     refine Lq 1 ?_
     refine Lb 0 ?_
     refine Lq 2 ?_
     refine Lw 41 H701 (fun H703 => ?_) fun H703 => ?_
     ·refine Lq 4 ?_
      refine Ln ?_
      obtain rfl := sm H703
      exact Eg0 [0, 1, 0] 0
     refine Lq 1 ?_
     refine Lb 0 ?_
     refine Lq 2 ?_
     refine Ln ?_
     obtain rfl := sm H703
     exact Eg0 [0, 1, 0] 0
    refine Tb H702 (fun H704 => ?_) fun H704 => ?_
    ·refine Tr ?_
     refine Lq 2 ?_
     refine Lb 0 ?_
     refine Lq 1 ?_
     refine Lb 0 ?_
     refine Lq 1 ?_
     refine La [] [] (Ac.bs (ty := tyRowGlyph) (xs := [(RowGlyph.mk x689.rune x689.style)]) (.cons () [] rfl .nil) rfl rfl rfl rfl rfl rfl rfl) fun g705 => ?_
     refine L.frz 0 rfl ?_
     obtain ⟨_, h708, H709⟩ := bnd H704
     refine La [2] [0] (Ac.ap (ty := tyRowGlyph) h708 rfl rfl rfl rfl rfl rfl rfl) ?_
     rintro ⟨a710, c711⟩
     refine Lq 1 ?_
     refine Ln (Eb ?_)
     obtain rfl := sm H709
     exact Eg (a710, c711) trivial [0, 1] [] 2
    refine Tk (Eb ?_)
    obtain rfl := sm H704
    exact Eg (a536, c537) trivial [2, 1] [] 1
   rintro ⟨a683, c684⟩
   refine Tr ?_
   refine Lq 2 ?_
   refine Ln ?_
   obtain rfl := sm H688
   exact Eg (_, (a683, c684)) (hag630 _ rfl) [0, 0] [] 0
  refine Tx (Ex (Ex (Eh ?_)))
  obtain rfl := sm H633
  have hb := hbr631 _ rfl
  subst e625
  exact Eg (a536, c537) trivial [0, 0] [] 0
 rintro ⟨a622, c623⟩
 refine Ts (Tr ?_)
 refine Lq 2 ?_
 refine Ln (Et (Tv ?_))
 obtain rfl := sm H627
 exact Eo1 (a622, c623) [0] []

theorem c_grid_each_v2 {l : List RowRow} {r : (List RowRow)} (H : p_grid_each_v2 l = some r) : CT G 91 [.slice A0 l.length C0] [Ch.arr tyRowRow 52 A0 C0 l] [] (fun h : Nat => .func (.func 123) #[] #[.pointer (some ⟨h, 0, none⟩)]) (fun h => [Ch.box h 33 [.slice A0 r.length C0], Ch.arr tyRowRow 52 A0 C0 r]) (fun h => []) := by
 delta p_grid_each_v2 at H
 refine CT.of Go.Proofs.Tryz.func91 (by kernel_rfl) rfl rfl rfl fun K => ?_
 refine Ts (Tr ?_)
 refine Lx fun g1 => ?_
 refine Lq 1 ?_
 refine Ln (Et (Ts (Tr ?_)))
 refine Lq 2 ?_
 refine Ln (Et (Tv ?_))
 obtain rfl := sm H
 exact Eo1 g1 [0, 0] []

theorem c_grid_each_1_v2 {σ η : Type} {Y : σ → RowRow → Option (σ × Bool)} {y0 : σ} {x1 : List RowRow} {yl : Nat} {C : σ → η → Ch} (hY : ∀ s (h : η) (x : RowRow) (t : (Option Addr × Nat)) z, Y s x = some z → YT G yl [.agg #[.slice t.1 x.cells.length t.2, .bool x.wrapped]] [C s h] [Im.sl tyRowCell t.1 t.2 x.cells] (fun _ : η => .bool z.2) (fun h2 => [C z.1 h2]) (fun _ => [])) (h0 : η) (g_1 : Nat) (a_1_0 : Option Addr) (c_1_0 : Nat) {r : σ} (H : p_grid_each_1_v2 Y y0 x1 = some r) : CT G 123 [.func (.yield yl) #[] #[], .pointer (some ⟨g_1, 0, none⟩)] [C y0 h0, Ch.box g_1 33 [.slice a_1_0 x1.length c_1_0], Ch.arr tyRowRow 52 a_1_0 c_1_0 x1] [] (fun h : η => .tuple #[]) (fun h => [C r h, Ch.box g_1 33 [.slice a_1_0 x1.length c_1_0], Ch.arr tyRowRow 52 a_1_0 c_1_0 x1]) (fun h => []) := by
  delta p_grid_each_1_v2 at H
  refine CT.of Go.Proofs.Tryz.func123 (by kernel_rfl) rfl rfl rfl fun K => ?_
  refine Ts (Tr ?_)
  refine Lb 1 ?_
  refine Lq 2 ?_
  refine Ln (Et ?_)
  obtain ⟨y140, H141, H142⟩ := bnd H
  refine T.joinE (η := σ × (η)) (fun h => y140 = .inl h.1) (fun h => (fun e139 => (fun h138 => []) h.2) h.1) (fun h => (fun e139 => (fun h138 => [C e139 h138, Ch.box g_1 33 [.slice a_1_0 x1.length c_1_0], Ch.arr tyRowRow 52 a_1_0 c_1_0 x1]) h.2) h.1) (fun h => (fun e139 => (fun h138 => []) h.2) h.1) ?_ ?_
  ·refine Tl ?_
   refine Tq (η := η) (fun s94 h => (fun h93 => [(7, .int .i64 s94.1)]) h) [0, 5, 6] (fun s94 h => (fun h93 => [C s94.2 h93]) h) [1, 2] (fun _ _ => []) h0 [0, 0, 0] [] H141 ?_
   rintro k_ s94 h93 z144 H143 hag145 hbr146
   refine Ts (Tr ?_)
   refine Lq 1 ?_
   refine Ln (Et (Ts ?_))
   refine Tb H143 (fun H148 => ?_) fun H148 => ?_
   ·refine Tk (Et (Ts (Tl (Ts (Tr ?_)))))
    obtain ⟨x169, h170, H171⟩ := bnd H148
    refine L.addro 2 rfl (idx_lt h170) fun b172 e173 => ?_
    subst e173
    refine Ly (Yl.ia h170 rfl rfl rfl rfl rfl rfl) ?_
    refine La [2] [] (Ac.lo s94.1.toNat 0 (v := (fun h : (Option Addr × Nat) => (fun a174 c175 => .agg #[.slice a174 x169.cells.length c175, .bool x169.wrapped]) h.1 h.2)) (idx_some h170).2 rfl rfl rfl (fun _ => rfl)) ?_
    rintro ⟨a174, c175⟩
    refine Ll fun g177 => ?_
    refine Lt 0 ?_
    refine Ln (Et (Ts (Tr ?_)))
    refine Lq 1 ?_
    refine Lb 0 ?_
    obtain ⟨r178, h179, H180⟩ := bnd H171
    refine Lk [] [0] (c_grid_own h179) fun ⟨a181, c182⟩ => ?_
    obtain ⟨z184, h185, H186⟩ := bnd H180
    refine L.yd [2] [0] (hY _ _ _ (a181, c182) _ h185) rfl rfl rfl rfl rfl rfl rfl rfl ?_
    intro h187
    refine Lq 1 ?_
    refine Ln (Et ?_)
    refine Tb H186 (fun H188 => ?_) fun H188 => ?_
    ·refine Tv (Ev (Er (Er (Ev ?_))))
     obtain ⟨w189, hz, H190⟩ := inrr_some H188
     subst z144
     have hb := hbr146 _ rfl
     subst y140
     obtain rfl := (sm H142).symm
     refine Er ?_
     obtain rfl := sm H190
     exact Eo h187 [0, 2, 1] [] .nil
    refine Tk (Eb (Et (Tr ?_)))
    refine Lq 2 ?_
    refine Ln ?_
    obtain rfl := sm H188
    exact Eg (_, h187) (hag145 _ rfl) [0, 2, 1] [] 2
   refine Tx (Ex (Ex (Eh ?_)))
   obtain rfl := sm H148
   have hb := hbr146 _ rfl
   subst y140
   exact Egx (_, h93) rfl [0, 0, 0] []
  rintro ⟨e139, h138⟩ hy
  subst hy
  refine E.off ?_
  obtain rfl := sm H142
  exact Eo h138 [0, 0, 0] [] .nil

theorem c_grid_copies_v2 {l : List RowRow} {r : (List RowRow) × (List RowRow)} (H : p_grid_copies_v2 l = some r) : CT G 44 [.slice A0 l.length C0] [Ch.arr tyRowRow 52 A0 C0 l] [] (fun h : (Option Addr × Nat) => .slice h.1 r.1.length h.2) (fun h => [Ch.arr tyRowRow 52 h.1 h.2 r.1, Ch.arr tyRowRow 52 A0 C0 r.2]) (fun h => []) := by
 delta p_grid_copies_v2 at H
 refine CT.of Go.Proofs.Tryz.func44 (by kernel_rfl) rfl rfl rfl fun K => ?_
 refine T.dfs0 ?_
 refine Ts (Tr ?_)
 refine Lq 1 ?_
 refine Ln (Et (Ts (Tr ?_)))
 refine Ll fun g1 => ?_
 refine Ln (Et (Ts (Ts (Tr ?_))))
 refine Lq 1 ?_
 obtain ⟨r2, h3, H4⟩ := bnd H
 refine Lk [2] [] (c_grid_each_v2 h3) fun g5 => ?_
 refine Ln (Et (Tl ?_))
 refine T.nil0 tyRowRow 52 ?_
 obtain ⟨r54, h55, H56⟩ := bnd H4
 refine T.rf2 (σ := (List RowRow)) (η := (Option Addr × Nat)) (X := RowRow) (θ := (Option Addr × Nat)) (τ := (Option Addr × Nat)) (s1 := r54) (hx := fun x => x) (fun x t => [.agg #[.slice t.1 x.cells.length t.2, .bool x.wrapped]]) (fun x t => [Im.sl tyRowCell t.1 t.2 x.cells]) (fun _ => none) (fun s40 h => (fun a23 c24 => [Ch.arr tyRowRow 52 a23 c24 s40, Ch.box g1 33 [.slice a23 s40.length c24]]) h.1 h.2) (fun s40 h => (fun a23 c24 => []) h.1 h.2) 4 [0, 2, 0, 0] [] [] rfl rfl (fun _ _ => rfl) rfl (fun yl C hY => (c_grid_each_1_v2 hY (none, 0) g5 A0 C0 h55 : _)) (fun _ _ _ _ => rfl) rfl rfl rfl rfl rfl ?_ rfl ?_
 ·rintro yl K2 s40 ⟨a23, c24⟩ x9 ⟨a7, c8⟩ z41 H42
  refine Tr ?_
  refine Ll fun g44 => ?_
  refine Lt 0 ?_
  refine Ln ?_
  refine E.begin fun K3 => ?_
  refine Tl (Tr ?_)
  refine Lb 2 ?_
  refine Lb 0 ?_
  refine La [] [0] (Ac.bs (ty := tyRowRow) (xs := [x9]) (.cons (a7, c8) [0] rfl .nil) rfl rfl rfl rfl rfl rfl rfl) fun g45 => ?_
  refine L.frz 0 rfl ?_
  obtain ⟨_, h48, H49⟩ := bnd H42
  refine La [1] [0] (Ac.ap (ty := tyRowRow) h48 rfl rfl rfl rfl rfl rfl rfl) ?_
  rintro ⟨a50, c51⟩
  refine Lt 2 ?_
  refine Ln (Eb ?_)
  obtain rfl := sm H49
  exact E.on (a50, c51) [1, 0] [] rfl rfl rfl rfl
 rintro h57 D59
 refine Eb (Et (Ts (Tr ?_)))
 refine Lb 2 ?_
 refine Lq 1 ?_
 refine Ln (Et (Tv ?_))
 obtain rfl := sm H56
 exact E.retd (h57.1, h57.2) 0 [0, 2] [] rfl (.tmp rfl .nil) rfl rfl rfl

theorem c_grid_Grid_Clone {g : GridGrid} {r : GridGrid × GridGrid} (H : p_grid_Grid_Clone g = some r) : CT G 43 [.pointer (some ⟨N0, 0, none⟩)] [Ch.box N0 96 [.int .i64 g.w, .slice A0 g.l.length C0], Ch.arr tyRowRow 52 A0 C0 g.l] [] (fun h : Nat × (Option Addr × Nat) => .pointer (some ⟨h.1, 0, none⟩)) (fun h => [Ch.box h.1 96 [.int .i64 r.1.w, .slice h.2.1 r.1.l.length h.2.2], Ch.arr tyRowRow 52 h.2.1 h.2.2 r.1.l, Ch.box N0 96 [.int .i64 r.2.w, .slice A0 r.2.l.length C0], Ch.arr tyRowRow 52 A0 C0 r.2.l]) (fun h => []) := by
 delta p_grid_Grid_Clone at H
 refine CT.of Go.Proofs.Tryz.func43 (by kernel_rfl) rfl rfl rfl fun K => ?_
 refine Ts (Tr ?_)
 refine Lq 1 ?_
 refine Ln (Et (Ts ?_))
 refine Td [] [0] mo ?_
 refine Dq 0 ?_
 refine Dq 1 ?_
 refine Dq 2 ?_
 refine Db 3 0 ?_
 refine Dq 4 ?_
 refine Dq 5 ?_
 refine Dq 6 ?_
 refine Db 7 0 ?_
 obtain ⟨r31, h32, H33⟩ := bnd H
 refine Dk [0] [] (c_grid_copies_v2 h32) fun ⟨a34, c35⟩ => ?_
 obtain ⟨_, h38, H39⟩ := bnd H33
 refine Dq 9 ?_
 refine Da [] [] rfl rfl (Ac.box rfl rfl) fun g40 => ?_
 refine Dq 11 ?_
 refine Dn ?_
 refine E.bx 0 (cs' := [.int .i64 g.w, .slice A0 r31.2.length C0]) (by rw [(chk_some h38)]) rfl ?_
 refine Et (Tv ?_)
 obtain rfl := sm H39
 exact Eo1 (g40, (a34, c35)) [1, 1, 0, 0] []

theorem c_screen_Screen_Grid {s_ : ScreenScreen} {r : GridGrid × ScreenScreen} (H : p_screen_Screen_Grid s_ = some r) : CT G 16 [.pointer (some ⟨N0, 0, none⟩)] [Ch.box N0 81 [.pointer (some ⟨N1, 0, none⟩), .int .i64 s_.spot.x, .int .i64 s_.spot.y, .int .i64 s_.spot.style.fore, .int .i64 s_.spot.style.back, .bool s_.spot.style.bold, .bool s_.spot.style.under, .bool s_.spot.style.inverse, .int .i64 s_.saved.x, .int .i64 s_.saved.y, .int .i64 s_.saved.style.fore, .int .i64 s_.saved.style.back, .bool s_.saved.style.bold, .bool s_.saved.style.under, .bool s_.saved.style.inverse, .bool s_.waiting, .int .i64 s_.top, .int .i64 s_.bottom, .bool s_.wraps, .string s_.title], Ch.box N1 96 [.int .i64 s_.g.w, .slice A0 s_.g.l.length C0], Ch.arr tyRowRow 52 A0 C0 s_.g.l] [] (fun h : Nat × (Option Addr × Nat) => .pointer (some ⟨h.1, 0, none⟩)) (fun h => [Ch.box h.1 96 [.int .i64 r.1.w, .slice h.2.1 r.1.l.length h.2.2], Ch.arr tyRowRow 52 h.2.1 h.2.2 r.1.l, Ch.box N0 81 [.pointer (some ⟨N1, 0, none⟩), .int .i64 r.2.spot.x, .int .i64 r.2.spot.y, .int .i64 r.2.spot.style.fore, .int .i64 r.2.spot.style.back, .bool r.2.spot.style.bold, .bool r.2.spot.style.under, .bool r.2.spot.style.inverse, .int .i64 r.2.saved.x, .int .i64 r.2.saved.y, .int .i64 r.2.saved.style.fore, .int .i64 r.2.saved.style.back, .bool r.2.saved.style.bold, .bool r.2.saved.style.under, .bool r.2.saved.style.inverse, .bool r.2.waiting, .int .i64 r.2.top, .int .i64 r.2.bottom, .bool r.2.wraps, .string r.2.title], Ch.box N1 96 [.int .i64 r.2.g.w, .slice A0 r.2.g.l.length C0], Ch.arr tyRowRow 52 A0 C0 r.2.g.l]) (fun h => []) := by
 delta p_screen_Screen_Grid at H
 refine CT.of Go.Proofs.Tryz.func16 (by kernel_rfl) rfl rfl rfl fun K => ?_
 refine Ts (Tr ?_)
 refine Lq 1 ?_
 refine Ln (Et (Ts (Tr ?_)))
 refine Lq 3 ?_
 refine Lb 0 ?_
 obtain ⟨r1, h2, H3⟩ := bnd H
 refine Lk [1, 1] [] (c_grid_Grid_Clone h2) fun ⟨g4, ⟨a5, c6⟩⟩ => ?_
 refine Lq 1 ?_
 refine Ln (Et (Tv ?_))
 obtain rfl := sm H3
 exact Eo1 (g4, (a5, c6)) [0, 0, 2, 0, 0] []

theorem c_law11_awake {r : Bool} (H : p_law11_awake = some r) : CT G 8 [] [] [Im.sl tyWideSpan (some ⟨0, 0, none⟩) 13 t_wide_nones, Im.sl tyWideSpan (some ⟨1, 0, none⟩) 14 t_wide_twos] (fun _ : Unit => .bool r) (fun h => []) (fun h => []) := by
 delta p_law11_awake at H
 refine CT.of Go.Proofs.Tryz.func8 (by kernel_rfl) rfl rfl rfl fun K => ?_
 refine Ts (Tr ?_)
 refine Lq 1 ?_
 refine Ln (Et (Ts (Tr ?_)))
 obtain ⟨r1, h2, H3⟩ := bnd H
 refine Lk [] [] (c_screen_New h2) fun ⟨g4, g5, ⟨a6, c7⟩⟩ => ?_
 refine Lq 1 ?_
 refine Ln (Et (Ts (Ts (Tr ?_))))
 refine Lq 1 ?_
 refine Ly (Yl.pn rfl rfl rfl rfl rfl rfl) ?_
 refine Ln (Et ?_)
 refine T.cond rfl (fun h => nomatch h) (fun _ => ?_)
 refine Tk (Et (Ts (Ts (Tr ?_))))
 refine La [] [] (Ac.bs (ty := (Ty.int .i32)) (xs := [97, 98, 99, 100]) (.cons () [] rfl (.cons () [] rfl (.cons () [] rfl (.cons () [] rfl .nil)))) rfl rfl rfl rfl rfl rfl rfl) fun g9 => ?_
 refine Lq 2 ?_
 refine Ln (Et ?_)
 obtain ⟨y132, H133, H134⟩ := bnd H3
 refine Tj (η := ScreenScreen × (Nat × (Option Addr × Nat))) (fun h => y132 = .inl h.1) (fun _ => []) [1] (fun h => (fun e131 => (fun g127 a128 c129 => [Ch.arr tyRowRow 52 a128 c129 e131.g.l, Ch.box g4 81 [.pointer (some ⟨g127, 0, none⟩), .int .i64 e131.spot.x, .int .i64 e131.spot.y, .int .i64 e131.spot.style.fore, .int .i64 e131.spot.style.back, .bool e131.spot.style.bold, .bool e131.spot.style.under, .bool e131.spot.style.inverse, .int .i64 e131.saved.x, .int .i64 e131.saved.y, .int .i64 e131.saved.style.fore, .int .i64 e131.saved.style.back, .bool e131.saved.style.bold, .bool e131.saved.style.under, .bool e131.saved.style.inverse, .bool e131.waiting, .int .i64 e131.top, .int .i64 e131.bottom, .bool e131.wraps, .string e131.title], Ch.box g127 96 [.int .i64 e131.g.w, .slice a128 e131.g.l.length c129]]) h.2.1 h.2.2.1 h.2.2.2) h.1) [] (fun _ => []) ?_ ?_
 ·refine Tl ?_
  refine Tq (η := Nat × (Option Addr × Nat)) (fun s93 h => (fun g88 a89 c90 => [(12, .int .i64 s93.2)]) h.1 h.2.1 h.2.2) [1, 10, 11] (fun s93 h => (fun g88 a89 c90 => [Ch.arr tyRowRow 52 a89 c90 s93.1.g.l, Ch.box g4 81 [.pointer (some ⟨g88, 0, none⟩), .int .i64 s93.1.spot.x, .int .i64 s93.1.spot.y, .int .i64 s93.1.spot.style.fore, .int .i64 s93.1.spot.style.back, .bool s93.1.spot.style.bold, .bool s93.1.spot.style.under, .bool s93.1.spot.style.inverse, .int .i64 s93.1.saved.x, .int .i64 s93.1.saved.y, .int .i64 s93.1.saved.style.fore, .int .i64 s93.1.saved.style.back, .bool s93.1.saved.style.bold, .bool s93.1.saved.style.under, .bool s93.1.saved.style.inverse, .bool s93.1.waiting, .int .i64 s93.1.top, .int .i64 s93.1.bottom, .bool s93.1.wraps, .string s93.1.title], Ch.box g88 96 [.int .i64 s93.1.g.w, .slice a89 s93.1.g.l.length c90]]) h.1 h.2.1 h.2.2) [0] (fun _ _ => []) (g5, (a6, c7)) [3, 1, 1, 0] [] H133 ?_
  rintro k_ s93 ⟨g88, ⟨a89, c90⟩⟩ z136 H135 hag137 hbr138
  refine Ts (Tr ?_)
  refine Lq 1 ?_
  refine Ln (Et (Ts ?_))
  refine Tb H135 (fun H140 => ?_) fun H140 => ?_
  ·refine Tk (Et (Ts (Tl (Ts (Tr ?_)))))
   obtain ⟨x156, h157, H158⟩ := bnd H140
   refine Ly (Yl.ia h157 rfl rfl rfl rfl rfl rfl) ?_
   refine Ly (Yl.lo (v := .int .i32 x156) 3 s93.2.toNat 0 (idx_some h157).2 rfl rfl rfl rfl (fun _ => rfl)) ?_
   refine Lq 1 ?_
   refine Ln (Et (Ts (Tr ?_)))
   refine Lq 3 ?_
   refine L.know [Im.sl (Ty.int .i64) none 0 []] (fun A w _ _ f hf => by rw [List.mem_singleton.1 hf]; exact Im.sl_nil A w) ?_
   obtain ⟨r160, h161, H162⟩ := bnd H158
   refine Lk [1, 1, 0] [0, 1, 2] (c_screen_Screen_Do h161) fun ⟨⟨a163, c164⟩, g165, ⟨a166, c167⟩⟩ => ?_
   refine Lq 2 ?_
   refine Ln (Et ?_)
   refine Tb H162 (fun H170 => ?_) fun H170 => ?_
   ·refine Ts (Tr ?_)
    refine Lq 1 ?_
    refine Ln (Et (Tv (Ev (Er (Er (Ev ?_))))))
    obtain ⟨w171, hz, H172⟩ := inrr_some H170
    subst z136
    have hb := hbr138 _ rfl
    subst y132
    obtain rfl := (sm H134).symm
    refine Er ?_
    obtain rfl := sm H172
    exact Eo1 () [] []
   refine Tk (Eb (Et (Tr ?_)))
   refine Lq 2 ?_
   refine Ln ?_
   obtain rfl := sm H170
   exact Eg (_, (g165, (a166, c167))) (hag137 _ rfl) [3, 1, 1, 1] [] 1
  refine Tx (Ex (Ex (Eh ?_)))
  obtain rfl := sm H140
  have hb := hbr138 _ rfl
  subst y132
  exact Eg (_, (g88, (a89, c90))) rfl [0, 0, 0] [] 0
 rintro ⟨e131, ⟨g127, ⟨a128, c129⟩⟩⟩ hy
 subst hy
 refine Ts (Tr ?_)
 refine Lq 2 ?_
 refine L.know [Im.sl (Ty.int .i64) none 0 []] (fun A w _ _ f hf => by rw [List.mem_singleton.1 hf]; exact Im.sl_nil A w) ?_
 obtain ⟨r174, h175, H176⟩ := bnd H134
 refine Lk [1, 1, 0] [0, 1, 2] (c_screen_Screen_Do h175) fun ⟨⟨a177, c178⟩, g179, ⟨a180, c181⟩⟩ => ?_
 refine Lq 1 ?_
 refine Ln (Et (Ts (Tr ?_)))
 refine Lq 1 ?_
 obtain ⟨r184, h185, H186⟩ := bnd H176
 refine Lk [1, 1, 1] [] (c_screen_Screen_Cursor h185) fun ⟨⟩ => ?_
 refine Lq 5 ?_
 refine Ln (Et (Ts ?_))
 obtain ⟨e257, H258, H259⟩ := bnd H186
 refine Tj0 [(0, .bool e257.1)] [] [Ch.arr tyRowRow 52 a180 c181 e257.2.2.l, Ch.box g4 81 [.pointer (some ⟨g179, 0, none⟩), .int .i64 e257.2.1.spot.x, .int .i64 e257.2.1.spot.y, .int .i64 e257.2.1.spot.style.fore, .int .i64 e257.2.1.spot.style.back, .bool e257.2.1.spot.style.bold, .bool e257.2.1.spot.style.under, .bool e257.2.1.spot.style.inverse, .int .i64 e257.2.1.saved.x, .int .i64 e257.2.1.saved.y, .int .i64 e257.2.1.saved.style.fore, .int .i64 e257.2.1.saved.style.back, .bool e257.2.1.saved.style.bold, .bool e257.2.1.saved.style.under, .bool e257.2.1.saved.style.inverse, .bool e257.2.1.waiting, .int .i64 e257.2.1.top, .int .i64 e257.2.1.bottom, .bool e257.2.1.wraps, .string e257.2.1.title], Ch.box g179 96 [.int .i64 e257.2.2.w, .slice a180 e257.2.2.l.length c181]] [] ?_ ?_
 ·refine Tr ?_
  refine Lq 4 ?_
  refine Lw 34 H258 (fun H260 => ?_) fun H260 => ?_
  ·refine Lq 1 ?_
   obtain ⟨x261, h262, H263⟩ := bnd H260
   refine L.addro 3 rfl (idx_lt h262) fun b264 e265 => ?_
   subst e265
   refine Ly (Yl.ia h262 rfl rfl rfl rfl rfl rfl) ?_
   refine Lq 1 ?_
   refine La [3] [] (Ac.lo ((0 : Int).toNat) 1 (v := (fun h : (Option Addr × Nat) => (fun a266 c267 => .bool x261.wrapped) h.1 h.2)) (idx_some h262).2 rfl rfl rfl (fun _ => rfl)) ?_
   rintro ⟨a266, c267⟩
   refine Lq 2 ?_
   refine Lw 40 H263 (fun H269 => ?_) fun H269 => ?_
   ·refine Lq 1 ?_
    obtain ⟨x270, h271, H272⟩ := bnd H269
    refine Ly (Yl.ia h271 rfl rfl rfl rfl rfl rfl) ?_
    refine La [0] [] (Ac.lo ((0 : Int).toNat) 0 (v := (fun h : (Option Addr × Nat) => (fun a273 c274 => .agg #[.slice a273 x270.cells.length c274, .bool x270.wrapped]) h.1 h.2)) (idx_some h271).2 rfl rfl rfl (fun _ => rfl)) ?_
    rintro ⟨a273, c274⟩
    obtain ⟨r276, h277, H278⟩ := bnd H272
    refine Lk [] [0] (c_row_Row_Glyphs h277) fun ⟨a279, c280⟩ => ?_
    refine Lq 4 ?_
    refine Lw 48 H278 (fun H282 => ?_) fun H282 => ?_
    ·refine Lq 4 ?_
     refine Lw 52 H282 (fun H283 => ?_) fun H283 => ?_
     ·refine Lq 4 ?_
      refine Lw 56 H283 (fun H284 => ?_) fun H284 => ?_
      ·refine Lq 1 ?_
       obtain ⟨r285, h286, H287⟩ := bnd H284
       refine Lk [2, 2, 2] [] (c_screen_Screen_Grid h286) fun ⟨g288, ⟨a289, c290⟩⟩ => ?_
       refine Ly (Yl.pn rfl rfl rfl rfl rfl rfl) ?_
       refine Lq 2 ?_
       refine Ln ?_
       obtain rfl := sm H287
       exact Eg0 [4, 2, 2] 2
      refine Lq 5 ?_
      refine Ln ?_
      obtain rfl := sm H284
      exact Eg0 [4, 2, 2] 2
     refine Lq 9 ?_
     refine Ln ?_
     obtain rfl := sm H283
     exact Eg0 [4, 2, 2] 2
    refine Lq 13 ?_
    refine Ln ?_
    obtain rfl := sm H282
    exact Eg0 [4, 2, 2] 2
   refine Lq 21 ?_
   refine Ln ?_
   obtain rfl := sm H269
   exact Eg0 [3, 1, 1] 1
  refine Lq 27 ?_
  refine Ln ?_
  obtain rfl := sm H260
  exact Eg0 [2, 0, 0] 0
 refine Tv ?_
 obtain rfl := sm H259
 exact Eo1 () [] []

theorem c_ref10_size {n_ : Int} {r : Int} (H : p_ref10_size n_ = some r) : CT G 59 [.int .i64 n_] [] [] (fun _ : Unit => .int .i64 r) (fun h => []) (fun h => []) := by
 delta p_ref10_size at H
 refine CT.of Go.Proofs.Tryz.func59 (by kernel_rfl) rfl rfl rfl fun K => ?_
 refine Ts (Tr ?_)
 refine Lq 1 ?_
 refine Ln (Et (Ts (Tr ?_)))
 refine Lq 4 ?_
 refine Ln (Et (Tv ?_))
 obtain rfl := sm H
 exact Eo1 () [] []

theorem c_ref09_near {n_ : Int} {lo : Int} {hi : Int} {r : Int} (H : p_ref09_near n_ lo hi = some r) : CT G 106 [.int .i64 n_, .int .i64 lo, .int .i64 hi] [] [] (fun _ : Unit => .int .i64 r) (fun h => []) (fun h => []) := by
 delta p_ref09_near at H
 refine CT.of Go.Proofs.Tryz.func106 (by kernel_rfl) rfl rfl rfl fun K => ?_
 refine Ts (Tr ?_)
 refine Lq 1 ?_
 refine Ln (Et (Ts (Ts (Tr ?_))))
 refine Lq 3 ?_
 refine Ln (Et ?_)
 refine Tb H (fun H2 => ?_) fun H2 => ?_
 ·refine Ts (Tr ?_)
  refine Lq 2 ?_
  refine Ln (Et (Tv (Er ?_)))
  obtain rfl := sm H2
  exact Eo1 () [] []
 refine Tk (Et (Ts (Ts (Tr ?_))))
 refine Lq 3 ?_
 refine Ln (Et ?_)
 refine Tb H2 (fun H4 => ?_) fun H4 => ?_
 ·refine Ts (Tr ?_)
  refine Lq 2 ?_
  refine Ln (Et (Tv (Er ?_)))
  obtain rfl := sm H4
  exact Eo1 () [] []
 refine Tk (Et (Ts (Tr ?_)))
 refine Lq 2 ?_
 refine Ln (Et (Tv ?_))
 obtain rfl := sm H4
 exact Eo1 () [] []

theorem c_ref09_Blank {w : Int} {style : Int} {r : Ref09Row} (H : p_ref09_Blank w style = some r) : CT G 60 [.int .i64 w, .int .i64 style] [] [] (fun h : (Option Addr × Nat) => .agg #[.slice h.1 r.l.length h.2, .bool r.wrapped]) (fun h => []) (fun h => [Im.sl tyRef09Cell h.1 h.2 r.l]) := by
 delta p_ref09_Blank at H
 refine CT.of Go.Proofs.Tryz.func60 (by kernel_rfl) rfl rfl rfl fun K => ?_
 refine Ts (Tr ?_)
 refine Ll fun g1 => ?_
 refine Ln (Et (Ts (Tr ?_)))
 refine La [] [] (Ac.bs (ty := tyRef09Cell) (xs := []) .nil rfl rfl rfl rfl rfl rfl rfl) fun g2 => ?_
 refine Lq 1 ?_
 refine Ln (Et (Ts (Ts (Tr ?_))))
 refine Lq 1 ?_
 refine Ln (Et ?_)
 obtain ⟨e87, H88, H89⟩ := bnd H
 refine Tjh (η := (Option Addr × Nat)) (fun h => (fun a84 c85 => [(5, .slice a84 e87.length c85)]) h.1 h.2) [4] (fun h => (fun a84 c85 => [Ch.arr tyRef09Cell 109 a84 c85 e87]) h.1 h.2) [1] (fun _ => []) ?_ ?_
 ·refine Tl ?_
  refine Tq (η := (Option Addr × Nat)) (fun s61 h => (fun a57 c58 => [(5, .slice a57 s61.1.length c58), (6, .int .i64 s61.2)]) h.1 h.2) [0, 1, 4] (fun s61 h => (fun a57 c58 => [Ch.arr tyRef09Cell 109 a57 c58 s61.1]) h.1 h.2) [1] (fun _ _ => []) ((some ⟨g2, 0, none⟩), 0) [0, 0] [] H88 ?_
  rintro k_ s61 ⟨a57, c58⟩ z91 H90 hag92 hbr93
  refine Ts (Ts (Tr ?_))
  refine Lq 2 ?_
  obtain ⟨r94, h95, H96⟩ := bnd H90
  refine Lk [] [] (c_ref09_near h95) fun ⟨⟩ => ?_
  refine Lq 1 ?_
  refine Ln (Et ?_)
  refine Tb H96 (fun H98 => ?_) fun H98 => ?_
  ·refine Tk (Et (Ts (Tl (Tr ?_))))
   refine Lq 3 ?_
   refine La [] [] (Ac.bs (ty := tyRef09Cell) (xs := [(Ref09Cell.mk 32 style 0)]) (.cons () [] rfl .nil) rfl rfl rfl rfl rfl rfl rfl) fun g107 => ?_
   refine L.frz 0 rfl ?_
   obtain ⟨_, h110, H111⟩ := bnd H98
   refine La [0] [0] (Ac.ap (ty := tyRef09Cell) h110 rfl rfl rfl rfl rfl rfl rfl) ?_
   rintro ⟨a112, c113⟩
   refine Lq 1 ?_
   refine Ln (Eb (Et (Tr ?_)))
   refine Lq 3 ?_
   refine Ln ?_
   obtain rfl := sm H111
   exact Eg (_, (a112, c113)) (hag92 _ rfl) [0, 0] [] 1
  refine Tx (Ex (Ex (Eh ?_)))
  obtain rfl := sm H98
  have hb := hbr93 _ rfl
  subst e87
  exact Eg (a57, c58) trivial [0, 0] [] 0
 rintro ⟨a84, c85⟩
 refine Ts (Tr ?_)
 refine Lq 2 ?_
 refine Lt 1 ?_
 refine Ln (Et (Tv ?_))
 refine E.frz 1 rfl ?_
 obtain rfl := sm H89
 exact Eo (a84, c85) [] [0] (.cell 0 rfl rfl rfl .nil)

theorem c_ref10_New {w : Int} {h_ : Int} {r : Ref10Grid} (H : p_ref10_New w h_ = some r) : CT G 30 [.int .i64 w, .int .i64 h_] [] [] (fun h : (Option Addr × Nat) => .agg #[.int .i64 r.w, .slice h.1 r.l.length h.2]) (fun h => []) (fun h => [Im.sl tyRef09Row h.1 h.2 r.l]) := by
 delta p_ref10_New at H
 refine CT.of Go.Proofs.Tryz.func30 (by kernel_rfl) rfl rfl rfl fun K => ?_
 refine Ts (Tr ?_)
 refine Ll fun g1 => ?_
 refine Ln (Et (Ts (Tr ?_)))
 refine Lq 1 ?_
 obtain ⟨r2, h3, H4⟩ := bnd H
 refine Lk [] [] (c_ref10_size h3) fun ⟨⟩ => ?_
 refine Lq 1 ?_
 refine Ll fun g5 => ?_
 refine Lt 0 ?_
 refine Ln (Et (Ts (Ts (Tr ?_))))
 refine Lq 1 ?_
 refine Ln (Et ?_)
 obtain ⟨e213, H214, H215⟩ := bnd H4
 refine Tjh (η := (Option Addr × Nat)) (fun _ => []) [4, 5] (fun h => (fun a210 c211 => [Ch.arr tyRef09Row 69 a210 c211 e213.l, Ch.box g5 27 [.int .i64 e213.w, .slice a210 e213.l.length c211]]) h.1 h.2) [1] (fun _ => []) ?_ ?_
 ·refine Tl ?_
  refine T.nil0 tyRef09Row 69 ?_
  refine Tq (η := (Option Addr × Nat)) (fun s147 h => (fun a143 c144 => [(6, .int .i64 s147.2)]) h.1 h.2) [1, 4, 5] (fun s147 h => (fun a143 c144 => [Ch.arr tyRef09Row 69 a143 c144 s147.1.l, Ch.box g5 27 [.int .i64 s147.1.w, .slice a143 s147.1.l.length c144]]) h.1 h.2) [2] (fun _ _ => []) (none, 0) [0, 0, 0] [] H214 ?_
  rintro k_ s147 ⟨a143, c144⟩ z217 H216 hag218 hbr219
  refine Ts (Ts (Tr ?_))
  refine Lq 2 ?_
  obtain ⟨r220, h221, H222⟩ := bnd H216
  refine Lk [] [] (c_ref10_size h221) fun ⟨⟩ => ?_
  refine Lq 1 ?_
  refine Ln (Et ?_)
  refine Tb H222 (fun H224 => ?_) fun H224 => ?_
  ·refine Tk (Et (Ts (Tl ?_)))
   refine Td [8] [1, 1] mo ?_
   refine Dq 0 ?_
   refine Db 1 0 ?_
   refine Dq 2 ?_
   refine Db 3 0 ?_
   obtain ⟨r267, h268, H269⟩ := bnd H224
   refine Dk [] [] (c_ref09_Blank h268) fun ⟨a270, c271⟩ => ?_
   refine Da [] [0] rfl rfl (Ac.bs (ty := tyRef09Row) (xs := [r267]) (.cons (a270, c271) [0] rfl .nil) rfl rfl rfl rfl rfl rfl rfl) fun g273 => ?_
   refine D.frz 0 rfl ?_
   obtain ⟨_, h276, H277⟩ := bnd H269
   refine Da [0] [0] rfl rfl (Ac.ap (ty := tyRef09Row) h276 rfl rfl rfl rfl rfl rfl rfl) ?_
   rintro ⟨a278, c279⟩
   refine Dq 7 ?_
   refine Dt 0 ?_
   refine Dn ?_
   refine Eb (Et (Tr ?_))
   refine Lq 3 ?_
   refine Ln ?_
   obtain rfl := sm H277
   exact Eg (_, (a278, c279)) (hag218 _ rfl) [2, 0, 0] [] 2
  refine Tx (Ex (Ex (Eh ?_)))
  obtain rfl := sm H224
  have hb := hbr219 _ rfl
  subst e213
  exact Eg (a143, c144) trivial [0, 0, 0] [] 0
 rintro ⟨a210, c211⟩
 refine Ts (Tr ?_)
 refine Lb 1 ?_
 refine Lt 2 ?_
 refine Ln (Et (Tv ?_))
 refine E.frz 1 rfl ?_
 obtain rfl := sm H215
 exact Eo (a210, c211) [] [0] (.cell 0 rfl rfl rfl .nil)

theorem c_ref11_New {w : Int} {h_ : Int} {r : Ref11Screen} (H : p_ref11_New w h_ = some r) : CT G 10 [.int .i64 w, .int .i64 h_] [] [] (fun h : (Option Addr × Nat) => .agg (bx31 r h.1 h.2).toArray) (fun h => []) (fun h => [Im.sl tyRef09Row h.1 h.2 r.g.l]) := by
 delta p_ref11_New at H
 refine CT.of Go.Proofs.Tryz.func10 (by kernel_rfl) rfl rfl rfl fun K => ?_
 refine Ts (Tr ?_)
 refine Ll fun g1 => ?_
 refine Ln (Et (Ts (Tr ?_)))
 refine Lq 2 ?_
 obtain ⟨r2, h3, H4⟩ := bnd H
 refine Lk [] [] (c_ref10_New h3) fun ⟨a5, c6⟩ => ?_
 refine Ll fun g8 => ?_
 refine Lt 0 ?_
 refine Ln (Et (Ts (Tr ?_)))
 refine Lb 0 ?_
 refine Lq 1 ?_
 refine Lb 0 ?_
 refine Lq 3 ?_
 refine Lt 1 ?_
 refine Ln (Et (Tv ?_))
 obtain rfl := sm H4
 exact Eo (a5, c6) [] [0] (.cell 0 rfl rfl rfl .nil)

theorem c_law01_Cut {s_ : ByteArray} {n_ : Int} {r : ByteArray} (H : p_law01_Cut s_ n_ = some r) : CT G 11 [.string s_, .int .i64 n_] [] [] (fun _ : Unit => .string r) (fun h => []) (fun h => []) := by
 delta p_law01_Cut at H
 refine CT.of Go.Proofs.Tryz.func11 (by kernel_rfl) rfl rfl rfl fun K => ?_
 refine Ts (Tr ?_)
 refine Lq 1 ?_
 refine Ln (Et (Ts (Ts (Tr ?_))))
 refine Lq 4 ?_
 refine Ln (Et ?_)
 refine Tb H (fun H4 => ?_) fun H4 => ?_
 ·refine Ts (Tr ?_)
  refine Lq 2 ?_
  obtain ⟨_, h5, H6⟩ := bnd H4
  refine Ly (Yl.sc h5 rfl rfl rfl rfl rfl rfl) ?_
  refine Lq 1 ?_
  refine Ln (Et (Tv (Er ?_)))
  obtain rfl := sm H6
  exact Eo1 () [] []
 refine Tk (Et (Ts (Tr ?_)))
 refine Lq 2 ?_
 refine Ln (Et (Tv ?_))
 obtain rfl := sm H4
 exact Eo1 () [] []

theorem c_law11_Own {a : Ref07Action} {r : SeqAction} (H : p_law11_Own a = some r) : CT G 13 [.agg (bx37 a A0 C0).toArray] [] [Im.sl (Ty.int .i64) A0 C0 a.nums] (fun h : (Option Addr × Nat) => .agg (bx40 r h.1 h.2).toArray) (fun h => []) (fun h => [Im.sl (Ty.int .i64) h.1 h.2 r.nums]) := by
 delta p_law11_Own at H
 refine CT.of Go.Proofs.Tryz.func13 (by kernel_rfl) rfl rfl rfl fun K => ?_
 refine Ts (Tr ?_)
 refine Lx fun g1 => ?_
 refine Ll fun g2 => ?_
 refine Ln (Et (Ts ?_))
 refine Td [17] [0, 0] mo ?_
 refine Dq 0 ?_
 refine Db 1 1 ?_
 refine Dq 2 ?_
 refine Db 3 1 ?_
 refine Dq 4 ?_
 refine Dq 5 ?_
 refine Db 6 1 ?_
 refine Dq 7 ?_
 refine Dq 8 ?_
 refine Db 9 1 ?_
 refine Dq 11 ?_
 refine Db 12 1 ?_
 refine Dq 14 ?_
 refine Db 15 1 ?_
 refine Da [] [] rfl rfl (Ac.bs (ty := (Ty.int .i64)) (xs := []) .nil rfl rfl rfl rfl rfl rfl rfl) fun g24 => ?_
 obtain ⟨_, h26, H27⟩ := bnd H
 refine Da [0] [0] rfl rfl (Ac.ap (ty := (Ty.int .i64)) h26 rfl rfl rfl rfl rfl rfl rfl) ?_
 rintro ⟨a28, c29⟩
 refine Dq 16 ?_
 refine Dt 0 ?_
 refine Dn ?_
 refine Et (Tv ?_)
 refine E.frz 2 rfl ?_
 obtain rfl := sm H27
 exact Eo (a28, c29) [] [0] (.cell 0 rfl rfl rfl .nil)

theorem c_ref06_Of {r_ : Int} {r : Int} (H : p_ref06_Of r_ = some r) : CT G 80 [.int .i64 r_] [] [] (fun _ : Unit => .int .i64 r) (fun h => []) (fun h => []) := by
 delta p_ref06_Of at H
 refine CT.of Go.Proofs.Tryz.func80 (by kernel_rfl) rfl rfl rfl fun K => ?_
 refine Ts (Tr ?_)
 refine Lq 1 ?_
 refine Ln (Et (Ts (Tr ?_)))
 refine Lq 11 ?_
 refine La [] [] (Ac.bs (ty := tyArr2Int) (xs := [(Arr2Int.mk 127 159), (Arr2Int.mk 768 879), (Arr2Int.mk 6832 6911), (Arr2Int.mk 7616 7679), (Arr2Int.mk 8203 8207), (Arr2Int.mk 8400 8447), (Arr2Int.mk 55296 57343), (Arr2Int.mk 65024 65039), (Arr2Int.mk 65056 65071), (Arr2Int.mk 65279 65279), (Arr2Int.mk 917760 917999)]) (.cons () [] rfl (.cons () [] rfl (.cons () [] rfl (.cons () [] rfl (.cons () [] rfl (.cons () [] rfl (.cons () [] rfl (.cons () [] rfl (.cons () [] rfl (.cons () [] rfl (.cons () [] rfl .nil))))))))))) rfl rfl rfl rfl rfl rfl rfl) fun g1 => ?_
 refine Lq 1 ?_
 refine Ln (Et (Ts (Tr ?_)))
 refine Lq 14 ?_
 refine La [] [] (Ac.bs2 (ty := tyArr2Int) (xs := [(Arr2Int.mk 4352 4447), (Arr2Int.mk 11904 12350), (Arr2Int.mk 12353 13311), (Arr2Int.mk 13312 19903), (Arr2Int.mk 19968 40959), (Arr2Int.mk 40960 42191), (Arr2Int.mk 44032 55203), (Arr2Int.mk 63744 64255), (Arr2Int.mk 65072 65135), (Arr2Int.mk 65280 65376), (Arr2Int.mk 65504 65510), (Arr2Int.mk 127744 128591), (Arr2Int.mk 129280 129535), (Arr2Int.mk 131072 262141)]) (.cons () [] rfl (.cons () [] rfl (.cons () [] rfl (.cons () [] rfl (.cons () [] rfl (.cons () [] rfl (.cons () [] rfl (.cons () [] rfl (.cons () [] rfl (.cons () [] rfl (.cons () [] rfl (.cons () [] rfl (.cons () [] rfl (.cons () [] rfl .nil)))))))))))))) rfl rfl rfl rfl rfl rfl rfl rfl) fun g3 => ?_
 refine Lq 1 ?_
 refine Ln (Et (Ts (Ts ?_)))
 obtain ⟨e8, H9, H10⟩ := bnd H
 refine Tj0 [(41, .bool e8)] [0, 3, 4] [] [0, 1] ?_ ?_
 ·refine Tr ?_
  refine Lq 3 ?_
  refine Lw 38 H9 (fun H11 => ?_) fun H11 => ?_
  ·refine Lq 3 ?_
   refine Ln ?_
   obtain rfl := sm H11
   exact Eg0 [0, 0] 0
  refine Lq 3 ?_
  refine Ln ?_
  obtain rfl := sm H11
  exact Eg0 [0, 0] 0
 refine Tb H10 (fun H13 => ?_) fun H13 => ?_
 ·refine Ts (Tr ?_)
  refine Lq 1 ?_
  refine Ln (Et (Tv (Er ?_)))
  obtain rfl := sm H13
  exact Eo1 () [] []
 refine Tk (Et (Ts (Ts (Tr ?_))))
 refine Lq 3 ?_
 refine Ln (Et ?_)
 obtain ⟨y97, H98, H99⟩ := bnd H13
 refine Tj (η := Unit × Unit) (fun h => y97 = .inl h.1) (fun _ => []) [0, 4] (fun _ => []) [0] (fun _ => []) ?_ ?_
 ·refine Tl ?_
  refine Tq (η := Unit) (fun s69 h => [(44, .int .i64 s69)]) [0, 4, 42, 43] (fun _ _ => []) [0, 1] (fun _ _ => []) () [0, 0] [] H98 ?_
  rintro k_ s69 ⟨⟩ z101 H100 hag102 hbr103
  refine Ts (Tr ?_)
  refine Lq 1 ?_
  refine Ln (Et (Ts ?_))
  refine Tb H100 (fun H105 => ?_) fun H105 => ?_
  ·refine Tk (Et (Ts (Tl (Ts (Tr ?_)))))
   obtain ⟨x118, h119, H120⟩ := bnd H105
   refine Ly (Yl.ia h119 rfl rfl rfl rfl rfl rfl) ?_
   refine Ly (Yl.lo (v := .agg #[.int .i64 x118.e0, .int .i64 x118.e1]) 1 s69.toNat 0 (idx_some h119).2 rfl rfl rfl rfl (fun _ => rfl)) ?_
   refine Ll fun g121 => ?_
   refine Lt 0 ?_
   refine Ln (Et (Ts ?_))
   obtain ⟨e125, H126, H127⟩ := bnd H120
   refine Tj0 [(57, .bool e125)] [0, 4, 42, 43, 44] [] [0, 1, 2] ?_ ?_
   ·refine Tr ?_
    refine Lq 2 ?_
    refine Lb 0 ?_
    refine Lq 2 ?_
    refine Lw 52 H126 (fun H128 => ?_) fun H128 => ?_
    ·refine Lq 2 ?_
     refine Lb 0 ?_
     refine Lq 2 ?_
     refine Ln ?_
     obtain rfl := sm H128
     exact Eg0 [0, 0, 0] 0
    refine Lq 5 ?_
    refine Ln ?_
    obtain rfl := sm H128
    exact Eg0 [0, 0, 0] 0
   refine Tb H127 (fun H129 => ?_) fun H129 => ?_
   ·refine Ts (Tr ?_)
    refine Lq 1 ?_
    refine Ln (Et (Tv (Ev (Er (Er (Ev ?_))))))
    obtain ⟨w130, hz, H131⟩ := inrr_some H129
    subst z101
    have hb := hbr103 _ rfl
    subst y97
    obtain rfl := (sm H99).symm
    refine Er ?_
    obtain rfl := sm H131
    exact Eo1 () [] []
   refine Tk (Eb (Et (Tr ?_)))
   refine Lq 2 ?_
   refine Ln ?_
   obtain rfl := sm H129
   exact Eg (_, ()) (hag102 _ rfl) [1, 1] [] 0
  refine Tx (Ex (Ex (Eh ?_)))
  obtain rfl := sm H105
  have hb := hbr103 _ rfl
  subst y97
  exact Eg (_, ()) rfl [0] [] 0
 rintro ⟨e96, ⟨⟩⟩ hy
 subst hy
 refine Ts (Ts (Tr ?_))
 refine Lq 3 ?_
 refine Ln (Et ?_)
 obtain ⟨y215, H216, H217⟩ := bnd H99
 refine Tj (η := Unit × Unit) (fun h => y215 = .inl h.1) (fun _ => []) [] (fun _ => []) [] (fun _ => []) ?_ ?_
 ·refine Tl ?_
  refine Tq (η := Unit) (fun s187 h => [(61, .int .i64 s187)]) [0, 59, 60] (fun _ _ => []) [0] (fun _ _ => []) () [0] [] H216 ?_
  rintro k_ s187 ⟨⟩ z219 H218 hag220 hbr221
  refine Ts (Tr ?_)
  refine Lq 1 ?_
  refine Ln (Et (Ts ?_))
  refine Tb H218 (fun H223 => ?_) fun H223 => ?_
  ·refine Tk (Et (Ts (Tl (Ts (Tr ?_)))))
   obtain ⟨x236, h237, H238⟩ := bnd H223
   refine Ly (Yl.ia h237 rfl rfl rfl rfl rfl rfl) ?_
   refine Ly (Yl.lo (v := .agg #[.int .i64 x236.e0, .int .i64 x236.e1]) 0 s187.toNat 0 (idx_some h237).2 rfl rfl rfl rfl (fun _ => rfl)) ?_
   refine Ll fun g239 => ?_
   refine Lt 0 ?_
   refine Ln (Et (Ts ?_))
   obtain ⟨e243, H244, H245⟩ := bnd H238
   refine Tj0 [(74, .bool e243)] [0, 59, 60, 61] [] [0, 1] ?_ ?_
   ·refine Tr ?_
    refine Lq 2 ?_
    refine Lb 0 ?_
    refine Lq 2 ?_
    refine Lw 69 H244 (fun H246 => ?_) fun H246 => ?_
    ·refine Lq 2 ?_
     refine Lb 0 ?_
     refine Lq 2 ?_
     refine Ln ?_
     obtain rfl := sm H246
     exact Eg0 [0, 0] 0
    refine Lq 5 ?_
    refine Ln ?_
    obtain rfl := sm H246
    exact Eg0 [0, 0] 0
   refine Tb H245 (fun H247 => ?_) fun H247 => ?_
   ·refine Ts (Tr ?_)
    refine Lq 1 ?_
    refine Ln (Et (Tv (Ev (Er (Er (Ev ?_))))))
    obtain ⟨w248, hz, H249⟩ := inrr_some H247
    subst z219
    have hb := hbr221 _ rfl
    subst y215
    obtain rfl := (sm H217).symm
    refine Er ?_
    obtain rfl := sm H249
    exact Eo1 () [] []
   refine Tk (Eb (Et (Tr ?_)))
   refine Lq 2 ?_
   refine Ln ?_
   obtain rfl := sm H247
   exact Eg (_, ()) (hag220 _ rfl) [1] [] 0
  refine Tx (Ex (Ex (Eh ?_)))
  obtain rfl := sm H223
  have hb := hbr221 _ rfl
  subst y215
  exact Eg (_, ()) rfl [] [] 0
 rintro ⟨e214, ⟨⟩⟩ hy
 subst hy
 refine Ts (Tr ?_)
 refine Lq 1 ?_
 refine Ln (Et (Tv ?_))
 obtain rfl := sm H217
 exact Eo1 () [] []

theorem c_ref08_May {s_ : Ref08Style} {r : Bool} (H : p_ref08_May s_ = some r) : CT G 85 [.agg #[.int .i64 s_.fore, .int .i64 s_.back, .bool s_.bold, .bool s_.under, .bool s_.inverse]] [] [] (fun _ : Unit => .bool r) (fun h => []) (fun h => []) := by
 delta p_ref08_May at H
 refine CT.of Go.Proofs.Tryz.func85 (by kernel_rfl) rfl rfl rfl fun K => ?_
 refine Ts (Tr ?_)
 refine Lx fun g1 => ?_
 refine Lq 1 ?_
 refine Ln (Et (Ts ?_))
 obtain ⟨e9, H10, H11⟩ := bnd H
 refine Tj0 [(2, .bool e9)] [] [] [0] ?_ ?_
 ·refine Tr ?_
  refine Lq 1 ?_
  refine Lb 0 ?_
  refine Lq 2 ?_
  refine Lw 6 H10 (fun H12 => ?_) fun H12 => ?_
  ·refine Lq 1 ?_
   refine Lb 0 ?_
   refine Lq 3 ?_
   refine Lw 11 H12 (fun H13 => ?_) fun H13 => ?_
   ·refine Lq 1 ?_
    refine Lb 0 ?_
    refine Lq 3 ?_
    refine Lw 16 H13 (fun H14 => ?_) fun H14 => ?_
    ·refine Lq 1 ?_
     refine Lb 0 ?_
     refine Lq 3 ?_
     refine Ln ?_
     obtain rfl := sm H14
     exact Eg0 [0] 0
    refine Lq 5 ?_
    refine Ln ?_
    obtain rfl := sm H14
    exact Eg0 [0] 0
   refine Lq 10 ?_
   refine Ln ?_
   obtain rfl := sm H13
   exact Eg0 [0] 0
  refine Lq 15 ?_
  refine Ln ?_
  obtain rfl := sm H12
  exact Eg0 [0] 0
 refine Tv ?_
 obtain rfl := sm H11
 exact Eo1 () [] []

theorem c_ref08_Num {s_ : Ref08Style} {r : Int} (H : p_ref08_Num s_ = some r) : CT G 40 [.agg #[.int .i64 s_.fore, .int .i64 s_.back, .bool s_.bold, .bool s_.under, .bool s_.inverse]] [] [] (fun _ : Unit => .int .i64 r) (fun h => []) (fun h => []) := by
 delta p_ref08_Num at H
 refine CT.of Go.Proofs.Tryz.func40 (by kernel_rfl) rfl rfl rfl fun K => ?_
 refine Ts (Tr ?_)
 refine Lx fun g1 => ?_
 refine Lq 1 ?_
 refine Ln (Et (Ts (Ts (Tr ?_))))
 refine Lb 0 ?_
 obtain ⟨r2, h3, H4⟩ := bnd H
 refine Lk [] [] (c_ref08_May h3) fun ⟨⟩ => ?_
 refine Lq 1 ?_
 refine Ln (Et ?_)
 refine Tb H4 (fun H6 => ?_) fun H6 => ?_
 ·refine Ts (Tr ?_)
  refine Lq 1 ?_
  refine Ln (Et (Tv (Er ?_)))
  obtain rfl := sm H6
  exact Eo1 () [] []
 refine Tk (Et (Ts (Tr ?_)))
 refine Lq 1 ?_
 refine Lb 0 ?_
 refine Lq 1 ?_
 refine Lb 0 ?_
 refine Lq 3 ?_
 refine Ln (Et (Ts (Ts (Tr ?_))))
 refine Lq 1 ?_
 refine Lb 0 ?_
 refine Ln (Et ?_)
 obtain ⟨e10, H11, H12⟩ := bnd H6
 refine Tj0 [(3, .int .i64 e10)] [1] [] [0] ?_ ?_
 ·refine Tb H11 (fun H13 => ?_) fun H13 => ?_
  ·refine Tr ?_
   refine Lq 3 ?_
   refine Ln ?_
   obtain rfl := sm H13
   exact Eg0 [0] 0
  refine Tk ?_
  obtain rfl := sm H13
  exact Eg0 [0] 0
 refine Ts (Ts (Tr ?_))
 refine Lq 1 ?_
 refine Lb 0 ?_
 refine Ln (Et ?_)
 obtain ⟨e17, H18, H19⟩ := bnd H12
 refine Tj0 [(3, .int .i64 e17)] [1] [] [0] ?_ ?_
 ·refine Tb H18 (fun H20 => ?_) fun H20 => ?_
  ·refine Tr ?_
   refine Lq 3 ?_
   refine Ln ?_
   obtain rfl := sm H20
   exact Eg0 [0] 0
  refine Tk ?_
  obtain rfl := sm H20
  exact Eg0 [0] 0
 refine Ts (Ts (Tr ?_))
 refine Lq 1 ?_
 refine Lb 0 ?_
 refine Ln (Et ?_)
 obtain ⟨e24, H25, H26⟩ := bnd H19
 refine Tj0 [(3, .int .i64 e24)] [] [] [0] ?_ ?_
 ·refine Tb H25 (fun H27 => ?_) fun H27 => ?_
  ·refine Tr ?_
   refine Lq 3 ?_
   refine Ln ?_
   obtain rfl := sm H27
   exact Eg0 [0] 0
  refine Tk ?_
  obtain rfl := sm H27
  exact Eg0 [0] 0
 refine Ts (Tr ?_)
 refine Lq 2 ?_
 refine Ln (Et (Tv ?_))
 obtain rfl := sm H26
 exact Eo1 () [] []

theorem c_ref09_mend {l : List Ref09Cell} {r : Ref09Row} (H : p_ref09_mend l = some r) : CT G 53 [.slice A0 l.length C0] [] [Im.sl tyRef09Cell A0 C0 l] (fun h : (Option Addr × Nat) => .agg #[.slice h.1 r.l.length h.2, .bool r.wrapped]) (fun h => []) (fun h => [Im.sl tyRef09Cell h.1 h.2 r.l]) := by
 delta p_ref09_mend at H
 refine CT.of Go.Proofs.Tryz.func53 (by kernel_rfl) rfl rfl rfl fun K => ?_
 refine Ts (Tr ?_)
 refine Ll fun g1 => ?_
 refine Ln (Et (Ts (Tr ?_)))
 refine La [] [] (Ac.bs (ty := tyRef09Cell) (xs := []) .nil rfl rfl rfl rfl rfl rfl rfl) fun g2 => ?_
 refine Lq 1 ?_
 refine Ln (Et (Ts (Ts (Tr ?_))))
 refine Lq 3 ?_
 refine Ln (Et ?_)
 obtain ⟨e432, H433, H434⟩ := bnd H
 refine Tjh (η := (Option Addr × Nat)) (fun h => (fun a429 c430 => [(3, .slice a429 e432.length c430)]) h.1 h.2) [2] (fun h => (fun a429 c430 => [Ch.arr tyRef09Cell 109 a429 c430 e432]) h.1 h.2) [1] (fun _ => []) ?_ ?_
 ·refine Tl ?_
  refine Tq (η := (Option Addr × Nat)) (fun s287 h => (fun a284 c285 => [(3, .slice a284 s287.2.length c285), (10, .int .i64 s287.1)]) h.1 h.2) [0, 2, 8, 9] (fun s287 h => (fun a284 c285 => [Ch.arr tyRef09Cell 109 a284 c285 s287.2]) h.1 h.2) [1] (fun _ _ => []) ((some ⟨g2, 0, none⟩), 0) [0, 0] [] H433 ?_
  rintro k_ s287 ⟨a284, c285⟩ z436 H435 hag437 hbr438
  refine Ts (Tr ?_)
  refine Lq 1 ?_
  refine Ln (Et (Ts ?_))
  refine Tb H435 (fun H440 => ?_) fun H440 => ?_
  ·refine Tk (Et (Ts (Tl (Ts (Tr ?_)))))
   refine Lq 1 ?_
   obtain ⟨x510, h511, H512⟩ := bnd H440
   refine L.addr 0 rfl (idx_lt h511) fun b513 o514 e515 => ?_
   subst e515
   refine Ly (Yl.ia h511 rfl rfl rfl rfl rfl rfl) ?_
   refine L.el 0 rfl (idx_some h511).2 ?_
   rintro _
   refine Lc 0 0 ?_
   refine Ll fun g517 => ?_
   refine Lq 1 ?_
   refine Lt 0 ?_
   refine Ln (Et (Ts (Tr ?_)))
   refine Lq 1 ?_
   refine Ln (Et (Ts (Ts (Tr ?_))))
   refine Lq 1 ?_
   refine Lb 0 ?_
   refine Ln (Et ?_)
   obtain ⟨e547, H548, H549⟩ := bnd H512
   refine Tj0 [(6, .bool e547)] [0, 2, 3, 5, 8, 9, 10] [] [0, 2, 1] ?_ ?_
   ·refine Tl (Ts (Tr ?_))
    refine Lq 2 ?_
    refine Ln (Et ?_)
    refine Tb H548 (fun H550 => ?_) fun H550 => ?_
    ·refine Tr ?_
     refine Lq 6 ?_
     refine Lw 24 H550 (fun H551 => ?_) fun H551 => ?_
     ·refine Lq 9 ?_
      refine Ln (Eb ?_)
      obtain rfl := sm H551
      exact Eg0 [0, 1, 0] 0
     refine Lq 3 ?_
     obtain ⟨x552, h553, H554⟩ := bnd H551
     refine Ly (Yl.ia h553 rfl rfl rfl rfl rfl rfl) ?_
     refine L.el 1 rfl (idx_some h553).2 ?_
     rintro _
     refine Lq 1 ?_
     refine Lc 0 2 ?_
     refine Lq 3 ?_
     refine Ln (Eb ?_)
     obtain rfl := sm H554
     exact Eg0 [0, 1, 0] 1
    refine Ts (Tr ?_)
    refine Lq 2 ?_
    refine Ln (Et ?_)
    refine Tb H550 (fun H556 => ?_) fun H556 => ?_
    ·refine Tr ?_
     refine Lq 3 ?_
     refine Lw 37 H556 (fun H557 => ?_) fun H557 => ?_
     ·refine Lq 9 ?_
      refine Ln (Eb ?_)
      obtain rfl := sm H557
      exact Eg0 [0, 1, 0] 0
     refine Lq 3 ?_
     obtain ⟨x558, h559, H560⟩ := bnd H557
     refine L.addro 1 rfl (idx_lt h559) fun b561 e562 => ?_
     subst e562
     refine Ly (Yl.ia h559 rfl rfl rfl rfl rfl rfl) ?_
     refine Lq 1 ?_
     refine Ly (Yl.lo (v := .int .i64 x558.part) 1 ((IntKind.i64.wrap (s287.1 - 1)).toNat) 2 (idx_some h559).2 rfl rfl rfl rfl (fun _ => rfl)) ?_
     refine Lq 3 ?_
     refine Ln (Eb ?_)
     obtain rfl := sm H560
     exact Eg0 [0, 1, 0] 0
    refine Ts (Tr ?_)
    refine Lq 2 ?_
    refine Ln (Et ?_)
    refine Tb H556 (fun H563 => ?_) fun H563 => ?_
    ·refine Tr ?_
     refine Lq 6 ?_
     refine Ln (Eb ?_)
     obtain rfl := sm H563
     exact Eg0 [0, 1, 0] 0
    refine Tk (Eb ?_)
    obtain rfl := sm H563
    exact Eg0 [0, 1, 0] 0
   refine Ts (Ts (Tr ?_))
   refine Lq 1 ?_
   refine Ln (Et ?_)
   obtain ⟨e567, H568, H569⟩ := bnd H549
   refine Tj0 [] [0, 2, 3, 5, 8, 9, 10] [Ch.box g517 109 [.int .i64 e567.rune, .int .i64 e567.style, .int .i64 e567.part]] [1, 2] ?_ ?_
   ·refine Tb H568 (fun H570 => ?_) fun H570 => ?_
    ·refine Tr ?_
     refine Lq 1 ?_
     refine Lb 0 ?_
     refine Lq 1 ?_
     refine Lt 0 ?_
     refine Ln ?_
     obtain rfl := sm H570
     exact Eg0 [0, 0, 0] 0
    refine Tk ?_
    obtain rfl := sm H570
    exact Eg0 [0, 0, 0] 0
   refine Tr ?_
   refine Lq 1 ?_
   refine Lb 0 ?_
   refine La [] [] (Ac.bs (ty := tyRef09Cell) (xs := [e567]) (.cons () [] rfl .nil) rfl rfl rfl rfl rfl rfl rfl) fun g571 => ?_
   refine L.frz 0 rfl ?_
   obtain ⟨_, h574, H575⟩ := bnd H569
   refine La [2] [0] (Ac.ap (ty := tyRef09Cell) h574 rfl rfl rfl rfl rfl rfl rfl) ?_
   rintro ⟨a576, c577⟩
   refine Lq 1 ?_
   refine Ln (Eb (Et (Tr ?_)))
   refine Lq 2 ?_
   refine Ln ?_
   obtain rfl := sm H575
   exact Eg (_, (a576, c577)) (hag437 _ rfl) [0, 1] [] 2
  refine Tx (Ex (Ex (Eh ?_)))
  obtain rfl := sm H440
  have hb := hbr438 _ rfl
  subst e432
  exact Eg (a284, c285) trivial [0, 0] [] 0
 rintro ⟨a429, c430⟩
 refine Ts (Tr ?_)
 refine Lq 2 ?_
 refine Lt 1 ?_
 refine Ln (Et (Tv ?_))
 refine E.frz 1 rfl ?_
 obtain rfl := sm H434
 exact Eo (a429, c430) [] [0] (.cell 0 rfl rfl rfl .nil)

end Go.Tw.X

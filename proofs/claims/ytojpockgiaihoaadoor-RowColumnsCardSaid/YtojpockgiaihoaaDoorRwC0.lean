import Derived.Test.YtojpockgiaihoaaDoorRwBase
set_option linter.unusedVariables false
set_option linter.unusedSimpArgs false
set_option maxRecDepth 10000
namespace Go.Tw.Rw
open Go Go.Tw
theorem c_row_blank {style : Int} {r : RowCell} (H : p_row_blank style = some r) : CT G 54 [.int .i64 style] [] [] (fun h : Unit => .agg #[.int .i32 r.rune, .int .i64 r.style, .int .i64 r.part]) (fun h => []) (fun h => []) := by
  delta p_row_blank at H
  refine CT.of Go.Proofs.Tryd.func54 (by kernel_rfl) rfl rfl fun K => ?_
  refine T.seq ?_
  refine T.region ?_
  refine L.a [] [] (Ac.alloc rfl rfl) rfl rfl rfl rfl rfl ?_
  intro g1
  refine L.nil ?_
  refine E.then ?_
  refine T.seq ?_
  refine T.region ?_
  refine L.q 2 rfl ?_
  refine L.a [0] [] (Ac.stb rfl rfl rfl rfl rfl rfl) rfl rfl rfl rfl rfl ?_
  intro _
  refine L.nil ?_
  refine E.then ?_
  refine T.ret ?_
  have hr := Option.some.inj H
  subst r
  exact E.ret () [] [] (.cell 0 rfl rfl rfl .nil) rfl rfl rfl

theorem c_bits_Mul32 {x : Int} {y : Int} {r : Int × Int} (H : p_bits_Mul32 x y = some r) : CT G 87 [.int .u32 x, .int .u32 y] [] [] (fun h : Unit => .tuple #[.int .u32 r.1, .int .u32 r.2]) (fun h => []) (fun h => []) := by
  delta p_bits_Mul32 at H
  refine CT.of Go.Proofs.Tryd.func87 (by kernel_rfl) rfl rfl fun K => ?_
  refine T.seq ?_
  refine T.region ?_
  refine L.q 2 rfl ?_
  refine L.nil ?_
  refine E.then ?_
  refine T.seq ?_
  refine T.region ?_
  refine L.q 6 rfl ?_
  refine L.nil ?_
  refine E.then ?_
  refine T.seq ?_
  refine T.region ?_
  refine L.q 7 rfl ?_
  refine L.nil ?_
  refine E.then ?_
  refine T.ret ?_
  have hr := Option.some.inj H
  subst r
  exact E.ret () [] [] (.tmp rfl (.tmp rfl .nil)) rfl rfl rfl

theorem c_bits_Mul64 {x : Int} {y : Int} {r : Int × Int} (H : p_bits_Mul64 x y = some r) : CT G 88 [.int .u64 x, .int .u64 y] [] [] (fun h : Unit => .tuple #[.int .u64 r.1, .int .u64 r.2]) (fun h => []) (fun h => []) := by
  delta p_bits_Mul64 at H
  refine CT.of Go.Proofs.Tryd.func88 (by kernel_rfl) rfl rfl fun K => ?_
  refine T.seq ?_
  refine T.region ?_
  refine L.q 2 rfl ?_
  refine L.nil ?_
  refine E.then ?_
  refine T.seq ?_
  refine T.region ?_
  refine L.q 3 rfl ?_
  refine L.nil ?_
  refine E.then ?_
  refine T.seq ?_
  refine T.region ?_
  refine L.q 3 rfl ?_
  refine L.nil ?_
  refine E.then ?_
  refine T.seq ?_
  refine T.region ?_
  refine L.q 3 rfl ?_
  refine L.nil ?_
  refine E.then ?_
  refine T.seq ?_
  refine T.region ?_
  refine L.q 3 rfl ?_
  refine L.nil ?_
  refine E.then ?_
  refine T.seq ?_
  refine T.region ?_
  refine L.q 4 rfl ?_
  refine L.nil ?_
  refine E.then ?_
  refine T.seq ?_
  refine T.region ?_
  refine L.q 7 rfl ?_
  refine L.nil ?_
  refine E.then ?_
  refine T.seq ?_
  refine T.region ?_
  refine L.q 3 rfl ?_
  refine L.nil ?_
  refine E.then ?_
  refine T.seq ?_
  refine T.region ?_
  refine L.q 3 rfl ?_
  refine L.nil ?_
  refine E.then ?_
  refine T.seq ?_
  refine T.region ?_
  refine L.q 6 rfl ?_
  refine L.nil ?_
  refine E.then ?_
  refine T.seq ?_
  refine T.region ?_
  refine L.q 9 rfl ?_
  refine L.nil ?_
  refine E.then ?_
  refine T.seq ?_
  refine T.region ?_
  refine L.q 4 rfl ?_
  refine L.nil ?_
  refine E.then ?_
  refine T.ret ?_
  have hr := Option.some.inj H
  subst r
  exact E.ret () [] [] (.tmp rfl (.tmp rfl .nil)) rfl rfl rfl

theorem c_bits_Mul {x : Int} {y : Int} {r : Int × Int} (H : p_bits_Mul x y = some r) : CT G 85 [.int .u64 x, .int .u64 y] [] [] (fun h : Unit => .tuple #[.int .u64 r.1, .int .u64 r.2]) (fun h => []) (fun h => []) := by
  delta p_bits_Mul at H
  refine CT.of Go.Proofs.Tryd.func85 (by kernel_rfl) rfl rfl fun K => ?_
  refine T.seq ?_
  refine T.region ?_
  refine L.q 2 rfl ?_
  refine L.nil ?_
  refine E.then ?_
  refine T.seq ?_
  refine T.cond rfl (fun h => nomatch h) (fun _ => ?_)
  refine T.skip ?_
  refine E.then ?_
  refine T.seq ?_
  refine T.region ?_
  refine L.q 2 rfl ?_
  obtain ⟨r1, h2, H3⟩ := bnd H
  refine L.a [] [] (Ac.call (c_bits_Mul64 h2) rfl rfl rfl rfl) rfl rfl rfl rfl rfl ?_
  rintro ⟨⟩
  refine L.q 5 rfl ?_
  refine L.nil ?_
  refine E.then ?_
  refine T.seq ?_
  refine T.region ?_
  refine L.q 4 rfl ?_
  refine L.nil ?_
  refine E.then ?_
  refine T.ret ?_
  have hr := Option.some.inj H3
  subst r
  exact E.ret () [] [] (.tmp rfl (.tmp rfl .nil)) rfl rfl rfl

theorem c_slices_Repeat_row_Cell (a_0 : Option Addr) (c_0 : Nat) {x : List RowCell} {count : Int} {r : (List RowCell)} (H : p_slices_Repeat_row_Cell x count = some r) : CT G 76 [.slice a_0 x.length c_0, .int .i64 count] [] [Im.sl tyRowCell a_0 c_0 x] (fun h : (Option Addr × Nat) => .slice h.1 r.length h.2) (fun h => [Ch.arr tyRowCell 80 h.1 h.2 r]) (fun h => []) := by
  delta p_slices_Repeat_row_Cell at H
  refine CT.of Go.Proofs.Tryd.func76 (by kernel_rfl) rfl rfl fun K => ?_
  refine T.seq ?_
  refine T.region ?_
  refine L.q 1 rfl ?_
  refine L.nil ?_
  refine E.then ?_
  refine T.seq ?_
  refine T.seq ?_
  refine T.region ?_
  refine L.q 2 rfl ?_
  refine L.nil ?_
  refine E.then ?_
  refine T.bif rfl H (fun hc H2 => ?_) (fun hc H2 => ?_)
  · cases H2
  · refine T.skip ?_
    refine E.then ?_
    refine T.seq ?_
    refine T.region ?_
    refine L.q 5 rfl ?_
    obtain ⟨r3, h4, H5⟩ := bnd H2
    refine L.a [] [] (Ac.call (c_bits_Mul h4) rfl rfl rfl rfl) rfl rfl rfl rfl rfl ?_
    rintro ⟨⟩
    refine L.q 5 rfl ?_
    refine L.nil ?_
    refine E.then ?_
    refine T.seq ?_
    refine T.seq ?_
    obtain ⟨e9, H10, H11⟩ := bnd H5
    refine T.join (η := Unit × Unit) (fun h => True) (fun h => [(0, .slice a_0 x.length c_0), (6, .int .u64 r3.2), (26, .bool e9)]) (fun h => []) (fun h => [Im.sl tyRowCell a_0 c_0 x]) ?_ ?_
    · refine T.region ?_
      refine L.q 3 rfl ?_
      refine L.cs 23 H10 rfl (fun hc H12 => ?_) (fun hc H12 => ?_)
      · refine L.q 3 rfl ?_
        refine L.nil ?_
        have hr := Option.some.inj H12
        subst e9
        exact E.give ((), ()) [] [0] trivial ⟨rfl, rfl, rfl, trivial⟩ rfl rfl
      · refine L.q 3 rfl ?_
        refine L.nil ?_
        have hr := Option.some.inj H12
        subst e9
        exact E.give ((), ()) [] [0] trivial ⟨rfl, rfl, rfl, trivial⟩ rfl rfl
    · rintro ⟨_, ⟨⟩⟩ _
      refine T.bif rfl H11 (fun hc H14 => ?_) (fun hc H14 => ?_)
      · cases H14
      · refine T.skip ?_
        refine E.then ?_
        refine T.seq ?_
        refine T.region ?_
        refine L.q 2 rfl ?_
        obtain ⟨_, h15, H16⟩ := bnd H14
        refine L.a [] [] (Ac.mk (ty := tyRowCell) (RowCell.mk 0 0 0) () h15 (fun _ _ f hf => by cases hf) rfl rfl rfl rfl rfl rfl rfl) rfl rfl rfl rfl rfl ?_
        intro g17
        refine L.q 1 rfl ?_
        refine L.nil ?_
        refine E.then ?_
        refine T.seq ?_
        refine T.region ?_
        refine L.q 2 rfl ?_
        refine L.a [0] [0] (Ac.cp (ty := tyRowCell) rfl rfl rfl rfl rfl rfl rfl) rfl rfl rfl rfl rfl ?_
        intro _
        refine L.sl 7 (k' := (cpy (List.replicate (IntKind.i64.wrap r3.2).toNat (RowCell.mk 0 0 0)) x).length) (cpy_length ..) rfl ?_
        refine L.q 1 rfl ?_
        refine L.nil ?_
        refine E.then ?_
        refine T.seq ?_
        obtain ⟨e88, H89, H90⟩ := bnd H16
        refine T.join (η := Unit × ((Option Addr × Nat))) (fun h => True) (fun h => (fun a85 c86 => [(7, .slice a85 e88.length c86)]) h.2.1 h.2.2) (fun h => (fun a85 c86 => [Ch.arr tyRowCell 80 a85 c86 e88]) h.2.1 h.2.2) (fun h => (fun a85 c86 => [Im.sl tyRowCell a_0 c_0 x]) h.2.1 h.2.2) ?_ ?_
        · refine T.block ?_
          refine T.lp (η := (Option Addr × Nat)) (fun s67 h => (fun a63 c64 => [(7, .slice a63 s67.1.length c64), (8, .int .i64 s67.2)]) h.1 h.2) (fun s67 h => (fun a63 c64 => [Ch.arr tyRowCell 80 a63 c64 s67.1]) h.1 h.2) (fun s67 h => (fun a63 c64 => [Im.sl tyRowCell a_0 c_0 x]) h.1 h.2) ((some ⟨g17, 0, none⟩), (IntKind.i64.wrap r3.2).toNat) [0] [0] H89 ⟨rfl, rfl, trivial⟩ rfl rfl ?_
          rintro k s67 ⟨a63, c64⟩ z92 H91 hag93 hbr94
          refine T.seq ?_
          refine T.seq ?_
          refine T.region ?_
          refine L.q 4 rfl ?_
          refine L.nil ?_
          refine E.then ?_
          refine T.bif rfl H91 (fun hc H96 => ?_) (fun hc H96 => ?_)
          · refine T.skip ?_
            refine E.then ?_
            refine T.block ?_
            refine T.draw [] [] mo rfl ?_
            refine D.q 0 rfl rfl rfl rfl rfl rfl ?_
            refine D.q 1 rfl rfl rfl rfl rfl rfl ?_
            refine D.q 2 rfl rfl rfl rfl rfl rfl ?_
            obtain ⟨_, h104, H105⟩ := bnd H96
            refine D.cap 0 rfl fun h106 => ?_
            refine D.y 3 (Yl.sv (ty := tyRowCell) h106 h104 rfl rfl rfl rfl rfl rfl rfl rfl) rfl rfl rfl rfl rfl rfl ?_
            refine D.q 4 rfl rfl rfl rfl rfl rfl ?_
            refine D.q 5 rfl rfl rfl rfl rfl rfl ?_
            obtain ⟨_, h107, H108⟩ := bnd H105
            refine D.cap 0 rfl fun h109 => ?_
            refine D.y 6 (Yl.sv (ty := tyRowCell) h109 h107 rfl rfl rfl rfl rfl rfl rfl rfl) rfl rfl rfl rfl rfl rfl ?_
            refine D.one rfl rfl rfl (Dp.a [0] [] (Ac.cps (ty := tyRowCell) h104 rfl rfl rfl rfl rfl rfl rfl) rfl rfl rfl rfl rfl rfl ?_)
            intro _
            refine D.q 8 rfl rfl rfl rfl rfl rfl ?_
            refine D.q 9 rfl rfl rfl rfl rfl rfl ?_
            refine D.nil rfl rfl ?_
            refine E.sl 7 (k' := (cpys s67.1 s67.2.toNat).length) (cpys_len h104) rfl ?_
            refine E.block ?_
            have hr := Option.some.inj H108
            subst z92
            exact E.give (_, (a63, c64)) [0] [0] (hag93 _ rfl) ⟨rfl, rfl, trivial⟩ rfl rfl
          · refine T.exit ?_
            refine E.then_exit' ?_
            refine E.then_exit' ?_
            refine E.block_here ?_
            have hr := Option.some.inj H96
            subst z92
            have hb := hbr94 _ rfl
            subst e88
            exact E.give ((), (a63, c64)) [0] [0] trivial ⟨rfl, trivial⟩ rfl rfl
        · rintro ⟨_, ⟨a85, c86⟩⟩ _
          refine T.seq ?_
          refine T.region ?_
          refine L.q 2 rfl ?_
          refine L.nil ?_
          refine E.then ?_
          refine T.ret ?_
          have hr := Option.some.inj H90
          subst r
          exact E.ret (a85, c86) [0] [] (.tmp rfl .nil) rfl rfl rfl

theorem c_row_blanks {n_ : Int} {style : Int} {r : (List RowCell)} (H : p_row_blanks n_ style = some r) : CT G 43 [.int .i64 n_, .int .i64 style] [] [] (fun h : (Option Addr × Nat) => .slice h.1 r.length h.2) (fun h => [Ch.arr tyRowCell 80 h.1 h.2 r]) (fun h => []) := by
  delta p_row_blanks at H
  refine CT.of Go.Proofs.Tryd.func43 (by kernel_rfl) rfl rfl fun K => ?_
  refine T.seq ?_
  refine T.region ?_
  refine L.q 1 rfl ?_
  refine L.nil ?_
  refine E.then ?_
  refine T.seq ?_
  refine T.region ?_
  refine L.q 1 rfl ?_
  obtain ⟨r1, h2, H3⟩ := bnd H
  refine L.a [] [] (Ac.call (c_row_blank h2) rfl rfl rfl rfl) rfl rfl rfl rfl rfl ?_
  rintro ⟨⟩
  refine L.a [] [] (Ac.bs (ty := tyRowCell) (xs := [r1]) (.cons () [] rfl .nil) rfl rfl rfl rfl rfl rfl rfl) rfl rfl rfl rfl rfl ?_
  intro g4
  refine L.q 2 rfl ?_
  refine L.frz 0 rfl ?_
  obtain ⟨r7, h8, H9⟩ := bnd H3
  refine L.a [] [0] (Ac.call (c_slices_Repeat_row_Cell (some ⟨g4, 0, none⟩) 1 h8) rfl rfl rfl rfl) rfl rfl rfl rfl rfl ?_
  rintro ⟨a10, c11⟩
  refine L.q 1 rfl ?_
  refine L.nil ?_
  refine E.then ?_
  refine T.ret ?_
  have hr := Option.some.inj H9
  subst r
  exact E.ret (a10, c11) [0] [] (.tmp rfl .nil) rfl rfl rfl

theorem c_row_clip {n_ : Int} {lo : Int} {hi : Int} {r : Int} (H : p_row_clip n_ lo hi = some r) : CT G 44 [.int .i64 n_, .int .i64 lo, .int .i64 hi] [] [] (fun h : Unit => .int .i64 r) (fun h => []) (fun h => []) := by
  delta p_row_clip at H
  refine CT.of Go.Proofs.Tryd.func44 (by kernel_rfl) rfl rfl fun K => ?_
  refine T.seq ?_
  refine T.region ?_
  refine L.q 1 rfl ?_
  refine L.nil ?_
  refine E.then ?_
  refine T.seq ?_
  refine T.region ?_
  refine L.q 6 rfl ?_
  refine L.nil ?_
  refine E.then ?_
  refine T.ret ?_
  have hr := Option.some.inj H
  subst r
  exact E.ret () [] [] (.tmp rfl .nil) rfl rfl rfl

theorem c_row_Blank {w : Int} {style : Int} {r : RowRow} (H : p_row_Blank w style = some r) : CT G 13 [.int .i64 w, .int .i64 style] [] [] (fun h : (Option Addr × Nat) => .agg #[.slice h.1 r.cells.length h.2, .bool r.wrapped]) (fun h => []) (fun h => [Im.sl tyRowCell h.1 h.2 r.cells]) := by
  delta p_row_Blank at H
  refine CT.of Go.Proofs.Tryd.func13 (by kernel_rfl) rfl rfl fun K => ?_
  refine T.seq ?_
  refine T.region ?_
  refine L.a [] [] (Ac.alloc rfl rfl) rfl rfl rfl rfl rfl ?_
  intro g1
  refine L.nil ?_
  refine E.then ?_
  refine T.seq ?_
  refine T.region ?_
  refine L.q 1 rfl ?_
  obtain ⟨r2, h3, H4⟩ := bnd H
  refine L.a [] [] (Ac.call (c_row_clip h3) rfl rfl rfl rfl) rfl rfl rfl rfl rfl ?_
  rintro ⟨⟩
  refine L.q 1 rfl ?_
  obtain ⟨r5, h6, H7⟩ := bnd H4
  refine L.a [] [] (Ac.call (c_row_blanks h6) rfl rfl rfl rfl) rfl rfl rfl rfl rfl ?_
  rintro ⟨a8, c9⟩
  refine L.q 1 rfl ?_
  refine L.a [1] [] (Ac.stb rfl rfl rfl rfl rfl rfl) rfl rfl rfl rfl rfl ?_
  intro _
  refine L.nil ?_
  refine E.then ?_
  refine T.ret ?_
  refine E.frz 1 rfl ?_
  have hr := Option.some.inj H7
  subst r
  exact E.ret (a8, c9) [] [0] (.cell 0 rfl rfl rfl .nil) rfl rfl rfl

theorem c_row_Row_Glyphs (a_0_0 : Option Addr) (c_0_0 : Nat) {r_ : RowRow} {r : (List RowGlyph)} (H : p_row_Row_Glyphs r_ = some r) : CT G 20 [.agg #[.slice a_0_0 r_.cells.length c_0_0, .bool r_.wrapped]] [] [Im.sl tyRowCell a_0_0 c_0_0 r_.cells] (fun h : (Option Addr × Nat) => .slice h.1 r.length h.2) (fun h => [Ch.arr tyRowGlyph 45 h.1 h.2 r]) (fun h => []) := by
  delta p_row_Row_Glyphs at H
  refine CT.of Go.Proofs.Tryd.func20 (by kernel_rfl) rfl rfl fun K => ?_
  refine T.seq ?_
  refine T.region ?_
  refine L.a [] [] (Ac.box rfl rfl) rfl rfl rfl rfl rfl ?_
  intro g1
  refine L.q 1 rfl ?_
  refine L.nil ?_
  refine E.then ?_
  refine T.seq ?_
  refine T.region ?_
  refine L.q 1 rfl ?_
  refine L.y (Yl.ldb 0 rfl rfl rfl rfl) rfl rfl rfl ?_
  refine L.q 1 rfl ?_
  refine L.nil ?_
  refine E.then ?_
  refine T.seq ?_
  obtain ⟨e268, H269, H270⟩ := bnd H
  refine T.join (η := Unit × ((Option Addr × Nat))) (fun h => True) (fun h => (fun a265 c266 => [(3, .slice a265 e268.length c266)]) h.2.1 h.2.2) (fun h => (fun a265 c266 => [Ch.box g1 26 [.slice a_0_0 r_.cells.length c_0_0, .bool r_.wrapped]]) h.2.1 h.2.2) (fun h => (fun a265 c266 => [Im.sl tyRowCell a265 c266 e268, Im.sl tyRowCell a_0_0 c_0_0 r_.cells]) h.2.1 h.2.2) ?_ ?_
  · refine T.block ?_
    refine T.lp (η := (Option Addr × Nat)) (fun s180 h => (fun a177 c178 => [(1, .pointer (some ⟨g1, 0, none⟩)), (3, .slice a177 s180.length c178)]) h.1 h.2) (fun s180 h => (fun a177 c178 => [Ch.box g1 26 [.slice a_0_0 r_.cells.length c_0_0, .bool r_.wrapped]]) h.1 h.2) (fun s180 h => (fun a177 c178 => [Im.sl tyRowCell a177 c178 s180, Im.sl tyRowCell a_0_0 c_0_0 r_.cells]) h.1 h.2) (a_0_0, c_0_0) [0] [0, 0] H269 ⟨rfl, rfl, trivial⟩ rfl rfl ?_
    rintro k s180 ⟨a177, c178⟩ z272 H271 hag273 hbr274
    refine T.seq ?_
    refine T.seq ?_
    obtain ⟨e324, H325, H326⟩ := bnd H271
    refine T.join (η := Unit × Unit) (fun h => True) (fun h => [(1, .pointer (some ⟨g1, 0, none⟩)), (3, .slice a177 s180.length c178), (26, .bool e324)]) (fun h => [Ch.box g1 26 [.slice a_0_0 r_.cells.length c_0_0, .bool r_.wrapped]]) (fun h => [Im.sl tyRowCell a177 c178 s180, Im.sl tyRowCell a_0_0 c_0_0 r_.cells]) ?_ ?_
    · refine T.draw [] [0] mo rfl ?_
      refine D.q 0 rfl rfl rfl rfl rfl rfl ?_
      refine D.y 1 (Yl.ldb 0 rfl rfl rfl rfl) rfl rfl rfl rfl rfl rfl ?_
      refine D.q 2 rfl rfl rfl rfl rfl rfl ?_
      refine D.q 3 rfl rfl rfl rfl rfl rfl ?_
      refine D.cs 12 H325 rfl (fun hc H339 => ?_) (fun hc H339 => ?_)
      · refine D.q 4 rfl rfl rfl rfl rfl rfl ?_
        refine D.q 5 rfl rfl rfl rfl rfl rfl ?_
        refine D.q 6 rfl rfl rfl rfl rfl rfl ?_
        refine D.q 7 rfl rfl rfl rfl rfl rfl ?_
        refine D.q 8 rfl rfl rfl rfl rfl rfl ?_
        refine D.cs 17 H339 rfl (fun hc H340 => ?_) (fun hc H340 => ?_)
        · refine D.q 9 rfl rfl rfl rfl rfl rfl ?_
          refine D.q 10 rfl rfl rfl rfl rfl rfl ?_
          refine D.q 11 rfl rfl rfl rfl rfl rfl ?_
          refine D.q 12 rfl rfl rfl rfl rfl rfl ?_
          obtain ⟨x341, h342, H343⟩ := bnd H340
          refine D.addr 0 rfl (idx_lt h342) fun b344 o345 e346 => ?_
          obtain rfl : a177 = some ⟨b344, o345, none⟩ := e346
          refine D.y 13 (Yl.ia h342 rfl rfl rfl rfl rfl rfl) rfl rfl rfl rfl rfl rfl ?_
          refine D.el 0 rfl (idx_some h342).2 ?_
          rintro _
          refine D.y 14 (Yl.ldc 0 0 rfl rfl rfl rfl) rfl rfl rfl rfl rfl rfl ?_
          obtain ⟨r348, h349, H350⟩ := bnd H343
          refine D.one rfl rfl rfl (Dp.a [] [] (Ac.call (c_row_blank h349) rfl rfl rfl rfl) rfl rfl rfl rfl rfl rfl ?_)
          rintro ⟨⟩
          refine D.q 16 rfl rfl rfl rfl rfl rfl ?_
          refine D.q 17 rfl rfl rfl rfl rfl rfl ?_
          refine D.nil rfl rfl ?_
          have hr := Option.some.inj H350
          subst e324
          exact E.give ((), ()) [0] [1, 2] trivial ⟨rfl, rfl, rfl, trivial⟩ rfl rfl
        · refine D.sk 9 rfl rfl rfl rfl rfl ?_
          refine D.sk 10 rfl rfl rfl rfl rfl ?_
          refine D.sk 11 rfl rfl rfl rfl rfl ?_
          refine D.sk 12 rfl rfl rfl rfl rfl ?_
          refine D.sk 13 rfl rfl rfl rfl rfl ?_
          refine D.sk 14 rfl rfl rfl rfl rfl ?_
          refine D.sk 15 rfl rfl rfl rfl rfl ?_
          refine D.sk 16 rfl rfl rfl rfl rfl ?_
          refine D.q 17 rfl rfl rfl rfl rfl rfl ?_
          refine D.nil rfl rfl ?_
          have hr := Option.some.inj H340
          subst e324
          exact E.give ((), ()) [0] [0, 1] trivial ⟨rfl, rfl, rfl, trivial⟩ rfl rfl
      · refine D.sk 4 rfl rfl rfl rfl rfl ?_
        refine D.sk 5 rfl rfl rfl rfl rfl ?_
        refine D.sk 6 rfl rfl rfl rfl rfl ?_
        refine D.q 7 rfl rfl rfl rfl rfl rfl ?_
        refine D.q 8 rfl rfl rfl rfl rfl rfl ?_
        refine D.sk 9 rfl rfl rfl rfl rfl ?_
        refine D.sk 10 rfl rfl rfl rfl rfl ?_
        refine D.sk 11 rfl rfl rfl rfl rfl ?_
        refine D.sk 12 rfl rfl rfl rfl rfl ?_
        refine D.sk 13 rfl rfl rfl rfl rfl ?_
        refine D.sk 14 rfl rfl rfl rfl rfl ?_
        refine D.sk 15 rfl rfl rfl rfl rfl ?_
        refine D.sk 16 rfl rfl rfl rfl rfl ?_
        refine D.q 17 rfl rfl rfl rfl rfl rfl ?_
        refine D.nil rfl rfl ?_
        have hr := Option.some.inj H339
        subst e324
        exact E.give ((), ()) [0] [0, 1] trivial ⟨rfl, rfl, rfl, trivial⟩ rfl rfl
    · rintro ⟨_, ⟨⟩⟩ _
      refine T.bif rfl H326 (fun hc H352 => ?_) (fun hc H352 => ?_)
      · refine T.skip ?_
        refine E.then ?_
        refine T.block ?_
        refine T.region ?_
        refine L.q 4 rfl ?_
        obtain ⟨_, h353, H354⟩ := bnd H352
        refine L.rs 0 h353 rfl rfl rfl rfl rfl rfl rfl rfl rfl rfl rfl rfl ?_
        intro a355 c356
        refine L.q 1 rfl ?_
        refine L.nil ?_
        refine E.block ?_
        have hr := Option.some.inj H354
        subst z272
        exact E.give (_, (a355, c356)) [0] [0, 2] (hag273 _ rfl) ⟨rfl, rfl, trivial⟩ rfl rfl
      · refine T.exit ?_
        refine E.then_exit' ?_
        refine E.then_exit' ?_
        refine E.block_here ?_
        have hr := Option.some.inj H352
        subst z272
        have hb := hbr274 _ rfl
        subst e268
        exact E.give ((), (a177, c178)) [0] [0, 1] trivial ⟨rfl, trivial⟩ rfl rfl
  · rintro ⟨_, ⟨a265, c266⟩⟩ _
    refine T.seq ?_
    refine T.region ?_
    refine L.q 1 rfl ?_
    refine L.nil ?_
    refine E.then ?_
    refine T.seq ?_
    refine T.seq ?_
    refine T.region ?_
    refine L.q 3 rfl ?_
    refine L.nil ?_
    refine E.then ?_
    obtain ⟨e625, H626, H627⟩ := bnd H270
    refine T.join (η := Unit × ((Option Addr × Nat))) (fun h => True) (fun h => (fun a622 c623 => [(4, .slice a622 e625.length c623)]) h.2.1 h.2.2) (fun h => (fun a622 c623 => [Ch.arr tyRowGlyph 45 a622 c623 e625, Ch.box g1 26 [.slice a_0_0 r_.cells.length c_0_0, .bool r_.wrapped]]) h.2.1 h.2.2) (fun h => (fun a622 c623 => [Im.sl tyRowCell a265 c266 e268, Im.sl tyRowCell a_0_0 c_0_0 r_.cells]) h.2.1 h.2.2) ?_ ?_
    · refine T.block ?_
      refine T.nil0 tyRowGlyph 45 ?_
      refine T.lp (η := (Option Addr × Nat)) (fun s539 h => (fun a536 c537 => [(4, .slice a536 s539.2.length c537), (32, .slice a265 e268.length c266), (33, .int .i64 (e268.length : Int)), (34, .int .i64 s539.1)]) h.1 h.2) (fun s539 h => (fun a536 c537 => [Ch.arr tyRowGlyph 45 a536 c537 s539.2, Ch.box g1 26 [.slice a_0_0 r_.cells.length c_0_0, .bool r_.wrapped]]) h.1 h.2) (fun s539 h => (fun a536 c537 => [Im.sl tyRowCell a265 c266 e268, Im.sl tyRowCell a_0_0 c_0_0 r_.cells]) h.1 h.2) (none, 0) [0, 0] [0, 1] H626 ⟨rfl, rfl, rfl, rfl, trivial⟩ rfl rfl ?_
      rintro k s539 ⟨a536, c537⟩ z629 H628 hag630 hbr631
      refine T.seq ?_
      refine T.region ?_
      refine L.q 1 rfl ?_
      refine L.nil ?_
      refine E.then ?_
      refine T.seq ?_
      refine T.bif rfl H628 (fun hc H633 => ?_) (fun hc H633 => ?_)
      · refine T.skip ?_
        refine E.then ?_
        refine T.seq ?_
        obtain ⟨e686, H687, H688⟩ := bnd H633
        refine T.join (η := Unit × ((Option Addr × Nat))) (fun h => True) (fun h => (fun a683 c684 => [(4, .slice a683 e686.length c684), (32, .slice a265 e268.length c266), (33, .int .i64 (e268.length : Int)), (34, .int .i64 s539.1)]) h.2.1 h.2.2) (fun h => (fun a683 c684 => [Ch.arr tyRowGlyph 45 a683 c684 e686, Ch.box g1 26 [.slice a_0_0 r_.cells.length c_0_0, .bool r_.wrapped]]) h.2.1 h.2.2) (fun h => (fun a683 c684 => [Im.sl tyRowCell a265 c266 e268, Im.sl tyRowCell a_0_0 c_0_0 r_.cells]) h.2.1 h.2.2) ?_ ?_
        · refine T.block ?_
          refine T.seq ?_
          refine T.region ?_
          obtain ⟨x689, h690, H691⟩ := bnd H687
          refine L.addr 0 rfl (idx_lt h690) fun b692 o693 e694 => ?_
          obtain rfl : a265 = some ⟨b692, o693, none⟩ := e694
          refine L.y (Yl.ia h690 rfl rfl rfl rfl rfl rfl) rfl rfl rfl ?_
          refine L.el 0 rfl (idx_some h690).2 ?_
          rintro _
          refine L.y (Yl.ldc 0 0 rfl rfl rfl rfl) rfl rfl rfl ?_
          refine L.a [] [] (Ac.alloc rfl rfl) rfl rfl rfl rfl rfl ?_
          intro g696
          refine L.a [0] [] (Ac.stb rfl rfl rfl rfl rfl rfl) rfl rfl rfl rfl rfl ?_
          intro _
          refine L.nil ?_
          refine E.then ?_
          refine T.seq ?_
          obtain ⟨e700, H701, H702⟩ := bnd H691
          refine T.join (η := Unit × Unit) (fun h => True) (fun h => [(4, .slice a536 s539.2.length c537), (6, .pointer (some ⟨g696, 0, none⟩)), (32, .slice (some ⟨b692, o693, none⟩) e268.length c266), (33, .int .i64 (e268.length : Int)), (34, .int .i64 s539.1), (45, .bool e700)]) (fun h => [Ch.box g696 80 [.int .i32 x689.rune, .int .i64 x689.style, .int .i64 x689.part], Ch.box g1 26 [.slice a_0_0 r_.cells.length c_0_0, .bool r_.wrapped], Ch.arr tyRowGlyph 45 a536 c537 s539.2]) (fun h => [Im.cells b692 (o693 + s539.1.toNat * 3) [.int .i32 x689.rune, .int .i64 x689.style, .int .i64 x689.part], Im.sl tyRowCell (some ⟨b692, o693, none⟩) c266 e268, Im.sl tyRowCell a_0_0 c_0_0 r_.cells]) ?_ ?_
          · refine T.region ?_
            refine L.q 1 rfl ?_
            refine L.y (Yl.ldb 0 rfl rfl rfl rfl) rfl rfl rfl ?_
            refine L.q 2 rfl ?_
            refine L.cs 41 H701 rfl (fun hc H703 => ?_) (fun hc H703 => ?_)
            · refine L.q 4 rfl ?_
              refine L.nil ?_
              have hr := Option.some.inj H703
              subst e700
              exact E.give ((), ()) [0, 1, 0] [0, 1, 2] trivial ⟨rfl, rfl, rfl, rfl, rfl, rfl, trivial⟩ rfl rfl
            · refine L.q 1 rfl ?_
              refine L.y (Yl.ldb 0 rfl rfl rfl rfl) rfl rfl rfl ?_
              refine L.q 2 rfl ?_
              refine L.nil ?_
              have hr := Option.some.inj H703
              subst e700
              exact E.give ((), ()) [0, 1, 0] [0, 1, 2] trivial ⟨rfl, rfl, rfl, rfl, rfl, rfl, trivial⟩ rfl rfl
          · rintro ⟨_, ⟨⟩⟩ _
            refine T.bif rfl H702 (fun hc H704 => ?_) (fun hc H704 => ?_)
            · refine T.region ?_
              refine L.q 2 rfl ?_
              refine L.y (Yl.ldb 0 rfl rfl rfl rfl) rfl rfl rfl ?_
              refine L.q 1 rfl ?_
              refine L.y (Yl.ldb 0 rfl rfl rfl rfl) rfl rfl rfl ?_
              refine L.q 1 rfl ?_
              refine L.a [] [] (Ac.bs (ty := tyRowGlyph) (xs := [(RowGlyph.mk x689.rune x689.style)]) (.cons () [] rfl .nil) rfl rfl rfl rfl rfl rfl rfl) rfl rfl rfl rfl rfl ?_
              intro g705
              refine L.frz 0 rfl ?_
              obtain ⟨_, h708, H709⟩ := bnd H704
              refine L.a [2] [0] (Ac.ap (ty := tyRowGlyph) h708 rfl rfl rfl rfl rfl rfl rfl) rfl rfl rfl rfl rfl ?_
              rintro ⟨a710, c711⟩
              refine L.q 1 rfl ?_
              refine L.nil ?_
              refine E.block ?_
              have hr := Option.some.inj H709
              subst e686
              exact E.give ((), (a710, c711)) [0, 1] [2, 3] trivial ⟨rfl, rfl, rfl, rfl, trivial⟩ rfl rfl
            · refine T.skip ?_
              refine E.block ?_
              have hr := Option.some.inj H704
              subst e686
              exact E.give ((), (a536, c537)) [2, 1] [1, 2] trivial ⟨rfl, rfl, rfl, rfl, trivial⟩ rfl rfl
        · rintro ⟨_, ⟨a683, c684⟩⟩ _
          refine T.region ?_
          refine L.q 2 rfl ?_
          refine L.nil ?_
          have hr := Option.some.inj H688
          subst z629
          exact E.give (_, (a683, c684)) [0, 0] [0, 1] (hag630 _ rfl) ⟨rfl, rfl, rfl, rfl, trivial⟩ rfl rfl
      · refine T.exit ?_
        refine E.then_exit' ?_
        refine E.then_exit' ?_
        refine E.block_here ?_
        have hr := Option.some.inj H633
        subst z629
        have hb := hbr631 _ rfl
        subst e625
        exact E.give ((), (a536, c537)) [0, 0] [0, 1] trivial ⟨rfl, trivial⟩ rfl rfl
    · rintro ⟨_, ⟨a622, c623⟩⟩ _
      refine T.seq ?_
      refine T.region ?_
      refine L.q 2 rfl ?_
      refine L.nil ?_
      refine E.then ?_
      refine T.ret ?_
      have hr := Option.some.inj H627
      subst r
      exact E.ret (a622, c623) [0] [] (.tmp rfl .nil) rfl rfl rfl

theorem c_wide_in (a_0 : Option Addr) (c_0 : Nat) {l : List WideSpan} {r_ : Int} {r : Bool} (H : p_wide_in l r_ = some r) : CT G 55 [.slice a_0 l.length c_0, .int .i32 r_] [] [Im.sl tyWideSpan a_0 c_0 l] (fun h : Unit => .bool r) (fun h => []) (fun h => []) := by
  delta p_wide_in at H
  refine CT.of Go.Proofs.Tryd.func55 (by kernel_rfl) rfl rfl fun K => ?_
  refine T.seq ?_
  refine T.region ?_
  refine L.q 1 rfl ?_
  refine L.nil ?_
  refine E.then ?_
  refine T.seq ?_
  refine T.region ?_
  refine L.q 4 rfl ?_
  refine L.nil ?_
  refine E.then ?_
  refine T.seq ?_
  obtain ⟨e39, H40, H41⟩ := bnd H
  refine T.join (η := Unit × Unit) (fun h => True) (fun h => [(0, .slice a_0 l.length c_0), (1, .int .i32 r_), (5, .int .i64 e39)]) (fun h => []) (fun h => [Im.sl tyWideSpan a_0 c_0 l]) ?_ ?_
  · refine T.block ?_
    refine T.lp (η := Unit) (fun s27 h => [(0, .slice a_0 l.length c_0), (1, .int .i32 r_), (5, .int .i64 s27.1), (6, .int .i64 s27.2)]) (fun s27 h => []) (fun s27 h => [Im.sl tyWideSpan a_0 c_0 l]) () [] [0] H40 ⟨rfl, rfl, rfl, rfl, trivial⟩ rfl rfl ?_
    rintro k s27 ⟨⟩ z43 H42 hag44 hbr45
    refine T.seq ?_
    refine T.seq ?_
    refine T.region ?_
    refine L.q 3 rfl ?_
    refine L.nil ?_
    refine E.then ?_
    refine T.bif rfl H42 (fun hc H47 => ?_) (fun hc H47 => ?_)
    · refine T.skip ?_
      refine E.then ?_
      refine T.block ?_
      refine T.seq ?_
      refine T.region ?_
      refine L.q 5 rfl ?_
      refine L.nil ?_
      refine E.then ?_
      refine T.seq ?_
      refine T.region ?_
      refine L.q 2 rfl ?_
      obtain ⟨x48, h49, H50⟩ := bnd H47
      refine L.addr 0 rfl (idx_lt h49) fun b51 o52 e53 => ?_
      obtain rfl : a_0 = some ⟨b51, o52, none⟩ := e53
      refine L.y (Yl.ia h49 rfl rfl rfl rfl rfl rfl) rfl rfl rfl ?_
      refine L.el 0 rfl (idx_some h49).2 ?_
      rintro _
      refine L.q 1 rfl ?_
      refine L.y (Yl.ldc 0 1 rfl rfl rfl rfl) rfl rfl rfl ?_
      refine L.q 2 rfl ?_
      refine L.nil ?_
      refine E.then ?_
      refine T.bif rfl H50 (fun hc H55 => ?_) (fun hc H55 => ?_)
      · refine T.region ?_
        refine L.q 3 rfl ?_
        refine L.nil ?_
        refine E.block ?_
        have hr := Option.some.inj H55
        subst z43
        exact E.give (_, ()) [] [1] (hag44 _ rfl) ⟨rfl, rfl, rfl, rfl, trivial⟩ rfl rfl
      · refine T.region ?_
        refine L.q 2 rfl ?_
        refine L.nil ?_
        refine E.block ?_
        have hr := Option.some.inj H55
        subst z43
        exact E.give (_, ()) [] [1] (hag44 _ rfl) ⟨rfl, rfl, rfl, rfl, trivial⟩ rfl rfl
    · refine T.exit ?_
      refine E.then_exit' ?_
      refine E.then_exit' ?_
      refine E.block_here ?_
      have hr := Option.some.inj H47
      subst z43
      have hb := hbr45 _ rfl
      subst e39
      exact E.give ((), ()) [] [0] trivial ⟨rfl, rfl, rfl, trivial⟩ rfl rfl
  · rintro ⟨_, ⟨⟩⟩ _
    refine T.seq ?_
    obtain ⟨e73, H74, H75⟩ := bnd H41
    refine T.join (η := Unit × Unit) (fun h => True) (fun h => [(4, .bool e73)]) (fun h => []) (fun h => [Im.sl tyWideSpan a_0 c_0 l]) ?_ ?_
    · refine T.region ?_
      refine L.q 5 rfl ?_
      refine L.cs 31 H74 rfl (fun hc H76 => ?_) (fun hc H76 => ?_)
      · refine L.q 2 rfl ?_
        obtain ⟨x77, h78, H79⟩ := bnd H76
        refine L.addr 0 rfl (idx_lt h78) fun b80 o81 e82 => ?_
        obtain rfl : a_0 = some ⟨b80, o81, none⟩ := e82
        refine L.y (Yl.ia h78 rfl rfl rfl rfl rfl rfl) rfl rfl rfl ?_
        refine L.el 0 rfl (idx_some h78).2 ?_
        rintro _
        refine L.q 1 rfl ?_
        refine L.y (Yl.ldc 0 0 rfl rfl rfl rfl) rfl rfl rfl ?_
        refine L.q 4 rfl ?_
        refine L.nil ?_
        have hr := Option.some.inj H79
        subst e73
        exact E.give ((), ()) [] [1] trivial ⟨rfl, trivial⟩ rfl rfl
      · refine L.q 9 rfl ?_
        refine L.nil ?_
        have hr := Option.some.inj H76
        subst e73
        exact E.give ((), ()) [] [0] trivial ⟨rfl, trivial⟩ rfl rfl
    · rintro ⟨_, ⟨⟩⟩ _
      refine T.ret ?_
      have hr := Option.some.inj H75
      subst r
      exact E.ret () [] [] (.tmp rfl .nil) rfl rfl rfl

theorem c_wide_Of {r_ : Int} {r : Int} (H : p_wide_Of r_ = some r) : CT G 21 [.int .i32 r_] [] [Im.sl tyWideSpan (some ⟨0, 0, none⟩) 13 nones, Im.sl tyWideSpan (some ⟨1, 0, none⟩) 14 twos] (fun h : Unit => .int .i64 r) (fun h => []) (fun h => []) := by
  delta p_wide_Of at H
  refine CT.of Go.Proofs.Tryd.func21 (by kernel_rfl) rfl rfl fun K => ?_
  refine T.seq ?_
  refine T.region ?_
  refine L.q 1 rfl ?_
  refine L.nil ?_
  refine E.then ?_
  refine T.seq ?_
  refine T.block ?_
  refine T.seq ?_
  refine T.region ?_
  refine L.q 2 rfl ?_
  obtain ⟨r9, h10, H11⟩ := bnd H
  refine L.a [] [0] (Ac.call (c_wide_in (some ⟨0, 0, none⟩) 13 h10) rfl rfl rfl rfl) rfl rfl rfl rfl rfl ?_
  rintro ⟨⟩
  refine L.q 1 rfl ?_
  refine L.nil ?_
  refine E.then ?_
  refine T.bif rfl H11 (fun hc H12 => ?_) (fun hc H12 => ?_)
  · refine T.seq ?_
    refine T.region ?_
    refine L.q 1 rfl ?_
    refine L.nil ?_
    refine E.then ?_
    refine T.ret ?_
    refine E.block_ret ?_
    refine E.then_ret ?_
    have hr := Option.some.inj H12
    subst r
    exact E.ret () [] [] (.tmp rfl .nil) rfl rfl rfl
  · refine T.seq ?_
    refine T.region ?_
    refine L.q 2 rfl ?_
    obtain ⟨r13, h14, H15⟩ := bnd H12
    refine L.a [] [1] (Ac.call (c_wide_in (some ⟨1, 0, none⟩) 14 h14) rfl rfl rfl rfl) rfl rfl rfl rfl rfl ?_
    rintro ⟨⟩
    refine L.q 1 rfl ?_
    refine L.nil ?_
    refine E.then ?_
    refine T.bif rfl H15 (fun hc H16 => ?_) (fun hc H16 => ?_)
    · refine T.seq ?_
      refine T.region ?_
      refine L.q 1 rfl ?_
      refine L.nil ?_
      refine E.then ?_
      refine T.ret ?_
      refine E.block_ret ?_
      refine E.then_ret ?_
      have hr := Option.some.inj H16
      subst r
      exact E.ret () [] [] (.tmp rfl .nil) rfl rfl rfl
    · refine T.skip ?_
      refine E.block ?_
      refine E.then ?_
      refine T.seq ?_
      refine T.region ?_
      refine L.q 1 rfl ?_
      refine L.nil ?_
      refine E.then ?_
      refine T.ret ?_
      have hr := Option.some.inj H16
      subst r
      exact E.ret () [] [] (.tmp rfl .nil) rfl rfl rfl

theorem c_slices_Clone_row_Cell (a_0 : Option Addr) (c_0 : Nat) {s_ : List RowCell} {r : List RowCell} (H : p_slices_Clone_row_Cell s_ = some r) : CT G 78 [.slice a_0 s_.length c_0] [] [Im.sl tyRowCell a_0 c_0 s_] (fun h : (Option Addr × Nat) => .slice h.1 r.length h.2) (fun h => [Ch.arr tyRowCell 80 h.1 h.2 r]) (fun h => []) := by
  delta p_slices_Clone_row_Cell at H
  refine CT.of Go.Proofs.Tryd.func78 (by kernel_rfl) rfl rfl fun K => ?_
  obtain ⟨_, h0, H⟩ := bnd H
  have hr := Option.some.inj H
  refine T.seq ?_
  refine T.region ?_
  refine L.q 1 rfl ?_
  refine L.nil ?_
  refine E.then ?_
  refine T.seq ?_
  refine T.seq ?_
  refine T.region ?_
  refine L.q 1 rfl ?_
  refine L.nilc 0 rfl rfl rfl rfl rfl rfl rfl rfl rfl (fun ha hx => ?_) ?_
  · refine L.nil ?_
    refine E.then ?_
    refine T.cond rfl (fun _ => ?_) (fun h => nomatch h)
    refine T.seq ?_
    refine T.region ?_
    refine L.q 1 rfl ?_
    refine L.nil ?_
    refine E.then ?_
    refine T.ret ?_
    refine E.then_ret ?_
    subst hx
    subst r
    refine E.nil0 tyRowCell 80 ?_
    exact E.ret (none, 0) [0] [] (.tmp rfl .nil) rfl rfl rfl
  · refine L.nil ?_
    refine E.then ?_
    refine T.cond rfl (fun h => nomatch h) (fun _ => ?_)
    refine T.skip ?_
    refine E.then ?_
    refine T.seq ?_
    refine T.region ?_
    refine L.a [] [] (Ac.bs (ty := tyRowCell) (xs := []) .nil rfl rfl rfl rfl rfl rfl rfl) rfl rfl rfl rfl rfl ?_
    intro g1
    refine L.q 1 rfl ?_
    refine L.a [0] [0] (Ac.ap (ty := tyRowCell) h0 rfl rfl rfl rfl rfl rfl rfl) rfl rfl rfl rfl rfl ?_
    rintro ⟨a1, c1⟩
    refine L.q 1 rfl ?_
    refine L.nil ?_
    refine E.then ?_
    refine T.ret ?_
    subst r
    exact E.ret (a1, c1) [0] [] (.tmp rfl .nil) rfl rfl rfl

theorem c_row_Row_cells (a_0_0 : Option Addr) (c_0_0 : Nat) {r_ : RowRow} {r : (List RowCell)} (H : p_row_Row_cells r_ = some r) : CT G 56 [.agg #[.slice a_0_0 r_.cells.length c_0_0, .bool r_.wrapped]] [] [Im.sl tyRowCell a_0_0 c_0_0 r_.cells] (fun h : (Option Addr × Nat) => .slice h.1 r.length h.2) (fun h => [Ch.arr tyRowCell 80 h.1 h.2 r]) (fun h => []) := by
  delta p_row_Row_cells at H
  refine CT.of Go.Proofs.Tryd.func56 (by kernel_rfl) rfl rfl fun K => ?_
  refine T.seq ?_
  refine T.region ?_
  refine L.a [] [] (Ac.box rfl rfl) rfl rfl rfl rfl rfl ?_
  intro g1
  refine L.q 1 rfl ?_
  refine L.nil ?_
  refine E.then ?_
  refine T.seq ?_
  refine T.region ?_
  refine L.q 1 rfl ?_
  refine L.y (Yl.ldb 0 rfl rfl rfl rfl) rfl rfl rfl ?_
  obtain ⟨r2, h3, H4⟩ := bnd H
  refine L.a [] [0] (Ac.call (c_slices_Clone_row_Cell a_0_0 c_0_0 h3) rfl rfl rfl rfl) rfl rfl rfl rfl rfl ?_
  rintro ⟨a5, c6⟩
  refine L.q 1 rfl ?_
  refine L.nil ?_
  refine E.then ?_
  refine T.ret ?_
  have hr := Option.some.inj H4
  subst r
  exact E.ret (a5, c6) [0] [] (.tmp rfl .nil) rfl rfl rfl

theorem c_row_broken (a_0 : Option Addr) (c_0 : Nat) {l : List RowCell} {i : Int} {r : Bool} (H : p_row_broken l i = some r) : CT G 79 [.slice a_0 l.length c_0, .int .i64 i] [] [Im.sl tyRowCell a_0 c_0 l] (fun h : Unit => .bool r) (fun h => []) (fun h => []) := by
  delta p_row_broken at H
  refine CT.of Go.Proofs.Tryd.func79 (by kernel_rfl) rfl rfl fun K => ?_
  refine T.seq ?_
  refine T.region ?_
  refine L.q 1 rfl ?_
  refine L.nil ?_
  refine E.then ?_
  refine T.seq ?_
  refine T.seq ?_
  refine T.region ?_
  refine L.q 2 rfl ?_
  obtain ⟨x1, h2, H3⟩ := bnd H
  refine L.addr 0 rfl (idx_lt h2) fun b4 o5 e6 => ?_
  obtain rfl : a_0 = some ⟨b4, o5, none⟩ := e6
  refine L.y (Yl.ia h2 rfl rfl rfl rfl rfl rfl) rfl rfl rfl ?_
  refine L.el 0 rfl (idx_some h2).2 ?_
  rintro _
  refine L.q 1 rfl ?_
  refine L.y (Yl.ldc 0 2 rfl rfl rfl rfl) rfl rfl rfl ?_
  refine L.nil ?_
  refine E.then ?_
  refine T.block ?_
  refine T.seq ?_
  refine T.region ?_
  refine L.q 2 rfl ?_
  refine L.nil ?_
  refine E.then ?_
  refine T.bif rfl H3 (fun hc H49 => ?_) (fun hc H49 => ?_)
  · refine T.seq ?_
    obtain ⟨e61, H62, H63⟩ := bnd H49
    refine T.join (η := Unit × Unit) (fun h => True) (fun h => [(4, .bool e61)]) (fun h => []) (fun h => [Im.cells b4 (o5 + i.toNat * 3) [.int .i32 x1.rune, .int .i64 x1.style, .int .i64 x1.part], Im.sl tyRowCell (some ⟨b4, o5, none⟩) c_0 l]) ?_ ?_
    · refine T.region ?_
      refine L.q 6 rfl ?_
      refine L.cs 17 H62 rfl (fun hc H64 => ?_) (fun hc H64 => ?_)
      · refine L.q 9 rfl ?_
        refine L.nil ?_
        have hr := Option.some.inj H64
        subst e61
        exact E.give ((), ()) [] [0, 1] trivial ⟨rfl, trivial⟩ rfl rfl
      · refine L.q 3 rfl ?_
        obtain ⟨x65, h66, H67⟩ := bnd H64
        refine L.y (Yl.ia h66 rfl rfl rfl rfl rfl rfl) rfl rfl rfl ?_
        refine L.el 1 rfl (idx_some h66).2 ?_
        rintro _
        refine L.q 1 rfl ?_
        refine L.y (Yl.ldc 0 2 rfl rfl rfl rfl) rfl rfl rfl ?_
        refine L.q 3 rfl ?_
        refine L.nil ?_
        have hr := Option.some.inj H67
        subst e61
        exact E.give ((), ()) [] [1, 2] trivial ⟨rfl, trivial⟩ rfl rfl
    · rintro ⟨_, ⟨⟩⟩ _
      refine T.ret ?_
      refine E.block_ret ?_
      refine E.then_ret ?_
      have hr := Option.some.inj H63
      subst r
      exact E.ret () [] [] (.tmp rfl .nil) rfl rfl rfl
  · refine T.seq ?_
    refine T.region ?_
    refine L.q 2 rfl ?_
    refine L.nil ?_
    refine E.then ?_
    refine T.bif rfl H49 (fun hc H69 => ?_) (fun hc H69 => ?_)
    · refine T.seq ?_
      obtain ⟨e81, H82, H83⟩ := bnd H69
      refine T.join (η := Unit × Unit) (fun h => True) (fun h => [(4, .bool e81)]) (fun h => []) (fun h => [Im.cells b4 (o5 + i.toNat * 3) [.int .i32 x1.rune, .int .i64 x1.style, .int .i64 x1.part], Im.sl tyRowCell (some ⟨b4, o5, none⟩) c_0 l]) ?_ ?_
      · refine T.region ?_
        refine L.q 3 rfl ?_
        refine L.cs 30 H82 rfl (fun hc H84 => ?_) (fun hc H84 => ?_)
        · refine L.q 9 rfl ?_
          refine L.nil ?_
          have hr := Option.some.inj H84
          subst e81
          exact E.give ((), ()) [] [0, 1] trivial ⟨rfl, trivial⟩ rfl rfl
        · refine L.q 3 rfl ?_
          obtain ⟨x85, h86, H87⟩ := bnd H84
          refine L.y (Yl.ia h86 rfl rfl rfl rfl rfl rfl) rfl rfl rfl ?_
          refine L.el 1 rfl (idx_some h86).2 ?_
          rintro _
          refine L.q 1 rfl ?_
          refine L.y (Yl.ldc 0 2 rfl rfl rfl rfl) rfl rfl rfl ?_
          refine L.q 3 rfl ?_
          refine L.nil ?_
          have hr := Option.some.inj H87
          subst e81
          exact E.give ((), ()) [] [1, 2] trivial ⟨rfl, trivial⟩ rfl rfl
      · rintro ⟨_, ⟨⟩⟩ _
        refine T.ret ?_
        refine E.block_ret ?_
        refine E.then_ret ?_
        have hr := Option.some.inj H83
        subst r
        exact E.ret () [] [] (.tmp rfl .nil) rfl rfl rfl
    · refine T.seq ?_
      refine T.region ?_
      refine L.q 2 rfl ?_
      refine L.nil ?_
      refine E.then ?_
      refine T.bif rfl H69 (fun hc H89 => ?_) (fun hc H89 => ?_)
      · refine T.seq ?_
        refine T.region ?_
        refine L.q 6 rfl ?_
        refine L.nil ?_
        refine E.then ?_
        refine T.ret ?_
        refine E.block_ret ?_
        refine E.then_ret ?_
        have hr := Option.some.inj H89
        subst r
        exact E.ret () [] [] (.tmp rfl .nil) rfl rfl rfl
      · refine T.skip ?_
        refine E.block ?_
        refine E.then ?_
        refine T.seq ?_
        refine T.region ?_
        refine L.q 1 rfl ?_
        refine L.nil ?_
        refine E.then ?_
        refine T.ret ?_
        have hr := Option.some.inj H89
        subst r
        exact E.ret () [] [] (.tmp rfl .nil) rfl rfl rfl

theorem c_row_mend (a_0 : Option Addr) (c_0 : Nat) {l : List RowCell} {r : RowRow} (H : p_row_mend l = some r) : CT G 57 [.slice a_0 l.length c_0] [Ch.arr tyRowCell 80 a_0 c_0 l] [] (fun h : (Option Addr × Nat) => .agg #[.slice h.1 r.cells.length h.2, .bool r.wrapped]) (fun h => []) (fun h => [Im.sl tyRowCell h.1 h.2 r.cells]) := by
  delta p_row_mend at H
  refine CT.of Go.Proofs.Tryd.func57 (by kernel_rfl) rfl rfl fun K => ?_
  refine T.seq ?_
  refine T.region ?_
  refine L.a [] [] (Ac.alloc rfl rfl) rfl rfl rfl rfl rfl ?_
  intro g1
  refine L.nil ?_
  refine E.then ?_
  refine T.seq ?_
  refine T.seq ?_
  refine T.region ?_
  refine L.q 3 rfl ?_
  refine L.nil ?_
  refine E.then ?_
  obtain ⟨e193, H194, H195⟩ := bnd H
  refine T.join (η := Unit × ((Option Addr × Nat))) (fun h => True) (fun h => (fun a190 c191 => [(0, .slice a190 e193.length c191), (2, .pointer (some ⟨g1, 0, none⟩))]) h.2.1 h.2.2) (fun h => (fun a190 c191 => [Ch.arr tyRowCell 80 a190 c191 e193, Ch.box g1 26 [.slice none 0 0, .bool false]]) h.2.1 h.2.2) (fun h => (fun a190 c191 => []) h.2.1 h.2.2) ?_ ?_
  · refine T.block ?_
    refine T.lp (η := (Option Addr × Nat)) (fun s131 h => (fun a127 c128 => [(0, .slice a127 s131.1.length c128), (2, .pointer (some ⟨g1, 0, none⟩)), (5, .int .i64 (l.length : Int)), (6, .int .i64 s131.2)]) h.1 h.2) (fun s131 h => (fun a127 c128 => [Ch.arr tyRowCell 80 a127 c128 s131.1, Ch.box g1 26 [.slice none 0 0, .bool false]]) h.1 h.2) (fun s131 h => (fun a127 c128 => []) h.1 h.2) (a_0, c_0) [1, 0] [] H194 ⟨rfl, rfl, rfl, rfl, trivial⟩ rfl rfl ?_
    rintro k s131 ⟨a127, c128⟩ z197 H196 hag198 hbr199
    refine T.seq ?_
    refine T.region ?_
    refine L.q 1 rfl ?_
    refine L.nil ?_
    refine E.then ?_
    refine T.seq ?_
    refine T.bif rfl H196 (fun hc H201 => ?_) (fun hc H201 => ?_)
    · refine T.skip ?_
      refine E.then ?_
      refine T.seq ?_
      obtain ⟨e238, H239, H240⟩ := bnd H201
      refine T.join (η := Unit × ((Option Addr × Nat))) (fun h => True) (fun h => (fun a235 c236 => [(0, .slice a235 e238.length c236), (2, .pointer (some ⟨g1, 0, none⟩)), (5, .int .i64 (l.length : Int)), (6, .int .i64 s131.2)]) h.2.1 h.2.2) (fun h => (fun a235 c236 => [Ch.arr tyRowCell 80 a235 c236 e238, Ch.box g1 26 [.slice none 0 0, .bool false]]) h.2.1 h.2.2) (fun h => (fun a235 c236 => []) h.2.1 h.2.2) ?_ ?_
      · refine T.block ?_
        refine T.seq ?_
        refine T.region ?_
        refine L.q 2 rfl ?_
        refine L.nil ?_
        refine E.then ?_
        refine T.seq ?_
        refine T.region ?_
        refine L.q 2 rfl ?_
        obtain ⟨r241, h242, H243⟩ := bnd H239
        refine L.br (Ac.call (c_row_broken a127 c128 h242) rfl rfl rfl rfl) (Bw.ch 0 rfl (Bw.nil)) rfl rfl rfl ?_
        intro _
        refine L.nil ?_
        refine E.then ?_
        refine T.bif rfl H243 (fun hc H244 => ?_) (fun hc H244 => ?_)
        · refine T.region ?_
          refine L.q 4 rfl ?_
          obtain ⟨x245, h246, H247⟩ := bnd H244
          refine L.addro 0 rfl (idx_lt h246) fun b248 e249 => ?_
          obtain rfl : a127 = some ⟨b248, 0, none⟩ := e249
          refine L.y (Yl.ia h246 rfl rfl rfl rfl rfl rfl) rfl rfl rfl ?_
          refine L.q 1 rfl ?_
          refine L.y (Yl.lo (v := .int .i64 x245.style) 0 s131.2.toNat 1 (idx_some h246).2 rfl rfl rfl rfl (fun _ => rfl)) rfl rfl rfl ?_
          obtain ⟨r250, h251, H252⟩ := bnd H247
          refine L.a [] [] (Ac.call (c_row_blank h251) rfl rfl rfl rfl) rfl rfl rfl rfl rfl ?_
          rintro ⟨⟩
          obtain ⟨x253, h254, H255⟩ := bnd H252
          refine L.y (Yl.ia h254 rfl rfl rfl rfl rfl rfl) rfl rfl rfl ?_
          refine L.a [0] [] (Ac.se 0 r250 (idx_some h254).2 rfl rfl rfl rfl rfl rfl (fun _ => ⟨(), rfl, [], rfl⟩)) rfl rfl rfl rfl rfl ?_
          intro _
          refine L.sl 0 (k' := (s131.1.set s131.2.toNat r250).length) (List.length_set ..) rfl ?_
          refine L.nil ?_
          refine E.block ?_
          have hr := Option.some.inj H255
          subst e238
          exact E.give ((), ((some ⟨b248, 0, none⟩), c128)) [0, 0] [] trivial ⟨rfl, rfl, rfl, rfl, trivial⟩ rfl rfl
        · refine T.skip ?_
          refine E.block ?_
          have hr := Option.some.inj H244
          subst e238
          exact E.give ((), (a127, c128)) [0, 0] [] trivial ⟨rfl, rfl, rfl, rfl, trivial⟩ rfl rfl
      · rintro ⟨_, ⟨a235, c236⟩⟩ _
        refine T.region ?_
        refine L.q 2 rfl ?_
        refine L.nil ?_
        have hr := Option.some.inj H240
        subst z197
        exact E.give (_, (a235, c236)) [0, 0] [] (hag198 _ rfl) ⟨rfl, rfl, rfl, rfl, trivial⟩ rfl rfl
    · refine T.exit ?_
      refine E.then_exit' ?_
      refine E.then_exit' ?_
      refine E.block_here ?_
      have hr := Option.some.inj H201
      subst z197
      have hb := hbr199 _ rfl
      subst e193
      exact E.give ((), (a127, c128)) [0, 0] [] trivial ⟨rfl, rfl, trivial⟩ rfl rfl
  · rintro ⟨_, ⟨a190, c191⟩⟩ _
    refine T.seq ?_
    refine T.region ?_
    refine L.q 2 rfl ?_
    refine L.a [1] [] (Ac.stb rfl rfl rfl rfl rfl rfl) rfl rfl rfl rfl rfl ?_
    intro _
    refine L.nil ?_
    refine E.then ?_
    refine T.ret ?_
    refine E.frz 1 rfl ?_
    have hr := Option.some.inj H195
    subst r
    exact E.ret (a190, c191) [] [0] (.cell 0 rfl rfl rfl .nil) rfl rfl rfl

theorem c_row_Row_Put (a_0_0 : Option Addr) (c_0_0 : Nat) {r_ : RowRow} {at_ : Int} {x : Int} {style : Int} {r : RowRow} (H : p_row_Row_Put r_ at_ x style = some r) : CT G 24 [.agg #[.slice a_0_0 r_.cells.length c_0_0, .bool r_.wrapped], .int .i64 at_, .int .i32 x, .int .i64 style] [] [Im.sl tyRowCell a_0_0 c_0_0 r_.cells, Im.sl tyWideSpan (some ⟨0, 0, none⟩) 13 nones, Im.sl tyWideSpan (some ⟨1, 0, none⟩) 14 twos] (fun h : (Option Addr × Nat) => .agg #[.slice h.1 r.cells.length h.2, .bool r.wrapped]) (fun h => []) (fun h => [Im.sl tyRowCell h.1 h.2 r.cells]) := by
  delta p_row_Row_Put at H
  refine CT.of Go.Proofs.Tryd.func24 (by kernel_rfl) rfl rfl fun K => ?_
  refine T.seq ?_
  refine T.region ?_
  refine L.a [] [] (Ac.box rfl rfl) rfl rfl rfl rfl rfl ?_
  intro g1
  refine L.a [] [] (Ac.alloc rfl rfl) rfl rfl rfl rfl rfl ?_
  intro g2
  refine L.nil ?_
  refine E.then ?_
  refine T.seq ?_
  refine T.region ?_
  refine L.y (Yl.ldb 1 rfl rfl rfl rfl) rfl rfl rfl ?_
  obtain ⟨r3, h4, H5⟩ := bnd H
  refine L.a [] [0] (Ac.call (c_row_Row_cells a_0_0 c_0_0 h4) rfl rfl rfl rfl) rfl rfl rfl rfl rfl ?_
  rintro ⟨a6, c7⟩
  refine L.q 1 rfl ?_
  refine L.nil ?_
  refine E.then ?_
  refine T.seq ?_
  refine T.region ?_
  refine L.q 1 rfl ?_
  obtain ⟨r9, h10, H11⟩ := bnd H5
  refine L.a [] [1, 2] (Ac.call (c_wide_Of h10) rfl rfl rfl rfl) rfl rfl rfl rfl rfl ?_
  rintro ⟨⟩
  refine L.q 1 rfl ?_
  refine L.nil ?_
  refine E.then ?_
  refine T.seq ?_
  obtain ⟨e126, H127, H128⟩ := bnd H11
  refine T.join (η := Unit × ((Option Addr × Nat))) (fun h => True) (fun h => (fun a123 c124 => [(8, .pointer (some ⟨g2, 0, none⟩)), (9, .slice a123 e126.length c124)]) h.2.1 h.2.2) (fun h => (fun a123 c124 => [Ch.arr tyRowCell 80 a123 c124 e126, Ch.box g2 26 [.slice none 0 0, .bool false], Ch.box g1 26 [.slice a_0_0 r_.cells.length c_0_0, .bool r_.wrapped]]) h.2.1 h.2.2) (fun h => (fun a123 c124 => [Im.sl tyRowCell a_0_0 c_0_0 r_.cells, Im.sl tyWideSpan (some ⟨0, 0, none⟩) 13 nones, Im.sl tyWideSpan (some ⟨1, 0, none⟩) 14 twos]) h.2.1 h.2.2) ?_ ?_
  · refine T.block ?_
    refine T.seq ?_
    obtain ⟨e134, H135, H136⟩ := bnd H127
    refine T.join (η := Unit × Unit) (fun h => True) (fun h => [(1, .int .i64 at_), (2, .int .i32 x), (3, .int .i64 style), (8, .pointer (some ⟨g2, 0, none⟩)), (9, .slice a6 r3.length c7), (10, .int .i64 r9), (50, .bool e134)]) (fun h => [Ch.box g2 26 [.slice none 0 0, .bool false], Ch.box g1 26 [.slice a_0_0 r_.cells.length c_0_0, .bool r_.wrapped], Ch.arr tyRowCell 80 a6 c7 r3]) (fun h => [Im.sl tyRowCell a_0_0 c_0_0 r_.cells, Im.sl tyWideSpan (some ⟨0, 0, none⟩) 13 nones, Im.sl tyWideSpan (some ⟨1, 0, none⟩) 14 twos]) ?_ ?_
    · refine T.region ?_
      refine L.q 3 rfl ?_
      refine L.cs 53 H135 rfl (fun hc H137 => ?_) (fun hc H137 => ?_)
      · refine L.q 12 rfl ?_
        refine L.nil ?_
        have hr := Option.some.inj H137
        subst e134
        exact E.give ((), ()) [1, 1, 0] [0, 1, 2] trivial ⟨rfl, rfl, rfl, rfl, rfl, rfl, rfl, trivial⟩ rfl rfl
      · refine L.q 4 rfl ?_
        refine L.cs 57 H137 rfl (fun hc H138 => ?_) (fun hc H138 => ?_)
        · refine L.q 8 rfl ?_
          refine L.nil ?_
          have hr := Option.some.inj H138
          subst e134
          exact E.give ((), ()) [1, 1, 0] [0, 1, 2] trivial ⟨rfl, rfl, rfl, rfl, rfl, rfl, rfl, trivial⟩ rfl rfl
        · refine L.q 8 rfl ?_
          refine L.nil ?_
          have hr := Option.some.inj H138
          subst e134
          exact E.give ((), ()) [1, 1, 0] [0, 1, 2] trivial ⟨rfl, rfl, rfl, rfl, rfl, rfl, rfl, trivial⟩ rfl rfl
    · rintro ⟨_, ⟨⟩⟩ _
      refine T.bif rfl H136 (fun hc H139 => ?_) (fun hc H139 => ?_)
      · refine T.skip ?_
        refine E.block ?_
        have hr := Option.some.inj H139
        subst e126
        exact E.give ((), (a6, c7)) [2, 0, 0] [0, 1, 2] trivial ⟨rfl, rfl, trivial⟩ rfl rfl
      · refine T.seq ?_
        refine T.region ?_
        refine L.q 3 rfl ?_
        refine L.nil ?_
        refine E.then ?_
        refine T.bif rfl H139 (fun hc H140 => ?_) (fun hc H140 => ?_)
        · refine T.region ?_
          refine L.q 5 rfl ?_
          obtain ⟨x141, h142, H143⟩ := bnd H140
          refine L.addro 2 rfl (idx_lt h142) fun b144 e145 => ?_
          obtain rfl : a6 = some ⟨b144, 0, none⟩ := e145
          refine L.y (Yl.ia h142 rfl rfl rfl rfl rfl rfl) rfl rfl rfl ?_
          refine L.a [2] [] (Ac.se 0 (RowCell.mk x style 0) (idx_some h142).2 rfl rfl rfl rfl rfl rfl (fun _ => ⟨(), rfl, [], rfl⟩)) rfl rfl rfl rfl rfl ?_
          intro _
          refine L.sl 9 (k' := (r3.set at_.toNat (RowCell.mk x style 0)).length) (List.length_set ..) rfl ?_
          refine L.nil ?_
          refine E.block ?_
          have hr := Option.some.inj H143
          subst e126
          exact E.give ((), ((some ⟨b144, 0, none⟩), c7)) [0, 0, 0] [0, 1, 2] trivial ⟨rfl, rfl, trivial⟩ rfl rfl
        · refine T.seq ?_
          refine T.region ?_
          refine L.q 11 rfl ?_
          obtain ⟨x147, h148, H149⟩ := bnd H140
          refine L.addro 2 rfl (idx_lt h148) fun b150 e151 => ?_
          obtain rfl : a6 = some ⟨b150, 0, none⟩ := e151
          refine L.y (Yl.ia h148 rfl rfl rfl rfl rfl rfl) rfl rfl rfl ?_
          refine L.a [2] [] (Ac.se 0 (RowCell.mk x style 1) (idx_some h148).2 rfl rfl rfl rfl rfl rfl (fun _ => ⟨(), rfl, [], rfl⟩)) rfl rfl rfl rfl rfl ?_
          intro _
          refine L.sl 9 (k' := (r3.set at_.toNat (RowCell.mk x style 1)).length) (List.length_set ..) rfl ?_
          refine L.sl 17 (k' := (r3.set at_.toNat (RowCell.mk x style 1)).length) (List.length_set ..) rfl ?_
          obtain ⟨x153, h154, H155⟩ := bnd H149
          refine L.y (Yl.ia h154 rfl rfl rfl rfl rfl rfl) rfl rfl rfl ?_
          refine L.a [0] [] (Ac.se 0 (RowCell.mk x style 2) (idx_some h154).2 rfl rfl rfl rfl rfl rfl (fun _ => ⟨(), rfl, [], rfl⟩)) rfl rfl rfl rfl rfl ?_
          intro _
          refine L.sl 9 (k' := ((r3.set at_.toNat (RowCell.mk x style 1)).set (IntKind.i64.wrap (at_ + 1)).toNat (RowCell.mk x style 2)).length) (List.length_set ..) rfl ?_
          refine L.nil ?_
          refine E.then ?_
          refine T.seq ?_
          obtain ⟨e166, H167, H168⟩ := bnd H155
          refine T.join (η := Unit × Unit) (fun h => True) (fun h => [(1, .int .i64 at_), (8, .pointer (some ⟨g2, 0, none⟩)), (9, .slice (some ⟨b150, 0, none⟩) ((r3.set at_.toNat (RowCell.mk x style 1)).set (IntKind.i64.wrap (at_ + 1)).toNat (RowCell.mk x style 2)).length c7), (38, .bool e166)]) (fun h => [Ch.box g2 26 [.slice none 0 0, .bool false], Ch.box g1 26 [.slice a_0_0 r_.cells.length c_0_0, .bool r_.wrapped], Ch.arr tyRowCell 80 (some ⟨b150, 0, none⟩) c7 ((r3.set at_.toNat (RowCell.mk x style 1)).set (IntKind.i64.wrap (at_ + 1)).toNat (RowCell.mk x style 2))]) (fun h => [Im.sl tyRowCell a_0_0 c_0_0 r_.cells, Im.sl tyWideSpan (some ⟨0, 0, none⟩) 13 nones, Im.sl tyWideSpan (some ⟨1, 0, none⟩) 14 twos]) ?_ ?_
          · refine T.region ?_
            refine L.q 3 rfl ?_
            refine L.cs 30 H167 rfl (fun hc H169 => ?_) (fun hc H169 => ?_)
            · refine L.q 3 rfl ?_
              obtain ⟨x170, h171, H172⟩ := bnd H169
              refine L.y (Yl.ia h171 rfl rfl rfl rfl rfl rfl) rfl rfl rfl ?_
              refine L.q 1 rfl ?_
              refine L.y (Yl.lo (v := .int .i64 x170.part) 0 (IntKind.i64.wrap (at_ - 1)).toNat 2 (idx_some h171).2 rfl rfl rfl rfl (fun _ => rfl)) rfl rfl rfl ?_
              refine L.q 2 rfl ?_
              refine L.nil ?_
              have hr := Option.some.inj H172
              subst e166
              exact E.give ((), ()) [1, 1, 0] [0, 1, 2] trivial ⟨rfl, rfl, rfl, rfl, trivial⟩ rfl rfl
            · refine L.q 8 rfl ?_
              refine L.nil ?_
              have hr := Option.some.inj H169
              subst e166
              exact E.give ((), ()) [1, 1, 0] [0, 1, 2] trivial ⟨rfl, rfl, rfl, rfl, trivial⟩ rfl rfl
          · rintro ⟨_, ⟨⟩⟩ _
            refine T.bif rfl H168 (fun hc H173 => ?_) (fun hc H173 => ?_)
            · refine T.region ?_
              refine L.q 6 rfl ?_
              obtain ⟨x174, h175, H176⟩ := bnd H173
              refine L.y (Yl.ia h175 rfl rfl rfl rfl rfl rfl) rfl rfl rfl ?_
              refine L.q 1 rfl ?_
              refine L.y (Yl.lo (v := .int .i64 x174.style) 2 (IntKind.i64.wrap (at_ - 1)).toNat 1 (idx_some h175).2 rfl rfl rfl rfl (fun _ => rfl)) rfl rfl rfl ?_
              obtain ⟨r177, h178, H179⟩ := bnd H176
              refine L.a [] [] (Ac.call (c_row_blank h178) rfl rfl rfl rfl) rfl rfl rfl rfl rfl ?_
              rintro ⟨⟩
              obtain ⟨x180, h181, H182⟩ := bnd H179
              refine L.y (Yl.ia h181 rfl rfl rfl rfl rfl rfl) rfl rfl rfl ?_
              refine L.a [2] [] (Ac.se 0 r177 (idx_some h181).2 rfl rfl rfl rfl rfl rfl (fun _ => ⟨(), rfl, [], rfl⟩)) rfl rfl rfl rfl rfl ?_
              intro _
              refine L.sl 9 (k' := (((r3.set at_.toNat (RowCell.mk x style 1)).set (IntKind.i64.wrap (at_ + 1)).toNat (RowCell.mk x style 2)).set (IntKind.i64.wrap (at_ - 1)).toNat r177).length) (List.length_set ..) rfl ?_
              refine L.nil ?_
              refine E.block ?_
              have hr := Option.some.inj H182
              subst e126
              exact E.give ((), ((some ⟨b150, 0, none⟩), c7)) [0, 0, 0] [0, 1, 2] trivial ⟨rfl, rfl, trivial⟩ rfl rfl
            · refine T.skip ?_
              refine E.block ?_
              have hr := Option.some.inj H173
              subst e126
              exact E.give ((), ((some ⟨b150, 0, none⟩), c7)) [2, 0, 0] [0, 1, 2] trivial ⟨rfl, rfl, trivial⟩ rfl rfl
  · rintro ⟨_, ⟨a123, c124⟩⟩ _
    refine T.seq ?_
    refine T.region ?_
    refine L.q 1 rfl ?_
    obtain ⟨r184, h185, H186⟩ := bnd H128
    refine L.a [0] [] (Ac.call (c_row_mend a123 c124 h185) rfl rfl rfl rfl) rfl rfl rfl rfl rfl ?_
    rintro ⟨a187, c188⟩
    refine L.a [0] [] (Ac.stb rfl rfl rfl rfl rfl rfl) rfl rfl rfl rfl rfl ?_
    intro _
    refine L.nil ?_
    refine E.then ?_
    refine T.ret ?_
    have hr := Option.some.inj H186
    subst r
    exact E.ret (a187, c188) [] [0] (.cell 0 rfl rfl rfl .nil) rfl rfl rfl

theorem c_law09_awake {r : Bool} (H : p_law09_awake = some r) : CT G 12 [] [] [Im.sl tyWideSpan (some ⟨0, 0, none⟩) 13 nones, Im.sl tyWideSpan (some ⟨1, 0, none⟩) 14 twos] (fun h : Unit => .bool r) (fun h => []) (fun h => []) := by
  delta p_law09_awake at H
  refine CT.of Go.Proofs.Tryd.func12 (by kernel_rfl) rfl rfl fun K => ?_
  refine T.seq ?_
  refine T.region ?_
  refine L.q 1 rfl ?_
  refine L.nil ?_
  refine E.then ?_
  refine T.seq ?_
  refine T.region ?_
  obtain ⟨r1, h2, H3⟩ := bnd H
  refine L.a [] [] (Ac.call (c_row_Blank h2) rfl rfl rfl rfl) rfl rfl rfl rfl rfl ?_
  rintro ⟨a4, c5⟩
  obtain ⟨r7, h8, H9⟩ := bnd H3
  refine L.a [] [0, 1, 2] (Ac.call (c_row_Row_Put a4 c5 h8) rfl rfl rfl rfl) rfl rfl rfl rfl rfl ?_
  rintro ⟨a10, c11⟩
  obtain ⟨r13, h14, H15⟩ := bnd H9
  refine L.a [] [0, 2, 3] (Ac.call (c_row_Row_Put a10 c11 h14) rfl rfl rfl rfl) rfl rfl rfl rfl rfl ?_
  rintro ⟨a16, c17⟩
  refine L.a [] [] (Ac.alloc rfl rfl) rfl rfl rfl rfl rfl ?_
  intro g19
  refine L.a [0] [] (Ac.stb rfl rfl rfl rfl rfl rfl) rfl rfl rfl rfl rfl ?_
  intro _
  refine L.nil ?_
  refine E.then ?_
  refine T.seq ?_
  obtain ⟨e81, H82, H83⟩ := bnd H15
  refine T.join (η := Unit × Unit) (fun h => True) (fun h => [(0, .bool e81)]) (fun h => [Ch.box g19 26 [.slice a16 r13.cells.length c17, .bool r13.wrapped]]) (fun h => [Im.sl tyRowCell a16 c17 r13.cells, Im.sl tyRowCell a10 c11 r7.cells, Im.sl tyRowCell a4 c5 r1.cells, Im.sl tyWideSpan (some ⟨0, 0, none⟩) 13 nones, Im.sl tyWideSpan (some ⟨1, 0, none⟩) 14 twos]) ?_ ?_
  · refine T.region ?_
    refine L.q 1 rfl ?_
    refine L.y (Yl.ldb 0 rfl rfl rfl rfl) rfl rfl rfl ?_
    refine L.q 3 rfl ?_
    refine L.cs 9 H82 rfl (fun hc H84 => ?_) (fun hc H84 => ?_)
    · refine L.q 1 rfl ?_
      refine L.y (Yl.ldb 0 rfl rfl rfl rfl) rfl rfl rfl ?_
      obtain ⟨x85, h86, H87⟩ := bnd H84
      refine L.addr 0 rfl (idx_lt h86) fun b88 o89 e90 => ?_
      obtain rfl : a16 = some ⟨b88, o89, none⟩ := e90
      refine L.y (Yl.ia h86 rfl rfl rfl rfl rfl rfl) rfl rfl rfl ?_
      refine L.el 0 rfl (idx_some h86).2 ?_
      rintro _
      refine L.q 1 rfl ?_
      refine L.y (Yl.ldc 0 0 rfl rfl rfl rfl) rfl rfl rfl ?_
      refine L.q 3 rfl ?_
      refine L.cs 17 H87 rfl (fun hc H92 => ?_) (fun hc H92 => ?_)
      · refine L.q 1 rfl ?_
        refine L.y (Yl.ldb 0 rfl rfl rfl rfl) rfl rfl rfl ?_
        obtain ⟨x93, h94, H95⟩ := bnd H92
        refine L.y (Yl.ia h94 rfl rfl rfl rfl rfl rfl) rfl rfl rfl ?_
        refine L.el 1 rfl (idx_some h94).2 ?_
        rintro _
        refine L.q 1 rfl ?_
        refine L.y (Yl.ldc 0 0 rfl rfl rfl rfl) rfl rfl rfl ?_
        refine L.q 3 rfl ?_
        refine L.cs 25 H95 rfl (fun hc H97 => ?_) (fun hc H97 => ?_)
        · refine L.q 1 rfl ?_
          refine L.y (Yl.ldb 0 rfl rfl rfl rfl) rfl rfl rfl ?_
          obtain ⟨x98, h99, H100⟩ := bnd H97
          refine L.y (Yl.ia h99 rfl rfl rfl rfl rfl rfl) rfl rfl rfl ?_
          refine L.el 2 rfl (idx_some h99).2 ?_
          rintro _
          refine L.q 1 rfl ?_
          refine L.y (Yl.ldc 0 0 rfl rfl rfl rfl) rfl rfl rfl ?_
          refine L.q 3 rfl ?_
          refine L.cs 33 H100 rfl (fun hc H102 => ?_) (fun hc H102 => ?_)
          · refine L.q 1 rfl ?_
            refine L.y (Yl.ldb 0 rfl rfl rfl rfl) rfl rfl rfl ?_
            obtain ⟨x103, h104, H105⟩ := bnd H102
            refine L.y (Yl.ia h104 rfl rfl rfl rfl rfl rfl) rfl rfl rfl ?_
            refine L.el 3 rfl (idx_some h104).2 ?_
            rintro _
            refine L.q 1 rfl ?_
            refine L.y (Yl.ldc 0 2 rfl rfl rfl rfl) rfl rfl rfl ?_
            refine L.q 3 rfl ?_
            refine L.cs 41 H105 rfl (fun hc H107 => ?_) (fun hc H107 => ?_)
            · refine L.y (Yl.ldb 0 rfl rfl rfl rfl) rfl rfl rfl ?_
              obtain ⟨r108, h109, H110⟩ := bnd H107
              refine L.a [] [4] (Ac.call (c_row_Row_Glyphs (some ⟨b88, o89, none⟩) c17 h109) rfl rfl rfl rfl) rfl rfl rfl rfl rfl ?_
              rintro ⟨a111, c112⟩
              refine L.q 4 rfl ?_
              refine L.nil ?_
              have hr := Option.some.inj H110
              subst e81
              exact E.give ((), ()) [1] [4, 5, 6, 7, 8] trivial ⟨rfl, trivial⟩ rfl rfl
            · refine L.q 6 rfl ?_
              refine L.nil ?_
              have hr := Option.some.inj H107
              subst e81
              exact E.give ((), ()) [0] [4, 5, 6, 7, 8] trivial ⟨rfl, trivial⟩ rfl rfl
          · refine L.q 14 rfl ?_
            refine L.nil ?_
            have hr := Option.some.inj H102
            subst e81
            exact E.give ((), ()) [0] [3, 4, 5, 6, 7] trivial ⟨rfl, trivial⟩ rfl rfl
        · refine L.q 22 rfl ?_
          refine L.nil ?_
          have hr := Option.some.inj H97
          subst e81
          exact E.give ((), ()) [0] [2, 3, 4, 5, 6] trivial ⟨rfl, trivial⟩ rfl rfl
      · refine L.q 30 rfl ?_
        refine L.nil ?_
        have hr := Option.some.inj H92
        subst e81
        exact E.give ((), ()) [0] [1, 2, 3, 4, 5] trivial ⟨rfl, trivial⟩ rfl rfl
    · refine L.q 38 rfl ?_
      refine L.nil ?_
      have hr := Option.some.inj H84
      subst e81
      exact E.give ((), ()) [0] [0, 1, 2, 3, 4] trivial ⟨rfl, trivial⟩ rfl rfl
  · rintro ⟨_, ⟨⟩⟩ _
    refine T.ret ?_
    have hr := Option.some.inj H83
    subst r
    exact E.ret () [] [] (.tmp rfl .nil) rfl rfl rfl

end Go.Tw.Rw

import Derived.Test.YtojpockgiaihoaaDoorFw2
import Derived.Test.YtojpockgiaihoaaDoorProg
import Derived.Test.YtojpockgiaihoaaDoorXp1
set_option linter.unusedVariables false
set_option linter.unusedSimpArgs false
set_option maxRecDepth 10000
namespace Go.Tw.X
open Go Go.Tw
def tyLaw09Act : Ty Law09Act := ⟨5, Unit, fun x h => [.int .i64 x.kind, .int .i64 x.at_, .int .i64 x.n, .int .i64 x.style, .int .i32 x.rune], fun x h => [], fun _ _ => rfl, by simp [Value.oneCell']⟩
def tyRowCell : Ty RowCell := ⟨3, Unit, fun x h => [.int .i32 x.rune, .int .i64 x.style, .int .i64 x.part], fun x h => [], fun _ _ => rfl, by simp [Value.oneCell']⟩
def tyRowRow : Ty RowRow := ⟨2, (Option Addr × Nat), fun x h => [.slice h.1 x.cells.length h.2, .bool x.wrapped], fun x h => [Im.sl tyRowCell h.1 h.2 x.cells], fun _ _ => rfl, by simp [Value.oneCell']⟩
def tyRef09Cell : Ty Ref09Cell := ⟨3, Unit, fun x h => [.int .i64 x.rune, .int .i64 x.style, .int .i64 x.part], fun x h => [], fun _ _ => rfl, by simp [Value.oneCell']⟩
def tyRef09Row : Ty Ref09Row := ⟨2, (Option Addr × Nat), fun x h => [.slice h.1 x.l.length h.2, .bool x.wrapped], fun x h => [Im.sl tyRef09Cell h.1 h.2 x.l], fun _ _ => rfl, by simp [Value.oneCell']⟩
def tyRowGlyph : Ty RowGlyph := ⟨2, Unit, fun x h => [.int .i32 x.rune, .int .i64 x.style], fun x h => [], fun _ _ => rfl, by simp [Value.oneCell']⟩
def tyLaw10Act : Ty Law10Act := ⟨13, Unit, fun x h => [.int .i64 x.kind, .int .i64 x.y, .int .i64 x.top, .int .i64 x.bottom, .int .i64 x.n, .int .i64 x.style, .int .i64 x.w, .int .i64 x.h, .int .i64 x.row.kind, .int .i64 x.row.at_, .int .i64 x.row.n, .int .i64 x.row.style, .int .i32 x.row.rune], fun x h => [], fun _ _ => rfl, by simp [Value.oneCell']⟩
def tyRef10Grid : Ty Ref10Grid := ⟨2, (Option Addr × Nat), fun x h => [.int .i64 x.w, .slice h.1 x.l.length h.2], fun x h => [Im.sl tyRef09Row h.1 h.2 x.l], fun _ _ => rfl, by simp [Value.oneCell']⟩
def tyWideSpan : Ty WideSpan := ⟨2, Unit, fun x h => [.int .i32 x.from_, .int .i32 x.to], fun x h => [], fun _ _ => rfl, by simp [Value.oneCell']⟩
def tyGridGrid : Ty GridGrid := ⟨2, (Option Addr × Nat), fun x h => [.int .i64 x.w, .slice h.1 x.l.length h.2], fun x h => [Im.sl tyRowRow h.1 h.2 x.l], fun _ _ => rfl, by simp [Value.oneCell']⟩
def tyRef09Glyph : Ty Ref09Glyph := ⟨2, Unit, fun x h => [.int .i64 x.rune, .int .i64 x.style], fun x h => [], fun _ _ => rfl, by simp [Value.oneCell']⟩
def tyArr2Int : Ty Arr2Int := ⟨2, Unit, fun x h => [.int .i64 x.e0, .int .i64 x.e1], fun x h => [], fun _ _ => rfl, by simp [Value.oneCell']⟩
def tab : Tab := [(3, ⟨.int .i64, 1, 8, [.int .i64 0], false, false⟩),
  (4, ⟨.bool, 1, 1, [.bool false], false, false⟩),
  (5, ⟨.int .u8, 1, 1, [.int .u8 0], false, false⟩),
  (9, ⟨.string, 1, 16, [.string ⟨#[]⟩], false, false⟩),
  (21, ⟨.int .i32, 1, 4, [.int .i32 0], false, false⟩),
  (22, ⟨.slice 35, 1, 24, [.slice none 0 0], false, false⟩),
  (24, ⟨.slice 80, 1, 24, [.slice none 0 0], false, false⟩),
  (26, ⟨.struct [(24, 0), (4, 1)], 2, 32, [.slice none 0 0, .bool false], true, false⟩),
  (28, ⟨.slice 84, 1, 24, [.slice none 0 0], false, false⟩),
  (30, ⟨.struct [(28, 0), (4, 1)], 2, 32, [.slice none 0 0, .bool false], true, false⟩),
  (35, ⟨.struct [(3, 0), (3, 1), (3, 2), (3, 3), (21, 4)], 5, 40, [.int .i64 0, .int .i64 0, .int .i64 0, .int .i64 0, .int .i32 0], true, false⟩),
  (42, ⟨.slice 45, 1, 24, [.slice none 0 0], false, false⟩),
  (45, ⟨.struct [(21, 0), (3, 1)], 2, 16, [.int .i32 0, .int .i64 0], true, false⟩),
  (53, ⟨.slice 64, 1, 24, [.slice none 0 0], false, false⟩),
  (54, ⟨.pointer 104, 1, 8, [.pointer none], false, false⟩),
  (57, ⟨.slice 30, 1, 24, [.slice none 0 0], false, false⟩),
  (59, ⟨.struct [(3, 0), (57, 1)], 2, 32, [.int .i64 0, .slice none 0 0], true, false⟩),
  (64, ⟨.struct [(3, 0), (3, 1), (3, 2), (3, 3), (3, 4), (3, 5), (3, 6), (3, 7), (35, 8)], 13, 104, [.int .i64 0, .int .i64 0, .int .i64 0, .int .i64 0, .int .i64 0, .int .i64 0, .int .i64 0, .int .i64 0, .int .i64 0, .int .i64 0, .int .i64 0, .int .i64 0, .int .i32 0], true, false⟩),
  (69, ⟨.slice 26, 1, 24, [.slice none 0 0], false, false⟩),
  (80, ⟨.struct [(21, 0), (3, 1), (3, 2)], 3, 24, [.int .i32 0, .int .i64 0, .int .i64 0], true, true⟩),
  (84, ⟨.struct [(3, 0), (3, 1), (3, 2)], 3, 24, [.int .i64 0, .int .i64 0, .int .i64 0], true, true⟩),
  (90, ⟨.slice 92, 1, 24, [.slice none 0 0], false, false⟩),
  (92, ⟨.struct [(21, 0), (21, 1)], 2, 8, [.int .i32 0, .int .i32 0], true, false⟩),
  (93, ⟨.array 13 92, 26, 104, [.int .i32 0, .int .i32 0, .int .i32 0, .int .i32 0, .int .i32 0, .int .i32 0, .int .i32 0, .int .i32 0, .int .i32 0, .int .i32 0, .int .i32 0, .int .i32 0, .int .i32 0, .int .i32 0, .int .i32 0, .int .i32 0, .int .i32 0, .int .i32 0, .int .i32 0, .int .i32 0, .int .i32 0, .int .i32 0, .int .i32 0, .int .i32 0, .int .i32 0, .int .i32 0], true, false⟩),
  (94, ⟨.array 14 92, 28, 112, [.int .i32 0, .int .i32 0, .int .i32 0, .int .i32 0, .int .i32 0, .int .i32 0, .int .i32 0, .int .i32 0, .int .i32 0, .int .i32 0, .int .i32 0, .int .i32 0, .int .i32 0, .int .i32 0, .int .i32 0, .int .i32 0, .int .i32 0, .int .i32 0, .int .i32 0, .int .i32 0, .int .i32 0, .int .i32 0, .int .i32 0, .int .i32 0, .int .i32 0, .int .i32 0, .int .i32 0, .int .i32 0], true, false⟩),
  (100, ⟨.slice 21, 1, 24, [.slice none 0 0], false, false⟩),
  (101, ⟨.slice 9, 1, 24, [.slice none 0 0], false, false⟩),
  (104, ⟨.struct [(3, 0), (69, 1)], 2, 32, [.int .i64 0, .slice none 0 0], true, false⟩),
  (121, ⟨.slice 24, 1, 24, [.slice none 0 0], false, false⟩),
  (123, ⟨.slice 126, 1, 24, [.slice none 0 0], false, false⟩),
  (126, ⟨.struct [(3, 0), (3, 1)], 2, 16, [.int .i64 0, .int .i64 0], true, false⟩),
  (130, ⟨.int .u64, 1, 8, [.int .u64 0], false, false⟩),
  (133, ⟨.array 2 3, 2, 16, [.int .i64 0, .int .i64 0], true, false⟩),
  (134, ⟨.slice 133, 1, 24, [.slice none 0 0], false, false⟩),
  (135, ⟨.slice 5, 1, 24, [.slice none 0 0], false, false⟩),
  (139, ⟨.int .u64, 1, 8, [.int .u64 0], false, false⟩)]
theorem tab_ok : TabOk Go.Proofs.Tryd.prog tab := tabb_ok (by kernel_rfl)
noncomputable def G : Pg := ⟨Go.Proofs.Tryd.prog, tab, tab_ok, none⟩
theorem mo : G.P.follows .mixedOrders = true := by kernel_rfl
end Go.Tw.X

set_option linter.unusedVariables false
set_option linter.unusedSimpArgs false
set_option maxRecDepth 10000
namespace Go.Tw.X
open Go Go.Tw
theorem c_row_clip {n_ : Int} {lo : Int} {hi : Int} {r : Int} (H : p_row_clip n_ lo hi = some r) : CT G 44 [.int .i64 n_, .int .i64 lo, .int .i64 hi] [] [] (fun h : Unit => .int .i64 r) (fun h => []) (fun h => []) := by
  delta p_row_clip at H
  refine CT.of Go.Proofs.Tryd.func44 (by kernel_rfl) rfl rfl rfl fun K => ?_
  refine T.seq ?_
  refine T.region ?_
  refine L.q 1 rfl ?_
  refine L.nil ?_
  refine E.then ?_
  refine T.seq ?_
  refine T.region ?_
  refine L.q 6 rfl ?_
  refine L.nil ?_
  refine E.then ?_
  refine T.ret ?_
  have hr := Option.some.inj H
  subst r
  exact E.ret () [] [] (.tmp rfl .nil) rfl rfl rfl

theorem c_row_blank {style : Int} {r : RowCell} (H : p_row_blank style = some r) : CT G 54 [.int .i64 style] [] [] (fun h : Unit => .agg #[.int .i32 r.rune, .int .i64 r.style, .int .i64 r.part]) (fun h => []) (fun h => []) := by
  delta p_row_blank at H
  refine CT.of Go.Proofs.Tryd.func54 (by kernel_rfl) rfl rfl rfl fun K => ?_
  refine T.seq ?_
  refine T.region ?_
  refine L.a [] [] (Ac.alloc rfl rfl) rfl rfl rfl rfl rfl ?_
  intro g1
  refine L.nil ?_
  refine E.then ?_
  refine T.seq ?_
  refine T.region ?_
  refine L.q 2 rfl ?_
  refine L.a [0] [] (Ac.stb rfl rfl rfl rfl rfl rfl) rfl rfl rfl rfl rfl ?_
  intro _
  refine L.nil ?_
  refine E.then ?_
  refine T.ret ?_
  have hr := Option.some.inj H
  subst r
  exact E.ret () [] [] (.cell 0 rfl rfl rfl .nil) rfl rfl rfl

theorem c_bits_Mul64 {x_ : Int} {y : Int} {r : Int × Int} (H : p_bits_Mul64 x_ y = some r) : CT G 88 [.int .u64 x_, .int .u64 y] [] [] (fun h : Unit => .tuple #[.int .u64 r.1, .int .u64 r.2]) (fun h => []) (fun h => []) := by
  delta p_bits_Mul64 at H
  refine CT.of Go.Proofs.Tryd.func88 (by kernel_rfl) rfl rfl rfl fun K => ?_
  refine T.seq ?_
  refine T.region ?_
  refine L.q 2 rfl ?_
  refine L.nil ?_
  refine E.then ?_
  refine T.seq ?_
  refine T.region ?_
  refine L.q 3 rfl ?_
  refine L.nil ?_
  refine E.then ?_
  refine T.seq ?_
  refine T.region ?_
  refine L.q 3 rfl ?_
  refine L.nil ?_
  refine E.then ?_
  refine T.seq ?_
  refine T.region ?_
  refine L.q 3 rfl ?_
  refine L.nil ?_
  refine E.then ?_
  refine T.seq ?_
  refine T.region ?_
  refine L.q 3 rfl ?_
  refine L.nil ?_
  refine E.then ?_
  refine T.seq ?_
  refine T.region ?_
  refine L.q 4 rfl ?_
  refine L.nil ?_
  refine E.then ?_
  refine T.seq ?_
  refine T.region ?_
  refine L.q 7 rfl ?_
  refine L.nil ?_
  refine E.then ?_
  refine T.seq ?_
  refine T.region ?_
  refine L.q 3 rfl ?_
  refine L.nil ?_
  refine E.then ?_
  refine T.seq ?_
  refine T.region ?_
  refine L.q 3 rfl ?_
  refine L.nil ?_
  refine E.then ?_
  refine T.seq ?_
  refine T.region ?_
  refine L.q 6 rfl ?_
  refine L.nil ?_
  refine E.then ?_
  refine T.seq ?_
  refine T.region ?_
  refine L.q 9 rfl ?_
  refine L.nil ?_
  refine E.then ?_
  refine T.seq ?_
  refine T.region ?_
  refine L.q 4 rfl ?_
  refine L.nil ?_
  refine E.then ?_
  refine T.ret ?_
  have hr := Option.some.inj H
  subst r
  exact E.ret () [] [] (.tmp rfl (.tmp rfl .nil)) rfl rfl rfl

theorem c_bits_Mul {x_ : Int} {y : Int} {r : Int × Int} (H : p_bits_Mul x_ y = some r) : CT G 85 [.int .u64 x_, .int .u64 y] [] [] (fun h : Unit => .tuple #[.int .u64 r.1, .int .u64 r.2]) (fun h => []) (fun h => []) := by
  delta p_bits_Mul at H
  refine CT.of Go.Proofs.Tryd.func85 (by kernel_rfl) rfl rfl rfl fun K => ?_
  refine T.seq ?_
  refine T.region ?_
  refine L.q 2 rfl ?_
  refine L.nil ?_
  refine E.then ?_
  refine T.seq ?_
  refine T.cond rfl (fun h => nomatch h) (fun _ => ?_)
  refine T.skip ?_
  refine E.then ?_
  refine T.seq ?_
  refine T.region ?_
  refine L.q 2 rfl ?_
  obtain ⟨r1, h2, H3⟩ := bnd H
  refine L.a [] [] (Ac.call (c_bits_Mul64 h2) rfl rfl rfl rfl) rfl rfl rfl rfl rfl ?_
  rintro ⟨⟩
  refine L.q 5 rfl ?_
  refine L.nil ?_
  refine E.then ?_
  refine T.seq ?_
  refine T.region ?_
  refine L.q 4 rfl ?_
  refine L.nil ?_
  refine E.then ?_
  refine T.ret ?_
  have hr := Option.some.inj H3
  subst r
  exact E.ret () [] [] (.tmp rfl (.tmp rfl .nil)) rfl rfl rfl

theorem c_slices_Repeat_row_Cell {x_ : List RowCell} {count : Int} (a_0 : Option Addr) (c_0 : Nat) {r : (List RowCell)} (H : p_slices_Repeat_row_Cell x_ count = some r) : CT G 76 [.slice a_0 x_.length c_0, .int .i64 count] [] [Im.sl tyRowCell a_0 c_0 x_] (fun h : (Option Addr × Nat) => .slice h.1 r.length h.2) (fun h => [Ch.arr tyRowCell 80 h.1 h.2 r]) (fun h => []) := by
  delta p_slices_Repeat_row_Cell at H
  refine CT.of Go.Proofs.Tryd.func76 (by kernel_rfl) rfl rfl rfl fun K => ?_
  refine T.seq ?_
  refine T.region ?_
  refine L.q 1 rfl ?_
  refine L.nil ?_
  refine E.then ?_
  refine T.seq ?_
  refine T.seq ?_
  refine T.region ?_
  refine L.q 2 rfl ?_
  refine L.nil ?_
  refine E.then ?_
  refine T.bif rfl H (fun hc H2 => ?_) (fun hc H2 => ?_)
  · cases H2
  · refine T.skip ?_
    refine E.then ?_
    refine T.seq ?_
    refine T.region ?_
    refine L.q 5 rfl ?_
    obtain ⟨r3, h4, H5⟩ := bnd H2
    refine L.a [] [] (Ac.call (c_bits_Mul h4) rfl rfl rfl rfl) rfl rfl rfl rfl rfl ?_
    rintro ⟨⟩
    refine L.q 5 rfl ?_
    refine L.nil ?_
    refine E.then ?_
    refine T.seq ?_
    refine T.seq ?_
    obtain ⟨e9, H10, H11⟩ := bnd H5
    refine T.join (η := Unit × Unit) (fun h => True) (fun h => [(0, .slice a_0 x_.length c_0), (6, .int .u64 r3.2), (26, .bool e9)]) (fun h => []) (fun h => [Im.sl tyRowCell a_0 c_0 x_]) ?_ ?_
    · refine T.region ?_
      refine L.q 3 rfl ?_
      refine L.cs 23 H10 rfl (fun hc H12 => ?_) (fun hc H12 => ?_)
      · refine L.q 3 rfl ?_
        refine L.nil ?_
        have hr := Option.some.inj H12
        subst e9
        exact E.give ((), ()) [] [0] trivial ⟨rfl, rfl, rfl, trivial⟩ rfl rfl
      · refine L.q 3 rfl ?_
        refine L.nil ?_
        have hr := Option.some.inj H12
        subst e9
        exact E.give ((), ()) [] [0] trivial ⟨rfl, rfl, rfl, trivial⟩ rfl rfl
    · rintro ⟨_, ⟨⟩⟩ _
      refine T.bif rfl H11 (fun hc H14 => ?_) (fun hc H14 => ?_)
      · cases H14
      · refine T.skip ?_
        refine E.then ?_
        refine T.seq ?_
        refine T.region ?_
        refine L.q 2 rfl ?_
        obtain ⟨_, h15, H16⟩ := bnd H14
        refine L.a [] [] (Ac.mk (ty := tyRowCell) (RowCell.mk 0 0 0) () h15 (fun _ _ f hf => by cases hf) rfl rfl rfl rfl rfl rfl rfl) rfl rfl rfl rfl rfl ?_
        intro g17
        refine L.q 1 rfl ?_
        refine L.nil ?_
        refine E.then ?_
        refine T.seq ?_
        refine T.region ?_
        refine L.q 2 rfl ?_
        refine L.a [0] [0] (Ac.cp (ty := tyRowCell) rfl rfl rfl rfl rfl rfl rfl) rfl rfl rfl rfl rfl ?_
        intro _
        refine L.sl 7 (k' := (cpy (List.replicate (IntKind.i64.wrap r3.2).toNat (RowCell.mk 0 0 0)) x_).length) (cpy_length ..) rfl ?_
        refine L.q 1 rfl ?_
        refine L.nil ?_
        refine E.then ?_
        refine T.seq ?_
        obtain ⟨e88, H89, H90⟩ := bnd H16
        refine T.join (η := Unit × ((Option Addr × Nat))) (fun h => True) (fun h => (fun a85 c86 => [(7, .slice a85 e88.length c86)]) h.2.1 h.2.2) (fun h => (fun a85 c86 => [Ch.arr tyRowCell 80 a85 c86 e88]) h.2.1 h.2.2) (fun h => (fun a85 c86 => [Im.sl tyRowCell a_0 c_0 x_]) h.2.1 h.2.2) ?_ ?_
        · refine T.block ?_
          refine T.lp (η := (Option Addr × Nat)) (fun s67 h => (fun a63 c64 => [(7, .slice a63 s67.1.length c64), (8, .int .i64 s67.2)]) h.1 h.2) (fun s67 h => (fun a63 c64 => [Ch.arr tyRowCell 80 a63 c64 s67.1]) h.1 h.2) (fun s67 h => (fun a63 c64 => [Im.sl tyRowCell a_0 c_0 x_]) h.1 h.2) ((some ⟨g17, 0, none⟩), (IntKind.i64.wrap r3.2).toNat) [0] [0] H89 ⟨rfl, rfl, trivial⟩ rfl rfl ?_
          rintro k s67 ⟨a63, c64⟩ z92 H91 hag93 hbr94
          refine T.seq ?_
          refine T.seq ?_
          refine T.region ?_
          refine L.q 4 rfl ?_
          refine L.nil ?_
          refine E.then ?_
          refine T.bif rfl H91 (fun hc H96 => ?_) (fun hc H96 => ?_)
          · refine T.skip ?_
            refine E.then ?_
            refine T.block ?_
            refine T.draw [] [] mo (by rfl) rfl ?_
            refine D.q 0 rfl rfl rfl rfl rfl rfl ?_
            refine D.q 1 rfl rfl rfl rfl rfl rfl ?_
            refine D.q 2 rfl rfl rfl rfl rfl rfl ?_
            obtain ⟨_, h104, H105⟩ := bnd H96
            refine D.cap 0 rfl fun h106 => ?_
            refine D.y 3 (Yl.sv (ty := tyRowCell) h106 h104 rfl rfl rfl rfl rfl rfl rfl rfl) rfl rfl rfl rfl rfl rfl ?_
            refine D.q 4 rfl rfl rfl rfl rfl rfl ?_
            refine D.q 5 rfl rfl rfl rfl rfl rfl ?_
            obtain ⟨_, h107, H108⟩ := bnd H105
            refine D.cap 0 rfl fun h109 => ?_
            refine D.y 6 (Yl.sv (ty := tyRowCell) h109 h107 rfl rfl rfl rfl rfl rfl rfl rfl) rfl rfl rfl rfl rfl rfl ?_
            refine D.one rfl rfl rfl (Dp.a [0] [] (Ac.cps (ty := tyRowCell) h104 rfl rfl rfl rfl rfl rfl rfl) rfl rfl rfl rfl rfl rfl ?_)
            intro _
            refine D.q 8 rfl rfl rfl rfl rfl rfl ?_
            refine D.q 9 rfl rfl rfl rfl rfl rfl ?_
            refine D.nil rfl rfl ?_
            refine E.sl 7 (k' := (cpys s67.1 s67.2.toNat).length) (cpys_len h104) rfl ?_
            refine E.block ?_
            have hr := Option.some.inj H108
            subst z92
            exact E.give (_, (a63, c64)) [0] [0] (hag93 _ rfl) ⟨rfl, rfl, trivial⟩ rfl rfl
          · refine T.exit ?_
            refine E.then_exit' ?_
            refine E.then_exit' ?_
            refine E.block_here ?_
            have hr := Option.some.inj H96
            subst z92
            have hb := hbr94 _ rfl
            subst e88
            exact E.give ((), (a63, c64)) [0] [0] trivial ⟨rfl, trivial⟩ rfl rfl
        · rintro ⟨_, ⟨a85, c86⟩⟩ _
          refine T.seq ?_
          refine T.region ?_
          refine L.q 2 rfl ?_
          refine L.nil ?_
          refine E.then ?_
          refine T.ret ?_
          have hr := Option.some.inj H90
          subst r
          exact E.ret (a85, c86) [0] [] (.tmp rfl .nil) rfl rfl rfl

theorem c_row_blanks {n_ : Int} {style : Int} {r : (List RowCell)} (H : p_row_blanks n_ style = some r) : CT G 43 [.int .i64 n_, .int .i64 style] [] [] (fun h : (Option Addr × Nat) => .slice h.1 r.length h.2) (fun h => [Ch.arr tyRowCell 80 h.1 h.2 r]) (fun h => []) := by
  delta p_row_blanks at H
  refine CT.of Go.Proofs.Tryd.func43 (by kernel_rfl) rfl rfl rfl fun K => ?_
  refine T.seq ?_
  refine T.region ?_
  refine L.q 1 rfl ?_
  refine L.nil ?_
  refine E.then ?_
  refine T.seq ?_
  refine T.region ?_
  refine L.q 1 rfl ?_
  obtain ⟨r1, h2, H3⟩ := bnd H
  refine L.a [] [] (Ac.call (c_row_blank h2) rfl rfl rfl rfl) rfl rfl rfl rfl rfl ?_
  rintro ⟨⟩
  refine L.a [] [] (Ac.bs (ty := tyRowCell) (xs := [r1]) (.cons () [] rfl .nil) rfl rfl rfl rfl rfl rfl rfl) rfl rfl rfl rfl rfl ?_
  intro g4
  refine L.q 2 rfl ?_
  refine L.frz 0 rfl ?_
  obtain ⟨r7, h8, H9⟩ := bnd H3
  refine L.a [] [0] (Ac.call (c_slices_Repeat_row_Cell (some ⟨g4, 0, none⟩) 1 h8) rfl rfl rfl rfl) rfl rfl rfl rfl rfl ?_
  rintro ⟨a10, c11⟩
  refine L.q 1 rfl ?_
  refine L.nil ?_
  refine E.then ?_
  refine T.ret ?_
  have hr := Option.some.inj H9
  subst r
  exact E.ret (a10, c11) [0] [] (.tmp rfl .nil) rfl rfl rfl

theorem c_row_Blank {w : Int} {style : Int} {r : RowRow} (H : p_row_Blank w style = some r) : CT G 13 [.int .i64 w, .int .i64 style] [] [] (fun h : (Option Addr × Nat) => .agg #[.slice h.1 r.cells.length h.2, .bool r.wrapped]) (fun h => []) (fun h => [Im.sl tyRowCell h.1 h.2 r.cells]) := by
  delta p_row_Blank at H
  refine CT.of Go.Proofs.Tryd.func13 (by kernel_rfl) rfl rfl rfl fun K => ?_
  refine T.seq ?_
  refine T.region ?_
  refine L.a [] [] (Ac.alloc rfl rfl) rfl rfl rfl rfl rfl ?_
  intro g1
  refine L.nil ?_
  refine E.then ?_
  refine T.seq ?_
  refine T.region ?_
  refine L.q 1 rfl ?_
  obtain ⟨r2, h3, H4⟩ := bnd H
  refine L.a [] [] (Ac.call (c_row_clip h3) rfl rfl rfl rfl) rfl rfl rfl rfl rfl ?_
  rintro ⟨⟩
  refine L.q 1 rfl ?_
  obtain ⟨r5, h6, H7⟩ := bnd H4
  refine L.a [] [] (Ac.call (c_row_blanks h6) rfl rfl rfl rfl) rfl rfl rfl rfl rfl ?_
  rintro ⟨a8, c9⟩
  refine L.q 1 rfl ?_
  refine L.a [1] [] (Ac.stb rfl rfl rfl rfl rfl rfl) rfl rfl rfl rfl rfl ?_
  intro _
  refine L.nil ?_
  refine E.then ?_
  refine T.ret ?_
  refine E.frz 1 rfl ?_
  have hr := Option.some.inj H7
  subst r
  exact E.ret (a8, c9) [] [0] (.cell 0 rfl rfl rfl .nil) rfl rfl rfl

theorem c_slices_Clone_row_Cell {s_ : List RowCell} (a_0 : Option Addr) (c_0 : Nat) {r : List RowCell} (H : p_slices_Clone_row_Cell s_ = some r) : CT G 78 [.slice a_0 s_.length c_0] [] [Im.sl tyRowCell a_0 c_0 s_] (fun h : (Option Addr × Nat) => .slice h.1 r.length h.2) (fun h => [Ch.arr tyRowCell 80 h.1 h.2 r]) (fun h => []) := by
  delta p_slices_Clone_row_Cell at H
  refine CT.of Go.Proofs.Tryd.func78 (by kernel_rfl) rfl rfl rfl fun K => ?_
  obtain ⟨_, h0, H⟩ := bnd H
  have hr := Option.some.inj H
  refine T.seq (T.region (L.q 1 rfl (L.nil (E.then (T.seq (T.seq (T.region ?_)))))))
  refine L.q 1 rfl ?_
  refine L.nilc 0 rfl rfl rfl rfl rfl rfl rfl rfl rfl (fun ha hx => ?_) ?_
  · refine L.nil (E.then (T.cond rfl (fun _ => ?_) (fun h => nomatch h)))
    refine T.seq (T.region (L.q 1 rfl (L.nil (E.then (T.ret (E.then_ret ?_))))))
    subst hx
    subst r
    refine E.nil0 tyRowCell 80 ?_
    exact E.ret (none, 0) [0] [] (.tmp rfl .nil) rfl rfl rfl
  · refine L.nil (E.then (T.cond rfl (fun h => nomatch h) (fun _ => ?_)))
    refine T.skip (E.then (T.seq (T.region ?_)))
    refine L.a [] [] (Ac.bs (ty := tyRowCell) (xs := []) .nil rfl rfl rfl rfl rfl rfl rfl) rfl rfl rfl rfl rfl ?_
    intro g1
    refine L.q 1 rfl ?_
    refine L.a [0] [0] (Ac.ap (ty := tyRowCell) h0 rfl rfl rfl rfl rfl rfl rfl) rfl rfl rfl rfl rfl ?_
    rintro ⟨a1, c1⟩
    refine L.q 1 rfl ?_
    refine L.nil (E.then (T.ret ?_))
    subst r
    exact E.ret (a1, c1) [0] [] (.tmp rfl .nil) rfl rfl rfl

theorem c_row_Row_cells {r_ : RowRow} (a_0_0 : Option Addr) (c_0_0 : Nat) {r : (List RowCell)} (H : p_row_Row_cells r_ = some r) : CT G 56 [.agg #[.slice a_0_0 r_.cells.length c_0_0, .bool r_.wrapped]] [] [Im.sl tyRowCell a_0_0 c_0_0 r_.cells] (fun h : (Option Addr × Nat) => .slice h.1 r.length h.2) (fun h => [Ch.arr tyRowCell 80 h.1 h.2 r]) (fun h => []) := by
  delta p_row_Row_cells at H
  refine CT.of Go.Proofs.Tryd.func56 (by kernel_rfl) rfl rfl rfl fun K => ?_
  refine T.seq ?_
  refine T.region ?_
  refine L.a [] [] (Ac.box rfl rfl) rfl rfl rfl rfl rfl ?_
  intro g1
  refine L.q 1 rfl ?_
  refine L.nil ?_
  refine E.then ?_
  refine T.seq ?_
  refine T.region ?_
  refine L.q 1 rfl ?_
  refine L.y (Yl.ldb 0 rfl rfl rfl rfl) rfl rfl rfl ?_
  obtain ⟨r2, h3, H4⟩ := bnd H
  refine L.a [] [0] (Ac.call (c_slices_Clone_row_Cell a_0_0 c_0_0 h3) rfl rfl rfl rfl) rfl rfl rfl rfl rfl ?_
  rintro ⟨a5, c6⟩
  refine L.q 1 rfl ?_
  refine L.nil ?_
  refine E.then ?_
  refine T.ret ?_
  have hr := Option.some.inj H4
  subst r
  exact E.ret (a5, c6) [0] [] (.tmp rfl .nil) rfl rfl rfl

theorem c_wide_in {l : List WideSpan} {r_ : Int} (a_0 : Option Addr) (c_0 : Nat) {r : Bool} (H : p_wide_in l r_ = some r) : CT G 55 [.slice a_0 l.length c_0, .int .i32 r_] [] [Im.sl tyWideSpan a_0 c_0 l] (fun h : Unit => .bool r) (fun h => []) (fun h => []) := by
  delta p_wide_in at H
  refine CT.of Go.Proofs.Tryd.func55 (by kernel_rfl) rfl rfl rfl fun K => ?_
  refine T.seq ?_
  refine T.region ?_
  refine L.q 1 rfl ?_
  refine L.nil ?_
  refine E.then ?_
  refine T.seq ?_
  refine T.region ?_
  refine L.q 4 rfl ?_
  refine L.nil ?_
  refine E.then ?_
  refine T.seq ?_
  obtain ⟨e39, H40, H41⟩ := bnd H
  refine T.join (η := Unit × Unit) (fun h => True) (fun h => [(0, .slice a_0 l.length c_0), (1, .int .i32 r_), (5, .int .i64 e39)]) (fun h => []) (fun h => [Im.sl tyWideSpan a_0 c_0 l]) ?_ ?_
  · refine T.block ?_
    refine T.lp (η := Unit) (fun s27 h => [(0, .slice a_0 l.length c_0), (1, .int .i32 r_), (5, .int .i64 s27.1), (6, .int .i64 s27.2)]) (fun s27 h => []) (fun s27 h => [Im.sl tyWideSpan a_0 c_0 l]) () [] [0] H40 ⟨rfl, rfl, rfl, rfl, trivial⟩ rfl rfl ?_
    rintro k s27 ⟨⟩ z43 H42 hag44 hbr45
    refine T.seq ?_
    refine T.seq ?_
    refine T.region ?_
    refine L.q 3 rfl ?_
    refine L.nil ?_
    refine E.then ?_
    refine T.bif rfl H42 (fun hc H47 => ?_) (fun hc H47 => ?_)
    · refine T.skip ?_
      refine E.then ?_
      refine T.block ?_
      refine T.seq ?_
      refine T.region ?_
      refine L.q 5 rfl ?_
      refine L.nil ?_
      refine E.then ?_
      refine T.seq ?_
      refine T.region ?_
      refine L.q 2 rfl ?_
      obtain ⟨x48, h49, H50⟩ := bnd H47
      refine L.addr 0 rfl (idx_lt h49) fun b51 o52 e53 => ?_
      obtain rfl : a_0 = some ⟨b51, o52, none⟩ := e53
      refine L.y (Yl.ia h49 rfl rfl rfl rfl rfl rfl) rfl rfl rfl ?_
      refine L.el 0 rfl (idx_some h49).2 ?_
      rintro _
      refine L.q 1 rfl ?_
      refine L.y (Yl.ldc 0 1 rfl rfl rfl rfl) rfl rfl rfl ?_
      refine L.q 2 rfl ?_
      refine L.nil ?_
      refine E.then ?_
      refine T.bif rfl H50 (fun hc H55 => ?_) (fun hc H55 => ?_)
      · refine T.region ?_
        refine L.q 3 rfl ?_
        refine L.nil ?_
        refine E.block ?_
        have hr := Option.some.inj H55
        subst z43
        exact E.give (_, ()) [] [1] (hag44 _ rfl) ⟨rfl, rfl, rfl, rfl, trivial⟩ rfl rfl
      · refine T.region ?_
        refine L.q 2 rfl ?_
        refine L.nil ?_
        refine E.block ?_
        have hr := Option.some.inj H55
        subst z43
        exact E.give (_, ()) [] [1] (hag44 _ rfl) ⟨rfl, rfl, rfl, rfl, trivial⟩ rfl rfl
    · refine T.exit ?_
      refine E.then_exit' ?_
      refine E.then_exit' ?_
      refine E.block_here ?_
      have hr := Option.some.inj H47
      subst z43
      have hb := hbr45 _ rfl
      subst e39
      exact E.give ((), ()) [] [0] trivial ⟨rfl, rfl, rfl, trivial⟩ rfl rfl
  · rintro ⟨_, ⟨⟩⟩ _
    refine T.seq ?_
    obtain ⟨e73, H74, H75⟩ := bnd H41
    refine T.join (η := Unit × Unit) (fun h => True) (fun h => [(4, .bool e73)]) (fun h => []) (fun h => [Im.sl tyWideSpan a_0 c_0 l]) ?_ ?_
    · refine T.region ?_
      refine L.q 5 rfl ?_
      refine L.cs 31 H74 rfl (fun hc H76 => ?_) (fun hc H76 => ?_)
      · refine L.q 2 rfl ?_
        obtain ⟨x77, h78, H79⟩ := bnd H76
        refine L.addr 0 rfl (idx_lt h78) fun b80 o81 e82 => ?_
        obtain rfl : a_0 = some ⟨b80, o81, none⟩ := e82
        refine L.y (Yl.ia h78 rfl rfl rfl rfl rfl rfl) rfl rfl rfl ?_
        refine L.el 0 rfl (idx_some h78).2 ?_
        rintro _
        refine L.q 1 rfl ?_
        refine L.y (Yl.ldc 0 0 rfl rfl rfl rfl) rfl rfl rfl ?_
        refine L.q 4 rfl ?_
        refine L.nil ?_
        have hr := Option.some.inj H79
        subst e73
        exact E.give ((), ()) [] [1] trivial ⟨rfl, trivial⟩ rfl rfl
      · refine L.q 9 rfl ?_
        refine L.nil ?_
        have hr := Option.some.inj H76
        subst e73
        exact E.give ((), ()) [] [0] trivial ⟨rfl, trivial⟩ rfl rfl
    · rintro ⟨_, ⟨⟩⟩ _
      refine T.ret ?_
      have hr := Option.some.inj H75
      subst r
      exact E.ret () [] [] (.tmp rfl .nil) rfl rfl rfl

theorem c_wide_Of {r_ : Int} {r : Int} (H : p_wide_Of r_ = some r) : CT G 21 [.int .i32 r_] [] [Im.sl tyWideSpan (some ⟨0, 0, none⟩) 13 t_wide_nones, Im.sl tyWideSpan (some ⟨1, 0, none⟩) 14 t_wide_twos] (fun h : Unit => .int .i64 r) (fun h => []) (fun h => []) := by
  delta p_wide_Of at H
  refine CT.of Go.Proofs.Tryd.func21 (by kernel_rfl) rfl rfl rfl fun K => ?_
  refine T.seq ?_
  refine T.region ?_
  refine L.q 1 rfl ?_
  refine L.nil ?_
  refine E.then ?_
  refine T.seq ?_
  refine T.block ?_
  refine T.seq ?_
  refine T.region ?_
  refine L.q 2 rfl ?_
  obtain ⟨r9, h10, H11⟩ := bnd H
  refine L.a [] [0] (Ac.call (c_wide_in (some ⟨0, 0, none⟩) 13 h10) rfl rfl rfl rfl) rfl rfl rfl rfl rfl ?_
  rintro ⟨⟩
  refine L.q 1 rfl ?_
  refine L.nil ?_
  refine E.then ?_
  refine T.bif rfl H11 (fun hc H12 => ?_) (fun hc H12 => ?_)
  · refine T.seq ?_
    refine T.region ?_
    refine L.q 1 rfl ?_
    refine L.nil ?_
    refine E.then ?_
    refine T.ret ?_
    refine E.block_ret ?_
    refine E.then_ret ?_
    have hr := Option.some.inj H12
    subst r
    exact E.ret () [] [] (.tmp rfl .nil) rfl rfl rfl
  · refine T.seq ?_
    refine T.region ?_
    refine L.q 2 rfl ?_
    obtain ⟨r13, h14, H15⟩ := bnd H12
    refine L.a [] [1] (Ac.call (c_wide_in (some ⟨1, 0, none⟩) 14 h14) rfl rfl rfl rfl) rfl rfl rfl rfl rfl ?_
    rintro ⟨⟩
    refine L.q 1 rfl ?_
    refine L.nil ?_
    refine E.then ?_
    refine T.bif rfl H15 (fun hc H16 => ?_) (fun hc H16 => ?_)
    · refine T.seq ?_
      refine T.region ?_
      refine L.q 1 rfl ?_
      refine L.nil ?_
      refine E.then ?_
      refine T.ret ?_
      refine E.block_ret ?_
      refine E.then_ret ?_
      have hr := Option.some.inj H16
      subst r
      exact E.ret () [] [] (.tmp rfl .nil) rfl rfl rfl
    · refine T.skip ?_
      refine E.block ?_
      refine E.then ?_
      refine T.seq ?_
      refine T.region ?_
      refine L.q 1 rfl ?_
      refine L.nil ?_
      refine E.then ?_
      refine T.ret ?_
      have hr := Option.some.inj H16
      subst r
      exact E.ret () [] [] (.tmp rfl .nil) rfl rfl rfl

theorem c_row_broken {l : List RowCell} {i : Int} (a_0 : Option Addr) (c_0 : Nat) {r : Bool} (H : p_row_broken l i = some r) : CT G 79 [.slice a_0 l.length c_0, .int .i64 i] [] [Im.sl tyRowCell a_0 c_0 l] (fun h : Unit => .bool r) (fun h => []) (fun h => []) := by
  delta p_row_broken at H
  refine CT.of Go.Proofs.Tryd.func79 (by kernel_rfl) rfl rfl rfl fun K => ?_
  refine T.seq ?_
  refine T.region ?_
  refine L.q 1 rfl ?_
  refine L.nil ?_
  refine E.then ?_
  refine T.seq ?_
  refine T.seq ?_
  refine T.region ?_
  refine L.q 2 rfl ?_
  obtain ⟨x1, h2, H3⟩ := bnd H
  refine L.addr 0 rfl (idx_lt h2) fun b4 o5 e6 => ?_
  obtain rfl : a_0 = some ⟨b4, o5, none⟩ := e6
  refine L.y (Yl.ia h2 rfl rfl rfl rfl rfl rfl) rfl rfl rfl ?_
  refine L.el 0 rfl (idx_some h2).2 ?_
  rintro _
  refine L.q 1 rfl ?_
  refine L.y (Yl.ldc 0 2 rfl rfl rfl rfl) rfl rfl rfl ?_
  refine L.nil ?_
  refine E.then ?_
  refine T.block ?_
  refine T.seq ?_
  refine T.region ?_
  refine L.q 2 rfl ?_
  refine L.nil ?_
  refine E.then ?_
  refine T.bif rfl H3 (fun hc H49 => ?_) (fun hc H49 => ?_)
  · refine T.seq ?_
    obtain ⟨e61, H62, H63⟩ := bnd H49
    refine T.join (η := Unit × Unit) (fun h => True) (fun h => [(4, .bool e61)]) (fun h => []) (fun h => [Im.cells b4 (o5 + i.toNat * 3) [.int .i32 x1.rune, .int .i64 x1.style, .int .i64 x1.part], Im.sl tyRowCell (some ⟨b4, o5, none⟩) c_0 l]) ?_ ?_
    · refine T.region ?_
      refine L.q 6 rfl ?_
      refine L.cs 17 H62 rfl (fun hc H64 => ?_) (fun hc H64 => ?_)
      · refine L.q 9 rfl ?_
        refine L.nil ?_
        have hr := Option.some.inj H64
        subst e61
        exact E.give ((), ()) [] [0, 1] trivial ⟨rfl, trivial⟩ rfl rfl
      · refine L.q 3 rfl ?_
        obtain ⟨x65, h66, H67⟩ := bnd H64
        refine L.y (Yl.ia h66 rfl rfl rfl rfl rfl rfl) rfl rfl rfl ?_
        refine L.el 1 rfl (idx_some h66).2 ?_
        rintro _
        refine L.q 1 rfl ?_
        refine L.y (Yl.ldc 0 2 rfl rfl rfl rfl) rfl rfl rfl ?_
        refine L.q 3 rfl ?_
        refine L.nil ?_
        have hr := Option.some.inj H67
        subst e61
        exact E.give ((), ()) [] [1, 2] trivial ⟨rfl, trivial⟩ rfl rfl
    · rintro ⟨_, ⟨⟩⟩ _
      refine T.ret ?_
      refine E.block_ret ?_
      refine E.then_ret ?_
      have hr := Option.some.inj H63
      subst r
      exact E.ret () [] [] (.tmp rfl .nil) rfl rfl rfl
  · refine T.seq ?_
    refine T.region ?_
    refine L.q 2 rfl ?_
    refine L.nil ?_
    refine E.then ?_
    refine T.bif rfl H49 (fun hc H69 => ?_) (fun hc H69 => ?_)
    · refine T.seq ?_
      obtain ⟨e81, H82, H83⟩ := bnd H69
      refine T.join (η := Unit × Unit) (fun h => True) (fun h => [(4, .bool e81)]) (fun h => []) (fun h => [Im.cells b4 (o5 + i.toNat * 3) [.int .i32 x1.rune, .int .i64 x1.style, .int .i64 x1.part], Im.sl tyRowCell (some ⟨b4, o5, none⟩) c_0 l]) ?_ ?_
      · refine T.region ?_
        refine L.q 3 rfl ?_
        refine L.cs 30 H82 rfl (fun hc H84 => ?_) (fun hc H84 => ?_)
        · refine L.q 9 rfl ?_
          refine L.nil ?_
          have hr := Option.some.inj H84
          subst e81
          exact E.give ((), ()) [] [0, 1] trivial ⟨rfl, trivial⟩ rfl rfl
        · refine L.q 3 rfl ?_
          obtain ⟨x85, h86, H87⟩ := bnd H84
          refine L.y (Yl.ia h86 rfl rfl rfl rfl rfl rfl) rfl rfl rfl ?_
          refine L.el 1 rfl (idx_some h86).2 ?_
          rintro _
          refine L.q 1 rfl ?_
          refine L.y (Yl.ldc 0 2 rfl rfl rfl rfl) rfl rfl rfl ?_
          refine L.q 3 rfl ?_
          refine L.nil ?_
          have hr := Option.some.inj H87
          subst e81
          exact E.give ((), ()) [] [1, 2] trivial ⟨rfl, trivial⟩ rfl rfl
      · rintro ⟨_, ⟨⟩⟩ _
        refine T.ret ?_
        refine E.block_ret ?_
        refine E.then_ret ?_
        have hr := Option.some.inj H83
        subst r
        exact E.ret () [] [] (.tmp rfl .nil) rfl rfl rfl
    · refine T.seq ?_
      refine T.region ?_
      refine L.q 2 rfl ?_
      refine L.nil ?_
      refine E.then ?_
      refine T.bif rfl H69 (fun hc H89 => ?_) (fun hc H89 => ?_)
      · refine T.seq ?_
        refine T.region ?_
        refine L.q 6 rfl ?_
        refine L.nil ?_
        refine E.then ?_
        refine T.ret ?_
        refine E.block_ret ?_
        refine E.then_ret ?_
        have hr := Option.some.inj H89
        subst r
        exact E.ret () [] [] (.tmp rfl .nil) rfl rfl rfl
      · refine T.skip ?_
        refine E.block ?_
        refine E.then ?_
        refine T.seq ?_
        refine T.region ?_
        refine L.q 1 rfl ?_
        refine L.nil ?_
        refine E.then ?_
        refine T.ret ?_
        have hr := Option.some.inj H89
        subst r
        exact E.ret () [] [] (.tmp rfl .nil) rfl rfl rfl

theorem c_row_mend {l : List RowCell} (a_0 : Option Addr) (c_0 : Nat) {r : RowRow} (H : p_row_mend l = some r) : CT G 57 [.slice a_0 l.length c_0] [Ch.arr tyRowCell 80 a_0 c_0 l] [] (fun h : Unit => .agg #[.slice a_0 r.cells.length c_0, .bool r.wrapped]) (fun h => []) (fun h => [Im.sl tyRowCell a_0 c_0 r.cells]) := by
  delta p_row_mend at H
  refine CT.of Go.Proofs.Tryd.func57 (by kernel_rfl) rfl rfl rfl fun K => ?_
  refine T.seq ?_
  refine T.region ?_
  refine L.a [] [] (Ac.alloc rfl rfl) rfl rfl rfl rfl rfl ?_
  intro g1
  refine L.nil ?_
  refine E.then ?_
  refine T.seq ?_
  refine T.seq ?_
  refine T.region ?_
  refine L.q 3 rfl ?_
  refine L.nil ?_
  refine E.then ?_
  obtain ⟨e179, H180, H181⟩ := bnd H
  refine T.join (η := Unit × Unit) (fun h => True) (fun h => [(0, .slice a_0 e179.length c_0), (2, .pointer (some ⟨g1, 0, none⟩))]) (fun h => [Ch.arr tyRowCell 80 a_0 c_0 e179, Ch.box g1 26 [.slice none 0 0, .bool false]]) (fun h => []) ?_ ?_
  · refine T.block ?_
    refine T.lp (η := Unit) (fun s121 h => [(0, .slice a_0 s121.1.length c_0), (2, .pointer (some ⟨g1, 0, none⟩)), (5, .int .i64 (l.length : Int)), (6, .int .i64 s121.2)]) (fun s121 h => [Ch.arr tyRowCell 80 a_0 c_0 s121.1, Ch.box g1 26 [.slice none 0 0, .bool false]]) (fun s121 h => []) () [1, 0] [] H180 ⟨rfl, rfl, rfl, rfl, trivial⟩ rfl rfl ?_
    rintro k s121 ⟨⟩ z183 H182 hag184 hbr185
    refine T.seq ?_
    refine T.region ?_
    refine L.q 1 rfl ?_
    refine L.nil ?_
    refine E.then ?_
    refine T.seq ?_
    refine T.bif rfl H182 (fun hc H187 => ?_) (fun hc H187 => ?_)
    · refine T.skip ?_
      refine E.then ?_
      refine T.seq ?_
      obtain ⟨e222, H223, H224⟩ := bnd H187
      refine T.join (η := Unit × Unit) (fun h => True) (fun h => [(0, .slice a_0 e222.length c_0), (2, .pointer (some ⟨g1, 0, none⟩)), (5, .int .i64 (l.length : Int)), (6, .int .i64 s121.2)]) (fun h => [Ch.arr tyRowCell 80 a_0 c_0 e222, Ch.box g1 26 [.slice none 0 0, .bool false]]) (fun h => []) ?_ ?_
      · refine T.block ?_
        refine T.seq ?_
        refine T.region ?_
        refine L.q 2 rfl ?_
        refine L.nil ?_
        refine E.then ?_
        refine T.seq ?_
        refine T.region ?_
        refine L.q 2 rfl ?_
        obtain ⟨r225, h226, H227⟩ := bnd H223
        refine L.br (Ac.call (c_row_broken a_0 c_0 h226) rfl rfl rfl rfl) (Bw.ch 0 rfl (Bw.nil)) rfl rfl rfl ?_
        intro _
        refine L.nil ?_
        refine E.then ?_
        refine T.bif rfl H227 (fun hc H228 => ?_) (fun hc H228 => ?_)
        · refine T.region ?_
          refine L.q 4 rfl ?_
          obtain ⟨x229, h230, H231⟩ := bnd H228
          refine L.addro 0 rfl (idx_lt h230) fun b232 e233 => ?_
          obtain rfl : a_0 = some ⟨b232, 0, none⟩ := e233
          refine L.y (Yl.ia h230 rfl rfl rfl rfl rfl rfl) rfl rfl rfl ?_
          refine L.q 1 rfl ?_
          refine L.y (Yl.lo (v := .int .i64 x229.style) 0 s121.2.toNat 1 (idx_some h230).2 rfl rfl rfl rfl (fun _ => rfl)) rfl rfl rfl ?_
          obtain ⟨r234, h235, H236⟩ := bnd H231
          refine L.a [] [] (Ac.call (c_row_blank h235) rfl rfl rfl rfl) rfl rfl rfl rfl rfl ?_
          rintro ⟨⟩
          obtain ⟨x237, h238, H239⟩ := bnd H236
          refine L.y (Yl.ia h238 rfl rfl rfl rfl rfl rfl) rfl rfl rfl ?_
          refine L.a [0] [] (Ac.se 0 r234 (idx_some h238).2 rfl rfl rfl rfl rfl rfl (fun _ => ⟨(), rfl, [], rfl⟩)) rfl rfl rfl rfl rfl ?_
          intro _
          refine L.sl 0 (k' := (s121.1.set s121.2.toNat r234).length) (List.length_set ..) rfl ?_
          refine L.nil ?_
          refine E.block ?_
          have hr := Option.some.inj H239
          subst e222
          exact E.give ((), ()) [0, 0] [] trivial ⟨rfl, rfl, rfl, rfl, trivial⟩ rfl rfl
        · refine T.skip ?_
          refine E.block ?_
          have hr := Option.some.inj H228
          subst e222
          exact E.give ((), ()) [0, 0] [] trivial ⟨rfl, rfl, rfl, rfl, trivial⟩ rfl rfl
      · rintro ⟨_, ⟨⟩⟩ _
        refine T.region ?_
        refine L.q 2 rfl ?_
        refine L.nil ?_
        have hr := Option.some.inj H224
        subst z183
        exact E.give (_, ()) [0, 0] [] (hag184 _ rfl) ⟨rfl, rfl, rfl, rfl, trivial⟩ rfl rfl
    · refine T.exit ?_
      refine E.then_exit' ?_
      refine E.then_exit' ?_
      refine E.block_here ?_
      have hr := Option.some.inj H187
      subst z183
      have hb := hbr185 _ rfl
      subst e179
      exact E.give ((), ()) [0, 0] [] trivial ⟨rfl, rfl, trivial⟩ rfl rfl
  · rintro ⟨_, ⟨⟩⟩ _
    refine T.seq ?_
    refine T.region ?_
    refine L.q 2 rfl ?_
    refine L.a [1] [] (Ac.stb rfl rfl rfl rfl rfl rfl) rfl rfl rfl rfl rfl ?_
    intro _
    refine L.nil ?_
    refine E.then ?_
    refine T.ret ?_
    refine E.frz 1 rfl ?_
    have hr := Option.some.inj H181
    subst r
    exact E.ret () [] [0] (.cell 0 rfl rfl rfl .nil) rfl rfl rfl

theorem c_row_Row_Put {r_ : RowRow} {at_ : Int} {x_ : Int} {style : Int} (a_0_0 : Option Addr) (c_0_0 : Nat) {r : RowRow} (H : p_row_Row_Put r_ at_ x_ style = some r) : CT G 24 [.agg #[.slice a_0_0 r_.cells.length c_0_0, .bool r_.wrapped], .int .i64 at_, .int .i32 x_, .int .i64 style] [] [Im.sl tyRowCell a_0_0 c_0_0 r_.cells, Im.sl tyWideSpan (some ⟨0, 0, none⟩) 13 t_wide_nones, Im.sl tyWideSpan (some ⟨1, 0, none⟩) 14 t_wide_twos] (fun h : (Option Addr × Nat) => .agg #[.slice h.1 r.cells.length h.2, .bool r.wrapped]) (fun h => []) (fun h => [Im.sl tyRowCell h.1 h.2 r.cells]) := by
  delta p_row_Row_Put at H
  refine CT.of Go.Proofs.Tryd.func24 (by kernel_rfl) rfl rfl rfl fun K => ?_
  refine T.seq ?_
  refine T.region ?_
  refine L.a [] [] (Ac.box rfl rfl) rfl rfl rfl rfl rfl ?_
  intro g1
  refine L.a [] [] (Ac.alloc rfl rfl) rfl rfl rfl rfl rfl ?_
  intro g2
  refine L.nil ?_
  refine E.then ?_
  refine T.seq ?_
  refine T.region ?_
  refine L.y (Yl.ldb 1 rfl rfl rfl rfl) rfl rfl rfl ?_
  obtain ⟨r3, h4, H5⟩ := bnd H
  refine L.a [] [0] (Ac.call (c_row_Row_cells a_0_0 c_0_0 h4) rfl rfl rfl rfl) rfl rfl rfl rfl rfl ?_
  rintro ⟨a6, c7⟩
  refine L.q 1 rfl ?_
  refine L.nil ?_
  refine E.then ?_
  refine T.seq ?_
  refine T.region ?_
  refine L.q 1 rfl ?_
  obtain ⟨r9, h10, H11⟩ := bnd H5
  refine L.a [] [1, 2] (Ac.call (c_wide_Of h10) rfl rfl rfl rfl) rfl rfl rfl rfl rfl ?_
  rintro ⟨⟩
  refine L.q 1 rfl ?_
  refine L.nil ?_
  refine E.then ?_
  refine T.seq ?_
  obtain ⟨e124, H125, H126⟩ := bnd H11
  refine T.join (η := Unit × Unit) (fun h => True) (fun h => [(8, .pointer (some ⟨g2, 0, none⟩)), (9, .slice a6 e124.length c7)]) (fun h => [Ch.arr tyRowCell 80 a6 c7 e124, Ch.box g2 26 [.slice none 0 0, .bool false], Ch.box g1 26 [.slice a_0_0 r_.cells.length c_0_0, .bool r_.wrapped]]) (fun h => [Im.sl tyRowCell a_0_0 c_0_0 r_.cells, Im.sl tyWideSpan (some ⟨0, 0, none⟩) 13 t_wide_nones, Im.sl tyWideSpan (some ⟨1, 0, none⟩) 14 t_wide_twos]) ?_ ?_
  · refine T.block ?_
    refine T.seq ?_
    obtain ⟨e132, H133, H134⟩ := bnd H125
    refine T.join (η := Unit × Unit) (fun h => True) (fun h => [(1, .int .i64 at_), (2, .int .i32 x_), (3, .int .i64 style), (8, .pointer (some ⟨g2, 0, none⟩)), (9, .slice a6 r3.length c7), (10, .int .i64 r9), (50, .bool e132)]) (fun h => [Ch.box g2 26 [.slice none 0 0, .bool false], Ch.box g1 26 [.slice a_0_0 r_.cells.length c_0_0, .bool r_.wrapped], Ch.arr tyRowCell 80 a6 c7 r3]) (fun h => [Im.sl tyRowCell a_0_0 c_0_0 r_.cells, Im.sl tyWideSpan (some ⟨0, 0, none⟩) 13 t_wide_nones, Im.sl tyWideSpan (some ⟨1, 0, none⟩) 14 t_wide_twos]) ?_ ?_
    · refine T.region ?_
      refine L.q 3 rfl ?_
      refine L.cs 53 H133 rfl (fun hc H135 => ?_) (fun hc H135 => ?_)
      · refine L.q 12 rfl ?_
        refine L.nil ?_
        have hr := Option.some.inj H135
        subst e132
        exact E.give ((), ()) [1, 1, 0] [0, 1, 2] trivial ⟨rfl, rfl, rfl, rfl, rfl, rfl, rfl, trivial⟩ rfl rfl
      · refine L.q 4 rfl ?_
        refine L.cs 57 H135 rfl (fun hc H136 => ?_) (fun hc H136 => ?_)
        · refine L.q 8 rfl ?_
          refine L.nil ?_
          have hr := Option.some.inj H136
          subst e132
          exact E.give ((), ()) [1, 1, 0] [0, 1, 2] trivial ⟨rfl, rfl, rfl, rfl, rfl, rfl, rfl, trivial⟩ rfl rfl
        · refine L.q 8 rfl ?_
          refine L.nil ?_
          have hr := Option.some.inj H136
          subst e132
          exact E.give ((), ()) [1, 1, 0] [0, 1, 2] trivial ⟨rfl, rfl, rfl, rfl, rfl, rfl, rfl, trivial⟩ rfl rfl
    · rintro ⟨_, ⟨⟩⟩ _
      refine T.bif rfl H134 (fun hc H137 => ?_) (fun hc H137 => ?_)
      · refine T.skip ?_
        refine E.block ?_
        have hr := Option.some.inj H137
        subst e124
        exact E.give ((), ()) [2, 0, 0] [0, 1, 2] trivial ⟨rfl, rfl, trivial⟩ rfl rfl
      · refine T.seq ?_
        refine T.region ?_
        refine L.q 3 rfl ?_
        refine L.nil ?_
        refine E.then ?_
        refine T.bif rfl H137 (fun hc H138 => ?_) (fun hc H138 => ?_)
        · refine T.region ?_
          refine L.q 5 rfl ?_
          obtain ⟨x139, h140, H141⟩ := bnd H138
          refine L.addro 2 rfl (idx_lt h140) fun b142 e143 => ?_
          obtain rfl : a6 = some ⟨b142, 0, none⟩ := e143
          refine L.y (Yl.ia h140 rfl rfl rfl rfl rfl rfl) rfl rfl rfl ?_
          refine L.a [2] [] (Ac.se 0 (RowCell.mk x_ style 0) (idx_some h140).2 rfl rfl rfl rfl rfl rfl (fun _ => ⟨(), rfl, [], rfl⟩)) rfl rfl rfl rfl rfl ?_
          intro _
          refine L.sl 9 (k' := (r3.set at_.toNat (RowCell.mk x_ style 0)).length) (List.length_set ..) rfl ?_
          refine L.nil ?_
          refine E.block ?_
          have hr := Option.some.inj H141
          subst e124
          exact E.give ((), ()) [0, 0, 0] [0, 1, 2] trivial ⟨rfl, rfl, trivial⟩ rfl rfl
        · refine T.seq ?_
          refine T.region ?_
          refine L.q 11 rfl ?_
          obtain ⟨x145, h146, H147⟩ := bnd H138
          refine L.addro 2 rfl (idx_lt h146) fun b148 e149 => ?_
          obtain rfl : a6 = some ⟨b148, 0, none⟩ := e149
          refine L.y (Yl.ia h146 rfl rfl rfl rfl rfl rfl) rfl rfl rfl ?_
          refine L.a [2] [] (Ac.se 0 (RowCell.mk x_ style 1) (idx_some h146).2 rfl rfl rfl rfl rfl rfl (fun _ => ⟨(), rfl, [], rfl⟩)) rfl rfl rfl rfl rfl ?_
          intro _
          refine L.sl 9 (k' := (r3.set at_.toNat (RowCell.mk x_ style 1)).length) (List.length_set ..) rfl ?_
          refine L.sl 17 (k' := (r3.set at_.toNat (RowCell.mk x_ style 1)).length) (List.length_set ..) rfl ?_
          obtain ⟨x151, h152, H153⟩ := bnd H147
          refine L.y (Yl.ia h152 rfl rfl rfl rfl rfl rfl) rfl rfl rfl ?_
          refine L.a [0] [] (Ac.se 0 (RowCell.mk x_ style 2) (idx_some h152).2 rfl rfl rfl rfl rfl rfl (fun _ => ⟨(), rfl, [], rfl⟩)) rfl rfl rfl rfl rfl ?_
          intro _
          refine L.sl 9 (k' := ((r3.set at_.toNat (RowCell.mk x_ style 1)).set ((IntKind.i64.wrap (at_ + 1)).toNat) (RowCell.mk x_ style 2)).length) (List.length_set ..) rfl ?_
          refine L.nil ?_
          refine E.then ?_
          refine T.seq ?_
          obtain ⟨e164, H165, H166⟩ := bnd H153
          refine T.join (η := Unit × Unit) (fun h => True) (fun h => [(1, .int .i64 at_), (8, .pointer (some ⟨g2, 0, none⟩)), (9, .slice (some ⟨b148, 0, none⟩) ((r3.set at_.toNat (RowCell.mk x_ style 1)).set ((IntKind.i64.wrap (at_ + 1)).toNat) (RowCell.mk x_ style 2)).length c7), (38, .bool e164)]) (fun h => [Ch.box g2 26 [.slice none 0 0, .bool false], Ch.box g1 26 [.slice a_0_0 r_.cells.length c_0_0, .bool r_.wrapped], Ch.arr tyRowCell 80 (some ⟨b148, 0, none⟩) c7 ((r3.set at_.toNat (RowCell.mk x_ style 1)).set ((IntKind.i64.wrap (at_ + 1)).toNat) (RowCell.mk x_ style 2))]) (fun h => [Im.sl tyRowCell a_0_0 c_0_0 r_.cells, Im.sl tyWideSpan (some ⟨0, 0, none⟩) 13 t_wide_nones, Im.sl tyWideSpan (some ⟨1, 0, none⟩) 14 t_wide_twos]) ?_ ?_
          · refine T.region ?_
            refine L.q 3 rfl ?_
            refine L.cs 30 H165 rfl (fun hc H167 => ?_) (fun hc H167 => ?_)
            · refine L.q 3 rfl ?_
              obtain ⟨x168, h169, H170⟩ := bnd H167
              refine L.y (Yl.ia h169 rfl rfl rfl rfl rfl rfl) rfl rfl rfl ?_
              refine L.q 1 rfl ?_
              refine L.y (Yl.lo (v := .int .i64 x168.part) 0 ((IntKind.i64.wrap (at_ - 1)).toNat) 2 (idx_some h169).2 rfl rfl rfl rfl (fun _ => rfl)) rfl rfl rfl ?_
              refine L.q 2 rfl ?_
              refine L.nil ?_
              have hr := Option.some.inj H170
              subst e164
              exact E.give ((), ()) [1, 1, 0] [0, 1, 2] trivial ⟨rfl, rfl, rfl, rfl, trivial⟩ rfl rfl
            · refine L.q 8 rfl ?_
              refine L.nil ?_
              have hr := Option.some.inj H167
              subst e164
              exact E.give ((), ()) [1, 1, 0] [0, 1, 2] trivial ⟨rfl, rfl, rfl, rfl, trivial⟩ rfl rfl
          · rintro ⟨_, ⟨⟩⟩ _
            refine T.bif rfl H166 (fun hc H171 => ?_) (fun hc H171 => ?_)
            · refine T.region ?_
              refine L.q 6 rfl ?_
              obtain ⟨x172, h173, H174⟩ := bnd H171
              refine L.y (Yl.ia h173 rfl rfl rfl rfl rfl rfl) rfl rfl rfl ?_
              refine L.q 1 rfl ?_
              refine L.y (Yl.lo (v := .int .i64 x172.style) 2 ((IntKind.i64.wrap (at_ - 1)).toNat) 1 (idx_some h173).2 rfl rfl rfl rfl (fun _ => rfl)) rfl rfl rfl ?_
              obtain ⟨r175, h176, H177⟩ := bnd H174
              refine L.a [] [] (Ac.call (c_row_blank h176) rfl rfl rfl rfl) rfl rfl rfl rfl rfl ?_
              rintro ⟨⟩
              obtain ⟨x178, h179, H180⟩ := bnd H177
              refine L.y (Yl.ia h179 rfl rfl rfl rfl rfl rfl) rfl rfl rfl ?_
              refine L.a [2] [] (Ac.se 0 r175 (idx_some h179).2 rfl rfl rfl rfl rfl rfl (fun _ => ⟨(), rfl, [], rfl⟩)) rfl rfl rfl rfl rfl ?_
              intro _
              refine L.sl 9 (k' := (((r3.set at_.toNat (RowCell.mk x_ style 1)).set ((IntKind.i64.wrap (at_ + 1)).toNat) (RowCell.mk x_ style 2)).set ((IntKind.i64.wrap (at_ - 1)).toNat) r175).length) (List.length_set ..) rfl ?_
              refine L.nil ?_
              refine E.block ?_
              have hr := Option.some.inj H180
              subst e124
              exact E.give ((), ()) [0, 0, 0] [0, 1, 2] trivial ⟨rfl, rfl, trivial⟩ rfl rfl
            · refine T.skip ?_
              refine E.block ?_
              have hr := Option.some.inj H171
              subst e124
              exact E.give ((), ()) [2, 0, 0] [0, 1, 2] trivial ⟨rfl, rfl, trivial⟩ rfl rfl
  · rintro ⟨_, ⟨⟩⟩ _
    refine T.seq ?_
    refine T.region ?_
    refine L.q 1 rfl ?_
    obtain ⟨r182, h183, H184⟩ := bnd H126
    refine L.a [0] [] (Ac.call (c_row_mend a6 c7 h183) rfl rfl rfl rfl) rfl rfl rfl rfl rfl ?_
    rintro ⟨⟩
    refine L.a [0] [] (Ac.stb rfl rfl rfl rfl rfl rfl) rfl rfl rfl rfl rfl ?_
    intro _
    refine L.nil ?_
    refine E.then ?_
    refine T.ret ?_
    have hr := Option.some.inj H184
    subst r
    exact E.ret (a6, c7) [] [0] (.cell 0 rfl rfl rfl .nil) rfl rfl rfl

theorem c_row_Row_Glyphs {r_ : RowRow} (a_0_0 : Option Addr) (c_0_0 : Nat) {r : (List RowGlyph)} (H : p_row_Row_Glyphs r_ = some r) : CT G 20 [.agg #[.slice a_0_0 r_.cells.length c_0_0, .bool r_.wrapped]] [] [Im.sl tyRowCell a_0_0 c_0_0 r_.cells] (fun h : (Option Addr × Nat) => .slice h.1 r.length h.2) (fun h => [Ch.arr tyRowGlyph 45 h.1 h.2 r]) (fun h => []) := by
  delta p_row_Row_Glyphs at H
  refine CT.of Go.Proofs.Tryd.func20 (by kernel_rfl) rfl rfl rfl fun K => ?_
  refine T.seq ?_
  refine T.region ?_
  refine L.a [] [] (Ac.box rfl rfl) rfl rfl rfl rfl rfl ?_
  intro g1
  refine L.q 1 rfl ?_
  refine L.nil ?_
  refine E.then ?_
  refine T.seq ?_
  refine T.region ?_
  refine L.q 1 rfl ?_
  refine L.y (Yl.ldb 0 rfl rfl rfl rfl) rfl rfl rfl ?_
  refine L.q 1 rfl ?_
  refine L.nil ?_
  refine E.then ?_
  refine T.seq ?_
  obtain ⟨e268, H269, H270⟩ := bnd H
  refine T.join (η := Unit × ((Option Addr × Nat))) (fun h => True) (fun h => (fun a265 c266 => [(3, .slice a265 e268.length c266)]) h.2.1 h.2.2) (fun h => (fun a265 c266 => [Ch.box g1 26 [.slice a_0_0 r_.cells.length c_0_0, .bool r_.wrapped]]) h.2.1 h.2.2) (fun h => (fun a265 c266 => [Im.sl tyRowCell a265 c266 e268, Im.sl tyRowCell a_0_0 c_0_0 r_.cells]) h.2.1 h.2.2) ?_ ?_
  · refine T.block ?_
    refine T.lp (η := (Option Addr × Nat)) (fun s180 h => (fun a177 c178 => [(1, .pointer (some ⟨g1, 0, none⟩)), (3, .slice a177 s180.length c178)]) h.1 h.2) (fun s180 h => (fun a177 c178 => [Ch.box g1 26 [.slice a_0_0 r_.cells.length c_0_0, .bool r_.wrapped]]) h.1 h.2) (fun s180 h => (fun a177 c178 => [Im.sl tyRowCell a177 c178 s180, Im.sl tyRowCell a_0_0 c_0_0 r_.cells]) h.1 h.2) (a_0_0, c_0_0) [0] [0, 0] H269 ⟨rfl, rfl, trivial⟩ rfl rfl ?_
    rintro k s180 ⟨a177, c178⟩ z272 H271 hag273 hbr274
    refine T.seq ?_
    refine T.seq ?_
    obtain ⟨e324, H325, H326⟩ := bnd H271
    refine T.join (η := Unit × Unit) (fun h => True) (fun h => [(1, .pointer (some ⟨g1, 0, none⟩)), (3, .slice a177 s180.length c178), (26, .bool e324)]) (fun h => [Ch.box g1 26 [.slice a_0_0 r_.cells.length c_0_0, .bool r_.wrapped]]) (fun h => [Im.sl tyRowCell a177 c178 s180, Im.sl tyRowCell a_0_0 c_0_0 r_.cells]) ?_ ?_
    · refine T.draw [] [0] mo (by rfl) rfl ?_
      refine D.q 0 rfl rfl rfl rfl rfl rfl ?_
      refine D.y 1 (Yl.ldb 0 rfl rfl rfl rfl) rfl rfl rfl rfl rfl rfl ?_
      refine D.q 2 rfl rfl rfl rfl rfl rfl ?_
      refine D.q 3 rfl rfl rfl rfl rfl rfl ?_
      refine D.cs 12 H325 rfl (fun hc H339 => ?_) (fun hc H339 => ?_)
      · refine D.q 4 rfl rfl rfl rfl rfl rfl ?_
        refine D.q 5 rfl rfl rfl rfl rfl rfl ?_
        refine D.q 6 rfl rfl rfl rfl rfl rfl ?_
        refine D.q 7 rfl rfl rfl rfl rfl rfl ?_
        refine D.q 8 rfl rfl rfl rfl rfl rfl ?_
        refine D.cs 17 H339 rfl (fun hc H340 => ?_) (fun hc H340 => ?_)
        · refine D.q 9 rfl rfl rfl rfl rfl rfl ?_
          refine D.q 10 rfl rfl rfl rfl rfl rfl ?_
          refine D.q 11 rfl rfl rfl rfl rfl rfl ?_
          refine D.q 12 rfl rfl rfl rfl rfl rfl ?_
          obtain ⟨x341, h342, H343⟩ := bnd H340
          refine D.addr 0 rfl (idx_lt h342) fun b344 o345 e346 => ?_
          obtain rfl : a177 = some ⟨b344, o345, none⟩ := e346
          refine D.y 13 (Yl.ia h342 rfl rfl rfl rfl rfl rfl) rfl rfl rfl rfl rfl rfl ?_
          refine D.el 0 rfl (idx_some h342).2 ?_
          rintro _
          refine D.y 14 (Yl.ldc 0 0 rfl rfl rfl rfl) rfl rfl rfl rfl rfl rfl ?_
          obtain ⟨r348, h349, H350⟩ := bnd H343
          refine D.one rfl rfl rfl (Dp.a [] [] (Ac.call (c_row_blank h349) rfl rfl rfl rfl) rfl rfl rfl rfl rfl rfl ?_)
          rintro ⟨⟩
          refine D.q 16 rfl rfl rfl rfl rfl rfl ?_
          refine D.q 17 rfl rfl rfl rfl rfl rfl ?_
          refine D.nil rfl rfl ?_
          have hr := Option.some.inj H350
          subst e324
          exact E.give ((), ()) [0] [1, 2] trivial ⟨rfl, rfl, rfl, trivial⟩ rfl rfl
        · refine D.sk 9 rfl rfl rfl rfl rfl ?_
          refine D.sk 10 rfl rfl rfl rfl rfl ?_
          refine D.sk 11 rfl rfl rfl rfl rfl ?_
          refine D.sk 12 rfl rfl rfl rfl rfl ?_
          refine D.sk 13 rfl rfl rfl rfl rfl ?_
          refine D.sk 14 rfl rfl rfl rfl rfl ?_
          refine D.sk 15 rfl rfl rfl rfl rfl ?_
          refine D.sk 16 rfl rfl rfl rfl rfl ?_
          refine D.q 17 rfl rfl rfl rfl rfl rfl ?_
          refine D.nil rfl rfl ?_
          have hr := Option.some.inj H340
          subst e324
          exact E.give ((), ()) [0] [0, 1] trivial ⟨rfl, rfl, rfl, trivial⟩ rfl rfl
      · refine D.sk 4 rfl rfl rfl rfl rfl ?_
        refine D.sk 5 rfl rfl rfl rfl rfl ?_
        refine D.sk 6 rfl rfl rfl rfl rfl ?_
        refine D.q 7 rfl rfl rfl rfl rfl rfl ?_
        refine D.q 8 rfl rfl rfl rfl rfl rfl ?_
        refine D.sk 9 rfl rfl rfl rfl rfl ?_
        refine D.sk 10 rfl rfl rfl rfl rfl ?_
        refine D.sk 11 rfl rfl rfl rfl rfl ?_
        refine D.sk 12 rfl rfl rfl rfl rfl ?_
        refine D.sk 13 rfl rfl rfl rfl rfl ?_
        refine D.sk 14 rfl rfl rfl rfl rfl ?_
        refine D.sk 15 rfl rfl rfl rfl rfl ?_
        refine D.sk 16 rfl rfl rfl rfl rfl ?_
        refine D.q 17 rfl rfl rfl rfl rfl rfl ?_
        refine D.nil rfl rfl ?_
        have hr := Option.some.inj H339
        subst e324
        exact E.give ((), ()) [0] [0, 1] trivial ⟨rfl, rfl, rfl, trivial⟩ rfl rfl
    · rintro ⟨_, ⟨⟩⟩ _
      refine T.bif rfl H326 (fun hc H352 => ?_) (fun hc H352 => ?_)
      · refine T.skip ?_
        refine E.then ?_
        refine T.block ?_
        refine T.region ?_
        refine L.q 4 rfl ?_
        obtain ⟨_, h353, H354⟩ := bnd H352
        refine L.rs 0 h353 rfl rfl rfl rfl rfl rfl rfl rfl rfl rfl rfl rfl ?_
        intro a355 c356
        refine L.q 1 rfl ?_
        refine L.nil ?_
        refine E.block ?_
        have hr := Option.some.inj H354
        subst z272
        exact E.give (_, (a355, c356)) [0] [0, 2] (hag273 _ rfl) ⟨rfl, rfl, trivial⟩ rfl rfl
      · refine T.exit ?_
        refine E.then_exit' ?_
        refine E.then_exit' ?_
        refine E.block_here ?_
        have hr := Option.some.inj H352
        subst z272
        have hb := hbr274 _ rfl
        subst e268
        exact E.give ((), (a177, c178)) [0] [0, 1] trivial ⟨rfl, trivial⟩ rfl rfl
  · rintro ⟨_, ⟨a265, c266⟩⟩ _
    refine T.seq ?_
    refine T.region ?_
    refine L.q 1 rfl ?_
    refine L.nil ?_
    refine E.then ?_
    refine T.seq ?_
    refine T.seq ?_
    refine T.region ?_
    refine L.q 3 rfl ?_
    refine L.nil ?_
    refine E.then ?_
    obtain ⟨e625, H626, H627⟩ := bnd H270
    refine T.join (η := Unit × ((Option Addr × Nat))) (fun h => True) (fun h => (fun a622 c623 => [(4, .slice a622 e625.length c623)]) h.2.1 h.2.2) (fun h => (fun a622 c623 => [Ch.arr tyRowGlyph 45 a622 c623 e625, Ch.box g1 26 [.slice a_0_0 r_.cells.length c_0_0, .bool r_.wrapped]]) h.2.1 h.2.2) (fun h => (fun a622 c623 => [Im.sl tyRowCell a265 c266 e268, Im.sl tyRowCell a_0_0 c_0_0 r_.cells]) h.2.1 h.2.2) ?_ ?_
    · refine T.block ?_
      refine T.nil0 tyRowGlyph 45 ?_
      refine T.lp (η := (Option Addr × Nat)) (fun s539 h => (fun a536 c537 => [(4, .slice a536 s539.2.length c537), (32, .slice a265 e268.length c266), (33, .int .i64 (e268.length : Int)), (34, .int .i64 s539.1)]) h.1 h.2) (fun s539 h => (fun a536 c537 => [Ch.arr tyRowGlyph 45 a536 c537 s539.2, Ch.box g1 26 [.slice a_0_0 r_.cells.length c_0_0, .bool r_.wrapped]]) h.1 h.2) (fun s539 h => (fun a536 c537 => [Im.sl tyRowCell a265 c266 e268, Im.sl tyRowCell a_0_0 c_0_0 r_.cells]) h.1 h.2) (none, 0) [0, 0] [0, 1] H626 ⟨rfl, rfl, rfl, rfl, trivial⟩ rfl rfl ?_
      rintro k s539 ⟨a536, c537⟩ z629 H628 hag630 hbr631
      refine T.seq ?_
      refine T.region ?_
      refine L.q 1 rfl ?_
      refine L.nil ?_
      refine E.then ?_
      refine T.seq ?_
      refine T.bif rfl H628 (fun hc H633 => ?_) (fun hc H633 => ?_)
      · refine T.skip ?_
        refine E.then ?_
        refine T.seq ?_
        obtain ⟨e686, H687, H688⟩ := bnd H633
        refine T.join (η := Unit × ((Option Addr × Nat))) (fun h => True) (fun h => (fun a683 c684 => [(4, .slice a683 e686.length c684), (32, .slice a265 e268.length c266), (33, .int .i64 (e268.length : Int)), (34, .int .i64 s539.1)]) h.2.1 h.2.2) (fun h => (fun a683 c684 => [Ch.arr tyRowGlyph 45 a683 c684 e686, Ch.box g1 26 [.slice a_0_0 r_.cells.length c_0_0, .bool r_.wrapped]]) h.2.1 h.2.2) (fun h => (fun a683 c684 => [Im.sl tyRowCell a265 c266 e268, Im.sl tyRowCell a_0_0 c_0_0 r_.cells]) h.2.1 h.2.2) ?_ ?_
        · refine T.block ?_
          refine T.seq ?_
          refine T.region ?_
          obtain ⟨x689, h690, H691⟩ := bnd H687
          refine L.addr 0 rfl (idx_lt h690) fun b692 o693 e694 => ?_
          obtain rfl : a265 = some ⟨b692, o693, none⟩ := e694
          refine L.y (Yl.ia h690 rfl rfl rfl rfl rfl rfl) rfl rfl rfl ?_
          refine L.el 0 rfl (idx_some h690).2 ?_
          rintro _
          refine L.y (Yl.ldc 0 0 rfl rfl rfl rfl) rfl rfl rfl ?_
          refine L.a [] [] (Ac.alloc rfl rfl) rfl rfl rfl rfl rfl ?_
          intro g696
          refine L.a [0] [] (Ac.stb rfl rfl rfl rfl rfl rfl) rfl rfl rfl rfl rfl ?_
          intro _
          refine L.nil ?_
          refine E.then ?_
          refine T.seq ?_
          obtain ⟨e700, H701, H702⟩ := bnd H691
          refine T.join (η := Unit × Unit) (fun h => True) (fun h => [(4, .slice a536 s539.2.length c537), (6, .pointer (some ⟨g696, 0, none⟩)), (32, .slice (some ⟨b692, o693, none⟩) e268.length c266), (33, .int .i64 (e268.length : Int)), (34, .int .i64 s539.1), (45, .bool e700)]) (fun h => [Ch.box g696 80 [.int .i32 x689.rune, .int .i64 x689.style, .int .i64 x689.part], Ch.box g1 26 [.slice a_0_0 r_.cells.length c_0_0, .bool r_.wrapped], Ch.arr tyRowGlyph 45 a536 c537 s539.2]) (fun h => [Im.cells b692 (o693 + s539.1.toNat * 3) [.int .i32 x689.rune, .int .i64 x689.style, .int .i64 x689.part], Im.sl tyRowCell (some ⟨b692, o693, none⟩) c266 e268, Im.sl tyRowCell a_0_0 c_0_0 r_.cells]) ?_ ?_
          · refine T.region ?_
            refine L.q 1 rfl ?_
            refine L.y (Yl.ldb 0 rfl rfl rfl rfl) rfl rfl rfl ?_
            refine L.q 2 rfl ?_
            refine L.cs 41 H701 rfl (fun hc H703 => ?_) (fun hc H703 => ?_)
            · refine L.q 4 rfl ?_
              refine L.nil ?_
              have hr := Option.some.inj H703
              subst e700
              exact E.give ((), ()) [0, 1, 0] [0, 1, 2] trivial ⟨rfl, rfl, rfl, rfl, rfl, rfl, trivial⟩ rfl rfl
            · refine L.q 1 rfl ?_
              refine L.y (Yl.ldb 0 rfl rfl rfl rfl) rfl rfl rfl ?_
              refine L.q 2 rfl ?_
              refine L.nil ?_
              have hr := Option.some.inj H703
              subst e700
              exact E.give ((), ()) [0, 1, 0] [0, 1, 2] trivial ⟨rfl, rfl, rfl, rfl, rfl, rfl, trivial⟩ rfl rfl
          · rintro ⟨_, ⟨⟩⟩ _
            refine T.bif rfl H702 (fun hc H704 => ?_) (fun hc H704 => ?_)
            · refine T.region ?_
              refine L.q 2 rfl ?_
              refine L.y (Yl.ldb 0 rfl rfl rfl rfl) rfl rfl rfl ?_
              refine L.q 1 rfl ?_
              refine L.y (Yl.ldb 0 rfl rfl rfl rfl) rfl rfl rfl ?_
              refine L.q 1 rfl ?_
              refine L.a [] [] (Ac.bs (ty := tyRowGlyph) (xs := [(RowGlyph.mk x689.rune x689.style)]) (.cons () [] rfl .nil) rfl rfl rfl rfl rfl rfl rfl) rfl rfl rfl rfl rfl ?_
              intro g705
              refine L.frz 0 rfl ?_
              obtain ⟨_, h708, H709⟩ := bnd H704
              refine L.a [2] [0] (Ac.ap (ty := tyRowGlyph) h708 rfl rfl rfl rfl rfl rfl rfl) rfl rfl rfl rfl rfl ?_
              rintro ⟨a710, c711⟩
              refine L.q 1 rfl ?_
              refine L.nil ?_
              refine E.block ?_
              have hr := Option.some.inj H709
              subst e686
              exact E.give ((), (a710, c711)) [0, 1] [2, 3] trivial ⟨rfl, rfl, rfl, rfl, trivial⟩ rfl rfl
            · refine T.skip ?_
              refine E.block ?_
              have hr := Option.some.inj H704
              subst e686
              exact E.give ((), (a536, c537)) [2, 1] [1, 2] trivial ⟨rfl, rfl, rfl, rfl, trivial⟩ rfl rfl
        · rintro ⟨_, ⟨a683, c684⟩⟩ _
          refine T.region ?_
          refine L.q 2 rfl ?_
          refine L.nil ?_
          have hr := Option.some.inj H688
          subst z629
          exact E.give (_, (a683, c684)) [0, 0] [0, 1] (hag630 _ rfl) ⟨rfl, rfl, rfl, rfl, trivial⟩ rfl rfl
      · refine T.exit ?_
        refine E.then_exit' ?_
        refine E.then_exit' ?_
        refine E.block_here ?_
        have hr := Option.some.inj H633
        subst z629
        have hb := hbr631 _ rfl
        subst e625
        exact E.give ((), (a536, c537)) [0, 0] [0, 1] trivial ⟨rfl, trivial⟩ rfl rfl
    · rintro ⟨_, ⟨a622, c623⟩⟩ _
      refine T.seq ?_
      refine T.region ?_
      refine L.q 2 rfl ?_
      refine L.nil ?_
      refine E.then ?_
      refine T.ret ?_
      have hr := Option.some.inj H627
      subst r
      exact E.ret (a622, c623) [0] [] (.tmp rfl .nil) rfl rfl rfl

theorem c_law09_awake {r : Bool} (H : p_law09_awake = some r) : CT G 12 [] [] [Im.sl tyWideSpan (some ⟨0, 0, none⟩) 13 t_wide_nones, Im.sl tyWideSpan (some ⟨1, 0, none⟩) 14 t_wide_twos] (fun h : Unit => .bool r) (fun h => []) (fun h => []) := by
  delta p_law09_awake at H
  refine CT.of Go.Proofs.Tryd.func12 (by kernel_rfl) rfl rfl rfl fun K => ?_
  refine T.seq ?_
  refine T.region ?_
  refine L.q 1 rfl ?_
  refine L.nil ?_
  refine E.then ?_
  refine T.seq ?_
  refine T.region ?_
  obtain ⟨r1, h2, H3⟩ := bnd H
  refine L.a [] [] (Ac.call (c_row_Blank h2) rfl rfl rfl rfl) rfl rfl rfl rfl rfl ?_
  rintro ⟨a4, c5⟩
  obtain ⟨r7, h8, H9⟩ := bnd H3
  refine L.a [] [0, 1, 2] (Ac.call (c_row_Row_Put a4 c5 h8) rfl rfl rfl rfl) rfl rfl rfl rfl rfl ?_
  rintro ⟨a10, c11⟩
  obtain ⟨r13, h14, H15⟩ := bnd H9
  refine L.a [] [0, 2, 3] (Ac.call (c_row_Row_Put a10 c11 h14) rfl rfl rfl rfl) rfl rfl rfl rfl rfl ?_
  rintro ⟨a16, c17⟩
  refine L.a [] [] (Ac.alloc rfl rfl) rfl rfl rfl rfl rfl ?_
  intro g19
  refine L.a [0] [] (Ac.stb rfl rfl rfl rfl rfl rfl) rfl rfl rfl rfl rfl ?_
  intro _
  refine L.nil ?_
  refine E.then ?_
  refine T.seq ?_
  obtain ⟨e81, H82, H83⟩ := bnd H15
  refine T.join (η := Unit × Unit) (fun h => True) (fun h => [(0, .bool e81)]) (fun h => [Ch.box g19 26 [.slice a16 r13.cells.length c17, .bool r13.wrapped]]) (fun h => [Im.sl tyRowCell a16 c17 r13.cells, Im.sl tyRowCell a10 c11 r7.cells, Im.sl tyRowCell a4 c5 r1.cells, Im.sl tyWideSpan (some ⟨0, 0, none⟩) 13 t_wide_nones, Im.sl tyWideSpan (some ⟨1, 0, none⟩) 14 t_wide_twos]) ?_ ?_
  · refine T.region ?_
    refine L.q 1 rfl ?_
    refine L.y (Yl.ldb 0 rfl rfl rfl rfl) rfl rfl rfl ?_
    refine L.q 3 rfl ?_
    refine L.cs 9 H82 rfl (fun hc H84 => ?_) (fun hc H84 => ?_)
    · refine L.q 1 rfl ?_
      refine L.y (Yl.ldb 0 rfl rfl rfl rfl) rfl rfl rfl ?_
      obtain ⟨x85, h86, H87⟩ := bnd H84
      refine L.addr 0 rfl (idx_lt h86) fun b88 o89 e90 => ?_
      obtain rfl : a16 = some ⟨b88, o89, none⟩ := e90
      refine L.y (Yl.ia h86 rfl rfl rfl rfl rfl rfl) rfl rfl rfl ?_
      refine L.el 0 rfl (idx_some h86).2 ?_
      rintro _
      refine L.q 1 rfl ?_
      refine L.y (Yl.ldc 0 0 rfl rfl rfl rfl) rfl rfl rfl ?_
      refine L.q 3 rfl ?_
      refine L.cs 17 H87 rfl (fun hc H92 => ?_) (fun hc H92 => ?_)
      · refine L.q 1 rfl ?_
        refine L.y (Yl.ldb 0 rfl rfl rfl rfl) rfl rfl rfl ?_
        obtain ⟨x93, h94, H95⟩ := bnd H92
        refine L.y (Yl.ia h94 rfl rfl rfl rfl rfl rfl) rfl rfl rfl ?_
        refine L.el 1 rfl (idx_some h94).2 ?_
        rintro _
        refine L.q 1 rfl ?_
        refine L.y (Yl.ldc 0 0 rfl rfl rfl rfl) rfl rfl rfl ?_
        refine L.q 3 rfl ?_
        refine L.cs 25 H95 rfl (fun hc H97 => ?_) (fun hc H97 => ?_)
        · refine L.q 1 rfl ?_
          refine L.y (Yl.ldb 0 rfl rfl rfl rfl) rfl rfl rfl ?_
          obtain ⟨x98, h99, H100⟩ := bnd H97
          refine L.y (Yl.ia h99 rfl rfl rfl rfl rfl rfl) rfl rfl rfl ?_
          refine L.el 2 rfl (idx_some h99).2 ?_
          rintro _
          refine L.q 1 rfl ?_
          refine L.y (Yl.ldc 0 0 rfl rfl rfl rfl) rfl rfl rfl ?_
          refine L.q 3 rfl ?_
          refine L.cs 33 H100 rfl (fun hc H102 => ?_) (fun hc H102 => ?_)
          · refine L.q 1 rfl ?_
            refine L.y (Yl.ldb 0 rfl rfl rfl rfl) rfl rfl rfl ?_
            obtain ⟨x103, h104, H105⟩ := bnd H102
            refine L.y (Yl.ia h104 rfl rfl rfl rfl rfl rfl) rfl rfl rfl ?_
            refine L.el 3 rfl (idx_some h104).2 ?_
            rintro _
            refine L.q 1 rfl ?_
            refine L.y (Yl.ldc 0 2 rfl rfl rfl rfl) rfl rfl rfl ?_
            refine L.q 3 rfl ?_
            refine L.cs 41 H105 rfl (fun hc H107 => ?_) (fun hc H107 => ?_)
            · refine L.y (Yl.ldb 0 rfl rfl rfl rfl) rfl rfl rfl ?_
              obtain ⟨r108, h109, H110⟩ := bnd H107
              refine L.a [] [4] (Ac.call (c_row_Row_Glyphs (some ⟨b88, o89, none⟩) c17 h109) rfl rfl rfl rfl) rfl rfl rfl rfl rfl ?_
              rintro ⟨a111, c112⟩
              refine L.q 4 rfl ?_
              refine L.nil ?_
              have hr := Option.some.inj H110
              subst e81
              exact E.give ((), ()) [1] [4, 5, 6, 7, 8] trivial ⟨rfl, trivial⟩ rfl rfl
            · refine L.q 6 rfl ?_
              refine L.nil ?_
              have hr := Option.some.inj H107
              subst e81
              exact E.give ((), ()) [0] [4, 5, 6, 7, 8] trivial ⟨rfl, trivial⟩ rfl rfl
          · refine L.q 14 rfl ?_
            refine L.nil ?_
            have hr := Option.some.inj H102
            subst e81
            exact E.give ((), ()) [0] [3, 4, 5, 6, 7] trivial ⟨rfl, trivial⟩ rfl rfl
        · refine L.q 22 rfl ?_
          refine L.nil ?_
          have hr := Option.some.inj H97
          subst e81
          exact E.give ((), ()) [0] [2, 3, 4, 5, 6] trivial ⟨rfl, trivial⟩ rfl rfl
      · refine L.q 30 rfl ?_
        refine L.nil ?_
        have hr := Option.some.inj H92
        subst e81
        exact E.give ((), ()) [0] [1, 2, 3, 4, 5] trivial ⟨rfl, trivial⟩ rfl rfl
    · refine L.q 38 rfl ?_
      refine L.nil ?_
      have hr := Option.some.inj H84
      subst e81
      exact E.give ((), ()) [0] [0, 1, 2, 3, 4] trivial ⟨rfl, trivial⟩ rfl rfl
  · rintro ⟨_, ⟨⟩⟩ _
    refine T.ret ?_
    have hr := Option.some.inj H83
    subst r
    exact E.ret () [] [] (.tmp rfl .nil) rfl rfl rfl

end Go.Tw.X

set_option linter.unusedVariables false
set_option linter.unusedSimpArgs false
set_option maxRecDepth 10000
namespace Go.Tw.X
open Go Go.Tw
theorem c_ref09_near {n_ : Int} {lo : Int} {hi : Int} {r : Int} (H : p_ref09_near n_ lo hi = some r) : CT G 45 [.int .i64 n_, .int .i64 lo, .int .i64 hi] [] [] (fun h : Unit => .int .i64 r) (fun h => []) (fun h => []) := by
  delta p_ref09_near at H
  refine CT.of Go.Proofs.Tryd.func45 (by kernel_rfl) rfl rfl rfl fun K => ?_
  refine T.seq ?_
  refine T.region ?_
  refine L.q 1 rfl ?_
  refine L.nil ?_
  refine E.then ?_
  refine T.seq ?_
  refine T.seq ?_
  refine T.region ?_
  refine L.q 3 rfl ?_
  refine L.nil ?_
  refine E.then ?_
  refine T.bif rfl H (fun hc H2 => ?_) (fun hc H2 => ?_)
  · refine T.seq ?_
    refine T.region ?_
    refine L.q 2 rfl ?_
    refine L.nil ?_
    refine E.then ?_
    refine T.ret ?_
    refine E.then_ret ?_
    have hr := Option.some.inj H2
    subst r
    exact E.ret () [] [] (.tmp rfl .nil) rfl rfl rfl
  · refine T.skip ?_
    refine E.then ?_
    refine T.seq ?_
    refine T.seq ?_
    refine T.region ?_
    refine L.q 3 rfl ?_
    refine L.nil ?_
    refine E.then ?_
    refine T.bif rfl H2 (fun hc H4 => ?_) (fun hc H4 => ?_)
    · refine T.seq ?_
      refine T.region ?_
      refine L.q 2 rfl ?_
      refine L.nil ?_
      refine E.then ?_
      refine T.ret ?_
      refine E.then_ret ?_
      have hr := Option.some.inj H4
      subst r
      exact E.ret () [] [] (.tmp rfl .nil) rfl rfl rfl
    · refine T.skip ?_
      refine E.then ?_
      refine T.seq ?_
      refine T.region ?_
      refine L.q 2 rfl ?_
      refine L.nil ?_
      refine E.then ?_
      refine T.ret ?_
      have hr := Option.some.inj H4
      subst r
      exact E.ret () [] [] (.tmp rfl .nil) rfl rfl rfl

theorem c_ref09_Blank {w : Int} {style : Int} {r : Ref09Row} (H : p_ref09_Blank w style = some r) : CT G 14 [.int .i64 w, .int .i64 style] [] [] (fun h : (Option Addr × Nat) => .agg #[.slice h.1 r.l.length h.2, .bool r.wrapped]) (fun h => []) (fun h => [Im.sl tyRef09Cell h.1 h.2 r.l]) := by
  delta p_ref09_Blank at H
  refine CT.of Go.Proofs.Tryd.func14 (by kernel_rfl) rfl rfl rfl fun K => ?_
  refine T.seq ?_
  refine T.region ?_
  refine L.a [] [] (Ac.alloc rfl rfl) rfl rfl rfl rfl rfl ?_
  intro g1
  refine L.nil ?_
  refine E.then ?_
  refine T.seq ?_
  refine T.region ?_
  refine L.a [] [] (Ac.bs (ty := tyRef09Cell) (xs := []) .nil rfl rfl rfl rfl rfl rfl rfl) rfl rfl rfl rfl rfl ?_
  intro g2
  refine L.q 1 rfl ?_
  refine L.nil ?_
  refine E.then ?_
  refine T.seq ?_
  refine T.seq ?_
  refine T.region ?_
  refine L.q 1 rfl ?_
  refine L.nil ?_
  refine E.then ?_
  obtain ⟨e87, H88, H89⟩ := bnd H
  refine T.join (η := Unit × ((Option Addr × Nat))) (fun h => True) (fun h => (fun a84 c85 => [(4, .pointer (some ⟨g1, 0, none⟩)), (5, .slice a84 e87.length c85)]) h.2.1 h.2.2) (fun h => (fun a84 c85 => [Ch.arr tyRef09Cell 84 a84 c85 e87, Ch.box g1 30 [.slice none 0 0, .bool false]]) h.2.1 h.2.2) (fun h => (fun a84 c85 => []) h.2.1 h.2.2) ?_ ?_
  · refine T.block ?_
    refine T.lp (η := (Option Addr × Nat)) (fun s61 h => (fun a57 c58 => [(0, .int .i64 w), (1, .int .i64 style), (4, .pointer (some ⟨g1, 0, none⟩)), (5, .slice a57 s61.1.length c58), (6, .int .i64 s61.2)]) h.1 h.2) (fun s61 h => (fun a57 c58 => [Ch.arr tyRef09Cell 84 a57 c58 s61.1, Ch.box g1 30 [.slice none 0 0, .bool false]]) h.1 h.2) (fun s61 h => (fun a57 c58 => []) h.1 h.2) ((some ⟨g2, 0, none⟩), 0) [0, 0] [] H88 ⟨rfl, rfl, rfl, rfl, rfl, trivial⟩ rfl rfl ?_
    rintro k s61 ⟨a57, c58⟩ z91 H90 hag92 hbr93
    refine T.seq ?_
    refine T.seq ?_
    refine T.region ?_
    refine L.q 2 rfl ?_
    obtain ⟨r94, h95, H96⟩ := bnd H90
    refine L.a [] [] (Ac.call (c_ref09_near h95) rfl rfl rfl rfl) rfl rfl rfl rfl rfl ?_
    rintro ⟨⟩
    refine L.q 1 rfl ?_
    refine L.nil ?_
    refine E.then ?_
    refine T.bif rfl H96 (fun hc H98 => ?_) (fun hc H98 => ?_)
    · refine T.skip ?_
      refine E.then ?_
      refine T.seq ?_
      refine T.block ?_
      refine T.region ?_
      refine L.q 3 rfl ?_
      refine L.a [] [] (Ac.bs (ty := tyRef09Cell) (xs := [(Ref09Cell.mk 32 style 0)]) (.cons () [] rfl .nil) rfl rfl rfl rfl rfl rfl rfl) rfl rfl rfl rfl rfl ?_
      intro g107
      refine L.frz 0 rfl ?_
      obtain ⟨_, h110, H111⟩ := bnd H98
      refine L.a [0] [0] (Ac.ap (ty := tyRef09Cell) h110 rfl rfl rfl rfl rfl rfl rfl) rfl rfl rfl rfl rfl ?_
      rintro ⟨a112, c113⟩
      refine L.q 1 rfl ?_
      refine L.nil ?_
      refine E.block ?_
      refine E.then ?_
      refine T.region ?_
      refine L.q 3 rfl ?_
      refine L.nil ?_
      have hr := Option.some.inj H111
      subst z91
      exact E.give (_, (a112, c113)) [0, 0] [] (hag92 _ rfl) ⟨rfl, rfl, rfl, rfl, rfl, trivial⟩ rfl rfl
    · refine T.exit ?_
      refine E.then_exit' ?_
      refine E.then_exit' ?_
      refine E.block_here ?_
      have hr := Option.some.inj H98
      subst z91
      have hb := hbr93 _ rfl
      subst e87
      exact E.give ((), (a57, c58)) [0, 0] [] trivial ⟨rfl, rfl, trivial⟩ rfl rfl
  · rintro ⟨_, ⟨a84, c85⟩⟩ _
    refine T.seq ?_
    refine T.region ?_
    refine L.q 2 rfl ?_
    refine L.a [1] [] (Ac.stb rfl rfl rfl rfl rfl rfl) rfl rfl rfl rfl rfl ?_
    intro _
    refine L.nil ?_
    refine E.then ?_
    refine T.ret ?_
    refine E.frz 1 rfl ?_
    have hr := Option.some.inj H89
    subst r
    exact E.ret (a84, c85) [] [0] (.cell 0 rfl rfl rfl .nil) rfl rfl rfl

theorem c_ref06_Of {r_ : Int} {r : Int} (H : p_ref06_Of r_ = some r) : CT G 77 [.int .i64 r_] [] [] (fun h : Unit => .int .i64 r) (fun h => []) (fun h => []) := by
  delta p_ref06_Of at H
  refine CT.of Go.Proofs.Tryd.func77 (by kernel_rfl) rfl rfl rfl fun K => ?_
  refine T.seq ?_
  refine T.region ?_
  refine L.q 1 rfl ?_
  refine L.nil ?_
  refine E.then ?_
  refine T.seq ?_
  refine T.region ?_
  refine L.q 11 rfl ?_
  refine L.a [] [] (Ac.bs (ty := tyArr2Int) (xs := [(Arr2Int.mk 127 159), (Arr2Int.mk 768 879), (Arr2Int.mk 6832 6911), (Arr2Int.mk 7616 7679), (Arr2Int.mk 8203 8207), (Arr2Int.mk 8400 8447), (Arr2Int.mk 55296 57343), (Arr2Int.mk 65024 65039), (Arr2Int.mk 65056 65071), (Arr2Int.mk 65279 65279), (Arr2Int.mk 917760 917999)]) (.cons () [] rfl (.cons () [] rfl (.cons () [] rfl (.cons () [] rfl (.cons () [] rfl (.cons () [] rfl (.cons () [] rfl (.cons () [] rfl (.cons () [] rfl (.cons () [] rfl (.cons () [] rfl .nil))))))))))) rfl rfl rfl rfl rfl rfl rfl) rfl rfl rfl rfl rfl ?_
  intro g1
  refine L.q 1 rfl ?_
  refine L.nil ?_
  refine E.then ?_
  refine T.seq ?_
  refine T.region ?_
  refine L.q 14 rfl ?_
  refine L.a [] [] (Ac.bs (ty := tyArr2Int) (xs := [(Arr2Int.mk 4352 4447), (Arr2Int.mk 11904 12350), (Arr2Int.mk 12353 13311), (Arr2Int.mk 13312 19903), (Arr2Int.mk 19968 40959), (Arr2Int.mk 40960 42191), (Arr2Int.mk 44032 55203), (Arr2Int.mk 63744 64255), (Arr2Int.mk 65072 65135), (Arr2Int.mk 65280 65376), (Arr2Int.mk 65504 65510), (Arr2Int.mk 127744 128591), (Arr2Int.mk 129280 129535), (Arr2Int.mk 131072 262141)]) (.cons () [] rfl (.cons () [] rfl (.cons () [] rfl (.cons () [] rfl (.cons () [] rfl (.cons () [] rfl (.cons () [] rfl (.cons () [] rfl (.cons () [] rfl (.cons () [] rfl (.cons () [] rfl (.cons () [] rfl (.cons () [] rfl (.cons () [] rfl .nil)))))))))))))) rfl rfl rfl rfl rfl rfl rfl) rfl rfl rfl rfl rfl ?_
  intro g3
  refine L.q 1 rfl ?_
  refine L.nil ?_
  refine E.then ?_
  refine T.seq ?_
  refine T.seq ?_
  obtain ⟨e8, H9, H10⟩ := bnd H
  refine T.join (η := Unit × Unit) (fun h => True) (fun h => [(0, .int .i64 r_), (3, .slice (some ⟨g1, 0, none⟩) [(Arr2Int.mk 127 159), (Arr2Int.mk 768 879), (Arr2Int.mk 6832 6911), (Arr2Int.mk 7616 7679), (Arr2Int.mk 8203 8207), (Arr2Int.mk 8400 8447), (Arr2Int.mk 55296 57343), (Arr2Int.mk 65024 65039), (Arr2Int.mk 65056 65071), (Arr2Int.mk 65279 65279), (Arr2Int.mk 917760 917999)].length 11), (4, .slice (some ⟨g3, 0, none⟩) [(Arr2Int.mk 4352 4447), (Arr2Int.mk 11904 12350), (Arr2Int.mk 12353 13311), (Arr2Int.mk 13312 19903), (Arr2Int.mk 19968 40959), (Arr2Int.mk 40960 42191), (Arr2Int.mk 44032 55203), (Arr2Int.mk 63744 64255), (Arr2Int.mk 65072 65135), (Arr2Int.mk 65280 65376), (Arr2Int.mk 65504 65510), (Arr2Int.mk 127744 128591), (Arr2Int.mk 129280 129535), (Arr2Int.mk 131072 262141)].length 14), (41, .bool e8)]) (fun h => [Ch.arr tyArr2Int 133 (some ⟨g3, 0, none⟩) 14 [(Arr2Int.mk 4352 4447), (Arr2Int.mk 11904 12350), (Arr2Int.mk 12353 13311), (Arr2Int.mk 13312 19903), (Arr2Int.mk 19968 40959), (Arr2Int.mk 40960 42191), (Arr2Int.mk 44032 55203), (Arr2Int.mk 63744 64255), (Arr2Int.mk 65072 65135), (Arr2Int.mk 65280 65376), (Arr2Int.mk 65504 65510), (Arr2Int.mk 127744 128591), (Arr2Int.mk 129280 129535), (Arr2Int.mk 131072 262141)], Ch.arr tyArr2Int 133 (some ⟨g1, 0, none⟩) 11 [(Arr2Int.mk 127 159), (Arr2Int.mk 768 879), (Arr2Int.mk 6832 6911), (Arr2Int.mk 7616 7679), (Arr2Int.mk 8203 8207), (Arr2Int.mk 8400 8447), (Arr2Int.mk 55296 57343), (Arr2Int.mk 65024 65039), (Arr2Int.mk 65056 65071), (Arr2Int.mk 65279 65279), (Arr2Int.mk 917760 917999)]]) (fun h => []) ?_ ?_
  · refine T.region ?_
    refine L.q 3 rfl ?_
    refine L.cs 38 H9 rfl (fun hc H11 => ?_) (fun hc H11 => ?_)
    · refine L.q 3 rfl ?_
      refine L.nil ?_
      have hr := Option.some.inj H11
      subst e8
      exact E.give ((), ()) [0, 0] [] trivial ⟨rfl, rfl, rfl, rfl, trivial⟩ rfl rfl
    · refine L.q 3 rfl ?_
      refine L.nil ?_
      have hr := Option.some.inj H11
      subst e8
      exact E.give ((), ()) [0, 0] [] trivial ⟨rfl, rfl, rfl, rfl, trivial⟩ rfl rfl
  · rintro ⟨_, ⟨⟩⟩ _
    refine T.bif rfl H10 (fun hc H13 => ?_) (fun hc H13 => ?_)
    · refine T.seq ?_
      refine T.region ?_
      refine L.q 1 rfl ?_
      refine L.nil ?_
      refine E.then ?_
      refine T.ret ?_
      refine E.then_ret ?_
      have hr := Option.some.inj H13
      subst r
      exact E.ret () [] [] (.tmp rfl .nil) rfl rfl rfl
    · refine T.skip ?_
      refine E.then ?_
      refine T.seq ?_
      refine T.seq ?_
      refine T.region ?_
      refine L.q 3 rfl ?_
      refine L.nil ?_
      refine E.then ?_
      obtain ⟨y97, H98, H99⟩ := bnd H13
      refine T.join (η := Unit × Unit) (fun h => y97 = .inl h.1) (fun h => (fun e96 => [(0, .int .i64 r_), (4, .slice (some ⟨g3, 0, none⟩) [(Arr2Int.mk 4352 4447), (Arr2Int.mk 11904 12350), (Arr2Int.mk 12353 13311), (Arr2Int.mk 13312 19903), (Arr2Int.mk 19968 40959), (Arr2Int.mk 40960 42191), (Arr2Int.mk 44032 55203), (Arr2Int.mk 63744 64255), (Arr2Int.mk 65072 65135), (Arr2Int.mk 65280 65376), (Arr2Int.mk 65504 65510), (Arr2Int.mk 127744 128591), (Arr2Int.mk 129280 129535), (Arr2Int.mk 131072 262141)].length 14)]) h.1) (fun h => (fun e96 => [Ch.arr tyArr2Int 133 (some ⟨g3, 0, none⟩) 14 [(Arr2Int.mk 4352 4447), (Arr2Int.mk 11904 12350), (Arr2Int.mk 12353 13311), (Arr2Int.mk 13312 19903), (Arr2Int.mk 19968 40959), (Arr2Int.mk 40960 42191), (Arr2Int.mk 44032 55203), (Arr2Int.mk 63744 64255), (Arr2Int.mk 65072 65135), (Arr2Int.mk 65280 65376), (Arr2Int.mk 65504 65510), (Arr2Int.mk 127744 128591), (Arr2Int.mk 129280 129535), (Arr2Int.mk 131072 262141)]]) h.1) (fun h => (fun e96 => []) h.1) ?_ ?_
      · refine T.block ?_
        refine T.lp (η := Unit) (fun s69 h => [(0, .int .i64 r_), (4, .slice (some ⟨g3, 0, none⟩) [(Arr2Int.mk 4352 4447), (Arr2Int.mk 11904 12350), (Arr2Int.mk 12353 13311), (Arr2Int.mk 13312 19903), (Arr2Int.mk 19968 40959), (Arr2Int.mk 40960 42191), (Arr2Int.mk 44032 55203), (Arr2Int.mk 63744 64255), (Arr2Int.mk 65072 65135), (Arr2Int.mk 65280 65376), (Arr2Int.mk 65504 65510), (Arr2Int.mk 127744 128591), (Arr2Int.mk 129280 129535), (Arr2Int.mk 131072 262141)].length 14), (42, .slice (some ⟨g1, 0, none⟩) [(Arr2Int.mk 127 159), (Arr2Int.mk 768 879), (Arr2Int.mk 6832 6911), (Arr2Int.mk 7616 7679), (Arr2Int.mk 8203 8207), (Arr2Int.mk 8400 8447), (Arr2Int.mk 55296 57343), (Arr2Int.mk 65024 65039), (Arr2Int.mk 65056 65071), (Arr2Int.mk 65279 65279), (Arr2Int.mk 917760 917999)].length 11), (43, .int .i64 ([(Arr2Int.mk 127 159), (Arr2Int.mk 768 879), (Arr2Int.mk 6832 6911), (Arr2Int.mk 7616 7679), (Arr2Int.mk 8203 8207), (Arr2Int.mk 8400 8447), (Arr2Int.mk 55296 57343), (Arr2Int.mk 65024 65039), (Arr2Int.mk 65056 65071), (Arr2Int.mk 65279 65279), (Arr2Int.mk 917760 917999)].length : Int)), (44, .int .i64 s69)]) (fun s69 h => [Ch.arr tyArr2Int 133 (some ⟨g3, 0, none⟩) 14 [(Arr2Int.mk 4352 4447), (Arr2Int.mk 11904 12350), (Arr2Int.mk 12353 13311), (Arr2Int.mk 13312 19903), (Arr2Int.mk 19968 40959), (Arr2Int.mk 40960 42191), (Arr2Int.mk 44032 55203), (Arr2Int.mk 63744 64255), (Arr2Int.mk 65072 65135), (Arr2Int.mk 65280 65376), (Arr2Int.mk 65504 65510), (Arr2Int.mk 127744 128591), (Arr2Int.mk 129280 129535), (Arr2Int.mk 131072 262141)], Ch.arr tyArr2Int 133 (some ⟨g1, 0, none⟩) 11 [(Arr2Int.mk 127 159), (Arr2Int.mk 768 879), (Arr2Int.mk 6832 6911), (Arr2Int.mk 7616 7679), (Arr2Int.mk 8203 8207), (Arr2Int.mk 8400 8447), (Arr2Int.mk 55296 57343), (Arr2Int.mk 65024 65039), (Arr2Int.mk 65056 65071), (Arr2Int.mk 65279 65279), (Arr2Int.mk 917760 917999)]]) (fun s69 h => []) () [0, 0] [] H98 ⟨rfl, rfl, rfl, rfl, rfl, trivial⟩ rfl rfl ?_
        rintro k s69 ⟨⟩ z101 H100 hag102 hbr103
        refine T.seq ?_
        refine T.region ?_
        refine L.q 1 rfl ?_
        refine L.nil ?_
        refine E.then ?_
        refine T.seq ?_
        refine T.bif rfl H100 (fun hc H105 => ?_) (fun hc H105 => ?_)
        · refine T.skip ?_
          refine E.then ?_
          refine T.seq ?_
          refine T.block ?_
          refine T.seq ?_
          refine T.region ?_
          obtain ⟨x118, h119, H120⟩ := bnd H105
          refine L.y (Yl.ia h119 rfl rfl rfl rfl rfl rfl) rfl rfl rfl ?_
          refine L.y (Yl.lo (v := .agg #[.int .i64 x118.e0, .int .i64 x118.e1]) 1 s69.toNat 0 (idx_some h119).2 rfl rfl rfl rfl (fun _ => rfl)) rfl rfl rfl ?_
          refine L.a [] [] (Ac.alloc rfl rfl) rfl rfl rfl rfl rfl ?_
          intro g121
          refine L.a [0] [] (Ac.stb rfl rfl rfl rfl rfl rfl) rfl rfl rfl rfl rfl ?_
          intro _
          refine L.nil ?_
          refine E.then ?_
          refine T.seq ?_
          obtain ⟨e125, H126, H127⟩ := bnd H120
          refine T.join (η := Unit × Unit) (fun h => True) (fun h => [(0, .int .i64 r_), (4, .slice (some ⟨g3, 0, none⟩) [(Arr2Int.mk 4352 4447), (Arr2Int.mk 11904 12350), (Arr2Int.mk 12353 13311), (Arr2Int.mk 13312 19903), (Arr2Int.mk 19968 40959), (Arr2Int.mk 40960 42191), (Arr2Int.mk 44032 55203), (Arr2Int.mk 63744 64255), (Arr2Int.mk 65072 65135), (Arr2Int.mk 65280 65376), (Arr2Int.mk 65504 65510), (Arr2Int.mk 127744 128591), (Arr2Int.mk 129280 129535), (Arr2Int.mk 131072 262141)].length 14), (42, .slice (some ⟨g1, 0, none⟩) [(Arr2Int.mk 127 159), (Arr2Int.mk 768 879), (Arr2Int.mk 6832 6911), (Arr2Int.mk 7616 7679), (Arr2Int.mk 8203 8207), (Arr2Int.mk 8400 8447), (Arr2Int.mk 55296 57343), (Arr2Int.mk 65024 65039), (Arr2Int.mk 65056 65071), (Arr2Int.mk 65279 65279), (Arr2Int.mk 917760 917999)].length 11), (43, .int .i64 ([(Arr2Int.mk 127 159), (Arr2Int.mk 768 879), (Arr2Int.mk 6832 6911), (Arr2Int.mk 7616 7679), (Arr2Int.mk 8203 8207), (Arr2Int.mk 8400 8447), (Arr2Int.mk 55296 57343), (Arr2Int.mk 65024 65039), (Arr2Int.mk 65056 65071), (Arr2Int.mk 65279 65279), (Arr2Int.mk 917760 917999)].length : Int)), (44, .int .i64 s69), (57, .bool e125)]) (fun h => [Ch.box g121 133 [.int .i64 x118.e0, .int .i64 x118.e1], Ch.arr tyArr2Int 133 (some ⟨g3, 0, none⟩) 14 [(Arr2Int.mk 4352 4447), (Arr2Int.mk 11904 12350), (Arr2Int.mk 12353 13311), (Arr2Int.mk 13312 19903), (Arr2Int.mk 19968 40959), (Arr2Int.mk 40960 42191), (Arr2Int.mk 44032 55203), (Arr2Int.mk 63744 64255), (Arr2Int.mk 65072 65135), (Arr2Int.mk 65280 65376), (Arr2Int.mk 65504 65510), (Arr2Int.mk 127744 128591), (Arr2Int.mk 129280 129535), (Arr2Int.mk 131072 262141)], Ch.arr tyArr2Int 133 (some ⟨g1, 0, none⟩) 11 [(Arr2Int.mk 127 159), (Arr2Int.mk 768 879), (Arr2Int.mk 6832 6911), (Arr2Int.mk 7616 7679), (Arr2Int.mk 8203 8207), (Arr2Int.mk 8400 8447), (Arr2Int.mk 55296 57343), (Arr2Int.mk 65024 65039), (Arr2Int.mk 65056 65071), (Arr2Int.mk 65279 65279), (Arr2Int.mk 917760 917999)]]) (fun h => []) ?_ ?_
          · refine T.region ?_
            refine L.q 2 rfl ?_
            refine L.y (Yl.ldb 0 rfl rfl rfl rfl) rfl rfl rfl ?_
            refine L.q 2 rfl ?_
            refine L.cs 52 H126 rfl (fun hc H128 => ?_) (fun hc H128 => ?_)
            · refine L.q 2 rfl ?_
              refine L.y (Yl.ldb 0 rfl rfl rfl rfl) rfl rfl rfl ?_
              refine L.q 2 rfl ?_
              refine L.nil ?_
              have hr := Option.some.inj H128
              subst e125
              exact E.give ((), ()) [0, 0, 0] [] trivial ⟨rfl, rfl, rfl, rfl, rfl, rfl, trivial⟩ rfl rfl
            · refine L.q 5 rfl ?_
              refine L.nil ?_
              have hr := Option.some.inj H128
              subst e125
              exact E.give ((), ()) [0, 0, 0] [] trivial ⟨rfl, rfl, rfl, rfl, rfl, rfl, trivial⟩ rfl rfl
          · rintro ⟨_, ⟨⟩⟩ _
            refine T.bif rfl H127 (fun hc H129 => ?_) (fun hc H129 => ?_)
            · refine T.seq ?_
              refine T.region ?_
              refine L.q 1 rfl ?_
              refine L.nil ?_
              refine E.then ?_
              refine T.ret ?_
              refine E.block_ret ?_
              refine E.then_ret ?_
              refine E.then_ret ?_
              refine E.block_ret ?_
              obtain ⟨w130, hz, H131⟩ := inrr_some H129
              subst z101
              have hb := hbr103 _ rfl
              subst y97
              have hw : w130 = r := Option.some.inj H99
              subst w130
              refine E.then_ret ?_
              have hr := Option.some.inj H131
              subst r
              exact E.ret () [] [] (.tmp rfl .nil) rfl rfl rfl
            · refine T.skip ?_
              refine E.block ?_
              refine E.then ?_
              refine T.region ?_
              refine L.q 2 rfl ?_
              refine L.nil ?_
              have hr := Option.some.inj H129
              subst z101
              exact E.give (_, ()) [1, 1] [] (hag102 _ rfl) ⟨rfl, rfl, rfl, rfl, rfl, trivial⟩ rfl rfl
        · refine T.exit ?_
          refine E.then_exit' ?_
          refine E.then_exit' ?_
          refine E.block_here ?_
          have hr := Option.some.inj H105
          subst z101
          have hb := hbr103 _ rfl
          subst y97
          exact E.give (_, ()) [0] [] rfl ⟨rfl, rfl, trivial⟩ rfl rfl
      · rintro ⟨e96, ⟨⟩⟩ hy
        subst hy
        refine T.seq ?_
        refine T.seq ?_
        refine T.region ?_
        refine L.q 3 rfl ?_
        refine L.nil ?_
        refine E.then ?_
        obtain ⟨y215, H216, H217⟩ := bnd H99
        refine T.join (η := Unit × Unit) (fun h => y215 = .inl h.1) (fun h => (fun e214 => []) h.1) (fun h => (fun e214 => []) h.1) (fun h => (fun e214 => []) h.1) ?_ ?_
        · refine T.block ?_
          refine T.lp (η := Unit) (fun s187 h => [(0, .int .i64 r_), (59, .slice (some ⟨g3, 0, none⟩) [(Arr2Int.mk 4352 4447), (Arr2Int.mk 11904 12350), (Arr2Int.mk 12353 13311), (Arr2Int.mk 13312 19903), (Arr2Int.mk 19968 40959), (Arr2Int.mk 40960 42191), (Arr2Int.mk 44032 55203), (Arr2Int.mk 63744 64255), (Arr2Int.mk 65072 65135), (Arr2Int.mk 65280 65376), (Arr2Int.mk 65504 65510), (Arr2Int.mk 127744 128591), (Arr2Int.mk 129280 129535), (Arr2Int.mk 131072 262141)].length 14), (60, .int .i64 ([(Arr2Int.mk 4352 4447), (Arr2Int.mk 11904 12350), (Arr2Int.mk 12353 13311), (Arr2Int.mk 13312 19903), (Arr2Int.mk 19968 40959), (Arr2Int.mk 40960 42191), (Arr2Int.mk 44032 55203), (Arr2Int.mk 63744 64255), (Arr2Int.mk 65072 65135), (Arr2Int.mk 65280 65376), (Arr2Int.mk 65504 65510), (Arr2Int.mk 127744 128591), (Arr2Int.mk 129280 129535), (Arr2Int.mk 131072 262141)].length : Int)), (61, .int .i64 s187)]) (fun s187 h => [Ch.arr tyArr2Int 133 (some ⟨g3, 0, none⟩) 14 [(Arr2Int.mk 4352 4447), (Arr2Int.mk 11904 12350), (Arr2Int.mk 12353 13311), (Arr2Int.mk 13312 19903), (Arr2Int.mk 19968 40959), (Arr2Int.mk 40960 42191), (Arr2Int.mk 44032 55203), (Arr2Int.mk 63744 64255), (Arr2Int.mk 65072 65135), (Arr2Int.mk 65280 65376), (Arr2Int.mk 65504 65510), (Arr2Int.mk 127744 128591), (Arr2Int.mk 129280 129535), (Arr2Int.mk 131072 262141)]]) (fun s187 h => []) () [0] [] H216 ⟨rfl, rfl, rfl, rfl, trivial⟩ rfl rfl ?_
          rintro k s187 ⟨⟩ z219 H218 hag220 hbr221
          refine T.seq ?_
          refine T.region ?_
          refine L.q 1 rfl ?_
          refine L.nil ?_
          refine E.then ?_
          refine T.seq ?_
          refine T.bif rfl H218 (fun hc H223 => ?_) (fun hc H223 => ?_)
          · refine T.skip ?_
            refine E.then ?_
            refine T.seq ?_
            refine T.block ?_
            refine T.seq ?_
            refine T.region ?_
            obtain ⟨x236, h237, H238⟩ := bnd H223
            refine L.y (Yl.ia h237 rfl rfl rfl rfl rfl rfl) rfl rfl rfl ?_
            refine L.y (Yl.lo (v := .agg #[.int .i64 x236.e0, .int .i64 x236.e1]) 0 s187.toNat 0 (idx_some h237).2 rfl rfl rfl rfl (fun _ => rfl)) rfl rfl rfl ?_
            refine L.a [] [] (Ac.alloc rfl rfl) rfl rfl rfl rfl rfl ?_
            intro g239
            refine L.a [0] [] (Ac.stb rfl rfl rfl rfl rfl rfl) rfl rfl rfl rfl rfl ?_
            intro _
            refine L.nil ?_
            refine E.then ?_
            refine T.seq ?_
            obtain ⟨e243, H244, H245⟩ := bnd H238
            refine T.join (η := Unit × Unit) (fun h => True) (fun h => [(0, .int .i64 r_), (59, .slice (some ⟨g3, 0, none⟩) [(Arr2Int.mk 4352 4447), (Arr2Int.mk 11904 12350), (Arr2Int.mk 12353 13311), (Arr2Int.mk 13312 19903), (Arr2Int.mk 19968 40959), (Arr2Int.mk 40960 42191), (Arr2Int.mk 44032 55203), (Arr2Int.mk 63744 64255), (Arr2Int.mk 65072 65135), (Arr2Int.mk 65280 65376), (Arr2Int.mk 65504 65510), (Arr2Int.mk 127744 128591), (Arr2Int.mk 129280 129535), (Arr2Int.mk 131072 262141)].length 14), (60, .int .i64 ([(Arr2Int.mk 4352 4447), (Arr2Int.mk 11904 12350), (Arr2Int.mk 12353 13311), (Arr2Int.mk 13312 19903), (Arr2Int.mk 19968 40959), (Arr2Int.mk 40960 42191), (Arr2Int.mk 44032 55203), (Arr2Int.mk 63744 64255), (Arr2Int.mk 65072 65135), (Arr2Int.mk 65280 65376), (Arr2Int.mk 65504 65510), (Arr2Int.mk 127744 128591), (Arr2Int.mk 129280 129535), (Arr2Int.mk 131072 262141)].length : Int)), (61, .int .i64 s187), (74, .bool e243)]) (fun h => [Ch.box g239 133 [.int .i64 x236.e0, .int .i64 x236.e1], Ch.arr tyArr2Int 133 (some ⟨g3, 0, none⟩) 14 [(Arr2Int.mk 4352 4447), (Arr2Int.mk 11904 12350), (Arr2Int.mk 12353 13311), (Arr2Int.mk 13312 19903), (Arr2Int.mk 19968 40959), (Arr2Int.mk 40960 42191), (Arr2Int.mk 44032 55203), (Arr2Int.mk 63744 64255), (Arr2Int.mk 65072 65135), (Arr2Int.mk 65280 65376), (Arr2Int.mk 65504 65510), (Arr2Int.mk 127744 128591), (Arr2Int.mk 129280 129535), (Arr2Int.mk 131072 262141)]]) (fun h => []) ?_ ?_
            · refine T.region ?_
              refine L.q 2 rfl ?_
              refine L.y (Yl.ldb 0 rfl rfl rfl rfl) rfl rfl rfl ?_
              refine L.q 2 rfl ?_
              refine L.cs 69 H244 rfl (fun hc H246 => ?_) (fun hc H246 => ?_)
              · refine L.q 2 rfl ?_
                refine L.y (Yl.ldb 0 rfl rfl rfl rfl) rfl rfl rfl ?_
                refine L.q 2 rfl ?_
                refine L.nil ?_
                have hr := Option.some.inj H246
                subst e243
                exact E.give ((), ()) [0, 0] [] trivial ⟨rfl, rfl, rfl, rfl, rfl, trivial⟩ rfl rfl
              · refine L.q 5 rfl ?_
                refine L.nil ?_
                have hr := Option.some.inj H246
                subst e243
                exact E.give ((), ()) [0, 0] [] trivial ⟨rfl, rfl, rfl, rfl, rfl, trivial⟩ rfl rfl
            · rintro ⟨_, ⟨⟩⟩ _
              refine T.bif rfl H245 (fun hc H247 => ?_) (fun hc H247 => ?_)
              · refine T.seq ?_
                refine T.region ?_
                refine L.q 1 rfl ?_
                refine L.nil ?_
                refine E.then ?_
                refine T.ret ?_
                refine E.block_ret ?_
                refine E.then_ret ?_
                refine E.then_ret ?_
                refine E.block_ret ?_
                obtain ⟨w248, hz, H249⟩ := inrr_some H247
                subst z219
                have hb := hbr221 _ rfl
                subst y215
                have hw : w248 = r := Option.some.inj H217
                subst w248
                refine E.then_ret ?_
                have hr := Option.some.inj H249
                subst r
                exact E.ret () [] [] (.tmp rfl .nil) rfl rfl rfl
              · refine T.skip ?_
                refine E.block ?_
                refine E.then ?_
                refine T.region ?_
                refine L.q 2 rfl ?_
                refine L.nil ?_
                have hr := Option.some.inj H247
                subst z219
                exact E.give (_, ()) [1] [] (hag220 _ rfl) ⟨rfl, rfl, rfl, rfl, trivial⟩ rfl rfl
          · refine T.exit ?_
            refine E.then_exit' ?_
            refine E.then_exit' ?_
            refine E.block_here ?_
            have hr := Option.some.inj H223
            subst z219
            have hb := hbr221 _ rfl
            subst y215
            exact E.give (_, ()) [] [] rfl trivial rfl rfl
        · rintro ⟨e214, ⟨⟩⟩ hy
          subst hy
          refine T.seq ?_
          refine T.region ?_
          refine L.q 1 rfl ?_
          refine L.nil ?_
          refine E.then ?_
          refine T.ret ?_
          have hr := Option.some.inj H217
          subst r
          exact E.ret () [] [] (.tmp rfl .nil) rfl rfl rfl

theorem c_ref09_mend {l : List Ref09Cell} (a_0 : Option Addr) (c_0 : Nat) {r : Ref09Row} (H : p_ref09_mend l = some r) : CT G 53 [.slice a_0 l.length c_0] [] [Im.sl tyRef09Cell a_0 c_0 l] (fun h : (Option Addr × Nat) => .agg #[.slice h.1 r.l.length h.2, .bool r.wrapped]) (fun h => []) (fun h => [Im.sl tyRef09Cell h.1 h.2 r.l]) := by
  delta p_ref09_mend at H
  refine CT.of Go.Proofs.Tryd.func53 (by kernel_rfl) rfl rfl rfl fun K => ?_
  refine T.seq ?_
  refine T.region ?_
  refine L.a [] [] (Ac.alloc rfl rfl) rfl rfl rfl rfl rfl ?_
  intro g1
  refine L.nil ?_
  refine E.then ?_
  refine T.seq ?_
  refine T.region ?_
  refine L.a [] [] (Ac.bs (ty := tyRef09Cell) (xs := []) .nil rfl rfl rfl rfl rfl rfl rfl) rfl rfl rfl rfl rfl ?_
  intro g2
  refine L.q 1 rfl ?_
  refine L.nil ?_
  refine E.then ?_
  refine T.seq ?_
  refine T.seq ?_
  refine T.region ?_
  refine L.q 3 rfl ?_
  refine L.nil ?_
  refine E.then ?_
  obtain ⟨e432, H433, H434⟩ := bnd H
  refine T.join (η := Unit × ((Option Addr × Nat))) (fun h => True) (fun h => (fun a429 c430 => [(2, .pointer (some ⟨g1, 0, none⟩)), (3, .slice a429 e432.length c430)]) h.2.1 h.2.2) (fun h => (fun a429 c430 => [Ch.arr tyRef09Cell 84 a429 c430 e432, Ch.box g1 30 [.slice none 0 0, .bool false]]) h.2.1 h.2.2) (fun h => (fun a429 c430 => [Im.sl tyRef09Cell a_0 c_0 l]) h.2.1 h.2.2) ?_ ?_
  · refine T.block ?_
    refine T.lp (η := (Option Addr × Nat)) (fun s287 h => (fun a284 c285 => [(0, .slice a_0 l.length c_0), (2, .pointer (some ⟨g1, 0, none⟩)), (3, .slice a284 s287.2.length c285), (8, .slice a_0 l.length c_0), (9, .int .i64 (l.length : Int)), (10, .int .i64 s287.1)]) h.1 h.2) (fun s287 h => (fun a284 c285 => [Ch.arr tyRef09Cell 84 a284 c285 s287.2, Ch.box g1 30 [.slice none 0 0, .bool false]]) h.1 h.2) (fun s287 h => (fun a284 c285 => [Im.sl tyRef09Cell a_0 c_0 l]) h.1 h.2) ((some ⟨g2, 0, none⟩), 0) [0, 0] [0] H433 ⟨rfl, rfl, rfl, rfl, rfl, rfl, trivial⟩ rfl rfl ?_
    rintro k s287 ⟨a284, c285⟩ z436 H435 hag437 hbr438
    refine T.seq ?_
    refine T.region ?_
    refine L.q 1 rfl ?_
    refine L.nil ?_
    refine E.then ?_
    refine T.seq ?_
    refine T.bif rfl H435 (fun hc H440 => ?_) (fun hc H440 => ?_)
    · refine T.skip ?_
      refine E.then ?_
      refine T.seq ?_
      refine T.block ?_
      refine T.seq ?_
      refine T.region ?_
      refine L.q 1 rfl ?_
      obtain ⟨x510, h511, H512⟩ := bnd H440
      refine L.addr 0 rfl (idx_lt h511) fun b513 o514 e515 => ?_
      obtain rfl : a_0 = some ⟨b513, o514, none⟩ := e515
      refine L.y (Yl.ia h511 rfl rfl rfl rfl rfl rfl) rfl rfl rfl ?_
      refine L.el 0 rfl (idx_some h511).2 ?_
      rintro _
      refine L.y (Yl.ldc 0 0 rfl rfl rfl rfl) rfl rfl rfl ?_
      refine L.a [] [] (Ac.alloc rfl rfl) rfl rfl rfl rfl rfl ?_
      intro g517
      refine L.q 1 rfl ?_
      refine L.a [0] [] (Ac.stb rfl rfl rfl rfl rfl rfl) rfl rfl rfl rfl rfl ?_
      intro _
      refine L.nil ?_
      refine E.then ?_
      refine T.seq ?_
      refine T.region ?_
      refine L.q 1 rfl ?_
      refine L.nil ?_
      refine E.then ?_
      refine T.seq ?_
      refine T.seq ?_
      refine T.region ?_
      refine L.q 1 rfl ?_
      refine L.y (Yl.ldb 0 rfl rfl rfl rfl) rfl rfl rfl ?_
      refine L.nil ?_
      refine E.then ?_
      obtain ⟨e547, H548, H549⟩ := bnd H512
      refine T.join (η := Unit × Unit) (fun h => True) (fun h => [(0, .slice (some ⟨b513, o514, none⟩) l.length c_0), (2, .pointer (some ⟨g1, 0, none⟩)), (3, .slice a284 s287.2.length c285), (5, .pointer (some ⟨g517, 0, none⟩)), (6, .bool e547), (8, .slice (some ⟨b513, o514, none⟩) l.length c_0), (9, .int .i64 (l.length : Int)), (10, .int .i64 s287.1)]) (fun h => [Ch.box g517 84 [.int .i64 x510.rune, .int .i64 x510.style, .int .i64 x510.part], Ch.box g1 30 [.slice none 0 0, .bool false], Ch.arr tyRef09Cell 84 a284 c285 s287.2]) (fun h => [Im.cells b513 (o514 + s287.1.toNat * 3) [.int .i64 x510.rune, .int .i64 x510.style, .int .i64 x510.part], Im.sl tyRef09Cell (some ⟨b513, o514, none⟩) c_0 l]) ?_ ?_
      · refine T.block ?_
        refine T.seq ?_
        refine T.region ?_
        refine L.q 2 rfl ?_
        refine L.nil ?_
        refine E.then ?_
        refine T.bif rfl H548 (fun hc H550 => ?_) (fun hc H550 => ?_)
        · refine T.region ?_
          refine L.q 6 rfl ?_
          refine L.cs 24 H550 rfl (fun hc H551 => ?_) (fun hc H551 => ?_)
          · refine L.q 9 rfl ?_
            refine L.nil ?_
            refine E.block ?_
            have hr := Option.some.inj H551
            subst e547
            exact E.give ((), ()) [0, 1, 0] [0, 1] trivial ⟨rfl, rfl, rfl, rfl, rfl, rfl, rfl, rfl, trivial⟩ rfl rfl
          · refine L.q 3 rfl ?_
            obtain ⟨x552, h553, H554⟩ := bnd H551
            refine L.y (Yl.ia h553 rfl rfl rfl rfl rfl rfl) rfl rfl rfl ?_
            refine L.el 1 rfl (idx_some h553).2 ?_
            rintro _
            refine L.q 1 rfl ?_
            refine L.y (Yl.ldc 0 2 rfl rfl rfl rfl) rfl rfl rfl ?_
            refine L.q 3 rfl ?_
            refine L.nil ?_
            refine E.block ?_
            have hr := Option.some.inj H554
            subst e547
            exact E.give ((), ()) [0, 1, 0] [1, 2] trivial ⟨rfl, rfl, rfl, rfl, rfl, rfl, rfl, rfl, trivial⟩ rfl rfl
        · refine T.seq ?_
          refine T.region ?_
          refine L.q 2 rfl ?_
          refine L.nil ?_
          refine E.then ?_
          refine T.bif rfl H550 (fun hc H556 => ?_) (fun hc H556 => ?_)
          · refine T.region ?_
            refine L.q 3 rfl ?_
            refine L.cs 37 H556 rfl (fun hc H557 => ?_) (fun hc H557 => ?_)
            · refine L.q 9 rfl ?_
              refine L.nil ?_
              refine E.block ?_
              have hr := Option.some.inj H557
              subst e547
              exact E.give ((), ()) [0, 1, 0] [0, 1] trivial ⟨rfl, rfl, rfl, rfl, rfl, rfl, rfl, rfl, trivial⟩ rfl rfl
            · refine L.q 3 rfl ?_
              obtain ⟨x558, h559, H560⟩ := bnd H557
              refine L.addro 1 rfl (idx_lt h559) fun b561 e562 => ?_
              obtain rfl : a284 = some ⟨b561, 0, none⟩ := e562
              refine L.y (Yl.ia h559 rfl rfl rfl rfl rfl rfl) rfl rfl rfl ?_
              refine L.q 1 rfl ?_
              refine L.y (Yl.lo (v := .int .i64 x558.part) 1 ((IntKind.i64.wrap (s287.1 - 1)).toNat) 2 (idx_some h559).2 rfl rfl rfl rfl (fun _ => rfl)) rfl rfl rfl ?_
              refine L.q 3 rfl ?_
              refine L.nil ?_
              refine E.block ?_
              have hr := Option.some.inj H560
              subst e547
              exact E.give ((), ()) [0, 1, 0] [0, 1] trivial ⟨rfl, rfl, rfl, rfl, rfl, rfl, rfl, rfl, trivial⟩ rfl rfl
          · refine T.seq ?_
            refine T.region ?_
            refine L.q 2 rfl ?_
            refine L.nil ?_
            refine E.then ?_
            refine T.bif rfl H556 (fun hc H563 => ?_) (fun hc H563 => ?_)
            · refine T.region ?_
              refine L.q 6 rfl ?_
              refine L.nil ?_
              refine E.block ?_
              have hr := Option.some.inj H563
              subst e547
              exact E.give ((), ()) [0, 1, 0] [0, 1] trivial ⟨rfl, rfl, rfl, rfl, rfl, rfl, rfl, rfl, trivial⟩ rfl rfl
            · refine T.skip ?_
              refine E.block ?_
              have hr := Option.some.inj H563
              subst e547
              exact E.give ((), ()) [0, 1, 0] [0, 1] trivial ⟨rfl, rfl, rfl, rfl, rfl, rfl, rfl, rfl, trivial⟩ rfl rfl
      · rintro ⟨_, ⟨⟩⟩ _
        refine T.seq ?_
        refine T.seq ?_
        refine T.region ?_
        refine L.q 1 rfl ?_
        refine L.nil ?_
        refine E.then ?_
        obtain ⟨e567, H568, H569⟩ := bnd H549
        refine T.join (η := Unit × Unit) (fun h => True) (fun h => [(0, .slice (some ⟨b513, o514, none⟩) l.length c_0), (2, .pointer (some ⟨g1, 0, none⟩)), (3, .slice a284 s287.2.length c285), (5, .pointer (some ⟨g517, 0, none⟩)), (8, .slice (some ⟨b513, o514, none⟩) l.length c_0), (9, .int .i64 (l.length : Int)), (10, .int .i64 s287.1)]) (fun h => [Ch.box g517 84 [.int .i64 e567.rune, .int .i64 e567.style, .int .i64 e567.part], Ch.box g1 30 [.slice none 0 0, .bool false], Ch.arr tyRef09Cell 84 a284 c285 s287.2]) (fun h => [Im.cells b513 (o514 + s287.1.toNat * 3) [.int .i64 x510.rune, .int .i64 x510.style, .int .i64 x510.part], Im.sl tyRef09Cell (some ⟨b513, o514, none⟩) c_0 l]) ?_ ?_
        · refine T.bif rfl H568 (fun hc H570 => ?_) (fun hc H570 => ?_)
          · refine T.region ?_
            refine L.q 1 rfl ?_
            refine L.y (Yl.ldb 0 rfl rfl rfl rfl) rfl rfl rfl ?_
            refine L.q 1 rfl ?_
            refine L.a [0] [] (Ac.stb rfl rfl rfl rfl rfl rfl) rfl rfl rfl rfl rfl ?_
            intro _
            refine L.nil ?_
            have hr := Option.some.inj H570
            subst e567
            exact E.give ((), ()) [0, 0, 0] [0, 1] trivial ⟨rfl, rfl, rfl, rfl, rfl, rfl, rfl, trivial⟩ rfl rfl
          · refine T.skip ?_
            have hr := Option.some.inj H570
            subst e567
            exact E.give ((), ()) [0, 0, 0] [0, 1] trivial ⟨rfl, rfl, rfl, rfl, rfl, rfl, rfl, trivial⟩ rfl rfl
        · rintro ⟨_, ⟨⟩⟩ _
          refine T.region ?_
          refine L.q 1 rfl ?_
          refine L.y (Yl.ldb 0 rfl rfl rfl rfl) rfl rfl rfl ?_
          refine L.a [] [] (Ac.bs (ty := tyRef09Cell) (xs := [e567]) (.cons () [] rfl .nil) rfl rfl rfl rfl rfl rfl rfl) rfl rfl rfl rfl rfl ?_
          intro g571
          refine L.frz 0 rfl ?_
          obtain ⟨_, h574, H575⟩ := bnd H569
          refine L.a [2] [0] (Ac.ap (ty := tyRef09Cell) h574 rfl rfl rfl rfl rfl rfl rfl) rfl rfl rfl rfl rfl ?_
          rintro ⟨a576, c577⟩
          refine L.q 1 rfl ?_
          refine L.nil ?_
          refine E.block ?_
          refine E.then ?_
          refine T.region ?_
          refine L.q 2 rfl ?_
          refine L.nil ?_
          have hr := Option.some.inj H575
          subst z436
          exact E.give (_, (a576, c577)) [0, 1] [2] (hag437 _ rfl) ⟨rfl, rfl, rfl, rfl, rfl, rfl, trivial⟩ rfl rfl
    · refine T.exit ?_
      refine E.then_exit' ?_
      refine E.then_exit' ?_
      refine E.block_here ?_
      have hr := Option.some.inj H440
      subst z436
      have hb := hbr438 _ rfl
      subst e432
      exact E.give ((), (a284, c285)) [0, 0] [0] trivial ⟨rfl, rfl, trivial⟩ rfl rfl
  · rintro ⟨_, ⟨a429, c430⟩⟩ _
    refine T.seq ?_
    refine T.region ?_
    refine L.q 2 rfl ?_
    refine L.a [1] [] (Ac.stb rfl rfl rfl rfl rfl rfl) rfl rfl rfl rfl rfl ?_
    intro _
    refine L.nil ?_
    refine E.then ?_
    refine T.ret ?_
    refine E.frz 1 rfl ?_
    have hr := Option.some.inj H434
    subst r
    exact E.ret (a429, c430) [] [0] (.cell 0 rfl rfl rfl .nil) rfl rfl rfl

theorem c_ref09_Put {r_ : Ref09Row} {at_ : Int} {x_ : Int} {style : Int} (a_0_0 : Option Addr) (c_0_0 : Nat) {r : Ref09Row} (H : p_ref09_Put r_ at_ x_ style = some r) : CT G 46 [.agg #[.slice a_0_0 r_.l.length c_0_0, .bool r_.wrapped], .int .i64 at_, .int .i64 x_, .int .i64 style] [] [Im.sl tyRef09Cell a_0_0 c_0_0 r_.l] (fun h : (Option Addr × Nat) => .agg #[.slice h.1 r.l.length h.2, .bool r.wrapped]) (fun h => []) (fun h => [Im.sl tyRef09Cell h.1 h.2 r.l]) := by
  delta p_ref09_Put at H
  refine CT.of Go.Proofs.Tryd.func46 (by kernel_rfl) rfl rfl rfl fun K => ?_
  refine T.seq ?_
  refine T.region ?_
  refine L.a [] [] (Ac.box rfl rfl) rfl rfl rfl rfl rfl ?_
  intro g1
  refine L.a [] [] (Ac.alloc rfl rfl) rfl rfl rfl rfl rfl ?_
  intro g2
  refine L.nil ?_
  refine E.then ?_
  refine T.seq ?_
  refine T.region ?_
  refine L.q 1 rfl ?_
  obtain ⟨r3, h4, H5⟩ := bnd H
  refine L.a [] [] (Ac.call (c_ref06_Of h4) rfl rfl rfl rfl) rfl rfl rfl rfl rfl ?_
  rintro ⟨⟩
  refine L.q 1 rfl ?_
  refine L.nil ?_
  refine E.then ?_
  refine T.seq ?_
  refine T.seq ?_
  obtain ⟨e11, H12, H13⟩ := bnd H5
  refine T.join (η := Unit × Unit) (fun h => True) (fun h => [(1, .int .i64 at_), (2, .int .i64 x_), (3, .int .i64 style), (4, .pointer (some ⟨g1, 0, none⟩)), (8, .pointer (some ⟨g2, 0, none⟩)), (9, .int .i64 r3), (27, .bool e11)]) (fun h => [Ch.box g2 30 [.slice none 0 0, .bool false], Ch.box g1 30 [.slice a_0_0 r_.l.length c_0_0, .bool r_.wrapped]]) (fun h => [Im.sl tyRef09Cell a_0_0 c_0_0 r_.l]) ?_ ?_
  · refine T.region ?_
    refine L.q 3 rfl ?_
    refine L.cs 15 H12 rfl (fun hc H14 => ?_) (fun hc H14 => ?_)
    · refine L.q 12 rfl ?_
      refine L.nil ?_
      have hr := Option.some.inj H14
      subst e11
      exact E.give ((), ()) [0, 0] [0] trivial ⟨rfl, rfl, rfl, rfl, rfl, rfl, rfl, trivial⟩ rfl rfl
    · refine L.q 4 rfl ?_
      refine L.cs 19 H14 rfl (fun hc H15 => ?_) (fun hc H15 => ?_)
      · refine L.q 8 rfl ?_
        refine L.nil ?_
        have hr := Option.some.inj H15
        subst e11
        exact E.give ((), ()) [0, 0] [0] trivial ⟨rfl, rfl, rfl, rfl, rfl, rfl, rfl, trivial⟩ rfl rfl
      · refine L.q 2 rfl ?_
        refine L.y (Yl.ldb 1 rfl rfl rfl rfl) rfl rfl rfl ?_
        refine L.q 5 rfl ?_
        refine L.nil ?_
        have hr := Option.some.inj H15
        subst e11
        exact E.give ((), ()) [0, 0] [0] trivial ⟨rfl, rfl, rfl, rfl, rfl, rfl, rfl, trivial⟩ rfl rfl
  · rintro ⟨_, ⟨⟩⟩ _
    refine T.bif rfl H13 (fun hc H23 => ?_) (fun hc H23 => ?_)
    · refine T.seq ?_
      refine T.region ?_
      refine L.q 1 rfl ?_
      refine L.y (Yl.ldb 1 rfl rfl rfl rfl) rfl rfl rfl ?_
      obtain ⟨r24, h25, H26⟩ := bnd H23
      refine L.a [] [0] (Ac.call (c_ref09_mend a_0_0 c_0_0 h25) rfl rfl rfl rfl) rfl rfl rfl rfl rfl ?_
      rintro ⟨a27, c28⟩
      refine L.a [0] [] (Ac.stb rfl rfl rfl rfl rfl rfl) rfl rfl rfl rfl rfl ?_
      intro _
      refine L.nil ?_
      refine E.then ?_
      refine T.ret ?_
      refine E.then_ret ?_
      have hr := Option.some.inj H26
      subst r
      exact E.ret (a27, c28) [] [0] (.cell 0 rfl rfl rfl .nil) rfl rfl rfl
    · refine T.skip ?_
      refine E.then ?_
      refine T.seq ?_
      refine T.region ?_
      refine L.a [] [] (Ac.bs (ty := tyRef09Cell) (xs := []) .nil rfl rfl rfl rfl rfl rfl rfl) rfl rfl rfl rfl rfl ?_
      intro g30
      refine L.q 1 rfl ?_
      refine L.y (Yl.ldb 2 rfl rfl rfl rfl) rfl rfl rfl ?_
      obtain ⟨_, h32, H33⟩ := bnd H23
      refine L.a [0] [0] (Ac.ap (ty := tyRef09Cell) h32 rfl rfl rfl rfl rfl rfl rfl) rfl rfl rfl rfl rfl ?_
      rintro ⟨a34, c35⟩
      refine L.q 1 rfl ?_
      refine L.nil ?_
      refine E.then ?_
      refine T.seq ?_
      refine T.region ?_
      refine L.q 5 rfl ?_
      obtain ⟨x37, h38, H39⟩ := bnd H33
      refine L.addro 0 rfl (idx_lt h38) fun b40 e41 => ?_
      obtain rfl : a34 = some ⟨b40, 0, none⟩ := e41
      refine L.y (Yl.ia h38 rfl rfl rfl rfl rfl rfl) rfl rfl rfl ?_
      refine L.a [0] [] (Ac.se 0 (Ref09Cell.mk x_ style 0) (idx_some h38).2 rfl rfl rfl rfl rfl rfl (fun _ => ⟨(), rfl, [], rfl⟩)) rfl rfl rfl rfl rfl ?_
      intro _
      refine L.sl 10 (k' := ((([] : List Ref09Cell) ++ r_.l).set at_.toNat (Ref09Cell.mk x_ style 0)).length) (List.length_set ..) rfl ?_
      refine L.nil ?_
      refine E.then ?_
      refine T.seq ?_
      refine T.seq ?_
      refine T.region ?_
      refine L.q 2 rfl ?_
      refine L.nil ?_
      refine E.then ?_
      obtain ⟨e111, H112, H113⟩ := bnd H39
      refine T.join (η := Unit × Unit) (fun h => True) (fun h => [(8, .pointer (some ⟨g2, 0, none⟩)), (10, .slice (some ⟨b40, 0, none⟩) e111.length c35)]) (fun h => [Ch.arr tyRef09Cell 84 (some ⟨b40, 0, none⟩) c35 e111, Ch.box g2 30 [.slice none 0 0, .bool false], Ch.box g1 30 [.slice a_0_0 r_.l.length c_0_0, .bool r_.wrapped]]) (fun h => [Im.sl tyRef09Cell a_0_0 c_0_0 r_.l]) ?_ ?_
      · refine T.bif rfl H112 (fun hc H114 => ?_) (fun hc H114 => ?_)
        · refine T.seq ?_
          refine T.region ?_
          refine L.q 5 rfl ?_
          obtain ⟨x115, h116, H117⟩ := bnd H114
          refine L.y (Yl.ia h116 rfl rfl rfl rfl rfl rfl) rfl rfl rfl ?_
          refine L.a [0] [] (Ac.se 0 (Ref09Cell.mk x_ style 1) (idx_some h116).2 rfl rfl rfl rfl rfl rfl (fun _ => ⟨(), rfl, [], rfl⟩)) rfl rfl rfl rfl rfl ?_
          intro _
          refine L.sl 10 (k' := (((([] : List Ref09Cell) ++ r_.l).set at_.toNat (Ref09Cell.mk x_ style 0)).set at_.toNat (Ref09Cell.mk x_ style 1)).length) (List.length_set ..) rfl ?_
          refine L.nil ?_
          refine E.then ?_
          refine T.seq ?_
          refine T.region ?_
          refine L.q 6 rfl ?_
          obtain ⟨x119, h120, H121⟩ := bnd H117
          refine L.y (Yl.ia h120 rfl rfl rfl rfl rfl rfl) rfl rfl rfl ?_
          refine L.a [0] [] (Ac.se 0 (Ref09Cell.mk x_ style 2) (idx_some h120).2 rfl rfl rfl rfl rfl rfl (fun _ => ⟨(), rfl, [], rfl⟩)) rfl rfl rfl rfl rfl ?_
          intro _
          refine L.sl 10 (k' := ((((([] : List Ref09Cell) ++ r_.l).set at_.toNat (Ref09Cell.mk x_ style 0)).set at_.toNat (Ref09Cell.mk x_ style 1)).set ((IntKind.i64.wrap (at_ + 1)).toNat) (Ref09Cell.mk x_ style 2)).length) (List.length_set ..) rfl ?_
          refine L.nil ?_
          refine E.then ?_
          refine T.seq ?_
          obtain ⟨e132, H133, H134⟩ := bnd H121
          refine T.join (η := Unit × Unit) (fun h => True) (fun h => [(1, .int .i64 at_), (8, .pointer (some ⟨g2, 0, none⟩)), (10, .slice (some ⟨b40, 0, none⟩) ((((([] : List Ref09Cell) ++ r_.l).set at_.toNat (Ref09Cell.mk x_ style 0)).set at_.toNat (Ref09Cell.mk x_ style 1)).set ((IntKind.i64.wrap (at_ + 1)).toNat) (Ref09Cell.mk x_ style 2)).length c35), (66, .bool e132)]) (fun h => [Ch.box g2 30 [.slice none 0 0, .bool false], Ch.box g1 30 [.slice a_0_0 r_.l.length c_0_0, .bool r_.wrapped], Ch.arr tyRef09Cell 84 (some ⟨b40, 0, none⟩) c35 ((((([] : List Ref09Cell) ++ r_.l).set at_.toNat (Ref09Cell.mk x_ style 0)).set at_.toNat (Ref09Cell.mk x_ style 1)).set ((IntKind.i64.wrap (at_ + 1)).toNat) (Ref09Cell.mk x_ style 2))]) (fun h => [Im.sl tyRef09Cell a_0_0 c_0_0 r_.l]) ?_ ?_
          · refine T.region ?_
            refine L.q 3 rfl ?_
            refine L.cs 58 H133 rfl (fun hc H135 => ?_) (fun hc H135 => ?_)
            · refine L.q 3 rfl ?_
              obtain ⟨x136, h137, H138⟩ := bnd H135
              refine L.y (Yl.ia h137 rfl rfl rfl rfl rfl rfl) rfl rfl rfl ?_
              refine L.q 1 rfl ?_
              refine L.y (Yl.lo (v := .int .i64 x136.part) 0 ((IntKind.i64.wrap (at_ - 1)).toNat) 2 (idx_some h137).2 rfl rfl rfl rfl (fun _ => rfl)) rfl rfl rfl ?_
              refine L.q 2 rfl ?_
              refine L.nil ?_
              have hr := Option.some.inj H138
              subst e132
              exact E.give ((), ()) [1, 1, 0] [0] trivial ⟨rfl, rfl, rfl, rfl, trivial⟩ rfl rfl
            · refine L.q 8 rfl ?_
              refine L.nil ?_
              have hr := Option.some.inj H135
              subst e132
              exact E.give ((), ()) [1, 1, 0] [0] trivial ⟨rfl, rfl, rfl, rfl, trivial⟩ rfl rfl
          · rintro ⟨_, ⟨⟩⟩ _
            refine T.bif rfl H134 (fun hc H139 => ?_) (fun hc H139 => ?_)
            · refine T.region ?_
              refine L.q 6 rfl ?_
              obtain ⟨x140, h141, H142⟩ := bnd H139
              refine L.y (Yl.ia h141 rfl rfl rfl rfl rfl rfl) rfl rfl rfl ?_
              refine L.q 1 rfl ?_
              refine L.y (Yl.lo (v := .int .i64 x140.style) 2 ((IntKind.i64.wrap (at_ - 1)).toNat) 1 (idx_some h141).2 rfl rfl rfl rfl (fun _ => rfl)) rfl rfl rfl ?_
              refine L.q 1 rfl ?_
              obtain ⟨x143, h144, H145⟩ := bnd H142
              refine L.y (Yl.ia h144 rfl rfl rfl rfl rfl rfl) rfl rfl rfl ?_
              refine L.a [2] [] (Ac.se 0 (Ref09Cell.mk 32 x140.style 0) (idx_some h144).2 rfl rfl rfl rfl rfl rfl (fun _ => ⟨(), rfl, [], rfl⟩)) rfl rfl rfl rfl rfl ?_
              intro _
              refine L.sl 10 (k' := (((((([] : List Ref09Cell) ++ r_.l).set at_.toNat (Ref09Cell.mk x_ style 0)).set at_.toNat (Ref09Cell.mk x_ style 1)).set ((IntKind.i64.wrap (at_ + 1)).toNat) (Ref09Cell.mk x_ style 2)).set ((IntKind.i64.wrap (at_ - 1)).toNat) (Ref09Cell.mk 32 x140.style 0)).length) (List.length_set ..) rfl ?_
              refine L.nil ?_
              have hr := Option.some.inj H145
              subst e111
              exact E.give ((), ()) [0, 0, 0] [0] trivial ⟨rfl, rfl, trivial⟩ rfl rfl
            · refine T.skip ?_
              have hr := Option.some.inj H139
              subst e111
              exact E.give ((), ()) [2, 0, 0] [0] trivial ⟨rfl, rfl, trivial⟩ rfl rfl
        · refine T.skip ?_
          have hr := Option.some.inj H114
          subst e111
          exact E.give ((), ()) [0, 0, 0] [0] trivial ⟨rfl, rfl, trivial⟩ rfl rfl
      · rintro ⟨_, ⟨⟩⟩ _
        refine T.seq ?_
        refine T.region ?_
        refine L.q 1 rfl ?_
        refine L.frz 0 rfl ?_
        obtain ⟨r148, h149, H150⟩ := bnd H113
        refine L.a [] [0] (Ac.call (c_ref09_mend (some ⟨b40, 0, none⟩) c35 h149) rfl rfl rfl rfl) rfl rfl rfl rfl rfl ?_
        rintro ⟨a151, c152⟩
        refine L.a [0] [] (Ac.stb rfl rfl rfl rfl rfl rfl) rfl rfl rfl rfl rfl ?_
        intro _
        refine L.nil ?_
        refine E.then ?_
        refine T.ret ?_
        have hr := Option.some.inj H150
        subst r
        exact E.ret (a151, c152) [] [0] (.cell 0 rfl rfl rfl .nil) rfl rfl rfl

theorem c_row_Row_Erase {r_ : RowRow} {from_ : Int} {to : Int} {style : Int} (a_0_0 : Option Addr) (c_0_0 : Nat) {r : RowRow} (H : p_row_Row_Erase r_ from_ to style = some r) : CT G 23 [.agg #[.slice a_0_0 r_.cells.length c_0_0, .bool r_.wrapped], .int .i64 from_, .int .i64 to, .int .i64 style] [] [Im.sl tyRowCell a_0_0 c_0_0 r_.cells] (fun h : (Option Addr × Nat) => .agg #[.slice h.1 r.cells.length h.2, .bool r.wrapped]) (fun h => []) (fun h => [Im.sl tyRowCell h.1 h.2 r.cells]) := by
  delta p_row_Row_Erase at H
  refine CT.of Go.Proofs.Tryd.func23 (by kernel_rfl) rfl rfl rfl fun K => ?_
  refine T.seq ?_
  refine T.region ?_
  refine L.a [] [] (Ac.box rfl rfl) rfl rfl rfl rfl rfl ?_
  intro g1
  refine L.a [] [] (Ac.alloc rfl rfl) rfl rfl rfl rfl rfl ?_
  intro g2
  refine L.nil ?_
  refine E.then ?_
  refine T.seq ?_
  refine T.region ?_
  refine L.y (Yl.ldb 1 rfl rfl rfl rfl) rfl rfl rfl ?_
  obtain ⟨r3, h4, H5⟩ := bnd H
  refine L.a [] [0] (Ac.call (c_row_Row_cells a_0_0 c_0_0 h4) rfl rfl rfl rfl) rfl rfl rfl rfl rfl ?_
  rintro ⟨a6, c7⟩
  refine L.q 1 rfl ?_
  refine L.nil ?_
  refine E.then ?_
  refine T.seq ?_
  refine T.seq ?_
  refine T.region ?_
  refine L.q 3 rfl ?_
  obtain ⟨r9, h10, H11⟩ := bnd H5
  refine L.a [] [] (Ac.call (c_row_clip h10) rfl rfl rfl rfl) rfl rfl rfl rfl rfl ?_
  rintro ⟨⟩
  refine L.q 1 rfl ?_
  refine L.nil ?_
  refine E.then ?_
  obtain ⟨e93, H94, H95⟩ := bnd H11
  refine T.join (η := Unit × Unit) (fun h => True) (fun h => [(8, .pointer (some ⟨g2, 0, none⟩)), (9, .slice a6 e93.length c7)]) (fun h => [Ch.arr tyRowCell 80 a6 c7 e93, Ch.box g2 26 [.slice none 0 0, .bool false], Ch.box g1 26 [.slice a_0_0 r_.cells.length c_0_0, .bool r_.wrapped]]) (fun h => [Im.sl tyRowCell a_0_0 c_0_0 r_.cells]) ?_ ?_
  · refine T.block ?_
    refine T.lp (η := Unit) (fun s67 h => [(2, .int .i64 to), (3, .int .i64 style), (8, .pointer (some ⟨g2, 0, none⟩)), (9, .slice a6 s67.2.length c7), (10, .int .i64 s67.1)]) (fun s67 h => [Ch.arr tyRowCell 80 a6 c7 s67.2, Ch.box g2 26 [.slice none 0 0, .bool false], Ch.box g1 26 [.slice a_0_0 r_.cells.length c_0_0, .bool r_.wrapped]]) (fun s67 h => [Im.sl tyRowCell a_0_0 c_0_0 r_.cells]) () [0, 0, 0] [0] H94 ⟨rfl, rfl, rfl, rfl, rfl, trivial⟩ rfl rfl ?_
    rintro k s67 ⟨⟩ z97 H96 hag98 hbr99
    refine T.seq ?_
    refine T.seq ?_
    refine T.region ?_
    refine L.q 4 rfl ?_
    obtain ⟨r100, h101, H102⟩ := bnd H96
    refine L.a [] [] (Ac.call (c_row_clip h101) rfl rfl rfl rfl) rfl rfl rfl rfl rfl ?_
    rintro ⟨⟩
    refine L.q 1 rfl ?_
    refine L.nil ?_
    refine E.then ?_
    refine T.bif rfl H102 (fun hc H104 => ?_) (fun hc H104 => ?_)
    · refine T.skip ?_
      refine E.then ?_
      refine T.seq ?_
      refine T.block ?_
      refine T.region ?_
      refine L.q 3 rfl ?_
      obtain ⟨r114, h115, H116⟩ := bnd H104
      refine L.a [] [] (Ac.call (c_row_blank h115) rfl rfl rfl rfl) rfl rfl rfl rfl rfl ?_
      rintro ⟨⟩
      obtain ⟨x117, h118, H119⟩ := bnd H116
      refine L.addro 0 rfl (idx_lt h118) fun b120 e121 => ?_
      obtain rfl : a6 = some ⟨b120, 0, none⟩ := e121
      refine L.y (Yl.ia h118 rfl rfl rfl rfl rfl rfl) rfl rfl rfl ?_
      refine L.a [0] [] (Ac.se 0 r114 (idx_some h118).2 rfl rfl rfl rfl rfl rfl (fun _ => ⟨(), rfl, [], rfl⟩)) rfl rfl rfl rfl rfl ?_
      intro _
      refine L.sl 9 (k' := (s67.2.set s67.1.toNat r114).length) (List.length_set ..) rfl ?_
      refine L.nil ?_
      refine E.block ?_
      refine E.then ?_
      refine T.region ?_
      refine L.q 3 rfl ?_
      refine L.nil ?_
      have hr := Option.some.inj H119
      subst z97
      exact E.give (_, ()) [0, 0, 0] [0] (hag98 _ rfl) ⟨rfl, rfl, rfl, rfl, rfl, trivial⟩ rfl rfl
    · refine T.exit ?_
      refine E.then_exit' ?_
      refine E.then_exit' ?_
      refine E.block_here ?_
      have hr := Option.some.inj H104
      subst z97
      have hb := hbr99 _ rfl
      subst e93
      exact E.give ((), ()) [0, 0, 0] [0] trivial ⟨rfl, rfl, trivial⟩ rfl rfl
  · rintro ⟨_, ⟨⟩⟩ _
    refine T.seq ?_
    refine T.region ?_
    refine L.q 1 rfl ?_
    obtain ⟨r123, h124, H125⟩ := bnd H95
    refine L.a [0] [] (Ac.call (c_row_mend a6 c7 h124) rfl rfl rfl rfl) rfl rfl rfl rfl rfl ?_
    rintro ⟨⟩
    refine L.a [0] [] (Ac.stb rfl rfl rfl rfl rfl rfl) rfl rfl rfl rfl rfl ?_
    intro _
    refine L.nil ?_
    refine E.then ?_
    refine T.ret ?_
    have hr := Option.some.inj H125
    subst r
    exact E.ret (a6, c7) [] [0] (.cell 0 rfl rfl rfl .nil) rfl rfl rfl

theorem c_ref09_Erase {r_ : Ref09Row} {from_ : Int} {to : Int} {style : Int} (a_0_0 : Option Addr) (c_0_0 : Nat) {r : Ref09Row} (H : p_ref09_Erase r_ from_ to style = some r) : CT G 47 [.agg #[.slice a_0_0 r_.l.length c_0_0, .bool r_.wrapped], .int .i64 from_, .int .i64 to, .int .i64 style] [] [Im.sl tyRef09Cell a_0_0 c_0_0 r_.l] (fun h : (Option Addr × Nat) => .agg #[.slice h.1 r.l.length h.2, .bool r.wrapped]) (fun h => []) (fun h => [Im.sl tyRef09Cell h.1 h.2 r.l]) := by
  delta p_ref09_Erase at H
  refine CT.of Go.Proofs.Tryd.func47 (by kernel_rfl) rfl rfl rfl fun K => ?_
  refine T.seq ?_
  refine T.region ?_
  refine L.a [] [] (Ac.box rfl rfl) rfl rfl rfl rfl rfl ?_
  intro g1
  refine L.a [] [] (Ac.alloc rfl rfl) rfl rfl rfl rfl rfl ?_
  intro g2
  refine L.nil ?_
  refine E.then ?_
  refine T.seq ?_
  refine T.region ?_
  refine L.a [] [] (Ac.bs (ty := tyRef09Cell) (xs := []) .nil rfl rfl rfl rfl rfl rfl rfl) rfl rfl rfl rfl rfl ?_
  intro g3
  refine L.q 1 rfl ?_
  refine L.y (Yl.ldb 2 rfl rfl rfl rfl) rfl rfl rfl ?_
  obtain ⟨_, h5, H6⟩ := bnd H
  refine L.a [0] [0] (Ac.ap (ty := tyRef09Cell) h5 rfl rfl rfl rfl rfl rfl rfl) rfl rfl rfl rfl rfl ?_
  rintro ⟨a7, c8⟩
  refine L.q 1 rfl ?_
  refine L.nil ?_
  refine E.then ?_
  refine T.seq ?_
  refine T.seq ?_
  refine T.region ?_
  refine L.q 3 rfl ?_
  refine L.nil ?_
  refine E.then ?_
  obtain ⟨e169, H170, H171⟩ := bnd H6
  refine T.join (η := Unit × Unit) (fun h => True) (fun h => [(8, .pointer (some ⟨g2, 0, none⟩)), (9, .slice a7 e169.length c8)]) (fun h => [Ch.arr tyRef09Cell 84 a7 c8 e169, Ch.box g2 30 [.slice none 0 0, .bool false], Ch.box g1 30 [.slice a_0_0 r_.l.length c_0_0, .bool r_.wrapped]]) (fun h => [Im.sl tyRef09Cell a_0_0 c_0_0 r_.l]) ?_ ?_
  · refine T.block ?_
    refine T.lp (η := Unit) (fun s117 h => [(1, .int .i64 from_), (2, .int .i64 to), (3, .int .i64 style), (8, .pointer (some ⟨g2, 0, none⟩)), (9, .slice a7 s117.2.length c8), (16, .int .i64 ((([] : List Ref09Cell) ++ r_.l).length : Int)), (17, .int .i64 s117.1)]) (fun s117 h => [Ch.arr tyRef09Cell 84 a7 c8 s117.2, Ch.box g2 30 [.slice none 0 0, .bool false], Ch.box g1 30 [.slice a_0_0 r_.l.length c_0_0, .bool r_.wrapped]]) (fun s117 h => [Im.sl tyRef09Cell a_0_0 c_0_0 r_.l]) () [0, 0, 0] [0] H170 ⟨rfl, rfl, rfl, rfl, rfl, rfl, rfl, trivial⟩ rfl rfl ?_
    rintro k s117 ⟨⟩ z173 H172 hag174 hbr175
    refine T.seq ?_
    refine T.region ?_
    refine L.q 1 rfl ?_
    refine L.nil ?_
    refine E.then ?_
    refine T.seq ?_
    refine T.bif rfl H172 (fun hc H177 => ?_) (fun hc H177 => ?_)
    · refine T.skip ?_
      refine E.then ?_
      refine T.seq ?_
      obtain ⟨e208, H209, H210⟩ := bnd H177
      refine T.join (η := Unit × Unit) (fun h => True) (fun h => [(1, .int .i64 from_), (2, .int .i64 to), (3, .int .i64 style), (8, .pointer (some ⟨g2, 0, none⟩)), (9, .slice a7 e208.length c8), (16, .int .i64 ((([] : List Ref09Cell) ++ r_.l).length : Int)), (17, .int .i64 s117.1)]) (fun h => [Ch.arr tyRef09Cell 84 a7 c8 e208, Ch.box g2 30 [.slice none 0 0, .bool false], Ch.box g1 30 [.slice a_0_0 r_.l.length c_0_0, .bool r_.wrapped]]) (fun h => [Im.sl tyRef09Cell a_0_0 c_0_0 r_.l]) ?_ ?_
      · refine T.block ?_
        refine T.seq ?_
        refine T.region ?_
        refine L.q 2 rfl ?_
        refine L.nil ?_
        refine E.then ?_
        refine T.seq ?_
        obtain ⟨e214, H215, H216⟩ := bnd H209
        refine T.join (η := Unit × Unit) (fun h => True) (fun h => [(1, .int .i64 from_), (2, .int .i64 to), (3, .int .i64 style), (8, .pointer (some ⟨g2, 0, none⟩)), (9, .slice a7 s117.2.length c8), (10, .int .i64 s117.1), (16, .int .i64 ((([] : List Ref09Cell) ++ r_.l).length : Int)), (17, .int .i64 s117.1), (27, .bool e214)]) (fun h => [Ch.box g2 30 [.slice none 0 0, .bool false], Ch.box g1 30 [.slice a_0_0 r_.l.length c_0_0, .bool r_.wrapped], Ch.arr tyRef09Cell 84 a7 c8 s117.2]) (fun h => [Im.sl tyRef09Cell a_0_0 c_0_0 r_.l]) ?_ ?_
        · refine T.region ?_
          refine L.q 4 rfl ?_
          refine L.cs 23 H215 rfl (fun hc H217 => ?_) (fun hc H217 => ?_)
          · refine L.q 4 rfl ?_
            refine L.nil ?_
            have hr := Option.some.inj H217
            subst e214
            exact E.give ((), ()) [1, 1, 0] [0] trivial ⟨rfl, rfl, rfl, rfl, rfl, rfl, rfl, rfl, rfl, trivial⟩ rfl rfl
          · refine L.q 4 rfl ?_
            refine L.nil ?_
            have hr := Option.some.inj H217
            subst e214
            exact E.give ((), ()) [1, 1, 0] [0] trivial ⟨rfl, rfl, rfl, rfl, rfl, rfl, rfl, rfl, rfl, trivial⟩ rfl rfl
        · rintro ⟨_, ⟨⟩⟩ _
          refine T.bif rfl H216 (fun hc H218 => ?_) (fun hc H218 => ?_)
          · refine T.region ?_
            refine L.q 4 rfl ?_
            obtain ⟨x219, h220, H221⟩ := bnd H218
            refine L.addro 2 rfl (idx_lt h220) fun b222 e223 => ?_
            obtain rfl : a7 = some ⟨b222, 0, none⟩ := e223
            refine L.y (Yl.ia h220 rfl rfl rfl rfl rfl rfl) rfl rfl rfl ?_
            refine L.a [2] [] (Ac.se 0 (Ref09Cell.mk 32 style 0) (idx_some h220).2 rfl rfl rfl rfl rfl rfl (fun _ => ⟨(), rfl, [], rfl⟩)) rfl rfl rfl rfl rfl ?_
            intro _
            refine L.sl 9 (k' := (s117.2.set s117.1.toNat (Ref09Cell.mk 32 style 0)).length) (List.length_set ..) rfl ?_
            refine L.nil ?_
            refine E.block ?_
            have hr := Option.some.inj H221
            subst e208
            exact E.give ((), ()) [0, 0, 0] [0] trivial ⟨rfl, rfl, rfl, rfl, rfl, rfl, rfl, trivial⟩ rfl rfl
          · refine T.skip ?_
            refine E.block ?_
            have hr := Option.some.inj H218
            subst e208
            exact E.give ((), ()) [2, 0, 0] [0] trivial ⟨rfl, rfl, rfl, rfl, rfl, rfl, rfl, trivial⟩ rfl rfl
      · rintro ⟨_, ⟨⟩⟩ _
        refine T.region ?_
        refine L.q 2 rfl ?_
        refine L.nil ?_
        have hr := Option.some.inj H210
        subst z173
        exact E.give (_, ()) [0, 0, 0] [0] (hag174 _ rfl) ⟨rfl, rfl, rfl, rfl, rfl, rfl, rfl, trivial⟩ rfl rfl
    · refine T.exit ?_
      refine E.then_exit' ?_
      refine E.then_exit' ?_
      refine E.block_here ?_
      have hr := Option.some.inj H177
      subst z173
      have hb := hbr175 _ rfl
      subst e169
      exact E.give ((), ()) [0, 0, 0] [0] trivial ⟨rfl, rfl, trivial⟩ rfl rfl
  · rintro ⟨_, ⟨⟩⟩ _
    refine T.seq ?_
    refine T.region ?_
    refine L.q 1 rfl ?_
    refine L.frz 0 rfl ?_
    obtain ⟨r226, h227, H228⟩ := bnd H171
    refine L.a [] [0] (Ac.call (c_ref09_mend a7 c8 h227) rfl rfl rfl rfl) rfl rfl rfl rfl rfl ?_
    rintro ⟨a229, c230⟩
    refine L.a [0] [] (Ac.stb rfl rfl rfl rfl rfl rfl) rfl rfl rfl rfl rfl ?_
    intro _
    refine L.nil ?_
    refine E.then ?_
    refine T.ret ?_
    have hr := Option.some.inj H228
    subst r
    exact E.ret (a229, c230) [] [0] (.cell 0 rfl rfl rfl .nil) rfl rfl rfl

theorem c_row_Row_within {r_ : RowRow} {at_ : Int} {n_ : Int} (a_0_0 : Option Addr) (c_0_0 : Nat) {r : Int} (H : p_row_Row_within r_ at_ n_ = some r) : CT G 58 [.agg #[.slice a_0_0 r_.cells.length c_0_0, .bool r_.wrapped], .int .i64 at_, .int .i64 n_] [] [Im.sl tyRowCell a_0_0 c_0_0 r_.cells] (fun h : Unit => .int .i64 r) (fun h => []) (fun h => []) := by
  delta p_row_Row_within at H
  refine CT.of Go.Proofs.Tryd.func58 (by kernel_rfl) rfl rfl rfl fun K => ?_
  refine T.seq ?_
  refine T.region ?_
  refine L.a [] [] (Ac.box rfl rfl) rfl rfl rfl rfl rfl ?_
  intro g1
  refine L.q 1 rfl ?_
  refine L.nil ?_
  refine E.then ?_
  refine T.seq ?_
  refine T.seq ?_
  obtain ⟨e5, H6, H7⟩ := bnd H
  refine T.join (η := Unit × Unit) (fun h => True) (fun h => [(1, .int .i64 at_), (2, .int .i64 n_), (3, .pointer (some ⟨g1, 0, none⟩)), (15, .bool e5)]) (fun h => [Ch.box g1 26 [.slice a_0_0 r_.cells.length c_0_0, .bool r_.wrapped]]) (fun h => [Im.sl tyRowCell a_0_0 c_0_0 r_.cells]) ?_ ?_
  · refine T.region ?_
    refine L.q 3 rfl ?_
    refine L.cs 9 H6 rfl (fun hc H8 => ?_) (fun hc H8 => ?_)
    · refine L.q 6 rfl ?_
      refine L.nil ?_
      have hr := Option.some.inj H8
      subst e5
      exact E.give ((), ()) [0] [0] trivial ⟨rfl, rfl, rfl, rfl, trivial⟩ rfl rfl
    · refine L.q 2 rfl ?_
      refine L.y (Yl.ldb 0 rfl rfl rfl rfl) rfl rfl rfl ?_
      refine L.q 3 rfl ?_
      refine L.nil ?_
      have hr := Option.some.inj H8
      subst e5
      exact E.give ((), ()) [0] [0] trivial ⟨rfl, rfl, rfl, rfl, trivial⟩ rfl rfl
  · rintro ⟨_, ⟨⟩⟩ _
    refine T.bif rfl H7 (fun hc H10 => ?_) (fun hc H10 => ?_)
    · refine T.seq ?_
      refine T.region ?_
      refine L.q 1 rfl ?_
      refine L.nil ?_
      refine E.then ?_
      refine T.ret ?_
      refine E.then_ret ?_
      have hr := Option.some.inj H10
      subst r
      exact E.ret () [] [] (.tmp rfl .nil) rfl rfl rfl
    · refine T.skip ?_
      refine E.then ?_
      refine T.seq ?_
      refine T.region ?_
      refine L.q 2 rfl ?_
      refine L.y (Yl.ldb 0 rfl rfl rfl rfl) rfl rfl rfl ?_
      refine L.q 3 rfl ?_
      obtain ⟨r11, h12, H13⟩ := bnd H10
      refine L.a [] [] (Ac.call (c_row_clip h12) rfl rfl rfl rfl) rfl rfl rfl rfl rfl ?_
      rintro ⟨⟩
      refine L.q 1 rfl ?_
      refine L.nil ?_
      refine E.then ?_
      refine T.ret ?_
      have hr := Option.some.inj H13
      subst r
      exact E.ret () [] [] (.tmp rfl .nil) rfl rfl rfl

end Go.Tw.X

set_option linter.unusedVariables false
set_option linter.unusedSimpArgs false
set_option maxRecDepth 10000
namespace Go.Tw.X
open Go Go.Tw
theorem c_slices_Grow_row_Cell {n_ : Int} {r : (List RowCell)} (H : p_slices_Grow_row_Cell n_ = some r) : CT G 80 [.slice none 0 0, .int .i64 n_] [] [] (fun h : (Option Addr × Nat) => .slice h.1 r.length h.2) (fun h => [Ch.arr tyRowCell 80 h.1 h.2 r]) (fun h => []) := by
  delta p_slices_Grow_row_Cell at H
  refine CT.of Go.Proofs.Tryd.func80 (by kernel_rfl) rfl rfl rfl fun K => ?_
  refine T.seq ?_
  refine T.region ?_
  refine L.q 1 rfl ?_
  refine L.nil ?_
  refine E.then ?_
  refine T.seq ?_
  refine T.seq ?_
  refine T.region ?_
  refine L.q 2 rfl ?_
  refine L.nil ?_
  refine E.then ?_
  refine T.bif rfl H (fun hc H2 => ?_) (fun hc H2 => ?_)
  · cases H2
  · refine T.skip ?_
    refine E.then ?_
    refine T.seq ?_
    refine T.seq ?_
    refine T.region ?_
    refine L.q 8 rfl ?_
    refine L.nil ?_
    refine E.then ?_
    refine T.seq ?_
    refine T.region ?_
    refine L.q 2 rfl ?_
    refine L.nil ?_
    refine E.then ?_
    obtain ⟨e29, H30, H31⟩ := bnd H2
    refine T.join (η := Unit × ((Option Addr × Nat))) (fun h => True) (fun h => (fun a26 c27 => [(0, .slice a26 e29.length c27)]) h.2.1 h.2.2) (fun h => (fun a26 c27 => [Ch.arr tyRowCell 80 a26 c27 e29]) h.2.1 h.2.2) (fun h => (fun a26 c27 => []) h.2.1 h.2.2) ?_ ?_
    · refine T.bif rfl H30 (fun hc H32 => ?_) (fun hc H32 => ?_)
      · refine T.region ?_
        refine L.q 3 rfl ?_
        refine L.y (Yl.snil rfl rfl rfl rfl rfl rfl rfl) rfl rfl rfl ?_
        refine L.q 1 rfl ?_
        obtain ⟨_, h33, H34⟩ := bnd H32
        refine L.a [] [] (Ac.gz (ty := tyRowCell) (RowCell.mk 0 0 0) () h33 (fun _ _ f hf => by cases hf) rfl rfl rfl rfl rfl rfl rfl rfl rfl rfl) rfl rfl rfl rfl rfl ?_
        rintro ⟨a35, c36⟩
        refine L.q 2 rfl ?_
        obtain ⟨_, h38, H39⟩ := bnd H34
        refine L.a [0] [] (Ac.rso h38 rfl rfl rfl rfl rfl rfl rfl) rfl rfl rfl rfl rfl ?_
        intro _
        refine L.q 1 rfl ?_
        refine L.nil ?_
        have hr := Option.some.inj H39
        subst e29
        exact E.give ((), (a35, c36)) [0] [] trivial ⟨rfl, trivial⟩ rfl rfl
      · refine T.skip ?_
        refine E.nil0 tyRowCell 80 ?_
        have hr := Option.some.inj H32
        subst e29
        exact E.give ((), (none, 0)) [0] [] trivial ⟨rfl, trivial⟩ rfl rfl
    · rintro ⟨_, ⟨a26, c27⟩⟩ _
      refine T.seq ?_
      refine T.region ?_
      refine L.q 2 rfl ?_
      refine L.nil ?_
      refine E.then ?_
      refine T.ret ?_
      have hr := Option.some.inj H31
      subst r
      exact E.ret (a26, c27) [0] [] (.tmp rfl .nil) rfl rfl rfl

theorem c_slices_Concat_row_Cell {slices : List (List RowCell)} (a_0 : Option Addr) (c_0 : Nat) {r : (List RowCell)} (H : p_slices_Concat_row_Cell slices = some r) : CT G 59 [.slice a_0 slices.length c_0] [] [Im.sl (Ty.slice tyRowCell) a_0 c_0 slices] (fun h : (Option Addr × Nat) => .slice h.1 r.length h.2) (fun h => [Ch.arr tyRowCell 80 h.1 h.2 r]) (fun h => []) := by
  delta p_slices_Concat_row_Cell at H
  refine CT.of Go.Proofs.Tryd.func59 (by kernel_rfl) rfl rfl rfl fun K => ?_
  refine T.seq ?_
  refine T.region ?_
  refine L.q 1 rfl ?_
  refine L.nil ?_
  refine E.then ?_
  refine T.seq ?_
  refine T.region ?_
  refine L.q 1 rfl ?_
  refine L.nil ?_
  refine E.then ?_
  refine T.seq ?_
  refine T.seq ?_
  refine T.region ?_
  refine L.q 3 rfl ?_
  refine L.nil ?_
  refine E.then ?_
  obtain ⟨e81, H82, H83⟩ := bnd H
  refine T.join (η := Unit × Unit) (fun h => True) (fun h => [(0, .slice a_0 slices.length c_0), (3, .int .i64 e81)]) (fun h => []) (fun h => [Im.sl (Ty.slice tyRowCell) a_0 c_0 slices]) ?_ ?_
  · refine T.block ?_
    refine T.lp (η := Unit) (fun s55 h => [(0, .slice a_0 slices.length c_0), (3, .int .i64 s55.2), (9, .slice a_0 slices.length c_0), (10, .int .i64 (slices.length : Int)), (11, .int .i64 s55.1)]) (fun s55 h => []) (fun s55 h => [Im.sl (Ty.slice tyRowCell) a_0 c_0 slices]) () [] [0] H82 ⟨rfl, rfl, rfl, rfl, rfl, trivial⟩ rfl rfl ?_
    rintro k s55 ⟨⟩ z85 H84 hag86 hbr87
    refine T.seq ?_
    refine T.region ?_
    refine L.q 1 rfl ?_
    refine L.nil ?_
    refine E.then ?_
    refine T.seq ?_
    refine T.bif rfl H84 (fun hc H89 => ?_) (fun hc H89 => ?_)
    · refine T.skip ?_
      refine E.then ?_
      refine T.seq ?_
      refine T.block ?_
      refine T.seq ?_
      refine T.region ?_
      obtain ⟨x101, h102, H103⟩ := bnd H89
      refine L.addr 0 rfl (idx_lt h102) fun b104 o105 e106 => ?_
      obtain rfl : a_0 = some ⟨b104, o105, none⟩ := e106
      refine L.y (Yl.ia h102 rfl rfl rfl rfl rfl rfl) rfl rfl rfl ?_
      refine L.el 0 rfl (idx_some h102).2 ?_
      rintro ⟨a107, c108⟩
      refine L.y (Yl.ldc 0 0 rfl rfl rfl rfl) rfl rfl rfl ?_
      refine L.q 1 rfl ?_
      refine L.nil ?_
      refine E.then ?_
      refine T.seq ?_
      refine T.region ?_
      refine L.q 5 rfl ?_
      refine L.nil ?_
      refine E.then ?_
      refine T.seq ?_
      refine T.region ?_
      refine L.q 2 rfl ?_
      refine L.nil ?_
      refine E.then ?_
      refine T.bif rfl H103 (fun hc H111 => ?_) (fun hc H111 => ?_)
      · cases H111
      · refine T.skip ?_
        refine E.block ?_
        refine E.then ?_
        refine T.region ?_
        refine L.q 2 rfl ?_
        refine L.nil ?_
        have hr := Option.some.inj H111
        subst z85
        exact E.give (_, ()) [] [2] (hag86 _ rfl) ⟨rfl, rfl, rfl, rfl, rfl, trivial⟩ rfl rfl
    · refine T.exit ?_
      refine E.then_exit' ?_
      refine E.then_exit' ?_
      refine E.block_here ?_
      have hr := Option.some.inj H89
      subst z85
      have hb := hbr87 _ rfl
      subst e81
      exact E.give ((), ()) [] [0] trivial ⟨rfl, rfl, trivial⟩ rfl rfl
  · rintro ⟨_, ⟨⟩⟩ _
    refine T.seq ?_
    refine T.region ?_
    refine L.q 1 rfl ?_
    obtain ⟨r112, h113, H114⟩ := bnd H83
    refine L.a [] [] (Ac.call (c_slices_Grow_row_Cell h113) rfl rfl rfl rfl) rfl rfl rfl rfl rfl ?_
    rintro ⟨a115, c116⟩
    refine L.q 1 rfl ?_
    refine L.nil ?_
    refine E.then ?_
    refine T.seq ?_
    refine T.seq ?_
    refine T.region ?_
    refine L.q 3 rfl ?_
    refine L.nil ?_
    refine E.then ?_
    obtain ⟨e234, H235, H236⟩ := bnd H114
    refine T.join (η := Unit × ((Option Addr × Nat))) (fun h => True) (fun h => (fun a231 c232 => [(6, .slice a231 e234.length c232)]) h.2.1 h.2.2) (fun h => (fun a231 c232 => [Ch.arr tyRowCell 80 a231 c232 e234]) h.2.1 h.2.2) (fun h => (fun a231 c232 => [Im.sl (Ty.slice tyRowCell) a_0 c_0 slices]) h.2.1 h.2.2) ?_ ?_
    · refine T.block ?_
      refine T.lp (η := (Option Addr × Nat)) (fun s197 h => (fun a194 c195 => [(6, .slice a194 s197.2.length c195), (25, .slice a_0 slices.length c_0), (26, .int .i64 (slices.length : Int)), (27, .int .i64 s197.1)]) h.1 h.2) (fun s197 h => (fun a194 c195 => [Ch.arr tyRowCell 80 a194 c195 s197.2]) h.1 h.2) (fun s197 h => (fun a194 c195 => [Im.sl (Ty.slice tyRowCell) a_0 c_0 slices]) h.1 h.2) (a115, c116) [0] [0] H235 ⟨rfl, rfl, rfl, rfl, trivial⟩ rfl rfl ?_
      rintro k s197 ⟨a194, c195⟩ z238 H237 hag239 hbr240
      refine T.seq ?_
      refine T.region ?_
      refine L.q 1 rfl ?_
      refine L.nil ?_
      refine E.then ?_
      refine T.seq ?_
      refine T.bif rfl H237 (fun hc H242 => ?_) (fun hc H242 => ?_)
      · refine T.skip ?_
        refine E.then ?_
        refine T.seq ?_
        refine T.block ?_
        refine T.seq ?_
        refine T.region ?_
        obtain ⟨x258, h259, H260⟩ := bnd H242
        refine L.addr 0 rfl (idx_lt h259) fun b261 o262 e263 => ?_
        obtain rfl : a_0 = some ⟨b261, o262, none⟩ := e263
        refine L.y (Yl.ia h259 rfl rfl rfl rfl rfl rfl) rfl rfl rfl ?_
        refine L.el 0 rfl (idx_some h259).2 ?_
        rintro ⟨a264, c265⟩
        refine L.y (Yl.ldc 0 0 rfl rfl rfl rfl) rfl rfl rfl ?_
        refine L.q 1 rfl ?_
        refine L.nil ?_
        refine E.then ?_
        refine T.region ?_
        refine L.q 2 rfl ?_
        obtain ⟨_, h268, H269⟩ := bnd H260
        refine L.a [0] [1] (Ac.ap (ty := tyRowCell) h268 rfl rfl rfl rfl rfl rfl rfl) rfl rfl rfl rfl rfl ?_
        rintro ⟨a270, c271⟩
        refine L.q 1 rfl ?_
        refine L.nil ?_
        refine E.block ?_
        refine E.then ?_
        refine T.region ?_
        refine L.q 2 rfl ?_
        refine L.nil ?_
        have hr := Option.some.inj H269
        subst z238
        exact E.give (_, (a270, c271)) [0] [2] (hag239 _ rfl) ⟨rfl, rfl, rfl, rfl, trivial⟩ rfl rfl
      · refine T.exit ?_
        refine E.then_exit' ?_
        refine E.then_exit' ?_
        refine E.block_here ?_
        have hr := Option.some.inj H242
        subst z238
        have hb := hbr240 _ rfl
        subst e234
        exact E.give ((), (a194, c195)) [0] [0] trivial ⟨rfl, trivial⟩ rfl rfl
    · rintro ⟨_, ⟨a231, c232⟩⟩ _
      refine T.seq ?_
      refine T.region ?_
      refine L.q 2 rfl ?_
      refine L.nil ?_
      refine E.then ?_
      refine T.ret ?_
      have hr := Option.some.inj H236
      subst r
      exact E.ret (a231, c232) [0] [] (.tmp rfl .nil) rfl rfl rfl

theorem c_row_Row_Insert {r_ : RowRow} {at_ : Int} {n_ : Int} {style : Int} (a_0_0 : Option Addr) (c_0_0 : Nat) {r : RowRow} (H : p_row_Row_Insert r_ at_ n_ style = some r) : CT G 25 [.agg #[.slice a_0_0 r_.cells.length c_0_0, .bool r_.wrapped], .int .i64 at_, .int .i64 n_, .int .i64 style] [] [Im.sl tyRowCell a_0_0 c_0_0 r_.cells] (fun h : (Option Addr × Nat) => .agg #[.slice h.1 r.cells.length h.2, .bool r.wrapped]) (fun h => []) (fun h => [Im.sl tyRowCell h.1 h.2 r.cells]) := by
  delta p_row_Row_Insert at H
  refine CT.of Go.Proofs.Tryd.func25 (by kernel_rfl) rfl rfl rfl fun K => ?_
  refine T.seq ?_
  refine T.region ?_
  refine L.a [] [] (Ac.box rfl rfl) rfl rfl rfl rfl rfl ?_
  intro g1
  refine L.a [] [] (Ac.alloc rfl rfl) rfl rfl rfl rfl rfl ?_
  intro g2
  refine L.nil ?_
  refine E.then ?_
  refine T.seq ?_
  refine T.region ?_
  refine L.y (Yl.ldb 1 rfl rfl rfl rfl) rfl rfl rfl ?_
  refine L.q 2 rfl ?_
  obtain ⟨r3, h4, H5⟩ := bnd H
  refine L.a [] [0] (Ac.call (c_row_Row_within a_0_0 c_0_0 h4) rfl rfl rfl rfl) rfl rfl rfl rfl rfl ?_
  rintro ⟨⟩
  refine L.q 1 rfl ?_
  refine L.nil ?_
  refine E.then ?_
  refine T.seq ?_
  refine T.seq ?_
  refine T.region ?_
  refine L.q 2 rfl ?_
  refine L.nil ?_
  refine E.then ?_
  refine T.bif rfl H5 (fun hc H17 => ?_) (fun hc H17 => ?_)
  · refine T.seq ?_
    refine T.region ?_
    refine L.y (Yl.ldb 1 rfl rfl rfl rfl) rfl rfl rfl ?_
    obtain ⟨r18, h19, H20⟩ := bnd H17
    refine L.a [] [0] (Ac.call (c_row_Row_cells a_0_0 c_0_0 h19) rfl rfl rfl rfl) rfl rfl rfl rfl rfl ?_
    rintro ⟨a21, c22⟩
    obtain ⟨r24, h25, H26⟩ := bnd H20
    refine L.a [0] [] (Ac.call (c_row_mend a21 c22 h25) rfl rfl rfl rfl) rfl rfl rfl rfl rfl ?_
    rintro ⟨⟩
    refine L.a [0] [] (Ac.stb rfl rfl rfl rfl rfl rfl) rfl rfl rfl rfl rfl ?_
    intro _
    refine L.nil ?_
    refine E.then ?_
    refine T.ret ?_
    refine E.then_ret ?_
    have hr := Option.some.inj H26
    subst r
    exact E.ret (a21, c22) [] [0] (.cell 0 rfl rfl rfl .nil) rfl rfl rfl
  · refine T.skip ?_
    refine E.then ?_
    refine T.seq ?_
    refine T.draw [] [0, 0] mo (by rfl) rfl ?_
    refine D.q 0 rfl rfl rfl rfl rfl rfl ?_
    refine D.y 1 (Yl.ldb 1 rfl rfl rfl rfl) rfl rfl rfl rfl rfl rfl ?_
    refine D.q 2 rfl rfl rfl rfl rfl rfl ?_
    obtain ⟨_, h106, H107⟩ := bnd H17
    refine D.rs 0 3 h106 rfl rfl rfl rfl rfl rfl rfl rfl rfl rfl rfl rfl rfl rfl rfl ?_
    intro a108 c109
    refine D.q 4 rfl rfl rfl rfl rfl rfl ?_
    refine D.q 5 rfl rfl rfl rfl rfl rfl ?_
    refine D.q 7 rfl rfl rfl rfl rfl rfl ?_
    refine D.y 8 (Yl.ldb 1 rfl rfl rfl rfl) rfl rfl rfl rfl rfl rfl ?_
    refine D.q 9 rfl rfl rfl rfl rfl rfl ?_
    obtain ⟨_, h111, H112⟩ := bnd H107
    refine D.rs 1 10 h111 rfl rfl rfl rfl rfl rfl rfl rfl rfl rfl rfl rfl rfl rfl rfl ?_
    intro a113 c114
    obtain ⟨r116, h117, H118⟩ := bnd H112
    refine D.one rfl rfl rfl (Dp.a [] [] (Ac.call (c_row_blanks h117) rfl rfl rfl rfl) rfl rfl rfl rfl rfl rfl ?_)
    rintro ⟨a119, c120⟩
    refine D.frz 0 rfl ?_
    refine D.one rfl rfl rfl (Dp.a [] [2, 0, 1] (Ac.bs (ty := (Ty.slice tyRowCell)) (xs := [(cut r_.cells 0 at_), r116, (cut r_.cells at_ (r_.cells.length : Int))]) (.cons (a108, c109) [0] rfl (.cons (a119, c120) [1] rfl (.cons (a113, c114) [2] rfl .nil))) rfl rfl rfl rfl rfl rfl rfl) rfl rfl rfl rfl rfl rfl ?_)
    intro g123
    refine D.frz 0 rfl ?_
    obtain ⟨r126, h127, H128⟩ := bnd H118
    refine D.one rfl rfl rfl (Dp.a [] [0] (Ac.call (c_slices_Concat_row_Cell (some ⟨g123, 0, none⟩) 3 h127) rfl rfl rfl rfl) rfl rfl rfl rfl rfl rfl ?_)
    rintro ⟨a129, c130⟩
    refine D.q 13 rfl rfl rfl rfl rfl rfl ?_
    refine D.nil rfl rfl ?_
    refine E.then ?_
    refine T.seq ?_
    refine T.region ?_
    refine L.q 2 rfl ?_
    refine L.y (Yl.ldb 1 rfl rfl rfl rfl) rfl rfl rfl ?_
    refine L.q 1 rfl ?_
    obtain ⟨_, h132, H133⟩ := bnd H128
    refine L.a [2] [] (Ac.rso h132 rfl rfl rfl rfl rfl rfl rfl) rfl rfl rfl rfl rfl ?_
    intro _
    obtain ⟨r137, h138, H139⟩ := bnd H133
    refine L.a [0] [] (Ac.call (c_row_mend a129 c130 h138) rfl rfl rfl rfl) rfl rfl rfl rfl rfl ?_
    rintro ⟨⟩
    refine L.a [0] [] (Ac.stb rfl rfl rfl rfl rfl rfl) rfl rfl rfl rfl rfl ?_
    intro _
    refine L.nil ?_
    refine E.then ?_
    refine T.ret ?_
    have hr := Option.some.inj H139
    subst r
    exact E.ret (a129, c130) [] [0] (.cell 0 rfl rfl rfl .nil) rfl rfl rfl

theorem c_ref09_Insert {r_ : Ref09Row} {at_ : Int} {n_ : Int} {style : Int} (a_0_0 : Option Addr) (c_0_0 : Nat) {r : Ref09Row} (H : p_ref09_Insert r_ at_ n_ style = some r) : CT G 48 [.agg #[.slice a_0_0 r_.l.length c_0_0, .bool r_.wrapped], .int .i64 at_, .int .i64 n_, .int .i64 style] [] [Im.sl tyRef09Cell a_0_0 c_0_0 r_.l] (fun h : (Option Addr × Nat) => .agg #[.slice h.1 r.l.length h.2, .bool r.wrapped]) (fun h => []) (fun h => [Im.sl tyRef09Cell h.1 h.2 r.l]) := by
  delta p_ref09_Insert at H
  refine CT.of Go.Proofs.Tryd.func48 (by kernel_rfl) rfl rfl rfl fun K => ?_
  refine T.seq ?_
  refine T.region ?_
  refine L.a [] [] (Ac.box rfl rfl) rfl rfl rfl rfl rfl ?_
  intro g1
  refine L.a [] [] (Ac.alloc rfl rfl) rfl rfl rfl rfl rfl ?_
  intro g2
  refine L.nil ?_
  refine E.then ?_
  refine T.seq ?_
  refine T.seq ?_
  obtain ⟨e8, H9, H10⟩ := bnd H
  refine T.join (η := Unit × Unit) (fun h => True) (fun h => [(1, .int .i64 at_), (2, .int .i64 n_), (3, .int .i64 style), (4, .pointer (some ⟨g1, 0, none⟩)), (8, .pointer (some ⟨g2, 0, none⟩)), (22, .bool e8)]) (fun h => [Ch.box g2 30 [.slice none 0 0, .bool false], Ch.box g1 30 [.slice a_0_0 r_.l.length c_0_0, .bool r_.wrapped]]) (fun h => [Im.sl tyRef09Cell a_0_0 c_0_0 r_.l]) ?_ ?_
  · refine T.region ?_
    refine L.q 3 rfl ?_
    refine L.cs 12 H9 rfl (fun hc H11 => ?_) (fun hc H11 => ?_)
    · refine L.q 10 rfl ?_
      refine L.nil ?_
      have hr := Option.some.inj H11
      subst e8
      exact E.give ((), ()) [0, 0] [0] trivial ⟨rfl, rfl, rfl, rfl, rfl, rfl, trivial⟩ rfl rfl
    · refine L.q 2 rfl ?_
      refine L.y (Yl.ldb 1 rfl rfl rfl rfl) rfl rfl rfl ?_
      refine L.q 4 rfl ?_
      refine L.cs 19 H11 rfl (fun hc H12 => ?_) (fun hc H12 => ?_)
      · refine L.q 3 rfl ?_
        refine L.nil ?_
        have hr := Option.some.inj H12
        subst e8
        exact E.give ((), ()) [0, 0] [0] trivial ⟨rfl, rfl, rfl, rfl, rfl, rfl, trivial⟩ rfl rfl
      · refine L.q 3 rfl ?_
        refine L.nil ?_
        have hr := Option.some.inj H12
        subst e8
        exact E.give ((), ()) [0, 0] [0] trivial ⟨rfl, rfl, rfl, rfl, rfl, rfl, trivial⟩ rfl rfl
  · rintro ⟨_, ⟨⟩⟩ _
    refine T.bif rfl H10 (fun hc H20 => ?_) (fun hc H20 => ?_)
    · refine T.seq ?_
      refine T.region ?_
      refine L.q 1 rfl ?_
      refine L.y (Yl.ldb 1 rfl rfl rfl rfl) rfl rfl rfl ?_
      obtain ⟨r21, h22, H23⟩ := bnd H20
      refine L.a [] [0] (Ac.call (c_ref09_mend a_0_0 c_0_0 h22) rfl rfl rfl rfl) rfl rfl rfl rfl rfl ?_
      rintro ⟨a24, c25⟩
      refine L.a [0] [] (Ac.stb rfl rfl rfl rfl rfl rfl) rfl rfl rfl rfl rfl ?_
      intro _
      refine L.nil ?_
      refine E.then ?_
      refine T.ret ?_
      refine E.then_ret ?_
      have hr := Option.some.inj H23
      subst r
      exact E.ret (a24, c25) [] [0] (.cell 0 rfl rfl rfl .nil) rfl rfl rfl
    · refine T.skip ?_
      refine E.then ?_
      refine T.seq ?_
      refine T.region ?_
      refine L.q 2 rfl ?_
      refine L.y (Yl.ldb 1 rfl rfl rfl rfl) rfl rfl rfl ?_
      refine L.q 5 rfl ?_
      refine L.nil ?_
      refine E.then ?_
      refine T.seq ?_
      refine T.region ?_
      refine L.a [] [] (Ac.bs (ty := tyRef09Cell) (xs := []) .nil rfl rfl rfl rfl rfl rfl rfl) rfl rfl rfl rfl rfl ?_
      intro g27
      refine L.q 1 rfl ?_
      refine L.y (Yl.ldb 2 rfl rfl rfl rfl) rfl rfl rfl ?_
      refine L.q 1 rfl ?_
      obtain ⟨_, h29, H30⟩ := bnd H20
      refine L.rs 0 h29 rfl rfl rfl rfl rfl rfl rfl rfl rfl rfl rfl rfl ?_
      intro a31 c32
      obtain ⟨_, h34, H35⟩ := bnd H30
      refine L.a [0] [0] (Ac.ap (ty := tyRef09Cell) h34 rfl rfl rfl rfl rfl rfl rfl) rfl rfl rfl rfl rfl ?_
      rintro ⟨a36, c37⟩
      refine L.q 1 rfl ?_
      refine L.nil ?_
      refine E.then ?_
      refine T.seq ?_
      refine T.region ?_
      refine L.q 3 rfl ?_
      obtain ⟨r39, h40, H41⟩ := bnd H35
      refine L.a [] [] (Ac.call (c_ref09_Blank h40) rfl rfl rfl rfl) rfl rfl rfl rfl rfl ?_
      rintro ⟨a42, c43⟩
      refine L.q 1 rfl ?_
      obtain ⟨_, h45, H46⟩ := bnd H41
      refine L.a [0] [0] (Ac.ap (ty := tyRef09Cell) h45 rfl rfl rfl rfl rfl rfl rfl) rfl rfl rfl rfl rfl ?_
      rintro ⟨a47, c48⟩
      refine L.q 1 rfl ?_
      refine L.nil ?_
      refine E.then ?_
      refine T.seq ?_
      refine T.region ?_
      refine L.q 2 rfl ?_
      refine L.y (Yl.ldb 2 rfl rfl rfl rfl) rfl rfl rfl ?_
      refine L.q 2 rfl ?_
      refine L.y (Yl.ldb 2 rfl rfl rfl rfl) rfl rfl rfl ?_
      refine L.q 3 rfl ?_
      obtain ⟨_, h50, H51⟩ := bnd H46
      refine L.rs 2 h50 rfl rfl rfl rfl rfl rfl rfl rfl rfl rfl rfl rfl ?_
      intro a52 c53
      obtain ⟨_, h55, H56⟩ := bnd H51
      refine L.a [0] [0] (Ac.ap (ty := tyRef09Cell) h55 rfl rfl rfl rfl rfl rfl rfl) rfl rfl rfl rfl rfl ?_
      rintro ⟨a57, c58⟩
      refine L.q 1 rfl ?_
      refine L.nil ?_
      refine E.then ?_
      refine T.seq ?_
      refine T.region ?_
      refine L.q 1 rfl ?_
      refine L.frz 0 rfl ?_
      obtain ⟨r61, h62, H63⟩ := bnd H56
      refine L.a [] [0] (Ac.call (c_ref09_mend a57 c58 h62) rfl rfl rfl rfl) rfl rfl rfl rfl rfl ?_
      rintro ⟨a64, c65⟩
      refine L.a [0] [] (Ac.stb rfl rfl rfl rfl rfl rfl) rfl rfl rfl rfl rfl ?_
      intro _
      refine L.nil ?_
      refine E.then ?_
      refine T.ret ?_
      have hr := Option.some.inj H63
      subst r
      exact E.ret (a64, c65) [] [0] (.cell 0 rfl rfl rfl .nil) rfl rfl rfl

theorem c_row_Row_Delete {r_ : RowRow} {at_ : Int} {n_ : Int} {style : Int} (a_0_0 : Option Addr) (c_0_0 : Nat) {r : RowRow} (H : p_row_Row_Delete r_ at_ n_ style = some r) : CT G 26 [.agg #[.slice a_0_0 r_.cells.length c_0_0, .bool r_.wrapped], .int .i64 at_, .int .i64 n_, .int .i64 style] [] [Im.sl tyRowCell a_0_0 c_0_0 r_.cells] (fun h : (Option Addr × Nat) => .agg #[.slice h.1 r.cells.length h.2, .bool r.wrapped]) (fun h => []) (fun h => [Im.sl tyRowCell h.1 h.2 r.cells]) := by
  delta p_row_Row_Delete at H
  refine CT.of Go.Proofs.Tryd.func26 (by kernel_rfl) rfl rfl rfl fun K => ?_
  refine T.seq ?_
  refine T.region ?_
  refine L.a [] [] (Ac.box rfl rfl) rfl rfl rfl rfl rfl ?_
  intro g1
  refine L.a [] [] (Ac.alloc rfl rfl) rfl rfl rfl rfl rfl ?_
  intro g2
  refine L.nil ?_
  refine E.then ?_
  refine T.seq ?_
  refine T.region ?_
  refine L.y (Yl.ldb 1 rfl rfl rfl rfl) rfl rfl rfl ?_
  refine L.q 2 rfl ?_
  obtain ⟨r3, h4, H5⟩ := bnd H
  refine L.a [] [0] (Ac.call (c_row_Row_within a_0_0 c_0_0 h4) rfl rfl rfl rfl) rfl rfl rfl rfl rfl ?_
  rintro ⟨⟩
  refine L.q 1 rfl ?_
  refine L.nil ?_
  refine E.then ?_
  refine T.seq ?_
  refine T.seq ?_
  refine T.region ?_
  refine L.q 2 rfl ?_
  refine L.nil ?_
  refine E.then ?_
  refine T.bif rfl H5 (fun hc H17 => ?_) (fun hc H17 => ?_)
  · refine T.seq ?_
    refine T.region ?_
    refine L.y (Yl.ldb 1 rfl rfl rfl rfl) rfl rfl rfl ?_
    obtain ⟨r18, h19, H20⟩ := bnd H17
    refine L.a [] [0] (Ac.call (c_row_Row_cells a_0_0 c_0_0 h19) rfl rfl rfl rfl) rfl rfl rfl rfl rfl ?_
    rintro ⟨a21, c22⟩
    obtain ⟨r24, h25, H26⟩ := bnd H20
    refine L.a [0] [] (Ac.call (c_row_mend a21 c22 h25) rfl rfl rfl rfl) rfl rfl rfl rfl rfl ?_
    rintro ⟨⟩
    refine L.a [0] [] (Ac.stb rfl rfl rfl rfl rfl rfl) rfl rfl rfl rfl rfl ?_
    intro _
    refine L.nil ?_
    refine E.then ?_
    refine T.ret ?_
    refine E.then_ret ?_
    have hr := Option.some.inj H26
    subst r
    exact E.ret (a21, c22) [] [0] (.cell 0 rfl rfl rfl .nil) rfl rfl rfl
  · refine T.skip ?_
    refine E.then ?_
    refine T.seq ?_
    refine T.draw [16] [0, 0] mo (by rfl) rfl ?_
    refine D.q 0 rfl rfl rfl rfl rfl rfl ?_
    refine D.y 1 (Yl.ldb 1 rfl rfl rfl rfl) rfl rfl rfl rfl rfl rfl ?_
    refine D.q 2 rfl rfl rfl rfl rfl rfl ?_
    obtain ⟨_, h118, H119⟩ := bnd H17
    refine D.rs 0 3 h118 rfl rfl rfl rfl rfl rfl rfl rfl rfl rfl rfl rfl rfl rfl rfl ?_
    intro a120 c121
    refine D.q 4 rfl rfl rfl rfl rfl rfl ?_
    refine D.y 5 (Yl.ldb 1 rfl rfl rfl rfl) rfl rfl rfl rfl rfl rfl ?_
    refine D.q 6 rfl rfl rfl rfl rfl rfl ?_
    refine D.q 7 rfl rfl rfl rfl rfl rfl ?_
    refine D.q 8 rfl rfl rfl rfl rfl rfl ?_
    obtain ⟨_, h123, H124⟩ := bnd H119
    refine D.rs 1 9 h123 rfl rfl rfl rfl rfl rfl rfl rfl rfl rfl rfl rfl rfl rfl rfl ?_
    intro a125 c126
    refine D.q 10 rfl rfl rfl rfl rfl rfl ?_
    refine D.q 11 rfl rfl rfl rfl rfl rfl ?_
    obtain ⟨r128, h129, H130⟩ := bnd H124
    refine D.one rfl rfl rfl (Dp.a [] [] (Ac.call (c_row_blanks h129) rfl rfl rfl rfl) rfl rfl rfl rfl rfl rfl ?_)
    rintro ⟨a131, c132⟩
    refine D.frz 0 rfl ?_
    refine D.one rfl rfl rfl (Dp.a [] [2, 1, 0] (Ac.bs (ty := (Ty.slice tyRowCell)) (xs := [(cut r_.cells 0 at_), (cut r_.cells (IntKind.i64.wrap (at_ + r3)) (r_.cells.length : Int)), r128]) (.cons (a120, c121) [0] rfl (.cons (a125, c126) [1] rfl (.cons (a131, c132) [2] rfl .nil))) rfl rfl rfl rfl rfl rfl rfl) rfl rfl rfl rfl rfl rfl ?_)
    intro g135
    refine D.frz 0 rfl ?_
    obtain ⟨r138, h139, H140⟩ := bnd H130
    refine D.one rfl rfl rfl (Dp.a [] [0] (Ac.call (c_slices_Concat_row_Cell (some ⟨g135, 0, none⟩) 3 h139) rfl rfl rfl rfl) rfl rfl rfl rfl rfl rfl ?_)
    rintro ⟨a141, c142⟩
    obtain ⟨r144, h145, H146⟩ := bnd H140
    refine D.one rfl rfl rfl (Dp.a [0] [] (Ac.call (c_row_mend a141 c142 h145) rfl rfl rfl rfl) rfl rfl rfl rfl rfl rfl ?_)
    rintro ⟨⟩
    refine D.one rfl rfl rfl (Dp.al [0] [] (Ac.stb rfl rfl rfl rfl rfl rfl) rfl rfl rfl rfl rfl rfl rfl ?_)
    intro _
    refine D.nil rfl rfl ?_
    refine E.then ?_
    refine T.ret ?_
    have hr := Option.some.inj H146
    subst r
    exact E.ret (a141, c142) [] [0] (.cell 0 rfl rfl rfl .nil) rfl rfl rfl

theorem c_ref09_Delete {r_ : Ref09Row} {at_ : Int} {n_ : Int} {style : Int} (a_0_0 : Option Addr) (c_0_0 : Nat) {r : Ref09Row} (H : p_ref09_Delete r_ at_ n_ style = some r) : CT G 49 [.agg #[.slice a_0_0 r_.l.length c_0_0, .bool r_.wrapped], .int .i64 at_, .int .i64 n_, .int .i64 style] [] [Im.sl tyRef09Cell a_0_0 c_0_0 r_.l] (fun h : (Option Addr × Nat) => .agg #[.slice h.1 r.l.length h.2, .bool r.wrapped]) (fun h => []) (fun h => [Im.sl tyRef09Cell h.1 h.2 r.l]) := by
  delta p_ref09_Delete at H
  refine CT.of Go.Proofs.Tryd.func49 (by kernel_rfl) rfl rfl rfl fun K => ?_
  refine T.seq ?_
  refine T.region ?_
  refine L.a [] [] (Ac.box rfl rfl) rfl rfl rfl rfl rfl ?_
  intro g1
  refine L.a [] [] (Ac.alloc rfl rfl) rfl rfl rfl rfl rfl ?_
  intro g2
  refine L.nil ?_
  refine E.then ?_
  refine T.seq ?_
  refine T.seq ?_
  obtain ⟨e8, H9, H10⟩ := bnd H
  refine T.join (η := Unit × Unit) (fun h => True) (fun h => [(1, .int .i64 at_), (2, .int .i64 n_), (3, .int .i64 style), (4, .pointer (some ⟨g1, 0, none⟩)), (8, .pointer (some ⟨g2, 0, none⟩)), (22, .bool e8)]) (fun h => [Ch.box g2 30 [.slice none 0 0, .bool false], Ch.box g1 30 [.slice a_0_0 r_.l.length c_0_0, .bool r_.wrapped]]) (fun h => [Im.sl tyRef09Cell a_0_0 c_0_0 r_.l]) ?_ ?_
  · refine T.region ?_
    refine L.q 3 rfl ?_
    refine L.cs 12 H9 rfl (fun hc H11 => ?_) (fun hc H11 => ?_)
    · refine L.q 10 rfl ?_
      refine L.nil ?_
      have hr := Option.some.inj H11
      subst e8
      exact E.give ((), ()) [0, 0] [0] trivial ⟨rfl, rfl, rfl, rfl, rfl, rfl, trivial⟩ rfl rfl
    · refine L.q 2 rfl ?_
      refine L.y (Yl.ldb 1 rfl rfl rfl rfl) rfl rfl rfl ?_
      refine L.q 4 rfl ?_
      refine L.cs 19 H11 rfl (fun hc H12 => ?_) (fun hc H12 => ?_)
      · refine L.q 3 rfl ?_
        refine L.nil ?_
        have hr := Option.some.inj H12
        subst e8
        exact E.give ((), ()) [0, 0] [0] trivial ⟨rfl, rfl, rfl, rfl, rfl, rfl, trivial⟩ rfl rfl
      · refine L.q 3 rfl ?_
        refine L.nil ?_
        have hr := Option.some.inj H12
        subst e8
        exact E.give ((), ()) [0, 0] [0] trivial ⟨rfl, rfl, rfl, rfl, rfl, rfl, trivial⟩ rfl rfl
  · rintro ⟨_, ⟨⟩⟩ _
    refine T.bif rfl H10 (fun hc H20 => ?_) (fun hc H20 => ?_)
    · refine T.seq ?_
      refine T.region ?_
      refine L.q 1 rfl ?_
      refine L.y (Yl.ldb 1 rfl rfl rfl rfl) rfl rfl rfl ?_
      obtain ⟨r21, h22, H23⟩ := bnd H20
      refine L.a [] [0] (Ac.call (c_ref09_mend a_0_0 c_0_0 h22) rfl rfl rfl rfl) rfl rfl rfl rfl rfl ?_
      rintro ⟨a24, c25⟩
      refine L.a [0] [] (Ac.stb rfl rfl rfl rfl rfl rfl) rfl rfl rfl rfl rfl ?_
      intro _
      refine L.nil ?_
      refine E.then ?_
      refine T.ret ?_
      refine E.then_ret ?_
      have hr := Option.some.inj H23
      subst r
      exact E.ret (a24, c25) [] [0] (.cell 0 rfl rfl rfl .nil) rfl rfl rfl
    · refine T.skip ?_
      refine E.then ?_
      refine T.seq ?_
      refine T.region ?_
      refine L.q 2 rfl ?_
      refine L.y (Yl.ldb 1 rfl rfl rfl rfl) rfl rfl rfl ?_
      refine L.q 5 rfl ?_
      refine L.nil ?_
      refine E.then ?_
      refine T.seq ?_
      refine T.region ?_
      refine L.a [] [] (Ac.bs (ty := tyRef09Cell) (xs := []) .nil rfl rfl rfl rfl rfl rfl rfl) rfl rfl rfl rfl rfl ?_
      intro g27
      refine L.q 1 rfl ?_
      refine L.y (Yl.ldb 2 rfl rfl rfl rfl) rfl rfl rfl ?_
      refine L.q 1 rfl ?_
      obtain ⟨_, h29, H30⟩ := bnd H20
      refine L.rs 0 h29 rfl rfl rfl rfl rfl rfl rfl rfl rfl rfl rfl rfl ?_
      intro a31 c32
      obtain ⟨_, h34, H35⟩ := bnd H30
      refine L.a [0] [0] (Ac.ap (ty := tyRef09Cell) h34 rfl rfl rfl rfl rfl rfl rfl) rfl rfl rfl rfl rfl ?_
      rintro ⟨a36, c37⟩
      refine L.q 1 rfl ?_
      refine L.nil ?_
      refine E.then ?_
      refine T.seq ?_
      refine T.region ?_
      refine L.q 2 rfl ?_
      refine L.y (Yl.ldb 2 rfl rfl rfl rfl) rfl rfl rfl ?_
      refine L.q 3 rfl ?_
      obtain ⟨_, h39, H40⟩ := bnd H35
      refine L.rs 1 h39 rfl rfl rfl rfl rfl rfl rfl rfl rfl rfl rfl rfl ?_
      intro a41 c42
      obtain ⟨_, h44, H45⟩ := bnd H40
      refine L.a [0] [0] (Ac.ap (ty := tyRef09Cell) h44 rfl rfl rfl rfl rfl rfl rfl) rfl rfl rfl rfl rfl ?_
      rintro ⟨a46, c47⟩
      refine L.q 1 rfl ?_
      refine L.nil ?_
      refine E.then ?_
      refine T.seq ?_
      refine T.region ?_
      refine L.q 3 rfl ?_
      obtain ⟨r49, h50, H51⟩ := bnd H45
      refine L.a [] [] (Ac.call (c_ref09_Blank h50) rfl rfl rfl rfl) rfl rfl rfl rfl rfl ?_
      rintro ⟨a52, c53⟩
      refine L.q 1 rfl ?_
      obtain ⟨_, h55, H56⟩ := bnd H51
      refine L.a [0] [0] (Ac.ap (ty := tyRef09Cell) h55 rfl rfl rfl rfl rfl rfl rfl) rfl rfl rfl rfl rfl ?_
      rintro ⟨a57, c58⟩
      refine L.frz 0 rfl ?_
      obtain ⟨r61, h62, H63⟩ := bnd H56
      refine L.a [] [0] (Ac.call (c_ref09_mend a57 c58 h62) rfl rfl rfl rfl) rfl rfl rfl rfl rfl ?_
      rintro ⟨a64, c65⟩
      refine L.a [0] [] (Ac.stb rfl rfl rfl rfl rfl rfl) rfl rfl rfl rfl rfl ?_
      intro _
      refine L.nil ?_
      refine E.then ?_
      refine T.ret ?_
      have hr := Option.some.inj H63
      subst r
      exact E.ret (a64, c65) [] [0] (.cell 0 rfl rfl rfl .nil) rfl rfl rfl

theorem c_row_Row_Fill {r_ : RowRow} {style : Int} (a_0_0 : Option Addr) (c_0_0 : Nat) {r : RowRow} (H : p_row_Row_Fill r_ style = some r) : CT G 22 [.agg #[.slice a_0_0 r_.cells.length c_0_0, .bool r_.wrapped], .int .i64 style] [] [Im.sl tyRowCell a_0_0 c_0_0 r_.cells] (fun h : (Option Addr × Nat) => .agg #[.slice h.1 r.cells.length h.2, .bool r.wrapped]) (fun h => []) (fun h => [Im.sl tyRowCell h.1 h.2 r.cells]) := by
  delta p_row_Row_Fill at H
  refine CT.of Go.Proofs.Tryd.func22 (by kernel_rfl) rfl rfl rfl fun K => ?_
  refine T.seq ?_
  refine T.region ?_
  refine L.a [] [] (Ac.box rfl rfl) rfl rfl rfl rfl rfl ?_
  intro g1
  refine L.a [] [] (Ac.alloc rfl rfl) rfl rfl rfl rfl rfl ?_
  intro g2
  refine L.nil ?_
  refine E.then ?_
  refine T.seq ?_
  refine T.region ?_
  refine L.y (Yl.ldb 1 rfl rfl rfl rfl) rfl rfl rfl ?_
  obtain ⟨r3, h4, H5⟩ := bnd H
  refine L.a [] [0] (Ac.call (c_row_Row_cells a_0_0 c_0_0 h4) rfl rfl rfl rfl) rfl rfl rfl rfl rfl ?_
  rintro ⟨a6, c7⟩
  refine L.q 1 rfl ?_
  refine L.nil ?_
  refine E.then ?_
  refine T.seq ?_
  refine T.seq ?_
  refine T.region ?_
  refine L.q 3 rfl ?_
  refine L.nil ?_
  refine E.then ?_
  refine T.seq ?_
  refine T.region ?_
  refine L.q 2 rfl ?_
  refine L.nil ?_
  refine E.then ?_
  obtain ⟨e25, H26, H27⟩ := bnd H5
  refine T.join (η := Unit × Unit) (fun h => True) (fun h => [(4, .pointer (some ⟨g2, 0, none⟩)), (5, .slice a6 e25.length c7)]) (fun h => [Ch.arr tyRowCell 80 a6 c7 e25, Ch.box g2 26 [.slice none 0 0, .bool false], Ch.box g1 26 [.slice a_0_0 r_.cells.length c_0_0, .bool r_.wrapped]]) (fun h => [Im.sl tyRowCell a_0_0 c_0_0 r_.cells]) ?_ ?_
  · refine T.bif rfl H26 (fun hc H28 => ?_) (fun hc H28 => ?_)
    · refine T.region ?_
      refine L.q 5 rfl ?_
      obtain ⟨x29, h30, H31⟩ := bnd H28
      refine L.addro 0 rfl (idx_lt h30) fun b32 e33 => ?_
      obtain rfl : a6 = some ⟨b32, 0, none⟩ := e33
      refine L.y (Yl.ia h30 rfl rfl rfl rfl rfl rfl) rfl rfl rfl ?_
      refine L.a [0] [] (Ac.se 0 (RowCell.mk 32 style 3) (idx_some h30).2 rfl rfl rfl rfl rfl rfl (fun _ => ⟨(), rfl, [], rfl⟩)) rfl rfl rfl rfl rfl ?_
      intro _
      refine L.sl 5 (k' := (r3.set ((IntKind.i64.wrap ((r3.length : Int) - 1)).toNat) (RowCell.mk 32 style 3)).length) (List.length_set ..) rfl ?_
      refine L.nil ?_
      have hr := Option.some.inj H31
      subst e25
      exact E.give ((), ()) [0, 0, 0] [0] trivial ⟨rfl, rfl, trivial⟩ rfl rfl
    · refine T.skip ?_
      have hr := Option.some.inj H28
      subst e25
      exact E.give ((), ()) [0, 0, 0] [0] trivial ⟨rfl, rfl, trivial⟩ rfl rfl
  · rintro ⟨_, ⟨⟩⟩ _
    refine T.seq ?_
    refine T.region ?_
    refine L.q 1 rfl ?_
    obtain ⟨r35, h36, H37⟩ := bnd H27
    refine L.a [0] [] (Ac.call (c_row_mend a6 c7 h36) rfl rfl rfl rfl) rfl rfl rfl rfl rfl ?_
    rintro ⟨⟩
    refine L.a [] [] (Ac.alloc rfl rfl) rfl rfl rfl rfl rfl ?_
    intro g39
    refine L.a [0] [] (Ac.stb rfl rfl rfl rfl rfl rfl) rfl rfl rfl rfl rfl ?_
    intro _
    refine L.nil ?_
    refine E.then ?_
    refine T.seq ?_
    refine T.region ?_
    refine L.q 1 rfl ?_
    refine L.a [0] [] (Ac.stb rfl rfl rfl rfl rfl rfl) rfl rfl rfl rfl rfl ?_
    intro _
    refine L.nil ?_
    refine E.then ?_
    refine T.seq ?_
    refine T.region ?_
    refine L.y (Yl.ldb 0 rfl rfl rfl rfl) rfl rfl rfl ?_
    refine L.a [1] [] (Ac.stb rfl rfl rfl rfl rfl rfl) rfl rfl rfl rfl rfl ?_
    intro _
    refine L.nil ?_
    refine E.then ?_
    refine T.ret ?_
    have hr := Option.some.inj H37
    subst r
    exact E.ret (a6, c7) [] [0] (.cell 0 rfl rfl rfl .nil) rfl rfl rfl

theorem c_ref09_Fill {r_ : Ref09Row} {style : Int} (a_0_0 : Option Addr) (c_0_0 : Nat) {r : Ref09Row} (H : p_ref09_Fill r_ style = some r) : CT G 50 [.agg #[.slice a_0_0 r_.l.length c_0_0, .bool r_.wrapped], .int .i64 style] [] [Im.sl tyRef09Cell a_0_0 c_0_0 r_.l] (fun h : (Option Addr × Nat) => .agg #[.slice h.1 r.l.length h.2, .bool r.wrapped]) (fun h => []) (fun h => [Im.sl tyRef09Cell h.1 h.2 r.l]) := by
  delta p_ref09_Fill at H
  refine CT.of Go.Proofs.Tryd.func50 (by kernel_rfl) rfl rfl rfl fun K => ?_
  refine T.seq ?_
  refine T.region ?_
  refine L.a [] [] (Ac.box rfl rfl) rfl rfl rfl rfl rfl ?_
  intro g1
  refine L.a [] [] (Ac.alloc rfl rfl) rfl rfl rfl rfl rfl ?_
  intro g2
  refine L.nil ?_
  refine E.then ?_
  refine T.seq ?_
  refine T.region ?_
  refine L.a [] [] (Ac.bs (ty := tyRef09Cell) (xs := []) .nil rfl rfl rfl rfl rfl rfl rfl) rfl rfl rfl rfl rfl ?_
  intro g3
  refine L.q 1 rfl ?_
  refine L.y (Yl.ldb 2 rfl rfl rfl rfl) rfl rfl rfl ?_
  obtain ⟨_, h5, H6⟩ := bnd H
  refine L.a [0] [0] (Ac.ap (ty := tyRef09Cell) h5 rfl rfl rfl rfl rfl rfl rfl) rfl rfl rfl rfl rfl ?_
  rintro ⟨a7, c8⟩
  refine L.q 1 rfl ?_
  refine L.nil ?_
  refine E.then ?_
  refine T.seq ?_
  refine T.seq ?_
  refine T.region ?_
  refine L.q 3 rfl ?_
  refine L.nil ?_
  refine E.then ?_
  obtain ⟨e26, H27, H28⟩ := bnd H6
  refine T.join (η := Unit × Unit) (fun h => True) (fun h => [(4, .pointer (some ⟨g2, 0, none⟩)), (5, .slice a7 e26.length c8)]) (fun h => [Ch.arr tyRef09Cell 84 a7 c8 e26, Ch.box g2 30 [.slice none 0 0, .bool false], Ch.box g1 30 [.slice a_0_0 r_.l.length c_0_0, .bool r_.wrapped]]) (fun h => [Im.sl tyRef09Cell a_0_0 c_0_0 r_.l]) ?_ ?_
  · refine T.bif rfl H27 (fun hc H29 => ?_) (fun hc H29 => ?_)
    · refine T.region ?_
      refine L.q 6 rfl ?_
      obtain ⟨x30, h31, H32⟩ := bnd H29
      refine L.addro 0 rfl (idx_lt h31) fun b33 e34 => ?_
      obtain rfl : a7 = some ⟨b33, 0, none⟩ := e34
      refine L.y (Yl.ia h31 rfl rfl rfl rfl rfl rfl) rfl rfl rfl ?_
      refine L.a [0] [] (Ac.se 0 (Ref09Cell.mk 32 style 3) (idx_some h31).2 rfl rfl rfl rfl rfl rfl (fun _ => ⟨(), rfl, [], rfl⟩)) rfl rfl rfl rfl rfl ?_
      intro _
      refine L.sl 5 (k' := ((([] : List Ref09Cell) ++ r_.l).set ((IntKind.i64.wrap (((([] : List Ref09Cell) ++ r_.l).length : Int) - 1)).toNat) (Ref09Cell.mk 32 style 3)).length) (List.length_set ..) rfl ?_
      refine L.nil ?_
      have hr := Option.some.inj H32
      subst e26
      exact E.give ((), ()) [0, 0, 0] [0] trivial ⟨rfl, rfl, trivial⟩ rfl rfl
    · refine T.skip ?_
      have hr := Option.some.inj H29
      subst e26
      exact E.give ((), ()) [0, 0, 0] [0] trivial ⟨rfl, rfl, trivial⟩ rfl rfl
  · rintro ⟨_, ⟨⟩⟩ _
    refine T.seq ?_
    refine T.region ?_
    refine L.q 1 rfl ?_
    refine L.frz 0 rfl ?_
    obtain ⟨r37, h38, H39⟩ := bnd H28
    refine L.a [] [0] (Ac.call (c_ref09_mend a7 c8 h38) rfl rfl rfl rfl) rfl rfl rfl rfl rfl ?_
    rintro ⟨a40, c41⟩
    refine L.a [] [] (Ac.alloc rfl rfl) rfl rfl rfl rfl rfl ?_
    intro g43
    refine L.a [0] [] (Ac.stb rfl rfl rfl rfl rfl rfl) rfl rfl rfl rfl rfl ?_
    intro _
    refine L.nil ?_
    refine E.then ?_
    refine T.seq ?_
    refine T.region ?_
    refine L.q 1 rfl ?_
    refine L.a [0] [] (Ac.stb rfl rfl rfl rfl rfl rfl) rfl rfl rfl rfl rfl ?_
    intro _
    refine L.nil ?_
    refine E.then ?_
    refine T.seq ?_
    refine T.region ?_
    refine L.y (Yl.ldb 0 rfl rfl rfl rfl) rfl rfl rfl ?_
    refine L.a [1] [] (Ac.stb rfl rfl rfl rfl rfl rfl) rfl rfl rfl rfl rfl ?_
    intro _
    refine L.nil ?_
    refine E.then ?_
    refine T.ret ?_
    have hr := Option.some.inj H39
    subst r
    exact E.ret (a40, c41) [] [0] (.cell 0 rfl rfl rfl .nil) rfl rfl rfl

theorem c_row_Row_Resize {r_ : RowRow} {w : Int} (a_0_0 : Option Addr) (c_0_0 : Nat) {r : RowRow} (H : p_row_Row_Resize r_ w = some r) : CT G 51 [.agg #[.slice a_0_0 r_.cells.length c_0_0, .bool r_.wrapped], .int .i64 w] [] [Im.sl tyRowCell a_0_0 c_0_0 r_.cells] (fun h : (Option Addr × Nat) => .agg #[.slice h.1 r.cells.length h.2, .bool r.wrapped]) (fun h => []) (fun h => [Im.sl tyRowCell h.1 h.2 r.cells]) := by
  delta p_row_Row_Resize at H
  refine CT.of Go.Proofs.Tryd.func51 (by kernel_rfl) rfl rfl rfl fun K => ?_
  refine T.seq ?_
  refine T.region ?_
  refine L.a [] [] (Ac.box rfl rfl) rfl rfl rfl rfl rfl ?_
  intro g1
  refine L.a [] [] (Ac.alloc rfl rfl) rfl rfl rfl rfl rfl ?_
  intro g2
  refine L.nil ?_
  refine E.then ?_
  refine T.seq ?_
  refine T.region ?_
  refine L.q 1 rfl ?_
  obtain ⟨r3, h4, H5⟩ := bnd H
  refine L.a [] [] (Ac.call (c_row_clip h4) rfl rfl rfl rfl) rfl rfl rfl rfl rfl ?_
  rintro ⟨⟩
  refine L.q 1 rfl ?_
  refine L.nil ?_
  refine E.then ?_
  refine T.seq ?_
  refine T.region ?_
  refine L.y (Yl.ldb 1 rfl rfl rfl rfl) rfl rfl rfl ?_
  obtain ⟨r6, h7, H8⟩ := bnd H5
  refine L.a [] [0] (Ac.call (c_row_Row_cells a_0_0 c_0_0 h7) rfl rfl rfl rfl) rfl rfl rfl rfl rfl ?_
  rintro ⟨a9, c10⟩
  refine L.q 1 rfl ?_
  refine L.nil ?_
  refine E.then ?_
  refine T.seq ?_
  refine T.seq ?_
  refine T.region ?_
  refine L.q 4 rfl ?_
  refine L.nil ?_
  refine E.then ?_
  refine T.bif rfl H8 (fun hc H13 => ?_) (fun hc H13 => ?_)
  · refine T.seq ?_
    refine T.region ?_
    refine L.q 2 rfl ?_
    refine L.y (Yl.ldb 2 rfl rfl rfl rfl) rfl rfl rfl ?_
    refine L.q 1 rfl ?_
    refine L.a [1] [] (Ac.stb rfl rfl rfl rfl rfl rfl) rfl rfl rfl rfl rfl ?_
    intro _
    refine L.nil ?_
    refine E.then ?_
    refine T.ret ?_
    refine E.then_ret ?_
    refine E.frz 1 rfl ?_
    have hr := Option.some.inj H13
    subst r
    exact E.ret (a9, c10) [] [0] (.cell 0 rfl rfl rfl .nil) rfl rfl rfl
  · refine T.skip ?_
    refine E.then ?_
    refine T.seq ?_
    obtain ⟨e223, H224, H225⟩ := bnd H13
    refine T.join (η := Unit × ((Option Addr × Nat))) (fun h => True) (fun h => (fun a220 c221 => [(4, .pointer (some ⟨g2, 0, none⟩))]) h.2.1 h.2.2) (fun h => (fun a220 c221 => [Ch.box g2 26 [.slice a220 e223.cells.length c221, .bool e223.wrapped], Ch.box g1 26 [.slice a_0_0 r_.cells.length c_0_0, .bool r_.wrapped]]) h.2.1 h.2.2) (fun h => (fun a220 c221 => [Im.sl tyRowCell a220 c221 e223.cells, Im.sl tyRowCell a_0_0 c_0_0 r_.cells]) h.2.1 h.2.2) ?_ ?_
    · refine T.draw [13] [1, 1] mo (by rfl) rfl ?_
      refine D.q 0 rfl rfl rfl rfl rfl rfl ?_
      refine D.q 1 rfl rfl rfl rfl rfl rfl ?_
      refine D.q 2 rfl rfl rfl rfl rfl rfl ?_
      refine D.q 3 rfl rfl rfl rfl rfl rfl ?_
      refine D.q 4 rfl rfl rfl rfl rfl rfl ?_
      refine D.q 6 rfl rfl rfl rfl rfl rfl ?_
      refine D.q 7 rfl rfl rfl rfl rfl rfl ?_
      refine D.q 8 rfl rfl rfl rfl rfl rfl ?_
      refine D.q 9 rfl rfl rfl rfl rfl rfl ?_
      obtain ⟨_, h277, H298⟩ := bnd H224
      obtain ⟨r282, h283, H299⟩ := bnd H298
      obtain ⟨_, h289, H300⟩ := bnd H299
      obtain ⟨r294, h295, H301⟩ := bnd H300
      refine D.two rfl rfl rfl ?_ ?_
      · refine Dp.a [0] [] (Ac.rso h277 rfl rfl rfl rfl rfl rfl rfl) rfl rfl rfl rfl rfl rfl ?_
        intro _
        refine D.one rfl rfl rfl (Dp.a [] [] (Ac.call (c_row_blanks h283) rfl rfl rfl rfl) rfl rfl rfl rfl rfl rfl ?_)
        rintro ⟨a306, c307⟩
        refine D.frz 0 rfl ?_
        refine D.one rfl rfl rfl (Dp.a [0] [0] (Ac.ap (ty := tyRowCell) h289 rfl rfl rfl rfl rfl rfl rfl) rfl rfl rfl rfl rfl rfl ?_)
        rintro ⟨a310, c311⟩
        refine D.one rfl rfl rfl (Dp.a [0] [] (Ac.call (c_row_mend a310 c311 h295) rfl rfl rfl rfl) rfl rfl rfl rfl rfl rfl ?_)
        rintro ⟨⟩
        refine D.one rfl rfl rfl (Dp.al [0] [] (Ac.stb rfl rfl rfl rfl rfl rfl) rfl rfl rfl rfl rfl rfl rfl ?_)
        intro _
        refine D.nil rfl rfl ?_
        have hr := Option.some.inj H301
        subst e223
        exact E.give ((), (a310, c311)) [0, 0] [0, 2] trivial ⟨rfl, trivial⟩ rfl rfl
      · refine Dp.a [] [] (Ac.call (c_row_blanks h283) rfl rfl rfl rfl) rfl rfl rfl rfl rfl rfl ?_
        rintro ⟨a316, c317⟩
        refine D.one rfl rfl rfl (Dp.a [1] [] (Ac.rso h277 rfl rfl rfl rfl rfl rfl rfl) rfl rfl rfl rfl rfl rfl ?_)
        intro _
        refine D.frz 1 rfl ?_
        refine D.one rfl rfl rfl (Dp.a [0] [0] (Ac.ap (ty := tyRowCell) h289 rfl rfl rfl rfl rfl rfl rfl) rfl rfl rfl rfl rfl rfl ?_)
        rintro ⟨a323, c324⟩
        refine D.one rfl rfl rfl (Dp.a [0] [] (Ac.call (c_row_mend a323 c324 h295) rfl rfl rfl rfl) rfl rfl rfl rfl rfl rfl ?_)
        rintro ⟨⟩
        refine D.one rfl rfl rfl (Dp.al [0] [] (Ac.stb rfl rfl rfl rfl rfl rfl) rfl rfl rfl rfl rfl rfl rfl ?_)
        intro _
        refine D.nil rfl rfl ?_
        have hr := Option.some.inj H301
        subst e223
        exact E.give ((), (a323, c324)) [0, 0] [0, 2] trivial ⟨rfl, trivial⟩ rfl rfl
    · rintro ⟨_, ⟨a220, c221⟩⟩ _
      refine T.ret ?_
      have hr := Option.some.inj H225
      subst r
      exact E.ret (a220, c221) [] [0] (.cell 0 rfl rfl rfl .nil) rfl rfl rfl

theorem c_ref09_Resize {r_ : Ref09Row} {w : Int} (a_0_0 : Option Addr) (c_0_0 : Nat) {r : Ref09Row} (H : p_ref09_Resize r_ w = some r) : CT G 52 [.agg #[.slice a_0_0 r_.l.length c_0_0, .bool r_.wrapped], .int .i64 w] [] [Im.sl tyRef09Cell a_0_0 c_0_0 r_.l] (fun h : (Option Addr × Nat) => .agg #[.slice h.1 r.l.length h.2, .bool r.wrapped]) (fun h => []) (fun h => [Im.sl tyRef09Cell h.1 h.2 r.l]) := by
  delta p_ref09_Resize at H
  refine CT.of Go.Proofs.Tryd.func52 (by kernel_rfl) rfl rfl rfl fun K => ?_
  refine T.seq ?_
  refine T.region ?_
  refine L.a [] [] (Ac.box rfl rfl) rfl rfl rfl rfl rfl ?_
  intro g1
  refine L.a [] [] (Ac.alloc rfl rfl) rfl rfl rfl rfl rfl ?_
  intro g2
  refine L.nil ?_
  refine E.then ?_
  refine T.seq ?_
  refine T.region ?_
  refine L.q 1 rfl ?_
  obtain ⟨r3, h4, H5⟩ := bnd H
  refine L.a [] [] (Ac.call (c_ref09_near h4) rfl rfl rfl rfl) rfl rfl rfl rfl rfl ?_
  rintro ⟨⟩
  refine L.q 1 rfl ?_
  refine L.nil ?_
  refine E.then ?_
  refine T.seq ?_
  refine T.seq ?_
  refine T.region ?_
  refine L.q 2 rfl ?_
  refine L.y (Yl.ldb 1 rfl rfl rfl rfl) rfl rfl rfl ?_
  refine L.q 2 rfl ?_
  refine L.nil ?_
  refine E.then ?_
  refine T.bif rfl H5 (fun hc H7 => ?_) (fun hc H7 => ?_)
  · refine T.seq ?_
    refine T.region ?_
    refine L.y (Yl.ldb 1 rfl rfl rfl rfl) rfl rfl rfl ?_
    refine L.a [0] [] (Ac.stb rfl rfl rfl rfl rfl rfl) rfl rfl rfl rfl rfl ?_
    intro _
    refine L.nil ?_
    refine E.then ?_
    refine T.ret ?_
    refine E.then_ret ?_
    have hr := Option.some.inj H7
    subst r
    exact E.ret (a_0_0, c_0_0) [] [0] (.cell 0 rfl rfl rfl .nil) rfl rfl rfl
  · refine T.skip ?_
    refine E.then ?_
    refine T.seq ?_
    refine T.region ?_
    refine L.a [] [] (Ac.bs (ty := tyRef09Cell) (xs := []) .nil rfl rfl rfl rfl rfl rfl rfl) rfl rfl rfl rfl rfl ?_
    intro g8
    refine L.q 1 rfl ?_
    refine L.y (Yl.ldb 2 rfl rfl rfl rfl) rfl rfl rfl ?_
    refine L.q 2 rfl ?_
    refine L.y (Yl.ldb 2 rfl rfl rfl rfl) rfl rfl rfl ?_
    refine L.q 2 rfl ?_
    obtain ⟨_, h10, H11⟩ := bnd H7
    refine L.rs 0 h10 rfl rfl rfl rfl rfl rfl rfl rfl rfl rfl rfl rfl ?_
    intro a12 c13
    obtain ⟨_, h15, H16⟩ := bnd H11
    refine L.a [0] [0] (Ac.ap (ty := tyRef09Cell) h15 rfl rfl rfl rfl rfl rfl rfl) rfl rfl rfl rfl rfl ?_
    rintro ⟨a17, c18⟩
    refine L.q 1 rfl ?_
    refine L.nil ?_
    refine E.then ?_
    refine T.seq ?_
    refine T.region ?_
    refine L.q 5 rfl ?_
    obtain ⟨r20, h21, H22⟩ := bnd H16
    refine L.a [] [] (Ac.call (c_ref09_Blank h21) rfl rfl rfl rfl) rfl rfl rfl rfl rfl ?_
    rintro ⟨a23, c24⟩
    refine L.q 1 rfl ?_
    obtain ⟨_, h26, H27⟩ := bnd H22
    refine L.a [0] [0] (Ac.ap (ty := tyRef09Cell) h26 rfl rfl rfl rfl rfl rfl rfl) rfl rfl rfl rfl rfl ?_
    rintro ⟨a28, c29⟩
    refine L.frz 0 rfl ?_
    obtain ⟨r32, h33, H34⟩ := bnd H27
    refine L.a [] [0] (Ac.call (c_ref09_mend a28 c29 h33) rfl rfl rfl rfl) rfl rfl rfl rfl rfl ?_
    rintro ⟨a35, c36⟩
    refine L.a [0] [] (Ac.stb rfl rfl rfl rfl rfl rfl) rfl rfl rfl rfl rfl ?_
    intro _
    refine L.nil ?_
    refine E.then ?_
    refine T.ret ?_
    have hr := Option.some.inj H34
    subst r
    exact E.ret (a35, c36) [] [0] (.cell 0 rfl rfl rfl .nil) rfl rfl rfl

theorem c_law09_Do {r_ : RowRow} {x_ : Ref09Row} {a : Law09Act} (a_0_0 : Option Addr) (c_0_0 : Nat) (a_1_0 : Option Addr) (c_1_0 : Nat) {r : RowRow × Ref09Row} (H : p_law09_Do r_ x_ a = some r) : CT G 15 [.agg #[.slice a_0_0 r_.cells.length c_0_0, .bool r_.wrapped], .agg #[.slice a_1_0 x_.l.length c_1_0, .bool x_.wrapped], .agg #[.int .i64 a.kind, .int .i64 a.at_, .int .i64 a.n, .int .i64 a.style, .int .i32 a.rune]] [] [Im.sl tyRowCell a_0_0 c_0_0 r_.cells, Im.sl tyRef09Cell a_1_0 c_1_0 x_.l, Im.sl tyWideSpan (some ⟨0, 0, none⟩) 13 t_wide_nones, Im.sl tyWideSpan (some ⟨1, 0, none⟩) 14 t_wide_twos] (fun h : (Option Addr × Nat) × (Option Addr × Nat) => .tuple #[.agg #[.slice h.1.1 r.1.cells.length h.1.2, .bool r.1.wrapped], .agg #[.slice h.2.1 r.2.l.length h.2.2, .bool r.2.wrapped]]) (fun h => []) (fun h => [Im.sl tyRowCell h.1.1 h.1.2 r.1.cells, Im.sl tyRef09Cell h.2.1 h.2.2 r.2.l]) := by
  delta p_law09_Do at H
  refine CT.of Go.Proofs.Tryd.func15 (by kernel_rfl) rfl rfl rfl fun K => ?_
  refine T.seq ?_
  refine T.region ?_
  refine L.a [] [] (Ac.box rfl rfl) rfl rfl rfl rfl rfl ?_
  intro g1
  refine L.a [] [] (Ac.box rfl rfl) rfl rfl rfl rfl rfl ?_
  intro g2
  refine L.a [] [] (Ac.box rfl rfl) rfl rfl rfl rfl rfl ?_
  intro g3
  refine L.a [] [] (Ac.alloc rfl rfl) rfl rfl rfl rfl rfl ?_
  intro g4
  refine L.a [] [] (Ac.alloc rfl rfl) rfl rfl rfl rfl rfl ?_
  intro g5
  refine L.nil ?_
  refine E.then ?_
  refine T.seq ?_
  refine T.seq ?_
  refine T.region ?_
  refine L.q 1 rfl ?_
  refine L.y (Yl.ldb 2 rfl rfl rfl rfl) rfl rfl rfl ?_
  refine L.nil ?_
  refine E.then ?_
  refine T.block ?_
  refine T.seq ?_
  refine T.region ?_
  refine L.q 2 rfl ?_
  refine L.nil ?_
  refine E.then ?_
  refine T.bif rfl H (fun hc H251 => ?_) (fun hc H251 => ?_)
  · refine T.seq ?_
    refine T.draw [17, 18] [0, 0, 0, 0, 0] mo (by rfl) rfl ?_
    refine D.y 0 (Yl.ldb 4 rfl rfl rfl rfl) rfl rfl rfl rfl rfl rfl ?_
    refine D.q 1 rfl rfl rfl rfl rfl rfl ?_
    refine D.y 2 (Yl.ldb 2 rfl rfl rfl rfl) rfl rfl rfl rfl rfl rfl ?_
    refine D.q 3 rfl rfl rfl rfl rfl rfl ?_
    refine D.y 4 (Yl.ldb 2 rfl rfl rfl rfl) rfl rfl rfl rfl rfl rfl ?_
    refine D.q 5 rfl rfl rfl rfl rfl rfl ?_
    refine D.y 6 (Yl.ldb 2 rfl rfl rfl rfl) rfl rfl rfl rfl rfl rfl ?_
    refine D.y 8 (Yl.ldb 3 rfl rfl rfl rfl) rfl rfl rfl rfl rfl rfl ?_
    refine D.q 9 rfl rfl rfl rfl rfl rfl ?_
    refine D.y 10 (Yl.ldb 2 rfl rfl rfl rfl) rfl rfl rfl rfl rfl rfl ?_
    refine D.q 11 rfl rfl rfl rfl rfl rfl ?_
    refine D.y 12 (Yl.ldb 2 rfl rfl rfl rfl) rfl rfl rfl rfl rfl rfl ?_
    refine D.q 13 rfl rfl rfl rfl rfl rfl ?_
    refine D.q 14 rfl rfl rfl rfl rfl rfl ?_
    refine D.y 15 (Yl.ldb 2 rfl rfl rfl rfl) rfl rfl rfl rfl rfl rfl ?_
    obtain ⟨r288, h289, H290⟩ := bnd H251
    refine D.one rfl rfl rfl (Dp.a [] [0, 2, 3] (Ac.call (c_row_Row_Put a_0_0 c_0_0 h289) rfl rfl rfl rfl) rfl rfl rfl rfl rfl rfl ?_)
    rintro ⟨a291, c292⟩
    obtain ⟨r294, h295, H296⟩ := bnd H290
    refine D.one rfl rfl rfl (Dp.a [] [2] (Ac.call (c_ref09_Put a_1_0 c_1_0 h295) rfl rfl rfl rfl) rfl rfl rfl rfl rfl rfl ?_)
    rintro ⟨a297, c298⟩
    refine D.one rfl rfl rfl (Dp.al [1] [] (Ac.stb rfl rfl rfl rfl rfl rfl) rfl rfl rfl rfl rfl rfl rfl ?_)
    intro _
    refine D.one rfl rfl rfl (Dp.al [1] [] (Ac.stb rfl rfl rfl rfl rfl rfl) rfl rfl rfl rfl rfl rfl rfl ?_)
    intro _
    refine D.nil rfl rfl ?_
    refine E.then ?_
    refine T.ret ?_
    refine E.block_ret ?_
    refine E.then_ret ?_
    have hr := Option.some.inj H296
    subst r
    exact E.ret ((a291, c292), (a297, c298)) [] [1, 0] (.cell 1 rfl rfl rfl (.cell 0 rfl rfl rfl .nil)) rfl rfl rfl
  · refine T.seq ?_
    refine T.region ?_
    refine L.q 2 rfl ?_
    refine L.nil ?_
    refine E.then ?_
    refine T.bif rfl H251 (fun hc H300 => ?_) (fun hc H300 => ?_)
    · refine T.seq ?_
      refine T.draw [16, 17] [0, 0, 0, 0, 0] mo (by rfl) rfl ?_
      refine D.y 0 (Yl.ldb 4 rfl rfl rfl rfl) rfl rfl rfl rfl rfl rfl ?_
      refine D.q 1 rfl rfl rfl rfl rfl rfl ?_
      refine D.y 2 (Yl.ldb 2 rfl rfl rfl rfl) rfl rfl rfl rfl rfl rfl ?_
      refine D.q 3 rfl rfl rfl rfl rfl rfl ?_
      refine D.y 4 (Yl.ldb 2 rfl rfl rfl rfl) rfl rfl rfl rfl rfl rfl ?_
      refine D.q 5 rfl rfl rfl rfl rfl rfl ?_
      refine D.y 6 (Yl.ldb 2 rfl rfl rfl rfl) rfl rfl rfl rfl rfl rfl ?_
      refine D.y 8 (Yl.ldb 3 rfl rfl rfl rfl) rfl rfl rfl rfl rfl rfl ?_
      refine D.q 9 rfl rfl rfl rfl rfl rfl ?_
      refine D.y 10 (Yl.ldb 2 rfl rfl rfl rfl) rfl rfl rfl rfl rfl rfl ?_
      refine D.q 11 rfl rfl rfl rfl rfl rfl ?_
      refine D.y 12 (Yl.ldb 2 rfl rfl rfl rfl) rfl rfl rfl rfl rfl rfl ?_
      refine D.q 13 rfl rfl rfl rfl rfl rfl ?_
      refine D.y 14 (Yl.ldb 2 rfl rfl rfl rfl) rfl rfl rfl rfl rfl rfl ?_
      obtain ⟨r337, h338, H339⟩ := bnd H300
      refine D.one rfl rfl rfl (Dp.a [] [0] (Ac.call (c_row_Row_Erase a_0_0 c_0_0 h338) rfl rfl rfl rfl) rfl rfl rfl rfl rfl rfl ?_)
      rintro ⟨a340, c341⟩
      obtain ⟨r343, h344, H345⟩ := bnd H339
      refine D.one rfl rfl rfl (Dp.a [] [2] (Ac.call (c_ref09_Erase a_1_0 c_1_0 h344) rfl rfl rfl rfl) rfl rfl rfl rfl rfl rfl ?_)
      rintro ⟨a346, c347⟩
      refine D.one rfl rfl rfl (Dp.al [1] [] (Ac.stb rfl rfl rfl rfl rfl rfl) rfl rfl rfl rfl rfl rfl rfl ?_)
      intro _
      refine D.one rfl rfl rfl (Dp.al [1] [] (Ac.stb rfl rfl rfl rfl rfl rfl) rfl rfl rfl rfl rfl rfl rfl ?_)
      intro _
      refine D.nil rfl rfl ?_
      refine E.then ?_
      refine T.ret ?_
      refine E.block_ret ?_
      refine E.then_ret ?_
      have hr := Option.some.inj H345
      subst r
      exact E.ret ((a340, c341), (a346, c347)) [] [1, 0] (.cell 1 rfl rfl rfl (.cell 0 rfl rfl rfl .nil)) rfl rfl rfl
    · refine T.seq ?_
      refine T.region ?_
      refine L.q 2 rfl ?_
      refine L.nil ?_
      refine E.then ?_
      refine T.bif rfl H300 (fun hc H349 => ?_) (fun hc H349 => ?_)
      · refine T.seq ?_
        refine T.draw [16, 17] [0, 0, 0, 0, 0] mo (by rfl) rfl ?_
        refine D.y 0 (Yl.ldb 4 rfl rfl rfl rfl) rfl rfl rfl rfl rfl rfl ?_
        refine D.q 1 rfl rfl rfl rfl rfl rfl ?_
        refine D.y 2 (Yl.ldb 2 rfl rfl rfl rfl) rfl rfl rfl rfl rfl rfl ?_
        refine D.q 3 rfl rfl rfl rfl rfl rfl ?_
        refine D.y 4 (Yl.ldb 2 rfl rfl rfl rfl) rfl rfl rfl rfl rfl rfl ?_
        refine D.q 5 rfl rfl rfl rfl rfl rfl ?_
        refine D.y 6 (Yl.ldb 2 rfl rfl rfl rfl) rfl rfl rfl rfl rfl rfl ?_
        refine D.y 8 (Yl.ldb 3 rfl rfl rfl rfl) rfl rfl rfl rfl rfl rfl ?_
        refine D.q 9 rfl rfl rfl rfl rfl rfl ?_
        refine D.y 10 (Yl.ldb 2 rfl rfl rfl rfl) rfl rfl rfl rfl rfl rfl ?_
        refine D.q 11 rfl rfl rfl rfl rfl rfl ?_
        refine D.y 12 (Yl.ldb 2 rfl rfl rfl rfl) rfl rfl rfl rfl rfl rfl ?_
        refine D.q 13 rfl rfl rfl rfl rfl rfl ?_
        refine D.y 14 (Yl.ldb 2 rfl rfl rfl rfl) rfl rfl rfl rfl rfl rfl ?_
        obtain ⟨r386, h387, H388⟩ := bnd H349
        refine D.one rfl rfl rfl (Dp.a [] [0] (Ac.call (c_row_Row_Insert a_0_0 c_0_0 h387) rfl rfl rfl rfl) rfl rfl rfl rfl rfl rfl ?_)
        rintro ⟨a389, c390⟩
        obtain ⟨r392, h393, H394⟩ := bnd H388
        refine D.one rfl rfl rfl (Dp.a [] [2] (Ac.call (c_ref09_Insert a_1_0 c_1_0 h393) rfl rfl rfl rfl) rfl rfl rfl rfl rfl rfl ?_)
        rintro ⟨a395, c396⟩
        refine D.one rfl rfl rfl (Dp.al [1] [] (Ac.stb rfl rfl rfl rfl rfl rfl) rfl rfl rfl rfl rfl rfl rfl ?_)
        intro _
        refine D.one rfl rfl rfl (Dp.al [1] [] (Ac.stb rfl rfl rfl rfl rfl rfl) rfl rfl rfl rfl rfl rfl rfl ?_)
        intro _
        refine D.nil rfl rfl ?_
        refine E.then ?_
        refine T.ret ?_
        refine E.block_ret ?_
        refine E.then_ret ?_
        have hr := Option.some.inj H394
        subst r
        exact E.ret ((a389, c390), (a395, c396)) [] [1, 0] (.cell 1 rfl rfl rfl (.cell 0 rfl rfl rfl .nil)) rfl rfl rfl
      · refine T.seq ?_
        refine T.region ?_
        refine L.q 2 rfl ?_
        refine L.nil ?_
        refine E.then ?_
        refine T.bif rfl H349 (fun hc H398 => ?_) (fun hc H398 => ?_)
        · refine T.seq ?_
          refine T.draw [16, 17] [0, 0, 0, 0, 0] mo (by rfl) rfl ?_
          refine D.y 0 (Yl.ldb 4 rfl rfl rfl rfl) rfl rfl rfl rfl rfl rfl ?_
          refine D.q 1 rfl rfl rfl rfl rfl rfl ?_
          refine D.y 2 (Yl.ldb 2 rfl rfl rfl rfl) rfl rfl rfl rfl rfl rfl ?_
          refine D.q 3 rfl rfl rfl rfl rfl rfl ?_
          refine D.y 4 (Yl.ldb 2 rfl rfl rfl rfl) rfl rfl rfl rfl rfl rfl ?_
          refine D.q 5 rfl rfl rfl rfl rfl rfl ?_
          refine D.y 6 (Yl.ldb 2 rfl rfl rfl rfl) rfl rfl rfl rfl rfl rfl ?_
          refine D.y 8 (Yl.ldb 3 rfl rfl rfl rfl) rfl rfl rfl rfl rfl rfl ?_
          refine D.q 9 rfl rfl rfl rfl rfl rfl ?_
          refine D.y 10 (Yl.ldb 2 rfl rfl rfl rfl) rfl rfl rfl rfl rfl rfl ?_
          refine D.q 11 rfl rfl rfl rfl rfl rfl ?_
          refine D.y 12 (Yl.ldb 2 rfl rfl rfl rfl) rfl rfl rfl rfl rfl rfl ?_
          refine D.q 13 rfl rfl rfl rfl rfl rfl ?_
          refine D.y 14 (Yl.ldb 2 rfl rfl rfl rfl) rfl rfl rfl rfl rfl rfl ?_
          obtain ⟨r435, h436, H437⟩ := bnd H398
          refine D.one rfl rfl rfl (Dp.a [] [0] (Ac.call (c_row_Row_Delete a_0_0 c_0_0 h436) rfl rfl rfl rfl) rfl rfl rfl rfl rfl rfl ?_)
          rintro ⟨a438, c439⟩
          obtain ⟨r441, h442, H443⟩ := bnd H437
          refine D.one rfl rfl rfl (Dp.a [] [2] (Ac.call (c_ref09_Delete a_1_0 c_1_0 h442) rfl rfl rfl rfl) rfl rfl rfl rfl rfl rfl ?_)
          rintro ⟨a444, c445⟩
          refine D.one rfl rfl rfl (Dp.al [1] [] (Ac.stb rfl rfl rfl rfl rfl rfl) rfl rfl rfl rfl rfl rfl rfl ?_)
          intro _
          refine D.one rfl rfl rfl (Dp.al [1] [] (Ac.stb rfl rfl rfl rfl rfl rfl) rfl rfl rfl rfl rfl rfl rfl ?_)
          intro _
          refine D.nil rfl rfl ?_
          refine E.then ?_
          refine T.ret ?_
          refine E.block_ret ?_
          refine E.then_ret ?_
          have hr := Option.some.inj H443
          subst r
          exact E.ret ((a438, c439), (a444, c445)) [] [1, 0] (.cell 1 rfl rfl rfl (.cell 0 rfl rfl rfl .nil)) rfl rfl rfl
        · refine T.seq ?_
          refine T.region ?_
          refine L.q 2 rfl ?_
          refine L.nil ?_
          refine E.then ?_
          refine T.bif rfl H398 (fun hc H447 => ?_) (fun hc H447 => ?_)
          · refine T.seq ?_
            refine T.draw [8, 9] [0, 0, 0, 0, 0] mo (by rfl) rfl ?_
            refine D.y 0 (Yl.ldb 4 rfl rfl rfl rfl) rfl rfl rfl rfl rfl rfl ?_
            refine D.q 1 rfl rfl rfl rfl rfl rfl ?_
            refine D.y 2 (Yl.ldb 2 rfl rfl rfl rfl) rfl rfl rfl rfl rfl rfl ?_
            refine D.y 4 (Yl.ldb 3 rfl rfl rfl rfl) rfl rfl rfl rfl rfl rfl ?_
            refine D.q 5 rfl rfl rfl rfl rfl rfl ?_
            refine D.y 6 (Yl.ldb 2 rfl rfl rfl rfl) rfl rfl rfl rfl rfl rfl ?_
            obtain ⟨r484, h485, H486⟩ := bnd H447
            refine D.one rfl rfl rfl (Dp.a [] [0] (Ac.call (c_row_Row_Fill a_0_0 c_0_0 h485) rfl rfl rfl rfl) rfl rfl rfl rfl rfl rfl ?_)
            rintro ⟨a487, c488⟩
            obtain ⟨r490, h491, H492⟩ := bnd H486
            refine D.one rfl rfl rfl (Dp.a [] [2] (Ac.call (c_ref09_Fill a_1_0 c_1_0 h491) rfl rfl rfl rfl) rfl rfl rfl rfl rfl rfl ?_)
            rintro ⟨a493, c494⟩
            refine D.one rfl rfl rfl (Dp.al [1] [] (Ac.stb rfl rfl rfl rfl rfl rfl) rfl rfl rfl rfl rfl rfl rfl ?_)
            intro _
            refine D.one rfl rfl rfl (Dp.al [1] [] (Ac.stb rfl rfl rfl rfl rfl rfl) rfl rfl rfl rfl rfl rfl rfl ?_)
            intro _
            refine D.nil rfl rfl ?_
            refine E.then ?_
            refine T.ret ?_
            refine E.block_ret ?_
            refine E.then_ret ?_
            have hr := Option.some.inj H492
            subst r
            exact E.ret ((a487, c488), (a493, c494)) [] [1, 0] (.cell 1 rfl rfl rfl (.cell 0 rfl rfl rfl .nil)) rfl rfl rfl
          · refine T.skip ?_
            refine E.block ?_
            refine E.then ?_
            refine T.seq ?_
            refine T.region ?_
            refine L.q 1 rfl ?_
            refine L.y (Yl.ldb 2 rfl rfl rfl rfl) rfl rfl rfl ?_
            refine L.q 1 rfl ?_
            refine L.nil ?_
            refine E.then ?_
            refine T.seq ?_
            refine T.seq ?_
            obtain ⟨e499, H500, H501⟩ := bnd H447
            refine T.join (η := Unit × Unit) (fun h => True) (fun h => [(3, .pointer (some ⟨g1, 0, none⟩)), (4, .pointer (some ⟨g2, 0, none⟩)), (6, .pointer (some ⟨g4, 0, none⟩)), (7, .pointer (some ⟨g5, 0, none⟩)), (8, .int .i64 a.n), (101, .bool e499)]) (fun h => [Ch.box g5 30 [.slice none 0 0, .bool false], Ch.box g4 26 [.slice none 0 0, .bool false], Ch.box g3 35 [.int .i64 a.kind, .int .i64 a.at_, .int .i64 a.n, .int .i64 a.style, .int .i32 a.rune], Ch.box g2 30 [.slice a_1_0 x_.l.length c_1_0, .bool x_.wrapped], Ch.box g1 26 [.slice a_0_0 r_.cells.length c_0_0, .bool r_.wrapped]]) (fun h => [Im.sl tyRowCell a_0_0 c_0_0 r_.cells, Im.sl tyRef09Cell a_1_0 c_1_0 x_.l, Im.sl tyWideSpan (some ⟨0, 0, none⟩) 13 t_wide_nones, Im.sl tyWideSpan (some ⟨1, 0, none⟩) 14 t_wide_twos]) ?_ ?_
            · refine T.region ?_
              refine L.q 3 rfl ?_
              refine L.cs 98 H500 rfl (fun hc H502 => ?_) (fun hc H502 => ?_)
              · refine L.q 3 rfl ?_
                refine L.nil ?_
                have hr := Option.some.inj H502
                subst e499
                exact E.give ((), ()) [0, 0, 0, 0, 0] [0, 1, 2, 3] trivial ⟨rfl, rfl, rfl, rfl, rfl, rfl, trivial⟩ rfl rfl
              · refine L.q 3 rfl ?_
                refine L.nil ?_
                have hr := Option.some.inj H502
                subst e499
                exact E.give ((), ()) [0, 0, 0, 0, 0] [0, 1, 2, 3] trivial ⟨rfl, rfl, rfl, rfl, rfl, rfl, trivial⟩ rfl rfl
            · rintro ⟨_, ⟨⟩⟩ _
              obtain ⟨e506, H507, H508⟩ := bnd H501
              refine T.join (η := Unit × Unit) (fun h => True) (fun h => [(3, .pointer (some ⟨g1, 0, none⟩)), (4, .pointer (some ⟨g2, 0, none⟩)), (6, .pointer (some ⟨g4, 0, none⟩)), (7, .pointer (some ⟨g5, 0, none⟩)), (8, .int .i64 e506)]) (fun h => [Ch.box g5 30 [.slice none 0 0, .bool false], Ch.box g4 26 [.slice none 0 0, .bool false], Ch.box g3 35 [.int .i64 a.kind, .int .i64 a.at_, .int .i64 a.n, .int .i64 a.style, .int .i32 a.rune], Ch.box g2 30 [.slice a_1_0 x_.l.length c_1_0, .bool x_.wrapped], Ch.box g1 26 [.slice a_0_0 r_.cells.length c_0_0, .bool r_.wrapped]]) (fun h => [Im.sl tyRowCell a_0_0 c_0_0 r_.cells, Im.sl tyRef09Cell a_1_0 c_1_0 x_.l, Im.sl tyWideSpan (some ⟨0, 0, none⟩) 13 t_wide_nones, Im.sl tyWideSpan (some ⟨1, 0, none⟩) 14 t_wide_twos]) ?_ ?_
              · refine T.bif rfl H507 (fun hc H509 => ?_) (fun hc H509 => ?_)
                · refine T.region ?_
                  refine L.q 1 rfl ?_
                  refine L.nil ?_
                  have hr := Option.some.inj H509
                  subst e506
                  exact E.give ((), ()) [0, 0, 0, 0, 0] [0, 1, 2, 3] trivial ⟨rfl, rfl, rfl, rfl, rfl, trivial⟩ rfl rfl
                · refine T.skip ?_
                  have hr := Option.some.inj H509
                  subst e506
                  exact E.give ((), ()) [0, 0, 0, 0, 0] [0, 1, 2, 3] trivial ⟨rfl, rfl, rfl, rfl, rfl, trivial⟩ rfl rfl
              · rintro ⟨_, ⟨⟩⟩ _
                refine T.seq ?_
                refine T.draw [6, 7] [0, 0, 0, 0, 0] mo (by rfl) rfl ?_
                refine D.y 0 (Yl.ldb 4 rfl rfl rfl rfl) rfl rfl rfl rfl rfl rfl ?_
                refine D.q 1 rfl rfl rfl rfl rfl rfl ?_
                refine D.y 3 (Yl.ldb 3 rfl rfl rfl rfl) rfl rfl rfl rfl rfl rfl ?_
                refine D.q 4 rfl rfl rfl rfl rfl rfl ?_
                obtain ⟨r546, h547, H548⟩ := bnd H508
                refine D.one rfl rfl rfl (Dp.a [] [0] (Ac.call (c_row_Row_Resize a_0_0 c_0_0 h547) rfl rfl rfl rfl) rfl rfl rfl rfl rfl rfl ?_)
                rintro ⟨a549, c550⟩
                obtain ⟨r552, h553, H554⟩ := bnd H548
                refine D.one rfl rfl rfl (Dp.a [] [2] (Ac.call (c_ref09_Resize a_1_0 c_1_0 h553) rfl rfl rfl rfl) rfl rfl rfl rfl rfl rfl ?_)
                rintro ⟨a555, c556⟩
                refine D.one rfl rfl rfl (Dp.al [1] [] (Ac.stb rfl rfl rfl rfl rfl rfl) rfl rfl rfl rfl rfl rfl rfl ?_)
                intro _
                refine D.one rfl rfl rfl (Dp.al [1] [] (Ac.stb rfl rfl rfl rfl rfl rfl) rfl rfl rfl rfl rfl rfl rfl ?_)
                intro _
                refine D.nil rfl rfl ?_
                refine E.then ?_
                refine T.ret ?_
                have hr := Option.some.inj H554
                subst r
                exact E.ret ((a549, c550), (a555, c556)) [] [1, 0] (.cell 1 rfl rfl rfl (.cell 0 rfl rfl rfl .nil)) rfl rfl rfl

end Go.Tw.X

set_option linter.unusedVariables false
set_option linter.unusedSimpArgs false
set_option maxRecDepth 10000
namespace Go.Tw.X
open Go Go.Tw
theorem c_law09_Is {r_ : RowRow} {x_ : Ref09Row} (a_0_0 : Option Addr) (c_0_0 : Nat) (a_1_0 : Option Addr) (c_1_0 : Nat) {r : Bool} (H : p_law09_Is r_ x_ = some r) : CT G 16 [.agg #[.slice a_0_0 r_.cells.length c_0_0, .bool r_.wrapped], .agg #[.slice a_1_0 x_.l.length c_1_0, .bool x_.wrapped]] [] [Im.sl tyRowCell a_0_0 c_0_0 r_.cells, Im.sl tyRef09Cell a_1_0 c_1_0 x_.l] (fun h : Unit => .bool r) (fun h => []) (fun h => []) := by
  delta p_law09_Is at H
  refine CT.of Go.Proofs.Tryd.func16 (by kernel_rfl) rfl rfl rfl fun K => ?_
  refine T.seq ?_
  refine T.region ?_
  refine L.a [] [] (Ac.box rfl rfl) rfl rfl rfl rfl rfl ?_
  intro g1
  refine L.a [] [] (Ac.box rfl rfl) rfl rfl rfl rfl rfl ?_
  intro g2
  refine L.q 1 rfl ?_
  refine L.nil ?_
  refine E.then ?_
  refine T.seq ?_
  refine T.seq ?_
  obtain ⟨e6, H7, H8⟩ := bnd H
  refine T.join (η := Unit × Unit) (fun h => True) (fun h => [(2, .pointer (some ⟨g1, 0, none⟩)), (3, .pointer (some ⟨g2, 0, none⟩)), (20, .bool e6)]) (fun h => [Ch.box g2 30 [.slice a_1_0 x_.l.length c_1_0, .bool x_.wrapped], Ch.box g1 26 [.slice a_0_0 r_.cells.length c_0_0, .bool r_.wrapped]]) (fun h => [Im.sl tyRowCell a_0_0 c_0_0 r_.cells, Im.sl tyRef09Cell a_1_0 c_1_0 x_.l]) ?_ ?_
  · refine T.region ?_
    refine L.q 1 rfl ?_
    refine L.y (Yl.ldb 1 rfl rfl rfl rfl) rfl rfl rfl ?_
    refine L.q 2 rfl ?_
    refine L.y (Yl.ldb 0 rfl rfl rfl rfl) rfl rfl rfl ?_
    refine L.q 3 rfl ?_
    refine L.cs 14 H7 rfl (fun hc H9 => ?_) (fun hc H9 => ?_)
    · refine L.q 6 rfl ?_
      refine L.nil ?_
      have hr := Option.some.inj H9
      subst e6
      exact E.give ((), ()) [0, 0] [0, 1] trivial ⟨rfl, rfl, rfl, trivial⟩ rfl rfl
    · refine L.q 1 rfl ?_
      refine L.y (Yl.ldb 1 rfl rfl rfl rfl) rfl rfl rfl ?_
      refine L.q 1 rfl ?_
      refine L.y (Yl.ldb 0 rfl rfl rfl rfl) rfl rfl rfl ?_
      refine L.q 2 rfl ?_
      refine L.nil ?_
      have hr := Option.some.inj H9
      subst e6
      exact E.give ((), ()) [0, 0] [0, 1] trivial ⟨rfl, rfl, rfl, trivial⟩ rfl rfl
  · rintro ⟨_, ⟨⟩⟩ _
    refine T.bif rfl H8 (fun hc H11 => ?_) (fun hc H11 => ?_)
    · refine T.seq ?_
      refine T.region ?_
      refine L.q 1 rfl ?_
      refine L.nil ?_
      refine E.then ?_
      refine T.ret ?_
      refine E.then_ret ?_
      have hr := Option.some.inj H11
      subst r
      exact E.ret () [] [] (.tmp rfl .nil) rfl rfl rfl
    · refine T.skip ?_
      refine E.then ?_
      refine T.seq ?_
      refine T.seq ?_
      refine T.region ?_
      refine L.q 1 rfl ?_
      refine L.y (Yl.ldb 1 rfl rfl rfl rfl) rfl rfl rfl ?_
      refine L.q 2 rfl ?_
      refine L.nil ?_
      refine E.then ?_
      obtain ⟨y713, H714, H715⟩ := bnd H11
      refine T.join (η := Unit × Unit) (fun h => y713 = .inl h.1) (fun h => (fun e712 => []) h.1) (fun h => (fun e712 => [Ch.box g2 30 [.slice a_1_0 x_.l.length c_1_0, .bool x_.wrapped], Ch.box g1 26 [.slice a_0_0 r_.cells.length c_0_0, .bool r_.wrapped]]) h.1) (fun h => (fun e712 => [Im.sl tyRowCell a_0_0 c_0_0 r_.cells, Im.sl tyRef09Cell a_1_0 c_1_0 x_.l]) h.1) ?_ ?_
      · refine T.block ?_
        refine T.lp (η := Unit) (fun s479 h => [(3, .pointer (some ⟨g2, 0, none⟩)), (22, .slice a_0_0 r_.cells.length c_0_0), (23, .int .i64 (r_.cells.length : Int)), (24, .int .i64 s479)]) (fun s479 h => [Ch.box g2 30 [.slice a_1_0 x_.l.length c_1_0, .bool x_.wrapped], Ch.box g1 26 [.slice a_0_0 r_.cells.length c_0_0, .bool r_.wrapped]]) (fun s479 h => [Im.sl tyRowCell a_0_0 c_0_0 r_.cells, Im.sl tyRef09Cell a_1_0 c_1_0 x_.l]) () [0, 0] [0, 1] H714 ⟨rfl, rfl, rfl, rfl, trivial⟩ rfl rfl ?_
        rintro k s479 ⟨⟩ z717 H716 hag718 hbr719
        refine T.seq ?_
        refine T.region ?_
        refine L.q 1 rfl ?_
        refine L.nil ?_
        refine E.then ?_
        refine T.seq ?_
        refine T.bif rfl H716 (fun hc H721 => ?_) (fun hc H721 => ?_)
        · refine T.skip ?_
          refine E.then ?_
          refine T.seq ?_
          refine T.block ?_
          refine T.seq ?_
          refine T.region ?_
          refine L.q 1 rfl ?_
          obtain ⟨x837, h838, H839⟩ := bnd H721
          refine L.addr 0 rfl (idx_lt h838) fun b840 o841 e842 => ?_
          obtain rfl : a_0_0 = some ⟨b840, o841, none⟩ := e842
          refine L.y (Yl.ia h838 rfl rfl rfl rfl rfl rfl) rfl rfl rfl ?_
          refine L.el 0 rfl (idx_some h838).2 ?_
          rintro _
          refine L.y (Yl.ldc 0 0 rfl rfl rfl rfl) rfl rfl rfl ?_
          refine L.a [] [] (Ac.alloc rfl rfl) rfl rfl rfl rfl rfl ?_
          intro g844
          refine L.q 1 rfl ?_
          refine L.a [0] [] (Ac.stb rfl rfl rfl rfl rfl rfl) rfl rfl rfl rfl rfl ?_
          intro _
          refine L.nil ?_
          refine E.then ?_
          refine T.seq ?_
          obtain ⟨e914, H915, H916⟩ := bnd H839
          refine T.join (η := Unit × Unit) (fun h => True) (fun h => [(3, .pointer (some ⟨g2, 0, none⟩)), (22, .slice (some ⟨b840, o841, none⟩) r_.cells.length c_0_0), (23, .int .i64 (r_.cells.length : Int)), (24, .int .i64 s479), (60, .bool e914)]) (fun h => [Ch.box g844 80 [.int .i32 x837.rune, .int .i64 x837.style, .int .i64 x837.part], Ch.box g2 30 [.slice a_1_0 x_.l.length c_1_0, .bool x_.wrapped], Ch.box g1 26 [.slice (some ⟨b840, o841, none⟩) r_.cells.length c_0_0, .bool r_.wrapped]]) (fun h => [Im.cells b840 (o841 + s479.toNat * 3) [.int .i32 x837.rune, .int .i64 x837.style, .int .i64 x837.part], Im.sl tyRowCell (some ⟨b840, o841, none⟩) c_0_0 r_.cells, Im.sl tyRef09Cell a_1_0 c_1_0 x_.l]) ?_ ?_
          · refine T.draw [] [0, 0, 0] mo (by rfl) rfl ?_
            refine D.q 0 rfl rfl rfl rfl rfl rfl ?_
            refine D.y 1 (Yl.ldb 0 rfl rfl rfl rfl) rfl rfl rfl rfl rfl rfl ?_
            refine D.q 2 rfl rfl rfl rfl rfl rfl ?_
            refine D.q 3 rfl rfl rfl rfl rfl rfl ?_
            refine D.y 4 (Yl.ldb 1 rfl rfl rfl rfl) rfl rfl rfl rfl rfl rfl ?_
            refine D.q 5 rfl rfl rfl rfl rfl rfl ?_
            obtain ⟨x934, h935, H936⟩ := bnd H915
            refine D.addr 2 rfl (idx_lt h935) fun b937 o938 e939 => ?_
            obtain rfl : a_1_0 = some ⟨b937, o938, none⟩ := e939
            refine D.y 6 (Yl.ia h935 rfl rfl rfl rfl rfl rfl) rfl rfl rfl rfl rfl rfl ?_
            refine D.el 2 rfl (idx_some h935).2 ?_
            rintro _
            refine D.q 7 rfl rfl rfl rfl rfl rfl ?_
            refine D.y 8 (Yl.ldc 0 0 rfl rfl rfl rfl) rfl rfl rfl rfl rfl rfl ?_
            refine D.q 9 rfl rfl rfl rfl rfl rfl ?_
            refine D.q 10 rfl rfl rfl rfl rfl rfl ?_
            refine D.cs 39 H936 rfl (fun hc H941 => ?_) (fun hc H941 => ?_)
            · refine D.sk 11 rfl rfl rfl rfl rfl ?_
              refine D.sk 12 rfl rfl rfl rfl rfl ?_
              refine D.sk 13 rfl rfl rfl rfl rfl ?_
              refine D.sk 14 rfl rfl rfl rfl rfl ?_
              refine D.sk 15 rfl rfl rfl rfl rfl ?_
              refine D.sk 16 rfl rfl rfl rfl rfl ?_
              refine D.sk 17 rfl rfl rfl rfl rfl ?_
              refine D.sk 18 rfl rfl rfl rfl rfl ?_
              refine D.sk 19 rfl rfl rfl rfl rfl ?_
              refine D.q 20 rfl rfl rfl rfl rfl rfl ?_
              refine D.q 21 rfl rfl rfl rfl rfl rfl ?_
              refine D.sk 22 rfl rfl rfl rfl rfl ?_
              refine D.sk 23 rfl rfl rfl rfl rfl ?_
              refine D.sk 24 rfl rfl rfl rfl rfl ?_
              refine D.sk 25 rfl rfl rfl rfl rfl ?_
              refine D.sk 26 rfl rfl rfl rfl rfl ?_
              refine D.sk 27 rfl rfl rfl rfl rfl ?_
              refine D.sk 28 rfl rfl rfl rfl rfl ?_
              refine D.sk 29 rfl rfl rfl rfl rfl ?_
              refine D.sk 30 rfl rfl rfl rfl rfl ?_
              refine D.q 31 rfl rfl rfl rfl rfl rfl ?_
              refine D.nil rfl rfl ?_
              have hr := Option.some.inj H941
              subst e914
              exact E.give ((), ()) [0, 0, 0] [1, 2, 3] trivial ⟨rfl, rfl, rfl, rfl, rfl, trivial⟩ rfl rfl
            · refine D.q 11 rfl rfl rfl rfl rfl rfl ?_
              refine D.y 12 (Yl.ldb 0 rfl rfl rfl rfl) rfl rfl rfl rfl rfl rfl ?_
              refine D.q 13 rfl rfl rfl rfl rfl rfl ?_
              refine D.y 14 (Yl.ldb 1 rfl rfl rfl rfl) rfl rfl rfl rfl rfl rfl ?_
              refine D.q 15 rfl rfl rfl rfl rfl rfl ?_
              obtain ⟨x942, h943, H944⟩ := bnd H941
              refine D.y 16 (Yl.ia h943 rfl rfl rfl rfl rfl rfl) rfl rfl rfl rfl rfl rfl ?_
              refine D.el 3 rfl (idx_some h943).2 ?_
              rintro _
              refine D.q 17 rfl rfl rfl rfl rfl rfl ?_
              refine D.y 18 (Yl.ldc 0 1 rfl rfl rfl rfl) rfl rfl rfl rfl rfl rfl ?_
              refine D.q 19 rfl rfl rfl rfl rfl rfl ?_
              refine D.q 20 rfl rfl rfl rfl rfl rfl ?_
              refine D.q 21 rfl rfl rfl rfl rfl rfl ?_
              refine D.cs 50 H944 rfl (fun hc H946 => ?_) (fun hc H946 => ?_)
              · refine D.sk 22 rfl rfl rfl rfl rfl ?_
                refine D.sk 23 rfl rfl rfl rfl rfl ?_
                refine D.sk 24 rfl rfl rfl rfl rfl ?_
                refine D.sk 25 rfl rfl rfl rfl rfl ?_
                refine D.sk 26 rfl rfl rfl rfl rfl ?_
                refine D.sk 27 rfl rfl rfl rfl rfl ?_
                refine D.sk 28 rfl rfl rfl rfl rfl ?_
                refine D.sk 29 rfl rfl rfl rfl rfl ?_
                refine D.sk 30 rfl rfl rfl rfl rfl ?_
                refine D.q 31 rfl rfl rfl rfl rfl rfl ?_
                refine D.nil rfl rfl ?_
                have hr := Option.some.inj H946
                subst e914
                exact E.give ((), ()) [0, 0, 0] [2, 3, 4] trivial ⟨rfl, rfl, rfl, rfl, rfl, trivial⟩ rfl rfl
              · refine D.q 22 rfl rfl rfl rfl rfl rfl ?_
                refine D.y 23 (Yl.ldb 0 rfl rfl rfl rfl) rfl rfl rfl rfl rfl rfl ?_
                refine D.q 24 rfl rfl rfl rfl rfl rfl ?_
                refine D.y 25 (Yl.ldb 1 rfl rfl rfl rfl) rfl rfl rfl rfl rfl rfl ?_
                refine D.q 26 rfl rfl rfl rfl rfl rfl ?_
                obtain ⟨x947, h948, H949⟩ := bnd H946
                refine D.y 27 (Yl.ia h948 rfl rfl rfl rfl rfl rfl) rfl rfl rfl rfl rfl rfl ?_
                refine D.el 4 rfl (idx_some h948).2 ?_
                rintro _
                refine D.q 28 rfl rfl rfl rfl rfl rfl ?_
                refine D.y 29 (Yl.ldc 0 2 rfl rfl rfl rfl) rfl rfl rfl rfl rfl rfl ?_
                refine D.q 30 rfl rfl rfl rfl rfl rfl ?_
                refine D.q 31 rfl rfl rfl rfl rfl rfl ?_
                refine D.nil rfl rfl ?_
                have hr := Option.some.inj H949
                subst e914
                exact E.give ((), ()) [0, 0, 0] [3, 4, 5] trivial ⟨rfl, rfl, rfl, rfl, rfl, trivial⟩ rfl rfl
          · rintro ⟨_, ⟨⟩⟩ _
            refine T.bif rfl H916 (fun hc H951 => ?_) (fun hc H951 => ?_)
            · refine T.seq ?_
              refine T.region ?_
              refine L.q 1 rfl ?_
              refine L.nil ?_
              refine E.then ?_
              refine T.ret ?_
              refine E.block_ret ?_
              refine E.then_ret ?_
              refine E.then_ret ?_
              refine E.block_ret ?_
              obtain ⟨w952, hz, H953⟩ := inrr_some H951
              subst z717
              have hb := hbr719 _ rfl
              subst y713
              have hw : w952 = r := Option.some.inj H715
              subst w952
              refine E.then_ret ?_
              have hr := Option.some.inj H953
              subst r
              exact E.ret () [] [] (.tmp rfl .nil) rfl rfl rfl
            · refine T.skip ?_
              refine E.block ?_
              refine E.then ?_
              refine T.region ?_
              refine L.q 2 rfl ?_
              refine L.nil ?_
              have hr := Option.some.inj H951
              subst z717
              exact E.give (_, ()) [1, 1] [1, 2] (hag718 _ rfl) ⟨rfl, rfl, rfl, rfl, trivial⟩ rfl rfl
        · refine T.exit ?_
          refine E.then_exit' ?_
          refine E.then_exit' ?_
          refine E.block_here ?_
          have hr := Option.some.inj H721
          subst z717
          have hb := hbr719 _ rfl
          subst y713
          exact E.give (_, ()) [0, 0] [0, 1] rfl trivial rfl rfl
      · rintro ⟨e712, ⟨⟩⟩ hy
        subst hy
        refine T.seq ?_
        refine T.region ?_
        refine L.q 1 rfl ?_
        refine L.nil ?_
        refine E.then ?_
        refine T.ret ?_
        have hr := Option.some.inj H715
        subst r
        exact E.ret () [] [] (.tmp rfl .nil) rfl rfl rfl

theorem c_ref09_Whole {r_ : Ref09Row} (a_0_0 : Option Addr) (c_0_0 : Nat) {r : Bool} (H : p_ref09_Whole r_ = some r) : CT G 17 [.agg #[.slice a_0_0 r_.l.length c_0_0, .bool r_.wrapped]] [] [Im.sl tyRef09Cell a_0_0 c_0_0 r_.l] (fun h : Unit => .bool r) (fun h => []) (fun h => []) := by
  delta p_ref09_Whole at H
  refine CT.of Go.Proofs.Tryd.func17 (by kernel_rfl) rfl rfl rfl fun K => ?_
  refine T.seq ?_
  refine T.region ?_
  refine L.a [] [] (Ac.box rfl rfl) rfl rfl rfl rfl rfl ?_
  intro g1
  refine L.q 1 rfl ?_
  refine L.nil ?_
  refine E.then ?_
  refine T.seq ?_
  refine T.seq ?_
  refine T.region ?_
  refine L.q 1 rfl ?_
  refine L.y (Yl.ldb 0 rfl rfl rfl rfl) rfl rfl rfl ?_
  obtain ⟨r2, h3, H4⟩ := bnd H
  refine L.a [] [0] (Ac.call (c_ref09_mend a_0_0 c_0_0 h3) rfl rfl rfl rfl) rfl rfl rfl rfl rfl ?_
  rintro ⟨a5, c6⟩
  refine L.q 3 rfl ?_
  refine L.nil ?_
  refine E.then ?_
  obtain ⟨y241, H242, H243⟩ := bnd H4
  refine T.join (η := Unit × Unit) (fun h => y241 = .inl h.1) (fun h => (fun e240 => []) h.1) (fun h => (fun e240 => [Ch.box g1 30 [.slice a_0_0 r_.l.length c_0_0, .bool r_.wrapped]]) h.1) (fun h => (fun e240 => [Im.sl tyRef09Cell a5 c6 r2.l, Im.sl tyRef09Cell a_0_0 c_0_0 r_.l]) h.1) ?_ ?_
  · refine T.block ?_
    refine T.lp (η := Unit) (fun s163 h => [(1, .pointer (some ⟨g1, 0, none⟩)), (8, .slice a5 r2.l.length c6), (9, .int .i64 (r2.l.length : Int)), (10, .int .i64 s163)]) (fun s163 h => [Ch.box g1 30 [.slice a_0_0 r_.l.length c_0_0, .bool r_.wrapped]]) (fun s163 h => [Im.sl tyRef09Cell a5 c6 r2.l, Im.sl tyRef09Cell a_0_0 c_0_0 r_.l]) () [0] [0, 1] H242 ⟨rfl, rfl, rfl, rfl, trivial⟩ rfl rfl ?_
    rintro k s163 ⟨⟩ z245 H244 hag246 hbr247
    refine T.seq ?_
    refine T.region ?_
    refine L.q 1 rfl ?_
    refine L.nil ?_
    refine E.then ?_
    refine T.seq ?_
    refine T.bif rfl H244 (fun hc H249 => ?_) (fun hc H249 => ?_)
    · refine T.skip ?_
      refine E.then ?_
      refine T.seq ?_
      refine T.block ?_
      refine T.seq ?_
      refine T.region ?_
      refine L.q 1 rfl ?_
      obtain ⟨x287, h288, H289⟩ := bnd H249
      refine L.addr 0 rfl (idx_lt h288) fun b290 o291 e292 => ?_
      obtain rfl : a5 = some ⟨b290, o291, none⟩ := e292
      refine L.y (Yl.ia h288 rfl rfl rfl rfl rfl rfl) rfl rfl rfl ?_
      refine L.el 0 rfl (idx_some h288).2 ?_
      rintro _
      refine L.y (Yl.ldc 0 0 rfl rfl rfl rfl) rfl rfl rfl ?_
      refine L.a [] [] (Ac.alloc rfl rfl) rfl rfl rfl rfl rfl ?_
      intro g294
      refine L.q 1 rfl ?_
      refine L.a [0] [] (Ac.stb rfl rfl rfl rfl rfl rfl) rfl rfl rfl rfl rfl ?_
      intro _
      refine L.nil ?_
      refine E.then ?_
      refine T.seq ?_
      refine T.draw [] [0, 0] mo (by rfl) rfl ?_
      refine D.y 0 (Yl.ldb 0 rfl rfl rfl rfl) rfl rfl rfl rfl rfl rfl ?_
      refine D.q 1 rfl rfl rfl rfl rfl rfl ?_
      refine D.y 2 (Yl.ldb 1 rfl rfl rfl rfl) rfl rfl rfl rfl rfl rfl ?_
      refine D.q 3 rfl rfl rfl rfl rfl rfl ?_
      obtain ⟨x316, h317, H318⟩ := bnd H289
      refine D.addr 2 rfl (idx_lt h317) fun b319 o320 e321 => ?_
      obtain rfl : a_0_0 = some ⟨b319, o320, none⟩ := e321
      refine D.y 4 (Yl.ia h317 rfl rfl rfl rfl rfl rfl) rfl rfl rfl rfl rfl rfl ?_
      refine D.el 2 rfl (idx_some h317).2 ?_
      rintro _
      refine D.y 5 (Yl.ldc 0 0 rfl rfl rfl rfl) rfl rfl rfl rfl rfl rfl ?_
      refine D.q 6 rfl rfl rfl rfl rfl rfl ?_
      refine D.nil rfl rfl ?_
      refine E.then ?_
      refine T.bif rfl H318 (fun hc H323 => ?_) (fun hc H323 => ?_)
      · refine T.seq ?_
        refine T.region ?_
        refine L.q 1 rfl ?_
        refine L.nil ?_
        refine E.then ?_
        refine T.ret ?_
        refine E.block_ret ?_
        refine E.then_ret ?_
        refine E.then_ret ?_
        refine E.block_ret ?_
        obtain ⟨w324, hz, H325⟩ := inrr_some H323
        subst z245
        have hb := hbr247 _ rfl
        subst y241
        have hw : w324 = r := Option.some.inj H243
        subst w324
        refine E.then_ret ?_
        have hr := Option.some.inj H325
        subst r
        exact E.ret () [] [] (.tmp rfl .nil) rfl rfl rfl
      · refine T.skip ?_
        refine E.block ?_
        refine E.then ?_
        refine T.region ?_
        refine L.q 2 rfl ?_
        refine L.nil ?_
        have hr := Option.some.inj H323
        subst z245
        exact E.give (_, ()) [1] [2, 3] (hag246 _ rfl) ⟨rfl, rfl, rfl, rfl, trivial⟩ rfl rfl
    · refine T.exit ?_
      refine E.then_exit' ?_
      refine E.then_exit' ?_
      refine E.block_here ?_
      have hr := Option.some.inj H249
      subst z245
      have hb := hbr247 _ rfl
      subst y241
      exact E.give (_, ()) [0] [0, 1] rfl trivial rfl rfl
  · rintro ⟨e240, ⟨⟩⟩ hy
    subst hy
    refine T.seq ?_
    refine T.region ?_
    refine L.q 1 rfl ?_
    refine L.nil ?_
    refine E.then ?_
    refine T.ret ?_
    have hr := Option.some.inj H243
    subst r
    exact E.ret () [] [] (.tmp rfl .nil) rfl rfl rfl

theorem c_law09_RowPlays {w : Int} {style : Int} {acts : List Law09Act} (a_2 : Option Addr) (c_2 : Nat) {r : Bool} (H : p_law09_RowPlays w style acts = some r) : CT G 3 [.int .i64 w, .int .i64 style, .slice a_2 acts.length c_2] [] [Im.sl tyLaw09Act a_2 c_2 acts, Im.sl tyWideSpan (some ⟨0, 0, none⟩) 13 t_wide_nones, Im.sl tyWideSpan (some ⟨1, 0, none⟩) 14 t_wide_twos] (fun h : Unit => .bool r) (fun h => []) (fun h => []) := by
  delta p_law09_RowPlays at H
  refine CT.of Go.Proofs.Tryd.func3 (by kernel_rfl) rfl rfl rfl fun K => ?_
  refine T.seq ?_
  refine T.region ?_
  refine L.q 1 rfl ?_
  refine L.nil ?_
  refine E.then ?_
  refine T.seq ?_
  refine T.seq ?_
  refine T.region ?_
  obtain ⟨r1, h2, H3⟩ := bnd H
  refine L.a [] [1, 2] (Ac.call (c_law09_awake h2) rfl rfl rfl rfl) rfl rfl rfl rfl rfl ?_
  rintro ⟨⟩
  refine L.q 1 rfl ?_
  refine L.nil ?_
  refine E.then ?_
  refine T.bif rfl H3 (fun hc H5 => ?_) (fun hc H5 => ?_)
  · refine T.seq ?_
    refine T.region ?_
    refine L.q 1 rfl ?_
    refine L.nil ?_
    refine E.then ?_
    refine T.ret ?_
    refine E.then_ret ?_
    have hr := Option.some.inj H5
    subst r
    exact E.ret () [] [] (.tmp rfl .nil) rfl rfl rfl
  · refine T.skip ?_
    refine E.then ?_
    refine T.seq ?_
    refine T.seq ?_
    obtain ⟨e9, H10, H11⟩ := bnd H5
    refine T.join (η := Unit × Unit) (fun h => True) (fun h => [(0, .int .i64 w), (1, .int .i64 style), (2, .slice a_2 acts.length c_2), (17, .bool e9)]) (fun h => []) (fun h => [Im.sl tyLaw09Act a_2 c_2 acts, Im.sl tyWideSpan (some ⟨0, 0, none⟩) 13 t_wide_nones, Im.sl tyWideSpan (some ⟨1, 0, none⟩) 14 t_wide_twos]) ?_ ?_
    · refine T.region ?_
      refine L.q 3 rfl ?_
      refine L.cs 14 H10 rfl (fun hc H12 => ?_) (fun hc H12 => ?_)
      · refine L.q 3 rfl ?_
        refine L.nil ?_
        have hr := Option.some.inj H12
        subst e9
        exact E.give ((), ()) [] [0, 1, 2] trivial ⟨rfl, rfl, rfl, rfl, trivial⟩ rfl rfl
      · refine L.q 3 rfl ?_
        refine L.nil ?_
        have hr := Option.some.inj H12
        subst e9
        exact E.give ((), ()) [] [0, 1, 2] trivial ⟨rfl, rfl, rfl, rfl, trivial⟩ rfl rfl
    · rintro ⟨_, ⟨⟩⟩ _
      obtain ⟨e16, H17, H18⟩ := bnd H11
      refine T.join (η := Unit × Unit) (fun h => True) (fun h => [(0, .int .i64 e16), (1, .int .i64 style), (2, .slice a_2 acts.length c_2)]) (fun h => []) (fun h => [Im.sl tyLaw09Act a_2 c_2 acts, Im.sl tyWideSpan (some ⟨0, 0, none⟩) 13 t_wide_nones, Im.sl tyWideSpan (some ⟨1, 0, none⟩) 14 t_wide_twos]) ?_ ?_
      · refine T.bif rfl H17 (fun hc H19 => ?_) (fun hc H19 => ?_)
        · refine T.region ?_
          refine L.q 1 rfl ?_
          refine L.nil ?_
          have hr := Option.some.inj H19
          subst e16
          exact E.give ((), ()) [] [0, 1, 2] trivial ⟨rfl, rfl, rfl, trivial⟩ rfl rfl
        · refine T.skip ?_
          have hr := Option.some.inj H19
          subst e16
          exact E.give ((), ()) [] [0, 1, 2] trivial ⟨rfl, rfl, rfl, trivial⟩ rfl rfl
      · rintro ⟨_, ⟨⟩⟩ _
        refine T.seq ?_
        refine T.region ?_
        refine L.q 2 rfl ?_
        obtain ⟨r20, h21, H22⟩ := bnd H18
        refine L.a [] [] (Ac.call (c_row_Blank h21) rfl rfl rfl rfl) rfl rfl rfl rfl rfl ?_
        rintro ⟨a23, c24⟩
        refine L.q 2 rfl ?_
        obtain ⟨r26, h27, H28⟩ := bnd H22
        refine L.a [] [] (Ac.call (c_ref09_Blank h27) rfl rfl rfl rfl) rfl rfl rfl rfl rfl ?_
        rintro ⟨a29, c30⟩
        refine L.a [] [] (Ac.alloc rfl rfl) rfl rfl rfl rfl rfl ?_
        intro g32
        refine L.a [] [] (Ac.alloc rfl rfl) rfl rfl rfl rfl rfl ?_
        intro g33
        refine L.a [1] [] (Ac.stb rfl rfl rfl rfl rfl rfl) rfl rfl rfl rfl rfl ?_
        intro _
        refine L.a [1] [] (Ac.stb rfl rfl rfl rfl rfl rfl) rfl rfl rfl rfl rfl ?_
        intro _
        refine L.nil ?_
        refine E.then ?_
        refine T.seq ?_
        refine T.seq ?_
        refine T.region ?_
        refine L.q 1 rfl ?_
        refine L.nil ?_
        refine E.then ?_
        obtain ⟨y638, H639, H640⟩ := bnd H28
        refine T.join (η := (Ref09Row × RowRow) × ((Option Addr × Nat) × (Option Addr × Nat))) (fun h => y638 = .inl h.1) (fun h => (fun e637 => (fun a630 c631 a634 c635 => [(7, .pointer (some ⟨g32, 0, none⟩)), (8, .pointer (some ⟨g33, 0, none⟩))]) h.2.1.1 h.2.1.2 h.2.2.1 h.2.2.2) h.1) (fun h => (fun e637 => (fun a630 c631 a634 c635 => [Ch.box g33 30 [.slice a630 e637.1.l.length c631, .bool e637.1.wrapped], Ch.box g32 26 [.slice a634 e637.2.cells.length c635, .bool e637.2.wrapped]]) h.2.1.1 h.2.1.2 h.2.2.1 h.2.2.2) h.1) (fun h => (fun e637 => (fun a630 c631 a634 c635 => [Im.sl tyRef09Cell a630 c631 e637.1.l, Im.sl tyRowCell a634 c635 e637.2.cells, Im.sl tyRef09Cell a29 c30 r26.l, Im.sl tyRowCell a23 c24 r20.cells, Im.sl tyLaw09Act a_2 c_2 acts, Im.sl tyWideSpan (some ⟨0, 0, none⟩) 13 t_wide_nones, Im.sl tyWideSpan (some ⟨1, 0, none⟩) 14 t_wide_twos]) h.2.1.1 h.2.1.2 h.2.2.1 h.2.2.2) h.1) ?_ ?_
        · refine T.block ?_
          refine T.lp (η := (Option Addr × Nat) × (Option Addr × Nat)) (fun s439 h => (fun a431 c432 a435 c436 => [(2, .slice a_2 acts.length c_2), (7, .pointer (some ⟨g32, 0, none⟩)), (8, .pointer (some ⟨g33, 0, none⟩)), (9, .int .i64 s439.2.2)]) h.1.1 h.1.2 h.2.1 h.2.2) (fun s439 h => (fun a431 c432 a435 c436 => [Ch.box g33 30 [.slice a435 s439.2.1.l.length c436, .bool s439.2.1.wrapped], Ch.box g32 26 [.slice a431 s439.1.cells.length c432, .bool s439.1.wrapped]]) h.1.1 h.1.2 h.2.1 h.2.2) (fun s439 h => (fun a431 c432 a435 c436 => [Im.sl tyRowCell a431 c432 s439.1.cells, Im.sl tyRef09Cell a435 c436 s439.2.1.l, Im.sl tyRef09Cell a29 c30 r26.l, Im.sl tyRowCell a23 c24 r20.cells, Im.sl tyLaw09Act a_2 c_2 acts, Im.sl tyWideSpan (some ⟨0, 0, none⟩) 13 t_wide_nones, Im.sl tyWideSpan (some ⟨1, 0, none⟩) 14 t_wide_twos]) h.1.1 h.1.2 h.2.1 h.2.2) ((a23, c24), (a29, c30)) [0, 0] [1, 0, 0, 1, 2, 3, 4] H639 ⟨rfl, rfl, rfl, rfl, trivial⟩ rfl rfl ?_
          rintro k s439 ⟨⟨a431, c432⟩, ⟨a435, c436⟩⟩ z642 H641 hag643 hbr644
          refine T.seq ?_
          refine T.seq ?_
          obtain ⟨e648, H649, H650⟩ := bnd H641
          refine T.join (η := Unit × Unit) (fun h => True) (fun h => [(2, .slice a_2 acts.length c_2), (7, .pointer (some ⟨g32, 0, none⟩)), (8, .pointer (some ⟨g33, 0, none⟩)), (9, .int .i64 s439.2.2), (31, .bool e648)]) (fun h => [Ch.box g33 30 [.slice a435 s439.2.1.l.length c436, .bool s439.2.1.wrapped], Ch.box g32 26 [.slice a431 s439.1.cells.length c432, .bool s439.1.wrapped]]) (fun h => [Im.sl tyRowCell a431 c432 s439.1.cells, Im.sl tyRef09Cell a435 c436 s439.2.1.l, Im.sl tyRef09Cell a29 c30 r26.l, Im.sl tyRowCell a23 c24 r20.cells, Im.sl tyLaw09Act a_2 c_2 acts, Im.sl tyWideSpan (some ⟨0, 0, none⟩) 13 t_wide_nones, Im.sl tyWideSpan (some ⟨1, 0, none⟩) 14 t_wide_twos]) ?_ ?_
          · refine T.region ?_
            refine L.q 5 rfl ?_
            refine L.cs 28 H649 rfl (fun hc H651 => ?_) (fun hc H651 => ?_)
            · refine L.q 3 rfl ?_
              refine L.nil ?_
              have hr := Option.some.inj H651
              subst e648
              exact E.give ((), ()) [0, 0] [0, 1, 2, 3, 4, 5, 6] trivial ⟨rfl, rfl, rfl, rfl, rfl, trivial⟩ rfl rfl
            · refine L.q 3 rfl ?_
              refine L.nil ?_
              have hr := Option.some.inj H651
              subst e648
              exact E.give ((), ()) [0, 0] [0, 1, 2, 3, 4, 5, 6] trivial ⟨rfl, rfl, rfl, rfl, rfl, trivial⟩ rfl rfl
          · rintro ⟨_, ⟨⟩⟩ _
            refine T.bif rfl H650 (fun hc H653 => ?_) (fun hc H653 => ?_)
            · refine T.skip ?_
              refine E.then ?_
              refine T.seq ?_
              refine T.block ?_
              refine T.seq ?_
              refine T.draw [10, 11] [0, 0] mo (by rfl) rfl ?_
              refine D.y 0 (Yl.ldb 1 rfl rfl rfl rfl) rfl rfl rfl rfl rfl rfl ?_
              refine D.y 1 (Yl.ldb 0 rfl rfl rfl rfl) rfl rfl rfl rfl rfl rfl ?_
              refine D.q 2 rfl rfl rfl rfl rfl rfl ?_
              refine D.q 3 rfl rfl rfl rfl rfl rfl ?_
              obtain ⟨x792, h793, H794⟩ := bnd H653
              refine D.addr 4 rfl (idx_lt h793) fun b795 o796 e797 => ?_
              obtain rfl : a_2 = some ⟨b795, o796, none⟩ := e797
              refine D.y 4 (Yl.ia h793 rfl rfl rfl rfl rfl rfl) rfl rfl rfl rfl rfl rfl ?_
              refine D.el 4 rfl (idx_some h793).2 ?_
              rintro _
              refine D.y 5 (Yl.ldc 0 0 rfl rfl rfl rfl) rfl rfl rfl rfl rfl rfl ?_
              obtain ⟨r799, h800, H801⟩ := bnd H794
              refine D.one rfl rfl rfl (Dp.a [] [1, 2, 6, 7] (Ac.call (c_law09_Do a431 c432 a435 c436 h800) rfl rfl rfl rfl) rfl rfl rfl rfl rfl rfl ?_)
              rintro ⟨⟨a802, c803⟩, ⟨a804, c805⟩⟩
              refine D.q 7 rfl rfl rfl rfl rfl rfl ?_
              refine D.q 8 rfl rfl rfl rfl rfl rfl ?_
              refine D.q 9 rfl rfl rfl rfl rfl rfl ?_
              refine D.one rfl rfl rfl (Dp.al [1] [] (Ac.stb rfl rfl rfl rfl rfl rfl) rfl rfl rfl rfl rfl rfl rfl ?_)
              intro _
              refine D.one rfl rfl rfl (Dp.al [1] [] (Ac.stb rfl rfl rfl rfl rfl rfl) rfl rfl rfl rfl rfl rfl rfl ?_)
              intro _
              refine D.nil rfl rfl ?_
              refine E.then ?_
              refine T.seq ?_
              obtain ⟨e823, H824, H825⟩ := bnd H801
              refine T.join (η := Unit × Unit) (fun h => True) (fun h => [(2, .slice (some ⟨b795, o796, none⟩) acts.length c_2), (7, .pointer (some ⟨g32, 0, none⟩)), (8, .pointer (some ⟨g33, 0, none⟩)), (9, .int .i64 s439.2.2), (52, .bool e823)]) (fun h => [Ch.box g33 30 [.slice a804 r799.2.l.length c805, .bool r799.2.wrapped], Ch.box g32 26 [.slice a802 r799.1.cells.length c803, .bool r799.1.wrapped]]) (fun h => [Im.sl tyRowCell a802 c803 r799.1.cells, Im.sl tyRef09Cell a804 c805 r799.2.l, Im.cells b795 (o796 + s439.2.2.toNat * 5) [.int .i64 x792.kind, .int .i64 x792.at_, .int .i64 x792.n, .int .i64 x792.style, .int .i32 x792.rune], Im.sl tyRowCell a431 c432 s439.1.cells, Im.sl tyRef09Cell a435 c436 s439.2.1.l, Im.sl tyRef09Cell a29 c30 r26.l, Im.sl tyRowCell a23 c24 r20.cells, Im.sl tyLaw09Act (some ⟨b795, o796, none⟩) c_2 acts, Im.sl tyWideSpan (some ⟨0, 0, none⟩) 13 t_wide_nones, Im.sl tyWideSpan (some ⟨1, 0, none⟩) 14 t_wide_twos]) ?_ ?_
              · refine T.region ?_
                refine L.y (Yl.ldb 1 rfl rfl rfl rfl) rfl rfl rfl ?_
                refine L.y (Yl.ldb 0 rfl rfl rfl rfl) rfl rfl rfl ?_
                obtain ⟨r826, h827, H828⟩ := bnd H824
                refine L.a [] [0, 1] (Ac.call (c_law09_Is a802 c803 a804 c805 h827) rfl rfl rfl rfl) rfl rfl rfl rfl rfl ?_
                rintro ⟨⟩
                refine L.q 2 rfl ?_
                refine L.cs 48 H828 rfl (fun hc H829 => ?_) (fun hc H829 => ?_)
                · refine L.q 4 rfl ?_
                  refine L.nil ?_
                  have hr := Option.some.inj H829
                  subst e823
                  exact E.give ((), ()) [0, 0] [0, 1, 2, 3, 4, 5, 6, 7, 8, 9] trivial ⟨rfl, rfl, rfl, rfl, rfl, trivial⟩ rfl rfl
                · refine L.y (Yl.ldb 0 rfl rfl rfl rfl) rfl rfl rfl ?_
                  obtain ⟨r830, h831, H832⟩ := bnd H829
                  refine L.a [] [1] (Ac.call (c_ref09_Whole a804 c805 h831) rfl rfl rfl rfl) rfl rfl rfl rfl rfl ?_
                  rintro ⟨⟩
                  refine L.q 2 rfl ?_
                  refine L.nil ?_
                  have hr := Option.some.inj H832
                  subst e823
                  exact E.give ((), ()) [0, 0] [0, 1, 2, 3, 4, 5, 6, 7, 8, 9] trivial ⟨rfl, rfl, rfl, rfl, rfl, trivial⟩ rfl rfl
              · rintro ⟨_, ⟨⟩⟩ _
                refine T.bif rfl H825 (fun hc H833 => ?_) (fun hc H833 => ?_)
                · refine T.seq ?_
                  refine T.region ?_
                  refine L.q 1 rfl ?_
                  refine L.nil ?_
                  refine E.then ?_
                  refine T.ret ?_
                  refine E.block_ret ?_
                  refine E.then_ret ?_
                  refine E.then_ret ?_
                  refine E.block_ret ?_
                  obtain ⟨w834, hz, H835⟩ := inrr_some H833
                  subst z642
                  have hb := hbr644 _ rfl
                  subst y638
                  have hw : w834 = r := Option.some.inj H640
                  subst w834
                  refine E.then_ret ?_
                  have hr := Option.some.inj H835
                  subst r
                  exact E.ret () [] [] (.tmp rfl .nil) rfl rfl rfl
                · refine T.skip ?_
                  refine E.block ?_
                  refine E.then ?_
                  refine T.region ?_
                  refine L.q 3 rfl ?_
                  refine L.nil ?_
                  have hr := Option.some.inj H833
                  subst z642
                  exact E.give (_, ((a802, c803), (a804, c805))) [0, 0] [0, 1, 5, 6, 7, 8, 9] (hag643 _ rfl) ⟨rfl, rfl, rfl, rfl, trivial⟩ rfl rfl
            · refine T.exit ?_
              refine E.then_exit' ?_
              refine E.then_exit' ?_
              refine E.block_here ?_
              have hr := Option.some.inj H653
              subst z642
              have hb := hbr644 _ rfl
              subst y638
              exact E.give (_, ((a435, c436), (a431, c432))) [0, 0] [1, 0, 2, 3, 4, 5, 6] rfl ⟨rfl, rfl, trivial⟩ rfl rfl
        · rintro ⟨e637, ⟨⟨a630, c631⟩, ⟨a634, c635⟩⟩⟩ hy
          subst hy
          refine T.seq ?_
          refine T.region ?_
          refine L.y (Yl.ldb 1 rfl rfl rfl rfl) rfl rfl rfl ?_
          refine L.y (Yl.ldb 0 rfl rfl rfl rfl) rfl rfl rfl ?_
          obtain ⟨r836, h837, H838⟩ := bnd H640
          refine L.a [] [1, 0] (Ac.call (c_law09_Is a634 c635 a630 c631 h837) rfl rfl rfl rfl) rfl rfl rfl rfl rfl ?_
          rintro ⟨⟩
          refine L.q 1 rfl ?_
          refine L.nil ?_
          refine E.then ?_
          refine T.ret ?_
          have hr := Option.some.inj H838
          subst r
          exact E.ret () [] [] (.tmp rfl .nil) rfl rfl rfl

theorem c_law09_Any {l : List RowCell} {wrapped : Bool} (a_0 : Option Addr) (c_0 : Nat) {r : RowRow} (H : p_law09_Any l wrapped = some r) : CT G 18 [.slice a_0 l.length c_0, .bool wrapped] [] [Im.sl tyRowCell a_0 c_0 l] (fun h : (Option Addr × Nat) => .agg #[.slice h.1 r.cells.length h.2, .bool r.wrapped]) (fun h => []) (fun h => [Im.sl tyRowCell h.1 h.2 r.cells]) := by
  delta p_law09_Any at H
  refine CT.of Go.Proofs.Tryd.func18 (by kernel_rfl) rfl rfl rfl fun K => ?_
  refine T.seq ?_
  refine T.region ?_
  refine L.a [] [] (Ac.alloc rfl rfl) rfl rfl rfl rfl rfl ?_
  intro g1
  refine L.nil ?_
  refine E.then ?_
  refine T.seq ?_
  refine T.region ?_
  refine L.a [] [] (Ac.bs (ty := tyRowCell) (xs := []) .nil rfl rfl rfl rfl rfl rfl rfl) rfl rfl rfl rfl rfl ?_
  intro g2
  refine L.q 4 rfl ?_
  obtain ⟨_, h4, H5⟩ := bnd H
  refine L.rs 0 h4 rfl rfl rfl rfl rfl rfl rfl rfl rfl rfl rfl rfl ?_
  intro a6 c7
  obtain ⟨_, h9, H10⟩ := bnd H5
  refine L.a [0] [0] (Ac.ap (ty := tyRowCell) h9 rfl rfl rfl rfl rfl rfl rfl) rfl rfl rfl rfl rfl ?_
  rintro ⟨a11, c12⟩
  refine L.q 2 rfl ?_
  refine L.a [1] [] (Ac.stb rfl rfl rfl rfl rfl rfl) rfl rfl rfl rfl rfl ?_
  intro _
  refine L.nil ?_
  refine E.then ?_
  refine T.ret ?_
  refine E.frz 1 rfl ?_
  have hr := Option.some.inj H10
  subst r
  exact E.ret (a11, c12) [] [0] (.cell 0 rfl rfl rfl .nil) rfl rfl rfl

theorem c_law09_Told {r_ : RowRow} (a_0_0 : Option Addr) (c_0_0 : Nat) {r : Ref09Row} (H : p_law09_Told r_ = some r) : CT G 19 [.agg #[.slice a_0_0 r_.cells.length c_0_0, .bool r_.wrapped]] [] [Im.sl tyRowCell a_0_0 c_0_0 r_.cells] (fun h : (Option Addr × Nat) => .agg #[.slice h.1 r.l.length h.2, .bool r.wrapped]) (fun h => []) (fun h => [Im.sl tyRef09Cell h.1 h.2 r.l]) := by
  delta p_law09_Told at H
  refine CT.of Go.Proofs.Tryd.func19 (by kernel_rfl) rfl rfl rfl fun K => ?_
  refine T.seq ?_
  refine T.region ?_
  refine L.a [] [] (Ac.box rfl rfl) rfl rfl rfl rfl rfl ?_
  intro g1
  refine L.a [] [] (Ac.alloc rfl rfl) rfl rfl rfl rfl rfl ?_
  intro g2
  refine L.nil ?_
  refine E.then ?_
  refine T.seq ?_
  refine T.region ?_
  refine L.q 1 rfl ?_
  refine L.y (Yl.ldb 1 rfl rfl rfl rfl) rfl rfl rfl ?_
  refine L.q 1 rfl ?_
  refine L.a [] [] (Ac.alloc rfl rfl) rfl rfl rfl rfl rfl ?_
  intro g3
  refine L.a [0] [] (Ac.stb rfl rfl rfl rfl rfl rfl) rfl rfl rfl rfl rfl ?_
  intro _
  refine L.nil ?_
  refine E.then ?_
  refine T.seq ?_
  refine T.seq ?_
  refine T.region ?_
  refine L.q 1 rfl ?_
  refine L.y (Yl.ldb 2 rfl rfl rfl rfl) rfl rfl rfl ?_
  refine L.q 2 rfl ?_
  refine L.nil ?_
  refine E.then ?_
  obtain ⟨e128, H129, H130⟩ := bnd H
  refine T.join (η := Unit × ((Option Addr × Nat))) (fun h => True) (fun h => (fun a125 c126 => [(2, .pointer (some ⟨g2, 0, none⟩)), (3, .pointer (some ⟨g3, 0, none⟩))]) h.2.1 h.2.2) (fun h => (fun a125 c126 => [Ch.arr tyRef09Cell 84 a125 c126 e128.l, Ch.box g3 30 [.slice a125 e128.l.length c126, .bool e128.wrapped], Ch.box g2 30 [.slice none 0 0, .bool false], Ch.box g1 26 [.slice a_0_0 r_.cells.length c_0_0, .bool r_.wrapped]]) h.2.1 h.2.2) (fun h => (fun a125 c126 => [Im.sl tyRowCell a_0_0 c_0_0 r_.cells]) h.2.1 h.2.2) ?_ ?_
  · refine T.block ?_
    refine T.nil0 tyRef09Cell 84 ?_
    refine T.lp (η := (Option Addr × Nat)) (fun s89 h => (fun a85 c86 => [(2, .pointer (some ⟨g2, 0, none⟩)), (3, .pointer (some ⟨g3, 0, none⟩)), (10, .slice a_0_0 r_.cells.length c_0_0), (11, .int .i64 (r_.cells.length : Int)), (12, .int .i64 s89.2)]) h.1 h.2) (fun s89 h => (fun a85 c86 => [Ch.arr tyRef09Cell 84 a85 c86 s89.1.l, Ch.box g3 30 [.slice a85 s89.1.l.length c86, .bool s89.1.wrapped], Ch.box g2 30 [.slice none 0 0, .bool false], Ch.box g1 26 [.slice a_0_0 r_.cells.length c_0_0, .bool r_.wrapped]]) h.1 h.2) (fun s89 h => (fun a85 c86 => [Im.sl tyRowCell a_0_0 c_0_0 r_.cells]) h.1 h.2) (none, 0) [0, 0, 0, 0] [0] H129 ⟨rfl, rfl, rfl, rfl, rfl, trivial⟩ rfl rfl ?_
    rintro k s89 ⟨a85, c86⟩ z132 H131 hag133 hbr134
    refine T.seq ?_
    refine T.region ?_
    refine L.q 1 rfl ?_
    refine L.nil ?_
    refine E.then ?_
    refine T.seq ?_
    refine T.bif rfl H131 (fun hc H136 => ?_) (fun hc H136 => ?_)
    · refine T.skip ?_
      refine E.then ?_
      refine T.seq ?_
      refine T.block ?_
      refine T.seq ?_
      refine T.region ?_
      obtain ⟨x153, h154, H155⟩ := bnd H136
      refine L.addr 0 rfl (idx_lt h154) fun b156 o157 e158 => ?_
      obtain rfl : a_0_0 = some ⟨b156, o157, none⟩ := e158
      refine L.y (Yl.ia h154 rfl rfl rfl rfl rfl rfl) rfl rfl rfl ?_
      refine L.el 0 rfl (idx_some h154).2 ?_
      rintro _
      refine L.y (Yl.ldc 0 0 rfl rfl rfl rfl) rfl rfl rfl ?_
      refine L.a [] [] (Ac.alloc rfl rfl) rfl rfl rfl rfl rfl ?_
      intro g160
      refine L.a [0] [] (Ac.stb rfl rfl rfl rfl rfl rfl) rfl rfl rfl rfl rfl ?_
      intro _
      refine L.nil ?_
      refine E.then ?_
      refine T.region ?_
      refine L.q 1 rfl ?_
      refine L.y (Yl.ldb 2 rfl rfl rfl rfl) rfl rfl rfl ?_
      refine L.q 1 rfl ?_
      refine L.y (Yl.ldb 0 rfl rfl rfl rfl) rfl rfl rfl ?_
      refine L.q 2 rfl ?_
      refine L.y (Yl.ldb 0 rfl rfl rfl rfl) rfl rfl rfl ?_
      refine L.q 1 rfl ?_
      refine L.y (Yl.ldb 0 rfl rfl rfl rfl) rfl rfl rfl ?_
      refine L.q 1 rfl ?_
      refine L.a [] [] (Ac.bs (ty := tyRef09Cell) (xs := [(Ref09Cell.mk (IntKind.i64.wrap x153.rune) x153.style x153.part)]) (.cons () [] rfl .nil) rfl rfl rfl rfl rfl rfl rfl) rfl rfl rfl rfl rfl ?_
      intro g161
      refine L.frz 0 rfl ?_
      obtain ⟨_, h164, H165⟩ := bnd H155
      refine L.a [1] [0] (Ac.ap (ty := tyRef09Cell) h164 rfl rfl rfl rfl rfl rfl rfl) rfl rfl rfl rfl rfl ?_
      rintro ⟨a166, c167⟩
      refine L.q 1 rfl ?_
      refine L.a [2] [] (Ac.stb rfl rfl rfl rfl rfl rfl) rfl rfl rfl rfl rfl ?_
      intro _
      refine L.nil ?_
      refine E.block ?_
      refine E.then ?_
      refine T.region ?_
      refine L.q 2 rfl ?_
      refine L.nil ?_
      have hr := Option.some.inj H165
      subst z132
      exact E.give (_, (a166, c167)) [1, 0, 1, 1] [2] (hag133 _ rfl) ⟨rfl, rfl, rfl, rfl, rfl, trivial⟩ rfl rfl
    · refine T.exit ?_
      refine E.then_exit' ?_
      refine E.then_exit' ?_
      refine E.block_here ?_
      have hr := Option.some.inj H136
      subst z132
      have hb := hbr134 _ rfl
      subst e128
      exact E.give ((), (a85, c86)) [0, 0, 0, 0] [0] trivial ⟨rfl, rfl, trivial⟩ rfl rfl
  · rintro ⟨_, ⟨a125, c126⟩⟩ _
    refine T.seq ?_
    refine T.region ?_
    refine L.y (Yl.ldb 1 rfl rfl rfl rfl) rfl rfl rfl ?_
    refine L.a [2] [] (Ac.stb rfl rfl rfl rfl rfl rfl) rfl rfl rfl rfl rfl ?_
    intro _
    refine L.nil ?_
    refine E.then ?_
    refine T.ret ?_
    refine E.frz 1 rfl ?_
    have hr := Option.some.inj H130
    subst r
    exact E.ret (a125, c126) [] [0] (.cell 0 rfl rfl rfl .nil) rfl rfl rfl

theorem c_law09_RowKeeps {l : List RowCell} {wrapped : Bool} {acts : List Law09Act} (a_0 : Option Addr) (c_0 : Nat) (a_2 : Option Addr) (c_2 : Nat) {r : Bool} (H : p_law09_RowKeeps l wrapped acts = some r) : CT G 4 [.slice a_0 l.length c_0, .bool wrapped, .slice a_2 acts.length c_2] [] [Im.sl tyRowCell a_0 c_0 l, Im.sl tyLaw09Act a_2 c_2 acts, Im.sl tyWideSpan (some ⟨0, 0, none⟩) 13 t_wide_nones, Im.sl tyWideSpan (some ⟨1, 0, none⟩) 14 t_wide_twos] (fun h : Unit => .bool r) (fun h => []) (fun h => []) := by
  delta p_law09_RowKeeps at H
  refine CT.of Go.Proofs.Tryd.func4 (by kernel_rfl) rfl rfl rfl fun K => ?_
  refine T.seq ?_
  refine T.region ?_
  refine L.q 1 rfl ?_
  refine L.nil ?_
  refine E.then ?_
  refine T.seq ?_
  refine T.seq ?_
  refine T.region ?_
  obtain ⟨r1, h2, H3⟩ := bnd H
  refine L.a [] [2, 3] (Ac.call (c_law09_awake h2) rfl rfl rfl rfl) rfl rfl rfl rfl rfl ?_
  rintro ⟨⟩
  refine L.q 1 rfl ?_
  refine L.nil ?_
  refine E.then ?_
  refine T.bif rfl H3 (fun hc H5 => ?_) (fun hc H5 => ?_)
  · refine T.seq ?_
    refine T.region ?_
    refine L.q 1 rfl ?_
    refine L.nil ?_
    refine E.then ?_
    refine T.ret ?_
    refine E.then_ret ?_
    have hr := Option.some.inj H5
    subst r
    exact E.ret () [] [] (.tmp rfl .nil) rfl rfl rfl
  · refine T.skip ?_
    refine E.then ?_
    refine T.seq ?_
    refine T.region ?_
    refine L.q 2 rfl ?_
    obtain ⟨r6, h7, H8⟩ := bnd H5
    refine L.a [] [0] (Ac.call (c_law09_Any a_0 c_0 h7) rfl rfl rfl rfl) rfl rfl rfl rfl rfl ?_
    rintro ⟨a9, c10⟩
    refine L.a [] [] (Ac.alloc rfl rfl) rfl rfl rfl rfl rfl ?_
    intro g12
    refine L.a [0] [] (Ac.stb rfl rfl rfl rfl rfl rfl) rfl rfl rfl rfl rfl ?_
    intro _
    refine L.nil ?_
    refine E.then ?_
    refine T.seq ?_
    refine T.region ?_
    refine L.y (Yl.ldb 0 rfl rfl rfl rfl) rfl rfl rfl ?_
    obtain ⟨r13, h14, H15⟩ := bnd H8
    refine L.a [] [0] (Ac.call (c_law09_Told a9 c10 h14) rfl rfl rfl rfl) rfl rfl rfl rfl rfl ?_
    rintro ⟨a16, c17⟩
    refine L.a [] [] (Ac.alloc rfl rfl) rfl rfl rfl rfl rfl ?_
    intro g19
    refine L.a [0] [] (Ac.stb rfl rfl rfl rfl rfl rfl) rfl rfl rfl rfl rfl ?_
    intro _
    refine L.nil ?_
    refine E.then ?_
    refine T.seq ?_
    refine T.seq ?_
    refine T.region ?_
    refine L.q 1 rfl ?_
    refine L.nil ?_
    refine E.then ?_
    obtain ⟨y5200, H5201, H5202⟩ := bnd H15
    refine T.join (η := Unit × Unit) (fun h => y5200 = .inl h.1) (fun h => (fun e5199 => []) h.1) (fun h => (fun e5199 => [Ch.box g19 30 [.slice a16 r13.l.length c17, .bool r13.wrapped], Ch.box g12 26 [.slice a9 r6.cells.length c10, .bool r6.wrapped]]) h.1) (fun h => (fun e5199 => [Im.sl tyRef09Cell a16 c17 r13.l, Im.sl tyRowCell a9 c10 r6.cells, Im.sl tyRowCell a_0 c_0 l, Im.sl tyLaw09Act a_2 c_2 acts, Im.sl tyWideSpan (some ⟨0, 0, none⟩) 13 t_wide_nones, Im.sl tyWideSpan (some ⟨1, 0, none⟩) 14 t_wide_twos]) h.1) ?_ ?_
    · refine T.block ?_
      refine T.lp (η := Unit) (fun s3473 h => [(2, .slice a_2 acts.length c_2), (7, .pointer (some ⟨g12, 0, none⟩)), (8, .pointer (some ⟨g19, 0, none⟩)), (9, .int .i64 s3473)]) (fun s3473 h => [Ch.box g19 30 [.slice a16 r13.l.length c17, .bool r13.wrapped], Ch.box g12 26 [.slice a9 r6.cells.length c10, .bool r6.wrapped]]) (fun s3473 h => [Im.sl tyRef09Cell a16 c17 r13.l, Im.sl tyRowCell a9 c10 r6.cells, Im.sl tyRowCell a_0 c_0 l, Im.sl tyLaw09Act a_2 c_2 acts, Im.sl tyWideSpan (some ⟨0, 0, none⟩) 13 t_wide_nones, Im.sl tyWideSpan (some ⟨1, 0, none⟩) 14 t_wide_twos]) () [0, 0] [0, 1, 2, 3, 4, 5] H5201 ⟨rfl, rfl, rfl, rfl, trivial⟩ rfl rfl ?_
      rintro k s3473 ⟨⟩ z5204 H5203 hag5205 hbr5206
      refine T.seq ?_
      refine T.seq ?_
      obtain ⟨e5210, H5211, H5212⟩ := bnd H5203
      refine T.join (η := Unit × Unit) (fun h => True) (fun h => [(2, .slice a_2 acts.length c_2), (7, .pointer (some ⟨g12, 0, none⟩)), (8, .pointer (some ⟨g19, 0, none⟩)), (9, .int .i64 s3473), (27, .bool e5210)]) (fun h => [Ch.box g19 30 [.slice a16 r13.l.length c17, .bool r13.wrapped], Ch.box g12 26 [.slice a9 r6.cells.length c10, .bool r6.wrapped]]) (fun h => [Im.sl tyRef09Cell a16 c17 r13.l, Im.sl tyRowCell a9 c10 r6.cells, Im.sl tyRowCell a_0 c_0 l, Im.sl tyLaw09Act a_2 c_2 acts, Im.sl tyWideSpan (some ⟨0, 0, none⟩) 13 t_wide_nones, Im.sl tyWideSpan (some ⟨1, 0, none⟩) 14 t_wide_twos]) ?_ ?_
      · refine T.region ?_
        refine L.q 5 rfl ?_
        refine L.cs 24 H5211 rfl (fun hc H5213 => ?_) (fun hc H5213 => ?_)
        · refine L.q 3 rfl ?_
          refine L.nil ?_
          have hr := Option.some.inj H5213
          subst e5210
          exact E.give ((), ()) [0, 0] [0, 1, 2, 3, 4, 5] trivial ⟨rfl, rfl, rfl, rfl, rfl, trivial⟩ rfl rfl
        · refine L.q 3 rfl ?_
          refine L.nil ?_
          have hr := Option.some.inj H5213
          subst e5210
          exact E.give ((), ()) [0, 0] [0, 1, 2, 3, 4, 5] trivial ⟨rfl, rfl, rfl, rfl, rfl, trivial⟩ rfl rfl
      · rintro ⟨_, ⟨⟩⟩ _
        refine T.bif rfl H5212 (fun hc H5215 => ?_) (fun hc H5215 => ?_)
        · refine T.skip ?_
          refine E.then ?_
          refine T.seq ?_
          refine T.block ?_
          refine T.seq ?_
          obtain ⟨e6428, H6429, H6430⟩ := bnd H5215
          refine T.join (η := Unit × (Nat × (Option Addr × Nat) × Nat × (Option Addr × Nat))) (fun h => True) (fun h => (fun g6419 a6420 c6421 g6424 a6425 c6426 => [(2, .slice a_2 acts.length c_2), (7, .pointer (some ⟨g12, 0, none⟩)), (8, .pointer (some ⟨g19, 0, none⟩)), (9, .int .i64 s3473), (10, .pointer (some ⟨g6419, 0, none⟩)), (11, .pointer (some ⟨g6424, 0, none⟩))]) h.2.1 h.2.2.1.1 h.2.2.1.2 h.2.2.2.1 h.2.2.2.2.1 h.2.2.2.2.2) (fun h => (fun g6419 a6420 c6421 g6424 a6425 c6426 => [Ch.box g19 30 [.slice a16 r13.l.length c17, .bool r13.wrapped], Ch.box g12 26 [.slice a9 r6.cells.length c10, .bool r6.wrapped], Ch.box g6419 26 [.slice a6420 e6428.1.cells.length c6421, .bool e6428.1.wrapped], Ch.box g6424 30 [.slice a6425 e6428.2.l.length c6426, .bool e6428.2.wrapped]]) h.2.1 h.2.2.1.1 h.2.2.1.2 h.2.2.2.1 h.2.2.2.2.1 h.2.2.2.2.2) (fun h => (fun g6419 a6420 c6421 g6424 a6425 c6426 => [Im.sl tyRowCell a6420 c6421 e6428.1.cells, Im.sl tyRef09Cell a6425 c6426 e6428.2.l, Im.sl tyRef09Cell a16 c17 r13.l, Im.sl tyRowCell a9 c10 r6.cells, Im.sl tyRowCell a_0 c_0 l, Im.sl tyLaw09Act a_2 c_2 acts, Im.sl tyWideSpan (some ⟨0, 0, none⟩) 13 t_wide_nones, Im.sl tyWideSpan (some ⟨1, 0, none⟩) 14 t_wide_twos]) h.2.1 h.2.2.1.1 h.2.2.1.2 h.2.2.2.1 h.2.2.2.2.1 h.2.2.2.2.2) ?_ ?_
          · refine T.draw [12, 13] [0, 0] mo (by rfl) rfl ?_
            refine D.y 0 (Yl.ldb 1 rfl rfl rfl rfl) rfl rfl rfl rfl rfl rfl ?_
            refine D.y 1 (Yl.ldb 0 rfl rfl rfl rfl) rfl rfl rfl rfl rfl rfl ?_
            refine D.q 2 rfl rfl rfl rfl rfl rfl ?_
            refine D.q 3 rfl rfl rfl rfl rfl rfl ?_
            obtain ⟨x6517, h6518, H6519⟩ := bnd H6429
            refine D.addr 3 rfl (idx_lt h6518) fun b6520 o6521 e6522 => ?_
            obtain rfl : a_2 = some ⟨b6520, o6521, none⟩ := e6522
            refine D.y 4 (Yl.ia h6518 rfl rfl rfl rfl rfl rfl) rfl rfl rfl rfl rfl rfl ?_
            refine D.el 3 rfl (idx_some h6518).2 ?_
            rintro _
            refine D.y 5 (Yl.ldc 0 0 rfl rfl rfl rfl) rfl rfl rfl rfl rfl rfl ?_
            obtain ⟨r6524, h6525, H6539⟩ := bnd H6519
            refine D.three rfl rfl rfl ?_ ?_ ?_
            · refine Dp.a [] [2, 1, 5, 6] (Ac.call (c_law09_Do a9 c10 a16 c17 h6525) rfl rfl rfl rfl) rfl rfl rfl rfl rfl rfl ?_
              rintro ⟨⟨a6541, c6542⟩, ⟨a6543, c6544⟩⟩
              refine D.q 7 rfl rfl rfl rfl rfl rfl ?_
              refine D.q 8 rfl rfl rfl rfl rfl rfl ?_
              refine D.q 9 rfl rfl rfl rfl rfl rfl ?_
              refine D.two rfl rfl rfl ?_ ?_
              · refine Dp.a [] [] (Ac.alloc rfl rfl) rfl rfl rfl rfl rfl rfl ?_
                intro g6549
                refine D.one rfl rfl rfl (Dp.a [] [] (Ac.alloc rfl rfl) rfl rfl rfl rfl rfl rfl ?_)
                intro g6550
                refine D.one rfl rfl rfl (Dp.al [3] [] (Ac.stb rfl rfl rfl rfl rfl rfl) rfl rfl rfl rfl rfl rfl rfl ?_)
                intro _
                refine D.one rfl rfl rfl (Dp.al [3] [] (Ac.stb rfl rfl rfl rfl rfl rfl) rfl rfl rfl rfl rfl rfl rfl ?_)
                intro _
                refine D.nil rfl rfl ?_
                have hr := Option.some.inj H6539
                subst e6428
                exact E.give ((), (g6549, (a6541, c6542), g6550, (a6543, c6544))) [2, 2, 1, 0] [0, 1, 3, 4, 5, 6, 7, 8] trivial ⟨rfl, rfl, rfl, rfl, rfl, rfl, trivial⟩ rfl rfl
              · refine Dp.a [] [] (Ac.alloc rfl rfl) rfl rfl rfl rfl rfl rfl ?_
                intro g6551
                refine D.one rfl rfl rfl (Dp.a [] [] (Ac.alloc rfl rfl) rfl rfl rfl rfl rfl rfl ?_)
                intro g6552
                refine D.one rfl rfl rfl (Dp.al [2] [] (Ac.stb rfl rfl rfl rfl rfl rfl) rfl rfl rfl rfl rfl rfl rfl ?_)
                intro _
                refine D.one rfl rfl rfl (Dp.al [3] [] (Ac.stb rfl rfl rfl rfl rfl rfl) rfl rfl rfl rfl rfl rfl rfl ?_)
                intro _
                refine D.nil rfl rfl ?_
                have hr := Option.some.inj H6539
                subst e6428
                exact E.give ((), (g6552, (a6541, c6542), g6551, (a6543, c6544))) [2, 2, 1, 0] [0, 1, 3, 4, 5, 6, 7, 8] trivial ⟨rfl, rfl, rfl, rfl, rfl, rfl, trivial⟩ rfl rfl
            · refine Dp.a [] [] (Ac.alloc rfl rfl) rfl rfl rfl rfl rfl rfl ?_
              intro g6553
              refine D.two rfl rfl rfl ?_ ?_
              · refine Dp.a [] [2, 1, 5, 6] (Ac.call (c_law09_Do a9 c10 a16 c17 h6525) rfl rfl rfl rfl) rfl rfl rfl rfl rfl rfl ?_
                rintro ⟨⟨a6563, c6564⟩, ⟨a6565, c6566⟩⟩
                refine D.q 7 rfl rfl rfl rfl rfl rfl ?_
                refine D.q 8 rfl rfl rfl rfl rfl rfl ?_
                refine D.q 9 rfl rfl rfl rfl rfl rfl ?_
                refine D.one rfl rfl rfl (Dp.a [] [] (Ac.alloc rfl rfl) rfl rfl rfl rfl rfl rfl ?_)
                intro g6569
                refine D.one rfl rfl rfl (Dp.al [3] [] (Ac.stb rfl rfl rfl rfl rfl rfl) rfl rfl rfl rfl rfl rfl rfl ?_)
                intro _
                refine D.one rfl rfl rfl (Dp.al [3] [] (Ac.stb rfl rfl rfl rfl rfl rfl) rfl rfl rfl rfl rfl rfl rfl ?_)
                intro _
                refine D.nil rfl rfl ?_
                have hr := Option.some.inj H6539
                subst e6428
                exact E.give ((), (g6553, (a6563, c6564), g6569, (a6565, c6566))) [2, 2, 1, 0] [0, 1, 3, 4, 5, 6, 7, 8] trivial ⟨rfl, rfl, rfl, rfl, rfl, rfl, trivial⟩ rfl rfl
              · refine Dp.a [] [] (Ac.alloc rfl rfl) rfl rfl rfl rfl rfl rfl ?_
                intro g6570
                refine D.one rfl rfl rfl (Dp.a [] [2, 1, 5, 6] (Ac.call (c_law09_Do a9 c10 a16 c17 h6525) rfl rfl rfl rfl) rfl rfl rfl rfl rfl rfl ?_)
                rintro ⟨⟨a6572, c6573⟩, ⟨a6574, c6575⟩⟩
                refine D.q 7 rfl rfl rfl rfl rfl rfl ?_
                refine D.q 8 rfl rfl rfl rfl rfl rfl ?_
                refine D.q 9 rfl rfl rfl rfl rfl rfl ?_
                refine D.one rfl rfl rfl (Dp.al [3] [] (Ac.stb rfl rfl rfl rfl rfl rfl) rfl rfl rfl rfl rfl rfl rfl ?_)
                intro _
                refine D.one rfl rfl rfl (Dp.al [3] [] (Ac.stb rfl rfl rfl rfl rfl rfl) rfl rfl rfl rfl rfl rfl rfl ?_)
                intro _
                refine D.nil rfl rfl ?_
                have hr := Option.some.inj H6539
                subst e6428
                exact E.give ((), (g6553, (a6572, c6573), g6570, (a6574, c6575))) [2, 2, 1, 0] [0, 1, 3, 4, 5, 6, 7, 8] trivial ⟨rfl, rfl, rfl, rfl, rfl, rfl, trivial⟩ rfl rfl
            · refine Dp.a [] [] (Ac.alloc rfl rfl) rfl rfl rfl rfl rfl rfl ?_
              intro g6578
              refine D.two rfl rfl rfl ?_ ?_
              · refine Dp.a [] [2, 1, 5, 6] (Ac.call (c_law09_Do a9 c10 a16 c17 h6525) rfl rfl rfl rfl) rfl rfl rfl rfl rfl rfl ?_
                rintro ⟨⟨a6588, c6589⟩, ⟨a6590, c6591⟩⟩
                refine D.q 7 rfl rfl rfl rfl rfl rfl ?_
                refine D.q 8 rfl rfl rfl rfl rfl rfl ?_
                refine D.q 9 rfl rfl rfl rfl rfl rfl ?_
                refine D.one rfl rfl rfl (Dp.a [] [] (Ac.alloc rfl rfl) rfl rfl rfl rfl rfl rfl ?_)
                intro g6594
                refine D.one rfl rfl rfl (Dp.al [2] [] (Ac.stb rfl rfl rfl rfl rfl rfl) rfl rfl rfl rfl rfl rfl rfl ?_)
                intro _
                refine D.one rfl rfl rfl (Dp.al [3] [] (Ac.stb rfl rfl rfl rfl rfl rfl) rfl rfl rfl rfl rfl rfl rfl ?_)
                intro _
                refine D.nil rfl rfl ?_
                have hr := Option.some.inj H6539
                subst e6428
                exact E.give ((), (g6594, (a6588, c6589), g6578, (a6590, c6591))) [2, 2, 1, 0] [0, 1, 3, 4, 5, 6, 7, 8] trivial ⟨rfl, rfl, rfl, rfl, rfl, rfl, trivial⟩ rfl rfl
              · refine Dp.a [] [] (Ac.alloc rfl rfl) rfl rfl rfl rfl rfl rfl ?_
                intro g6595
                refine D.one rfl rfl rfl (Dp.a [] [2, 1, 5, 6] (Ac.call (c_law09_Do a9 c10 a16 c17 h6525) rfl rfl rfl rfl) rfl rfl rfl rfl rfl rfl ?_)
                rintro ⟨⟨a6597, c6598⟩, ⟨a6599, c6600⟩⟩
                refine D.q 7 rfl rfl rfl rfl rfl rfl ?_
                refine D.q 8 rfl rfl rfl rfl rfl rfl ?_
                refine D.q 9 rfl rfl rfl rfl rfl rfl ?_
                refine D.one rfl rfl rfl (Dp.al [2] [] (Ac.stb rfl rfl rfl rfl rfl rfl) rfl rfl rfl rfl rfl rfl rfl ?_)
                intro _
                refine D.one rfl rfl rfl (Dp.al [3] [] (Ac.stb rfl rfl rfl rfl rfl rfl) rfl rfl rfl rfl rfl rfl rfl ?_)
                intro _
                refine D.nil rfl rfl ?_
                have hr := Option.some.inj H6539
                subst e6428
                exact E.give ((), (g6595, (a6597, c6598), g6578, (a6599, c6600))) [2, 2, 1, 0] [0, 1, 3, 4, 5, 6, 7, 8] trivial ⟨rfl, rfl, rfl, rfl, rfl, rfl, trivial⟩ rfl rfl
          · rintro ⟨_, ⟨g6419, ⟨a6420, c6421⟩, g6424, ⟨a6425, c6426⟩⟩⟩ _
            refine T.seq ?_
            refine T.seq ?_
            refine T.region ?_
            refine L.q 3 rfl ?_
            refine L.nil ?_
            refine E.then ?_
            obtain ⟨e6826, H6827, H6828⟩ := bnd H6430
            refine T.join (η := Unit × Unit) (fun h => True) (fun h => [(2, .slice a_2 acts.length c_2), (7, .pointer (some ⟨g12, 0, none⟩)), (8, .pointer (some ⟨g19, 0, none⟩)), (9, .int .i64 s3473), (10, .pointer (some ⟨g6419, 0, none⟩)), (11, .pointer (some ⟨g6424, 0, none⟩))]) (fun h => [Ch.box g19 30 [.slice a16 r13.l.length c17, .bool r13.wrapped], Ch.box g12 26 [.slice a9 r6.cells.length c10, .bool r6.wrapped], Ch.box g6419 26 [.slice a6420 e6428.1.cells.length c6421, .bool e6428.1.wrapped], Ch.box g6424 30 [.slice a6425 e6428.2.l.length c6426, .bool e6428.2.wrapped]]) (fun h => [Im.sl tyRowCell a6420 c6421 e6428.1.cells, Im.sl tyRef09Cell a6425 c6426 e6428.2.l, Im.sl tyRef09Cell a16 c17 r13.l, Im.sl tyRowCell a9 c10 r6.cells, Im.sl tyRowCell a_0 c_0 l, Im.sl tyLaw09Act a_2 c_2 acts, Im.sl tyWideSpan (some ⟨0, 0, none⟩) 13 t_wide_nones, Im.sl tyWideSpan (some ⟨1, 0, none⟩) 14 t_wide_twos]) ?_ ?_
            · refine T.block ?_
              refine T.lp (η := Unit) (fun s6752 h => [(2, .slice a_2 acts.length c_2), (7, .pointer (some ⟨g12, 0, none⟩)), (8, .pointer (some ⟨g19, 0, none⟩)), (9, .int .i64 s3473), (10, .pointer (some ⟨g6419, 0, none⟩)), (11, .pointer (some ⟨g6424, 0, none⟩)), (12, .int .i64 s6752)]) (fun s6752 h => [Ch.box g19 30 [.slice a16 r13.l.length c17, .bool r13.wrapped], Ch.box g12 26 [.slice a9 r6.cells.length c10, .bool r6.wrapped], Ch.box g6419 26 [.slice a6420 e6428.1.cells.length c6421, .bool e6428.1.wrapped], Ch.box g6424 30 [.slice a6425 e6428.2.l.length c6426, .bool e6428.2.wrapped]]) (fun s6752 h => [Im.sl tyRowCell a6420 c6421 e6428.1.cells, Im.sl tyRef09Cell a6425 c6426 e6428.2.l, Im.sl tyRef09Cell a16 c17 r13.l, Im.sl tyRowCell a9 c10 r6.cells, Im.sl tyRowCell a_0 c_0 l, Im.sl tyLaw09Act a_2 c_2 acts, Im.sl tyWideSpan (some ⟨0, 0, none⟩) 13 t_wide_nones, Im.sl tyWideSpan (some ⟨1, 0, none⟩) 14 t_wide_twos]) () [0, 0, 0, 0] [0, 1, 2, 3, 4, 5, 6, 7] H6827 ⟨rfl, rfl, rfl, rfl, rfl, rfl, rfl, trivial⟩ rfl rfl ?_
              rintro k s6752 ⟨⟩ z6830 H6829 hag6831 hbr6832
              refine T.seq ?_
              refine T.seq ?_
              obtain ⟨e6836, H6837, H6838⟩ := bnd H6829
              refine T.join (η := Unit × Unit) (fun h => True) (fun h => [(2, .slice a_2 acts.length c_2), (7, .pointer (some ⟨g12, 0, none⟩)), (8, .pointer (some ⟨g19, 0, none⟩)), (9, .int .i64 s3473), (10, .pointer (some ⟨g6419, 0, none⟩)), (11, .pointer (some ⟨g6424, 0, none⟩)), (12, .int .i64 s6752), (51, .bool e6836)]) (fun h => [Ch.box g19 30 [.slice a16 r13.l.length c17, .bool r13.wrapped], Ch.box g12 26 [.slice a9 r6.cells.length c10, .bool r6.wrapped], Ch.box g6419 26 [.slice a6420 e6428.1.cells.length c6421, .bool e6428.1.wrapped], Ch.box g6424 30 [.slice a6425 e6428.2.l.length c6426, .bool e6428.2.wrapped]]) (fun h => [Im.sl tyRowCell a6420 c6421 e6428.1.cells, Im.sl tyRef09Cell a6425 c6426 e6428.2.l, Im.sl tyRef09Cell a16 c17 r13.l, Im.sl tyRowCell a9 c10 r6.cells, Im.sl tyRowCell a_0 c_0 l, Im.sl tyLaw09Act a_2 c_2 acts, Im.sl tyWideSpan (some ⟨0, 0, none⟩) 13 t_wide_nones, Im.sl tyWideSpan (some ⟨1, 0, none⟩) 14 t_wide_twos]) ?_ ?_
              · refine T.region ?_
                refine L.q 5 rfl ?_
                refine L.cs 46 H6837 rfl (fun hc H6839 => ?_) (fun hc H6839 => ?_)
                · refine L.q 5 rfl ?_
                  refine L.nil ?_
                  have hr := Option.some.inj H6839
                  subst e6836
                  exact E.give ((), ()) [0, 0, 0, 0] [0, 1, 2, 3, 4, 5, 6, 7] trivial ⟨rfl, rfl, rfl, rfl, rfl, rfl, rfl, rfl, trivial⟩ rfl rfl
                · refine L.q 5 rfl ?_
                  refine L.nil ?_
                  have hr := Option.some.inj H6839
                  subst e6836
                  exact E.give ((), ()) [0, 0, 0, 0] [0, 1, 2, 3, 4, 5, 6, 7] trivial ⟨rfl, rfl, rfl, rfl, rfl, rfl, rfl, rfl, trivial⟩ rfl rfl
              · rintro ⟨_, ⟨⟩⟩ _
                refine T.bif rfl H6838 (fun hc H6841 => ?_) (fun hc H6841 => ?_)
                · refine T.skip ?_
                  refine E.then ?_
                  refine T.seq ?_
                  refine T.block ?_
                  refine T.draw [] [0, 0, 0, 0] mo (by rfl) rfl ?_
                  refine D.y 0 (Yl.ldb 2 rfl rfl rfl rfl) rfl rfl rfl rfl rfl rfl ?_
                  refine D.y 1 (Yl.ldb 3 rfl rfl rfl rfl) rfl rfl rfl rfl rfl rfl ?_
                  refine D.q 2 rfl rfl rfl rfl rfl rfl ?_
                  refine D.q 3 rfl rfl rfl rfl rfl rfl ?_
                  obtain ⟨x6890, h6891, H6892⟩ := bnd H6841
                  refine D.addr 5 rfl (idx_lt h6891) fun b6893 o6894 e6895 => ?_
                  obtain rfl : a_2 = some ⟨b6893, o6894, none⟩ := e6895
                  refine D.y 4 (Yl.ia h6891 rfl rfl rfl rfl rfl rfl) rfl rfl rfl rfl rfl rfl ?_
                  refine D.el 5 rfl (idx_some h6891).2 ?_
                  rintro _
                  refine D.y 5 (Yl.ldc 0 0 rfl rfl rfl rfl) rfl rfl rfl rfl rfl rfl ?_
                  obtain ⟨r6897, h6898, H6899⟩ := bnd H6892
                  refine D.one rfl rfl rfl (Dp.a [] [1, 2, 7, 8] (Ac.call (c_law09_Do a6420 c6421 a6425 c6426 h6898) rfl rfl rfl rfl) rfl rfl rfl rfl rfl rfl ?_)
                  rintro ⟨⟨a6900, c6901⟩, ⟨a6902, c6903⟩⟩
                  refine D.nil rfl rfl ?_
                  refine E.block ?_
                  refine E.then ?_
                  refine T.region ?_
                  refine L.q 3 rfl ?_
                  refine L.nil ?_
                  have hr := Option.some.inj H6899
                  subst z6830
                  exact E.give (_, ()) [0, 0, 0, 0] [3, 4, 5, 6, 7, 8, 9, 10] (hag6831 _ rfl) ⟨rfl, rfl, rfl, rfl, rfl, rfl, rfl, trivial⟩ rfl rfl
                · refine T.exit ?_
                  refine E.then_exit' ?_
                  refine E.then_exit' ?_
                  refine E.block_here ?_
                  have hr := Option.some.inj H6841
                  subst z6830
                  have hb := hbr6832 _ rfl
                  subst e6826
                  exact E.give ((), ()) [0, 0, 0, 0] [0, 1, 2, 3, 4, 5, 6, 7] trivial ⟨rfl, rfl, rfl, rfl, rfl, rfl, trivial⟩ rfl rfl
            · rintro ⟨_, ⟨⟩⟩ _
              refine T.seq ?_
              obtain ⟨e6921, H6922, H6923⟩ := bnd H6828
              refine T.join (η := Unit × Unit) (fun h => True) (fun h => [(2, .slice a_2 acts.length c_2), (7, .pointer (some ⟨g12, 0, none⟩)), (8, .pointer (some ⟨g19, 0, none⟩)), (9, .int .i64 s3473), (70, .bool e6921)]) (fun h => [Ch.box g19 30 [.slice a16 r13.l.length c17, .bool r13.wrapped], Ch.box g12 26 [.slice a9 r6.cells.length c10, .bool r6.wrapped], Ch.box g6419 26 [.slice a6420 e6428.1.cells.length c6421, .bool e6428.1.wrapped], Ch.box g6424 30 [.slice a6425 e6428.2.l.length c6426, .bool e6428.2.wrapped]]) (fun h => [Im.sl tyRowCell a6420 c6421 e6428.1.cells, Im.sl tyRef09Cell a6425 c6426 e6428.2.l, Im.sl tyRef09Cell a16 c17 r13.l, Im.sl tyRowCell a9 c10 r6.cells, Im.sl tyRowCell a_0 c_0 l, Im.sl tyLaw09Act a_2 c_2 acts, Im.sl tyWideSpan (some ⟨0, 0, none⟩) 13 t_wide_nones, Im.sl tyWideSpan (some ⟨1, 0, none⟩) 14 t_wide_twos]) ?_ ?_
              · refine T.region ?_
                refine L.y (Yl.ldb 1 rfl rfl rfl rfl) rfl rfl rfl ?_
                refine L.y (Yl.ldb 0 rfl rfl rfl rfl) rfl rfl rfl ?_
                obtain ⟨r6924, h6925, H6926⟩ := bnd H6922
                refine L.a [] [3, 2] (Ac.call (c_law09_Is a9 c10 a16 c17 h6925) rfl rfl rfl rfl) rfl rfl rfl rfl rfl ?_
                rintro ⟨⟩
                refine L.q 2 rfl ?_
                refine L.cs 65 H6926 rfl (fun hc H6927 => ?_) (fun hc H6927 => ?_)
                · refine L.q 5 rfl ?_
                  refine L.nil ?_
                  have hr := Option.some.inj H6927
                  subst e6921
                  exact E.give ((), ()) [0, 0, 0, 0] [0, 1, 2, 3, 4, 5, 6, 7] trivial ⟨rfl, rfl, rfl, rfl, rfl, trivial⟩ rfl rfl
                · refine L.y (Yl.ldb 2 rfl rfl rfl rfl) rfl rfl rfl ?_
                  refine L.y (Yl.ldb 3 rfl rfl rfl rfl) rfl rfl rfl ?_
                  obtain ⟨r6928, h6929, H6930⟩ := bnd H6927
                  refine L.a [] [0, 1] (Ac.call (c_law09_Is a6420 c6421 a6425 c6426 h6929) rfl rfl rfl rfl) rfl rfl rfl rfl rfl ?_
                  rintro ⟨⟩
                  refine L.q 2 rfl ?_
                  refine L.nil ?_
                  have hr := Option.some.inj H6930
                  subst e6921
                  exact E.give ((), ()) [0, 0, 0, 0] [0, 1, 2, 3, 4, 5, 6, 7] trivial ⟨rfl, rfl, rfl, rfl, rfl, trivial⟩ rfl rfl
              · rintro ⟨_, ⟨⟩⟩ _
                refine T.bif rfl H6923 (fun hc H6931 => ?_) (fun hc H6931 => ?_)
                · refine T.seq ?_
                  refine T.region ?_
                  refine L.q 1 rfl ?_
                  refine L.nil ?_
                  refine E.then ?_
                  refine T.ret ?_
                  refine E.block_ret ?_
                  refine E.then_ret ?_
                  refine E.then_ret ?_
                  refine E.block_ret ?_
                  obtain ⟨w6932, hz, H6933⟩ := inrr_some H6931
                  subst z5204
                  have hb := hbr5206 _ rfl
                  subst y5200
                  have hw : w6932 = r := Option.some.inj H5202
                  subst w6932
                  refine E.then_ret ?_
                  have hr := Option.some.inj H6933
                  subst r
                  exact E.ret () [] [] (.tmp rfl .nil) rfl rfl rfl
                · refine T.skip ?_
                  refine E.block ?_
                  refine E.then ?_
                  refine T.region ?_
                  refine L.q 3 rfl ?_
                  refine L.nil ?_
                  have hr := Option.some.inj H6931
                  subst z5204
                  exact E.give (_, ()) [0, 0] [2, 3, 4, 5, 6, 7] (hag5205 _ rfl) ⟨rfl, rfl, rfl, rfl, trivial⟩ rfl rfl
        · refine T.exit ?_
          refine E.then_exit' ?_
          refine E.then_exit' ?_
          refine E.block_here ?_
          have hr := Option.some.inj H5215
          subst z5204
          have hb := hbr5206 _ rfl
          subst y5200
          exact E.give (_, ()) [0, 0] [0, 1, 2, 3, 4, 5] rfl trivial rfl rfl
    · rintro ⟨e5199, ⟨⟩⟩ hy
      subst hy
      refine T.seq ?_
      refine T.region ?_
      refine L.q 1 rfl ?_
      refine L.nil ?_
      refine E.then ?_
      refine T.ret ?_
      have hr := Option.some.inj H5202
      subst r
      exact E.ret () [] [] (.tmp rfl .nil) rfl rfl rfl

end Go.Tw.X

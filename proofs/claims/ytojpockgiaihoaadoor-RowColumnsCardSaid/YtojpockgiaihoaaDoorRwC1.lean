import Derived.Test.YtojpockgiaihoaaDoorRwC0
set_option linter.unusedVariables false
set_option linter.unusedSimpArgs false
set_option maxRecDepth 10000
namespace Go.Tw.Rw
open Go Go.Tw
theorem c_ref09_near {n_ : Int} {lo : Int} {hi : Int} {r : Int} (H : p_ref09_near n_ lo hi = some r) : CT G 45 [.int .i64 n_, .int .i64 lo, .int .i64 hi] [] [] (fun h : Unit => .int .i64 r) (fun h => []) (fun h => []) := by
  delta p_ref09_near at H
  refine CT.of Go.Proofs.Tryd.func45 (by kernel_rfl) rfl rfl fun K => ?_
  refine T.seq ?_
  refine T.region ?_
  refine L.q 1 rfl ?_
  refine L.nil ?_
  refine E.then ?_
  refine T.seq ?_
  refine T.seq ?_
  refine T.region ?_
  refine L.q 3 rfl ?_
  refine L.nil ?_
  refine E.then ?_
  refine T.bif rfl H (fun hc H2 => ?_) (fun hc H2 => ?_)
  · refine T.seq ?_
    refine T.region ?_
    refine L.q 2 rfl ?_
    refine L.nil ?_
    refine E.then ?_
    refine T.ret ?_
    refine E.then_ret ?_
    have hr := Option.some.inj H2
    subst r
    exact E.ret () [] [] (.tmp rfl .nil) rfl rfl rfl
  · refine T.skip ?_
    refine E.then ?_
    refine T.seq ?_
    refine T.seq ?_
    refine T.region ?_
    refine L.q 3 rfl ?_
    refine L.nil ?_
    refine E.then ?_
    refine T.bif rfl H2 (fun hc H4 => ?_) (fun hc H4 => ?_)
    · refine T.seq ?_
      refine T.region ?_
      refine L.q 2 rfl ?_
      refine L.nil ?_
      refine E.then ?_
      refine T.ret ?_
      refine E.then_ret ?_
      have hr := Option.some.inj H4
      subst r
      exact E.ret () [] [] (.tmp rfl .nil) rfl rfl rfl
    · refine T.skip ?_
      refine E.then ?_
      refine T.seq ?_
      refine T.region ?_
      refine L.q 2 rfl ?_
      refine L.nil ?_
      refine E.then ?_
      refine T.ret ?_
      have hr := Option.some.inj H4
      subst r
      exact E.ret () [] [] (.tmp rfl .nil) rfl rfl rfl

theorem c_ref09_Blank {w : Int} {style : Int} {r : Ref09Row} (H : p_ref09_Blank w style = some r) : CT G 14 [.int .i64 w, .int .i64 style] [] [] (fun h : (Option Addr × Nat) => .agg #[.slice h.1 r.l.length h.2, .bool r.wrapped]) (fun h => []) (fun h => [Im.sl tyRef09Cell h.1 h.2 r.l]) := by
  delta p_ref09_Blank at H
  refine CT.of Go.Proofs.Tryd.func14 (by kernel_rfl) rfl rfl fun K => ?_
  refine T.seq ?_
  refine T.region ?_
  refine L.a [] [] (Ac.alloc rfl rfl) rfl rfl rfl rfl rfl ?_
  intro g1
  refine L.nil ?_
  refine E.then ?_
  refine T.seq ?_
  refine T.region ?_
  refine L.a [] [] (Ac.bs (ty := tyRef09Cell) (xs := []) .nil rfl rfl rfl rfl rfl rfl rfl) rfl rfl rfl rfl rfl ?_
  intro g2
  refine L.q 1 rfl ?_
  refine L.nil ?_
  refine E.then ?_
  refine T.seq ?_
  refine T.seq ?_
  refine T.region ?_
  refine L.q 1 rfl ?_
  refine L.nil ?_
  refine E.then ?_
  obtain ⟨e87, H88, H89⟩ := bnd H
  refine T.join (η := Unit × ((Option Addr × Nat))) (fun h => True) (fun h => (fun a84 c85 => [(4, .pointer (some ⟨g1, 0, none⟩)), (5, .slice a84 e87.length c85)]) h.2.1 h.2.2) (fun h => (fun a84 c85 => [Ch.arr tyRef09Cell 84 a84 c85 e87, Ch.box g1 30 [.slice none 0 0, .bool false]]) h.2.1 h.2.2) (fun h => (fun a84 c85 => []) h.2.1 h.2.2) ?_ ?_
  · refine T.block ?_
    refine T.lp (η := (Option Addr × Nat)) (fun s61 h => (fun a57 c58 => [(0, .int .i64 w), (1, .int .i64 style), (4, .pointer (some ⟨g1, 0, none⟩)), (5, .slice a57 s61.1.length c58), (6, .int .i64 s61.2)]) h.1 h.2) (fun s61 h => (fun a57 c58 => [Ch.arr tyRef09Cell 84 a57 c58 s61.1, Ch.box g1 30 [.slice none 0 0, .bool false]]) h.1 h.2) (fun s61 h => (fun a57 c58 => []) h.1 h.2) ((some ⟨g2, 0, none⟩), 0) [0, 0] [] H88 ⟨rfl, rfl, rfl, rfl, rfl, trivial⟩ rfl rfl ?_
    rintro k s61 ⟨a57, c58⟩ z91 H90 hag92 hbr93
    refine T.seq ?_
    refine T.seq ?_
    refine T.region ?_
    refine L.q 2 rfl ?_
    obtain ⟨r94, h95, H96⟩ := bnd H90
    refine L.a [] [] (Ac.call (c_ref09_near h95) rfl rfl rfl rfl) rfl rfl rfl rfl rfl ?_
    rintro ⟨⟩
    refine L.q 1 rfl ?_
    refine L.nil ?_
    refine E.then ?_
    refine T.bif rfl H96 (fun hc H98 => ?_) (fun hc H98 => ?_)
    · refine T.skip ?_
      refine E.then ?_
      refine T.seq ?_
      refine T.block ?_
      refine T.region ?_
      refine L.q 3 rfl ?_
      refine L.a [] [] (Ac.bs (ty := tyRef09Cell) (xs := [(Ref09Cell.mk 32 style 0)]) (.cons () [] rfl .nil) rfl rfl rfl rfl rfl rfl rfl) rfl rfl rfl rfl rfl ?_
      intro g107
      refine L.frz 0 rfl ?_
      obtain ⟨_, h110, H111⟩ := bnd H98
      refine L.a [0] [0] (Ac.ap (ty := tyRef09Cell) h110 rfl rfl rfl rfl rfl rfl rfl) rfl rfl rfl rfl rfl ?_
      rintro ⟨a112, c113⟩
      refine L.q 1 rfl ?_
      refine L.nil ?_
      refine E.block ?_
      refine E.then ?_
      refine T.region ?_
      refine L.q 3 rfl ?_
      refine L.nil ?_
      have hr := Option.some.inj H111
      subst z91
      exact E.give (_, (a112, c113)) [0, 0] [] (hag92 _ rfl) ⟨rfl, rfl, rfl, rfl, rfl, trivial⟩ rfl rfl
    · refine T.exit ?_
      refine E.then_exit' ?_
      refine E.then_exit' ?_
      refine E.block_here ?_
      have hr := Option.some.inj H98
      subst z91
      have hb := hbr93 _ rfl
      subst e87
      exact E.give ((), (a57, c58)) [0, 0] [] trivial ⟨rfl, rfl, trivial⟩ rfl rfl
  · rintro ⟨_, ⟨a84, c85⟩⟩ _
    refine T.seq ?_
    refine T.region ?_
    refine L.q 2 rfl ?_
    refine L.a [1] [] (Ac.stb rfl rfl rfl rfl rfl rfl) rfl rfl rfl rfl rfl ?_
    intro _
    refine L.nil ?_
    refine E.then ?_
    refine T.ret ?_
    refine E.frz 1 rfl ?_
    have hr := Option.some.inj H89
    subst r
    exact E.ret (a84, c85) [] [0] (.cell 0 rfl rfl rfl .nil) rfl rfl rfl

theorem c_row_Row_Fill (a_0_0 : Option Addr) (c_0_0 : Nat) {r_ : RowRow} {style : Int} {r : RowRow} (H : p_row_Row_Fill r_ style = some r) : CT G 22 [.agg #[.slice a_0_0 r_.cells.length c_0_0, .bool r_.wrapped], .int .i64 style] [] [Im.sl tyRowCell a_0_0 c_0_0 r_.cells] (fun h : (Option Addr × Nat) => .agg #[.slice h.1 r.cells.length h.2, .bool r.wrapped]) (fun h => []) (fun h => [Im.sl tyRowCell h.1 h.2 r.cells]) := by
  delta p_row_Row_Fill at H
  refine CT.of Go.Proofs.Tryd.func22 (by kernel_rfl) rfl rfl fun K => ?_
  refine T.seq ?_
  refine T.region ?_
  refine L.a [] [] (Ac.box rfl rfl) rfl rfl rfl rfl rfl ?_
  intro g1
  refine L.a [] [] (Ac.alloc rfl rfl) rfl rfl rfl rfl rfl ?_
  intro g2
  refine L.nil ?_
  refine E.then ?_
  refine T.seq ?_
  refine T.region ?_
  refine L.y (Yl.ldb 1 rfl rfl rfl rfl) rfl rfl rfl ?_
  obtain ⟨r3, h4, H5⟩ := bnd H
  refine L.a [] [0] (Ac.call (c_row_Row_cells a_0_0 c_0_0 h4) rfl rfl rfl rfl) rfl rfl rfl rfl rfl ?_
  rintro ⟨a6, c7⟩
  refine L.q 1 rfl ?_
  refine L.nil ?_
  refine E.then ?_
  refine T.seq ?_
  refine T.seq ?_
  refine T.region ?_
  refine L.q 3 rfl ?_
  refine L.nil ?_
  refine E.then ?_
  refine T.seq ?_
  refine T.region ?_
  refine L.q 2 rfl ?_
  refine L.nil ?_
  refine E.then ?_
  obtain ⟨e27, H28, H29⟩ := bnd H5
  refine T.join (η := Unit × ((Option Addr × Nat))) (fun h => True) (fun h => (fun a24 c25 => [(4, .pointer (some ⟨g2, 0, none⟩)), (5, .slice a24 e27.length c25)]) h.2.1 h.2.2) (fun h => (fun a24 c25 => [Ch.arr tyRowCell 80 a24 c25 e27, Ch.box g2 26 [.slice none 0 0, .bool false], Ch.box g1 26 [.slice a_0_0 r_.cells.length c_0_0, .bool r_.wrapped]]) h.2.1 h.2.2) (fun h => (fun a24 c25 => [Im.sl tyRowCell a_0_0 c_0_0 r_.cells]) h.2.1 h.2.2) ?_ ?_
  · refine T.bif rfl H28 (fun hc H30 => ?_) (fun hc H30 => ?_)
    · refine T.region ?_
      refine L.q 5 rfl ?_
      obtain ⟨x31, h32, H33⟩ := bnd H30
      refine L.addro 0 rfl (idx_lt h32) fun b34 e35 => ?_
      obtain rfl : a6 = some ⟨b34, 0, none⟩ := e35
      refine L.y (Yl.ia h32 rfl rfl rfl rfl rfl rfl) rfl rfl rfl ?_
      refine L.a [0] [] (Ac.se 0 (RowCell.mk 32 style 3) (idx_some h32).2 rfl rfl rfl rfl rfl rfl (fun _ => ⟨(), rfl, [], rfl⟩)) rfl rfl rfl rfl rfl ?_
      intro _
      refine L.sl 5 (k' := (r3.set (IntKind.i64.wrap ((r3.length : Int) - 1)).toNat (RowCell.mk 32 style 3)).length) (List.length_set ..) rfl ?_
      refine L.nil ?_
      have hr := Option.some.inj H33
      subst e27
      exact E.give ((), ((some ⟨b34, 0, none⟩), c7)) [0, 0, 0] [0] trivial ⟨rfl, rfl, trivial⟩ rfl rfl
    · refine T.skip ?_
      have hr := Option.some.inj H30
      subst e27
      exact E.give ((), (a6, c7)) [0, 0, 0] [0] trivial ⟨rfl, rfl, trivial⟩ rfl rfl
  · rintro ⟨_, ⟨a24, c25⟩⟩ _
    refine T.seq ?_
    refine T.region ?_
    refine L.q 1 rfl ?_
    obtain ⟨r37, h38, H39⟩ := bnd H29
    refine L.a [0] [] (Ac.call (c_row_mend a24 c25 h38) rfl rfl rfl rfl) rfl rfl rfl rfl rfl ?_
    rintro ⟨a40, c41⟩
    refine L.a [] [] (Ac.alloc rfl rfl) rfl rfl rfl rfl rfl ?_
    intro g43
    refine L.a [0] [] (Ac.stb rfl rfl rfl rfl rfl rfl) rfl rfl rfl rfl rfl ?_
    intro _
    refine L.nil ?_
    refine E.then ?_
    refine T.seq ?_
    refine T.region ?_
    refine L.q 1 rfl ?_
    refine L.a [0] [] (Ac.stb rfl rfl rfl rfl rfl rfl) rfl rfl rfl rfl rfl ?_
    intro _
    refine L.nil ?_
    refine E.then ?_
    refine T.seq ?_
    refine T.region ?_
    refine L.y (Yl.ldb 0 rfl rfl rfl rfl) rfl rfl rfl ?_
    refine L.a [1] [] (Ac.stb rfl rfl rfl rfl rfl rfl) rfl rfl rfl rfl rfl ?_
    intro _
    refine L.nil ?_
    refine E.then ?_
    refine T.ret ?_
    have hr := Option.some.inj H39
    subst r
    exact E.ret (a40, c41) [] [0] (.cell 0 rfl rfl rfl .nil) rfl rfl rfl

theorem c_row_Row_Erase (a_0_0 : Option Addr) (c_0_0 : Nat) {r_ : RowRow} {from_ : Int} {to : Int} {style : Int} {r : RowRow} (H : p_row_Row_Erase r_ from_ to style = some r) : CT G 23 [.agg #[.slice a_0_0 r_.cells.length c_0_0, .bool r_.wrapped], .int .i64 from_, .int .i64 to, .int .i64 style] [] [Im.sl tyRowCell a_0_0 c_0_0 r_.cells] (fun h : (Option Addr × Nat) => .agg #[.slice h.1 r.cells.length h.2, .bool r.wrapped]) (fun h => []) (fun h => [Im.sl tyRowCell h.1 h.2 r.cells]) := by
  delta p_row_Row_Erase at H
  refine CT.of Go.Proofs.Tryd.func23 (by kernel_rfl) rfl rfl fun K => ?_
  refine T.seq ?_
  refine T.region ?_
  refine L.a [] [] (Ac.box rfl rfl) rfl rfl rfl rfl rfl ?_
  intro g1
  refine L.a [] [] (Ac.alloc rfl rfl) rfl rfl rfl rfl rfl ?_
  intro g2
  refine L.nil ?_
  refine E.then ?_
  refine T.seq ?_
  refine T.region ?_
  refine L.y (Yl.ldb 1 rfl rfl rfl rfl) rfl rfl rfl ?_
  obtain ⟨r3, h4, H5⟩ := bnd H
  refine L.a [] [0] (Ac.call (c_row_Row_cells a_0_0 c_0_0 h4) rfl rfl rfl rfl) rfl rfl rfl rfl rfl ?_
  rintro ⟨a6, c7⟩
  refine L.q 1 rfl ?_
  refine L.nil ?_
  refine E.then ?_
  refine T.seq ?_
  refine T.seq ?_
  refine T.region ?_
  refine L.q 3 rfl ?_
  obtain ⟨r9, h10, H11⟩ := bnd H5
  refine L.a [] [] (Ac.call (c_row_clip h10) rfl rfl rfl rfl) rfl rfl rfl rfl rfl ?_
  rintro ⟨⟩
  refine L.q 1 rfl ?_
  refine L.nil ?_
  refine E.then ?_
  obtain ⟨e101, H102, H103⟩ := bnd H11
  refine T.join (η := Unit × ((Option Addr × Nat))) (fun h => True) (fun h => (fun a98 c99 => [(8, .pointer (some ⟨g2, 0, none⟩)), (9, .slice a98 e101.length c99)]) h.2.1 h.2.2) (fun h => (fun a98 c99 => [Ch.arr tyRowCell 80 a98 c99 e101, Ch.box g2 26 [.slice none 0 0, .bool false], Ch.box g1 26 [.slice a_0_0 r_.cells.length c_0_0, .bool r_.wrapped]]) h.2.1 h.2.2) (fun h => (fun a98 c99 => [Im.sl tyRowCell a_0_0 c_0_0 r_.cells]) h.2.1 h.2.2) ?_ ?_
  · refine T.block ?_
    refine T.lp (η := (Option Addr × Nat)) (fun s73 h => (fun a70 c71 => [(2, .int .i64 to), (3, .int .i64 style), (8, .pointer (some ⟨g2, 0, none⟩)), (9, .slice a70 s73.2.length c71), (10, .int .i64 s73.1)]) h.1 h.2) (fun s73 h => (fun a70 c71 => [Ch.arr tyRowCell 80 a70 c71 s73.2, Ch.box g2 26 [.slice none 0 0, .bool false], Ch.box g1 26 [.slice a_0_0 r_.cells.length c_0_0, .bool r_.wrapped]]) h.1 h.2) (fun s73 h => (fun a70 c71 => [Im.sl tyRowCell a_0_0 c_0_0 r_.cells]) h.1 h.2) (a6, c7) [0, 0, 0] [0] H102 ⟨rfl, rfl, rfl, rfl, rfl, trivial⟩ rfl rfl ?_
    rintro k s73 ⟨a70, c71⟩ z105 H104 hag106 hbr107
    refine T.seq ?_
    refine T.seq ?_
    refine T.region ?_
    refine L.q 4 rfl ?_
    obtain ⟨r108, h109, H110⟩ := bnd H104
    refine L.a [] [] (Ac.call (c_row_clip h109) rfl rfl rfl rfl) rfl rfl rfl rfl rfl ?_
    rintro ⟨⟩
    refine L.q 1 rfl ?_
    refine L.nil ?_
    refine E.then ?_
    refine T.bif rfl H110 (fun hc H112 => ?_) (fun hc H112 => ?_)
    · refine T.skip ?_
      refine E.then ?_
      refine T.seq ?_
      refine T.block ?_
      refine T.region ?_
      refine L.q 3 rfl ?_
      obtain ⟨r122, h123, H124⟩ := bnd H112
      refine L.a [] [] (Ac.call (c_row_blank h123) rfl rfl rfl rfl) rfl rfl rfl rfl rfl ?_
      rintro ⟨⟩
      obtain ⟨x125, h126, H127⟩ := bnd H124
      refine L.addro 0 rfl (idx_lt h126) fun b128 e129 => ?_
      obtain rfl : a70 = some ⟨b128, 0, none⟩ := e129
      refine L.y (Yl.ia h126 rfl rfl rfl rfl rfl rfl) rfl rfl rfl ?_
      refine L.a [0] [] (Ac.se 0 r122 (idx_some h126).2 rfl rfl rfl rfl rfl rfl (fun _ => ⟨(), rfl, [], rfl⟩)) rfl rfl rfl rfl rfl ?_
      intro _
      refine L.sl 9 (k' := (s73.2.set s73.1.toNat r122).length) (List.length_set ..) rfl ?_
      refine L.nil ?_
      refine E.block ?_
      refine E.then ?_
      refine T.region ?_
      refine L.q 3 rfl ?_
      refine L.nil ?_
      have hr := Option.some.inj H127
      subst z105
      exact E.give (_, ((some ⟨b128, 0, none⟩), c71)) [0, 0, 0] [0] (hag106 _ rfl) ⟨rfl, rfl, rfl, rfl, rfl, trivial⟩ rfl rfl
    · refine T.exit ?_
      refine E.then_exit' ?_
      refine E.then_exit' ?_
      refine E.block_here ?_
      have hr := Option.some.inj H112
      subst z105
      have hb := hbr107 _ rfl
      subst e101
      exact E.give ((), (a70, c71)) [0, 0, 0] [0] trivial ⟨rfl, rfl, trivial⟩ rfl rfl
  · rintro ⟨_, ⟨a98, c99⟩⟩ _
    refine T.seq ?_
    refine T.region ?_
    refine L.q 1 rfl ?_
    obtain ⟨r131, h132, H133⟩ := bnd H103
    refine L.a [0] [] (Ac.call (c_row_mend a98 c99 h132) rfl rfl rfl rfl) rfl rfl rfl rfl rfl ?_
    rintro ⟨a134, c135⟩
    refine L.a [0] [] (Ac.stb rfl rfl rfl rfl rfl rfl) rfl rfl rfl rfl rfl ?_
    intro _
    refine L.nil ?_
    refine E.then ?_
    refine T.ret ?_
    have hr := Option.some.inj H133
    subst r
    exact E.ret (a134, c135) [] [0] (.cell 0 rfl rfl rfl .nil) rfl rfl rfl

theorem c_row_Row_within (a_0_0 : Option Addr) (c_0_0 : Nat) {r_ : RowRow} {at_ : Int} {n_ : Int} {r : Int} (H : p_row_Row_within r_ at_ n_ = some r) : CT G 58 [.agg #[.slice a_0_0 r_.cells.length c_0_0, .bool r_.wrapped], .int .i64 at_, .int .i64 n_] [] [Im.sl tyRowCell a_0_0 c_0_0 r_.cells] (fun h : Unit => .int .i64 r) (fun h => []) (fun h => []) := by
  delta p_row_Row_within at H
  refine CT.of Go.Proofs.Tryd.func58 (by kernel_rfl) rfl rfl fun K => ?_
  refine T.seq ?_
  refine T.region ?_
  refine L.a [] [] (Ac.box rfl rfl) rfl rfl rfl rfl rfl ?_
  intro g1
  refine L.q 1 rfl ?_
  refine L.nil ?_
  refine E.then ?_
  refine T.seq ?_
  refine T.seq ?_
  obtain ⟨e5, H6, H7⟩ := bnd H
  refine T.join (η := Unit × Unit) (fun h => True) (fun h => [(1, .int .i64 at_), (2, .int .i64 n_), (3, .pointer (some ⟨g1, 0, none⟩)), (15, .bool e5)]) (fun h => [Ch.box g1 26 [.slice a_0_0 r_.cells.length c_0_0, .bool r_.wrapped]]) (fun h => [Im.sl tyRowCell a_0_0 c_0_0 r_.cells]) ?_ ?_
  · refine T.region ?_
    refine L.q 3 rfl ?_
    refine L.cs 9 H6 rfl (fun hc H8 => ?_) (fun hc H8 => ?_)
    · refine L.q 6 rfl ?_
      refine L.nil ?_
      have hr := Option.some.inj H8
      subst e5
      exact E.give ((), ()) [0] [0] trivial ⟨rfl, rfl, rfl, rfl, trivial⟩ rfl rfl
    · refine L.q 2 rfl ?_
      refine L.y (Yl.ldb 0 rfl rfl rfl rfl) rfl rfl rfl ?_
      refine L.q 3 rfl ?_
      refine L.nil ?_
      have hr := Option.some.inj H8
      subst e5
      exact E.give ((), ()) [0] [0] trivial ⟨rfl, rfl, rfl, rfl, trivial⟩ rfl rfl
  · rintro ⟨_, ⟨⟩⟩ _
    refine T.bif rfl H7 (fun hc H10 => ?_) (fun hc H10 => ?_)
    · refine T.seq ?_
      refine T.region ?_
      refine L.q 1 rfl ?_
      refine L.nil ?_
      refine E.then ?_
      refine T.ret ?_
      refine E.then_ret ?_
      have hr := Option.some.inj H10
      subst r
      exact E.ret () [] [] (.tmp rfl .nil) rfl rfl rfl
    · refine T.skip ?_
      refine E.then ?_
      refine T.seq ?_
      refine T.region ?_
      refine L.q 2 rfl ?_
      refine L.y (Yl.ldb 0 rfl rfl rfl rfl) rfl rfl rfl ?_
      refine L.q 3 rfl ?_
      obtain ⟨r11, h12, H13⟩ := bnd H10
      refine L.a [] [] (Ac.call (c_row_clip h12) rfl rfl rfl rfl) rfl rfl rfl rfl rfl ?_
      rintro ⟨⟩
      refine L.q 1 rfl ?_
      refine L.nil ?_
      refine E.then ?_
      refine T.ret ?_
      have hr := Option.some.inj H13
      subst r
      exact E.ret () [] [] (.tmp rfl .nil) rfl rfl rfl

theorem c_slices_Grow_row_Cell {n_ : Int} {r : (List RowCell)} (H : p_slices_Grow_row_Cell n_ = some r) : CT G 80 [.slice none 0 0, .int .i64 n_] [] [] (fun h : (Option Addr × Nat) => .slice h.1 r.length h.2) (fun h => [Ch.arr tyRowCell 80 h.1 h.2 r]) (fun h => []) := by
  delta p_slices_Grow_row_Cell at H
  refine CT.of Go.Proofs.Tryd.func80 (by kernel_rfl) rfl rfl fun K => ?_
  refine T.seq ?_
  refine T.region ?_
  refine L.q 1 rfl ?_
  refine L.nil ?_
  refine E.then ?_
  refine T.seq ?_
  refine T.seq ?_
  refine T.region ?_
  refine L.q 2 rfl ?_
  refine L.nil ?_
  refine E.then ?_
  refine T.bif rfl H (fun hc H2 => ?_) (fun hc H2 => ?_)
  · cases H2
  · refine T.skip ?_
    refine E.then ?_
    refine T.seq ?_
    refine T.seq ?_
    refine T.region ?_
    refine L.q 8 rfl ?_
    refine L.nil ?_
    refine E.then ?_
    refine T.seq ?_
    refine T.region ?_
    refine L.q 2 rfl ?_
    refine L.nil ?_
    refine E.then ?_
    obtain ⟨e29, H30, H31⟩ := bnd H2
    refine T.join (η := Unit × ((Option Addr × Nat))) (fun h => True) (fun h => (fun a26 c27 => [(0, .slice a26 e29.length c27)]) h.2.1 h.2.2) (fun h => (fun a26 c27 => [Ch.arr tyRowCell 80 a26 c27 e29]) h.2.1 h.2.2) (fun h => (fun a26 c27 => []) h.2.1 h.2.2) ?_ ?_
    · refine T.bif rfl H30 (fun hc H32 => ?_) (fun hc H32 => ?_)
      · refine T.region ?_
        refine L.q 3 rfl ?_
        refine L.y (Yl.snil rfl rfl rfl rfl rfl rfl rfl) rfl rfl rfl ?_
        refine L.q 1 rfl ?_
        obtain ⟨_, h33, H34⟩ := bnd H32
        refine L.a [] [] (Ac.gz (ty := tyRowCell) (RowCell.mk 0 0 0) () h33 (fun _ _ f hf => by cases hf) rfl rfl rfl rfl rfl rfl rfl rfl rfl rfl) rfl rfl rfl rfl rfl ?_
        rintro ⟨a35, c36⟩
        refine L.q 2 rfl ?_
        obtain ⟨_, h38, H39⟩ := bnd H34
        refine L.a [0] [] (Ac.rso h38 rfl rfl rfl rfl rfl rfl rfl) rfl rfl rfl rfl rfl ?_
        intro _
        refine L.q 1 rfl ?_
        refine L.nil ?_
        have hr := Option.some.inj H39
        subst e29
        exact E.give ((), (a35, c36)) [0] [] trivial ⟨rfl, trivial⟩ rfl rfl
      · refine T.skip ?_
        refine E.nil0 tyRowCell 80 ?_
        have hr := Option.some.inj H32
        subst e29
        exact E.give ((), (none, 0)) [0] [] trivial ⟨rfl, trivial⟩ rfl rfl
    · rintro ⟨_, ⟨a26, c27⟩⟩ _
      refine T.seq ?_
      refine T.region ?_
      refine L.q 2 rfl ?_
      refine L.nil ?_
      refine E.then ?_
      refine T.ret ?_
      have hr := Option.some.inj H31
      subst r
      exact E.ret (a26, c27) [0] [] (.tmp rfl .nil) rfl rfl rfl

theorem c_slices_Concat_row_Cell (a_0 : Option Addr) (c_0 : Nat) {slices : List (List RowCell)} {r : (List RowCell)} (H : p_slices_Concat_row_Cell slices = some r) : CT G 59 [.slice a_0 slices.length c_0] [] [Im.sl (Ty.slice tyRowCell) a_0 c_0 slices] (fun h : (Option Addr × Nat) => .slice h.1 r.length h.2) (fun h => [Ch.arr tyRowCell 80 h.1 h.2 r]) (fun h => []) := by
  delta p_slices_Concat_row_Cell at H
  refine CT.of Go.Proofs.Tryd.func59 (by kernel_rfl) rfl rfl fun K => ?_
  refine T.seq ?_
  refine T.region ?_
  refine L.q 1 rfl ?_
  refine L.nil ?_
  refine E.then ?_
  refine T.seq ?_
  refine T.region ?_
  refine L.q 1 rfl ?_
  refine L.nil ?_
  refine E.then ?_
  refine T.seq ?_
  refine T.seq ?_
  refine T.region ?_
  refine L.q 3 rfl ?_
  refine L.nil ?_
  refine E.then ?_
  obtain ⟨e81, H82, H83⟩ := bnd H
  refine T.join (η := Unit × Unit) (fun h => True) (fun h => [(0, .slice a_0 slices.length c_0), (3, .int .i64 e81)]) (fun h => []) (fun h => [Im.sl (Ty.slice tyRowCell) a_0 c_0 slices]) ?_ ?_
  · refine T.block ?_
    refine T.lp (η := Unit) (fun s55 h => [(0, .slice a_0 slices.length c_0), (3, .int .i64 s55.2), (9, .slice a_0 slices.length c_0), (10, .int .i64 (slices.length : Int)), (11, .int .i64 s55.1)]) (fun s55 h => []) (fun s55 h => [Im.sl (Ty.slice tyRowCell) a_0 c_0 slices]) () [] [0] H82 ⟨rfl, rfl, rfl, rfl, rfl, trivial⟩ rfl rfl ?_
    rintro k s55 ⟨⟩ z85 H84 hag86 hbr87
    refine T.seq ?_
    refine T.region ?_
    refine L.q 1 rfl ?_
    refine L.nil ?_
    refine E.then ?_
    refine T.seq ?_
    refine T.bif rfl H84 (fun hc H89 => ?_) (fun hc H89 => ?_)
    · refine T.skip ?_
      refine E.then ?_
      refine T.seq ?_
      refine T.block ?_
      refine T.seq ?_
      refine T.region ?_
      obtain ⟨x101, h102, H103⟩ := bnd H89
      refine L.addr 0 rfl (idx_lt h102) fun b104 o105 e106 => ?_
      obtain rfl : a_0 = some ⟨b104, o105, none⟩ := e106
      refine L.y (Yl.ia h102 rfl rfl rfl rfl rfl rfl) rfl rfl rfl ?_
      refine L.el 0 rfl (idx_some h102).2 ?_
      rintro ⟨a107, c108⟩
      refine L.y (Yl.ldc 0 0 rfl rfl rfl rfl) rfl rfl rfl ?_
      refine L.q 1 rfl ?_
      refine L.nil ?_
      refine E.then ?_
      refine T.seq ?_
      refine T.region ?_
      refine L.q 5 rfl ?_
      refine L.nil ?_
      refine E.then ?_
      refine T.seq ?_
      refine T.region ?_
      refine L.q 2 rfl ?_
      refine L.nil ?_
      refine E.then ?_
      refine T.bif rfl H103 (fun hc H111 => ?_) (fun hc H111 => ?_)
      · cases H111
      · refine T.skip ?_
        refine E.block ?_
        refine E.then ?_
        refine T.region ?_
        refine L.q 2 rfl ?_
        refine L.nil ?_
        have hr := Option.some.inj H111
        subst z85
        exact E.give (_, ()) [] [2] (hag86 _ rfl) ⟨rfl, rfl, rfl, rfl, rfl, trivial⟩ rfl rfl
    · refine T.exit ?_
      refine E.then_exit' ?_
      refine E.then_exit' ?_
      refine E.block_here ?_
      have hr := Option.some.inj H89
      subst z85
      have hb := hbr87 _ rfl
      subst e81
      exact E.give ((), ()) [] [0] trivial ⟨rfl, rfl, trivial⟩ rfl rfl
  · rintro ⟨_, ⟨⟩⟩ _
    refine T.seq ?_
    refine T.region ?_
    refine L.q 1 rfl ?_
    obtain ⟨r112, h113, H114⟩ := bnd H83
    refine L.a [] [] (Ac.call (c_slices_Grow_row_Cell h113) rfl rfl rfl rfl) rfl rfl rfl rfl rfl ?_
    rintro ⟨a115, c116⟩
    refine L.q 1 rfl ?_
    refine L.nil ?_
    refine E.then ?_
    refine T.seq ?_
    refine T.seq ?_
    refine T.region ?_
    refine L.q 3 rfl ?_
    refine L.nil ?_
    refine E.then ?_
    obtain ⟨e234, H235, H236⟩ := bnd H114
    refine T.join (η := Unit × ((Option Addr × Nat))) (fun h => True) (fun h => (fun a231 c232 => [(6, .slice a231 e234.length c232)]) h.2.1 h.2.2) (fun h => (fun a231 c232 => [Ch.arr tyRowCell 80 a231 c232 e234]) h.2.1 h.2.2) (fun h => (fun a231 c232 => [Im.sl (Ty.slice tyRowCell) a_0 c_0 slices]) h.2.1 h.2.2) ?_ ?_
    · refine T.block ?_
      refine T.lp (η := (Option Addr × Nat)) (fun s197 h => (fun a194 c195 => [(6, .slice a194 s197.2.length c195), (25, .slice a_0 slices.length c_0), (26, .int .i64 (slices.length : Int)), (27, .int .i64 s197.1)]) h.1 h.2) (fun s197 h => (fun a194 c195 => [Ch.arr tyRowCell 80 a194 c195 s197.2]) h.1 h.2) (fun s197 h => (fun a194 c195 => [Im.sl (Ty.slice tyRowCell) a_0 c_0 slices]) h.1 h.2) (a115, c116) [0] [0] H235 ⟨rfl, rfl, rfl, rfl, trivial⟩ rfl rfl ?_
      rintro k s197 ⟨a194, c195⟩ z238 H237 hag239 hbr240
      refine T.seq ?_
      refine T.region ?_
      refine L.q 1 rfl ?_
      refine L.nil ?_
      refine E.then ?_
      refine T.seq ?_
      refine T.bif rfl H237 (fun hc H242 => ?_) (fun hc H242 => ?_)
      · refine T.skip ?_
        refine E.then ?_
        refine T.seq ?_
        refine T.block ?_
        refine T.seq ?_
        refine T.region ?_
        obtain ⟨x258, h259, H260⟩ := bnd H242
        refine L.addr 0 rfl (idx_lt h259) fun b261 o262 e263 => ?_
        obtain rfl : a_0 = some ⟨b261, o262, none⟩ := e263
        refine L.y (Yl.ia h259 rfl rfl rfl rfl rfl rfl) rfl rfl rfl ?_
        refine L.el 0 rfl (idx_some h259).2 ?_
        rintro ⟨a264, c265⟩
        refine L.y (Yl.ldc 0 0 rfl rfl rfl rfl) rfl rfl rfl ?_
        refine L.q 1 rfl ?_
        refine L.nil ?_
        refine E.then ?_
        refine T.region ?_
        refine L.q 2 rfl ?_
        obtain ⟨_, h268, H269⟩ := bnd H260
        refine L.a [0] [1] (Ac.ap (ty := tyRowCell) h268 rfl rfl rfl rfl rfl rfl rfl) rfl rfl rfl rfl rfl ?_
        rintro ⟨a270, c271⟩
        refine L.q 1 rfl ?_
        refine L.nil ?_
        refine E.block ?_
        refine E.then ?_
        refine T.region ?_
        refine L.q 2 rfl ?_
        refine L.nil ?_
        have hr := Option.some.inj H269
        subst z238
        exact E.give (_, (a270, c271)) [0] [2] (hag239 _ rfl) ⟨rfl, rfl, rfl, rfl, trivial⟩ rfl rfl
      · refine T.exit ?_
        refine E.then_exit' ?_
        refine E.then_exit' ?_
        refine E.block_here ?_
        have hr := Option.some.inj H242
        subst z238
        have hb := hbr240 _ rfl
        subst e234
        exact E.give ((), (a194, c195)) [0] [0] trivial ⟨rfl, trivial⟩ rfl rfl
    · rintro ⟨_, ⟨a231, c232⟩⟩ _
      refine T.seq ?_
      refine T.region ?_
      refine L.q 2 rfl ?_
      refine L.nil ?_
      refine E.then ?_
      refine T.ret ?_
      have hr := Option.some.inj H236
      subst r
      exact E.ret (a231, c232) [0] [] (.tmp rfl .nil) rfl rfl rfl

theorem c_row_Row_Insert (a_0_0 : Option Addr) (c_0_0 : Nat) {r_ : RowRow} {at_ : Int} {n_ : Int} {style : Int} {r : RowRow} (H : p_row_Row_Insert r_ at_ n_ style = some r) : CT G 25 [.agg #[.slice a_0_0 r_.cells.length c_0_0, .bool r_.wrapped], .int .i64 at_, .int .i64 n_, .int .i64 style] [] [Im.sl tyRowCell a_0_0 c_0_0 r_.cells] (fun h : (Option Addr × Nat) => .agg #[.slice h.1 r.cells.length h.2, .bool r.wrapped]) (fun h => []) (fun h => [Im.sl tyRowCell h.1 h.2 r.cells]) := by
  delta p_row_Row_Insert at H
  refine CT.of Go.Proofs.Tryd.func25 (by kernel_rfl) rfl rfl fun K => ?_
  refine T.seq ?_
  refine T.region ?_
  refine L.a [] [] (Ac.box rfl rfl) rfl rfl rfl rfl rfl ?_
  intro g1
  refine L.a [] [] (Ac.alloc rfl rfl) rfl rfl rfl rfl rfl ?_
  intro g2
  refine L.nil ?_
  refine E.then ?_
  refine T.seq ?_
  refine T.region ?_
  refine L.y (Yl.ldb 1 rfl rfl rfl rfl) rfl rfl rfl ?_
  refine L.q 2 rfl ?_
  obtain ⟨r3, h4, H5⟩ := bnd H
  refine L.a [] [0] (Ac.call (c_row_Row_within a_0_0 c_0_0 h4) rfl rfl rfl rfl) rfl rfl rfl rfl rfl ?_
  rintro ⟨⟩
  refine L.q 1 rfl ?_
  refine L.nil ?_
  refine E.then ?_
  refine T.seq ?_
  refine T.seq ?_
  refine T.region ?_
  refine L.q 2 rfl ?_
  refine L.nil ?_
  refine E.then ?_
  refine T.bif rfl H5 (fun hc H19 => ?_) (fun hc H19 => ?_)
  · refine T.seq ?_
    refine T.region ?_
    refine L.y (Yl.ldb 1 rfl rfl rfl rfl) rfl rfl rfl ?_
    obtain ⟨r20, h21, H22⟩ := bnd H19
    refine L.a [] [0] (Ac.call (c_row_Row_cells a_0_0 c_0_0 h21) rfl rfl rfl rfl) rfl rfl rfl rfl rfl ?_
    rintro ⟨a23, c24⟩
    obtain ⟨r26, h27, H28⟩ := bnd H22
    refine L.a [0] [] (Ac.call (c_row_mend a23 c24 h27) rfl rfl rfl rfl) rfl rfl rfl rfl rfl ?_
    rintro ⟨a29, c30⟩
    refine L.a [0] [] (Ac.stb rfl rfl rfl rfl rfl rfl) rfl rfl rfl rfl rfl ?_
    intro _
    refine L.nil ?_
    refine E.then ?_
    refine T.ret ?_
    refine E.then_ret ?_
    have hr := Option.some.inj H28
    subst r
    exact E.ret (a29, c30) [] [0] (.cell 0 rfl rfl rfl .nil) rfl rfl rfl
  · refine T.skip ?_
    refine E.then ?_
    refine T.seq ?_
    refine T.draw [] [0, 0] mo rfl ?_
    refine D.q 0 rfl rfl rfl rfl rfl rfl ?_
    refine D.y 1 (Yl.ldb 1 rfl rfl rfl rfl) rfl rfl rfl rfl rfl rfl ?_
    refine D.q 2 rfl rfl rfl rfl rfl rfl ?_
    obtain ⟨_, h110, H111⟩ := bnd H19
    refine D.rs 0 3 h110 rfl rfl rfl rfl rfl rfl rfl rfl rfl rfl rfl rfl rfl rfl rfl ?_
    intro a112 c113
    refine D.q 4 rfl rfl rfl rfl rfl rfl ?_
    refine D.q 5 rfl rfl rfl rfl rfl rfl ?_
    refine D.q 7 rfl rfl rfl rfl rfl rfl ?_
    refine D.y 8 (Yl.ldb 1 rfl rfl rfl rfl) rfl rfl rfl rfl rfl rfl ?_
    refine D.q 9 rfl rfl rfl rfl rfl rfl ?_
    obtain ⟨_, h115, H116⟩ := bnd H111
    refine D.rs 1 10 h115 rfl rfl rfl rfl rfl rfl rfl rfl rfl rfl rfl rfl rfl rfl rfl ?_
    intro a117 c118
    obtain ⟨r120, h121, H122⟩ := bnd H116
    refine D.one rfl rfl rfl (Dp.a [] [] (Ac.call (c_row_blanks h121) rfl rfl rfl rfl) rfl rfl rfl rfl rfl rfl ?_)
    rintro ⟨a123, c124⟩
    refine D.frz 0 rfl ?_
    refine D.one rfl rfl rfl (Dp.a [] [2, 0, 1] (Ac.bs (ty := (Ty.slice tyRowCell)) (xs := [(cut r_.cells 0 at_), r120, (cut r_.cells at_ (r_.cells.length : Int))]) (.cons (a112, c113) [0] rfl (.cons (a123, c124) [1] rfl (.cons (a117, c118) [2] rfl .nil))) rfl rfl rfl rfl rfl rfl rfl) rfl rfl rfl rfl rfl rfl ?_)
    intro g127
    refine D.frz 0 rfl ?_
    obtain ⟨r130, h131, H132⟩ := bnd H122
    refine D.one rfl rfl rfl (Dp.a [] [0] (Ac.call (c_slices_Concat_row_Cell (some ⟨g127, 0, none⟩) 3 h131) rfl rfl rfl rfl) rfl rfl rfl rfl rfl rfl ?_)
    rintro ⟨a133, c134⟩
    refine D.q 13 rfl rfl rfl rfl rfl rfl ?_
    refine D.nil rfl rfl ?_
    refine E.then ?_
    refine T.seq ?_
    refine T.region ?_
    refine L.q 2 rfl ?_
    refine L.y (Yl.ldb 1 rfl rfl rfl rfl) rfl rfl rfl ?_
    refine L.q 1 rfl ?_
    obtain ⟨_, h136, H137⟩ := bnd H132
    refine L.a [2] [] (Ac.rso h136 rfl rfl rfl rfl rfl rfl rfl) rfl rfl rfl rfl rfl ?_
    intro _
    obtain ⟨r141, h142, H143⟩ := bnd H137
    refine L.a [0] [] (Ac.call (c_row_mend a133 c134 h142) rfl rfl rfl rfl) rfl rfl rfl rfl rfl ?_
    rintro ⟨a144, c145⟩
    refine L.a [0] [] (Ac.stb rfl rfl rfl rfl rfl rfl) rfl rfl rfl rfl rfl ?_
    intro _
    refine L.nil ?_
    refine E.then ?_
    refine T.ret ?_
    have hr := Option.some.inj H143
    subst r
    exact E.ret (a144, c145) [] [0] (.cell 0 rfl rfl rfl .nil) rfl rfl rfl

theorem c_row_Row_Delete (a_0_0 : Option Addr) (c_0_0 : Nat) {r_ : RowRow} {at_ : Int} {n_ : Int} {style : Int} {r : RowRow} (H : p_row_Row_Delete r_ at_ n_ style = some r) : CT G 26 [.agg #[.slice a_0_0 r_.cells.length c_0_0, .bool r_.wrapped], .int .i64 at_, .int .i64 n_, .int .i64 style] [] [Im.sl tyRowCell a_0_0 c_0_0 r_.cells] (fun h : (Option Addr × Nat) => .agg #[.slice h.1 r.cells.length h.2, .bool r.wrapped]) (fun h => []) (fun h => [Im.sl tyRowCell h.1 h.2 r.cells]) := by
  delta p_row_Row_Delete at H
  refine CT.of Go.Proofs.Tryd.func26 (by kernel_rfl) rfl rfl fun K => ?_
  refine T.seq ?_
  refine T.region ?_
  refine L.a [] [] (Ac.box rfl rfl) rfl rfl rfl rfl rfl ?_
  intro g1
  refine L.a [] [] (Ac.alloc rfl rfl) rfl rfl rfl rfl rfl ?_
  intro g2
  refine L.nil ?_
  refine E.then ?_
  refine T.seq ?_
  refine T.region ?_
  refine L.y (Yl.ldb 1 rfl rfl rfl rfl) rfl rfl rfl ?_
  refine L.q 2 rfl ?_
  obtain ⟨r3, h4, H5⟩ := bnd H
  refine L.a [] [0] (Ac.call (c_row_Row_within a_0_0 c_0_0 h4) rfl rfl rfl rfl) rfl rfl rfl rfl rfl ?_
  rintro ⟨⟩
  refine L.q 1 rfl ?_
  refine L.nil ?_
  refine E.then ?_
  refine T.seq ?_
  refine T.seq ?_
  refine T.region ?_
  refine L.q 2 rfl ?_
  refine L.nil ?_
  refine E.then ?_
  refine T.bif rfl H5 (fun hc H19 => ?_) (fun hc H19 => ?_)
  · refine T.seq ?_
    refine T.region ?_
    refine L.y (Yl.ldb 1 rfl rfl rfl rfl) rfl rfl rfl ?_
    obtain ⟨r20, h21, H22⟩ := bnd H19
    refine L.a [] [0] (Ac.call (c_row_Row_cells a_0_0 c_0_0 h21) rfl rfl rfl rfl) rfl rfl rfl rfl rfl ?_
    rintro ⟨a23, c24⟩
    obtain ⟨r26, h27, H28⟩ := bnd H22
    refine L.a [0] [] (Ac.call (c_row_mend a23 c24 h27) rfl rfl rfl rfl) rfl rfl rfl rfl rfl ?_
    rintro ⟨a29, c30⟩
    refine L.a [0] [] (Ac.stb rfl rfl rfl rfl rfl rfl) rfl rfl rfl rfl rfl ?_
    intro _
    refine L.nil ?_
    refine E.then ?_
    refine T.ret ?_
    refine E.then_ret ?_
    have hr := Option.some.inj H28
    subst r
    exact E.ret (a29, c30) [] [0] (.cell 0 rfl rfl rfl .nil) rfl rfl rfl
  · refine T.skip ?_
    refine E.then ?_
    refine T.seq ?_
    refine T.draw [16] [0, 0] mo rfl ?_
    refine D.q 0 rfl rfl rfl rfl rfl rfl ?_
    refine D.y 1 (Yl.ldb 1 rfl rfl rfl rfl) rfl rfl rfl rfl rfl rfl ?_
    refine D.q 2 rfl rfl rfl rfl rfl rfl ?_
    obtain ⟨_, h128, H129⟩ := bnd H19
    refine D.rs 0 3 h128 rfl rfl rfl rfl rfl rfl rfl rfl rfl rfl rfl rfl rfl rfl rfl ?_
    intro a130 c131
    refine D.q 4 rfl rfl rfl rfl rfl rfl ?_
    refine D.y 5 (Yl.ldb 1 rfl rfl rfl rfl) rfl rfl rfl rfl rfl rfl ?_
    refine D.q 6 rfl rfl rfl rfl rfl rfl ?_
    refine D.q 7 rfl rfl rfl rfl rfl rfl ?_
    refine D.q 8 rfl rfl rfl rfl rfl rfl ?_
    obtain ⟨_, h133, H134⟩ := bnd H129
    refine D.rs 1 9 h133 rfl rfl rfl rfl rfl rfl rfl rfl rfl rfl rfl rfl rfl rfl rfl ?_
    intro a135 c136
    refine D.q 10 rfl rfl rfl rfl rfl rfl ?_
    refine D.q 11 rfl rfl rfl rfl rfl rfl ?_
    obtain ⟨r138, h139, H140⟩ := bnd H134
    refine D.one rfl rfl rfl (Dp.a [] [] (Ac.call (c_row_blanks h139) rfl rfl rfl rfl) rfl rfl rfl rfl rfl rfl ?_)
    rintro ⟨a141, c142⟩
    refine D.frz 0 rfl ?_
    refine D.one rfl rfl rfl (Dp.a [] [2, 1, 0] (Ac.bs (ty := (Ty.slice tyRowCell)) (xs := [(cut r_.cells 0 at_), (cut r_.cells (IntKind.i64.wrap (at_ + r3)) (r_.cells.length : Int)), r138]) (.cons (a130, c131) [0] rfl (.cons (a135, c136) [1] rfl (.cons (a141, c142) [2] rfl .nil))) rfl rfl rfl rfl rfl rfl rfl) rfl rfl rfl rfl rfl rfl ?_)
    intro g145
    refine D.frz 0 rfl ?_
    obtain ⟨r148, h149, H150⟩ := bnd H140
    refine D.one rfl rfl rfl (Dp.a [] [0] (Ac.call (c_slices_Concat_row_Cell (some ⟨g145, 0, none⟩) 3 h149) rfl rfl rfl rfl) rfl rfl rfl rfl rfl rfl ?_)
    rintro ⟨a151, c152⟩
    obtain ⟨r154, h155, H156⟩ := bnd H150
    refine D.one rfl rfl rfl (Dp.a [0] [] (Ac.call (c_row_mend a151 c152 h155) rfl rfl rfl rfl) rfl rfl rfl rfl rfl rfl ?_)
    rintro ⟨a157, c158⟩
    refine D.one rfl rfl rfl (Dp.al [0] [] (Ac.stb rfl rfl rfl rfl rfl rfl) rfl rfl rfl rfl rfl rfl rfl ?_)
    intro _
    refine D.nil rfl rfl ?_
    refine E.then ?_
    refine T.ret ?_
    have hr := Option.some.inj H156
    subst r
    exact E.ret (a157, c158) [] [0] (.cell 0 rfl rfl rfl .nil) rfl rfl rfl

theorem c_ref09_mend (a_0 : Option Addr) (c_0 : Nat) {l : List Ref09Cell} {r : Ref09Row} (H : p_ref09_mend l = some r) : CT G 53 [.slice a_0 l.length c_0] [] [Im.sl tyRef09Cell a_0 c_0 l] (fun h : (Option Addr × Nat) => .agg #[.slice h.1 r.l.length h.2, .bool r.wrapped]) (fun h => []) (fun h => [Im.sl tyRef09Cell h.1 h.2 r.l]) := by
  delta p_ref09_mend at H
  refine CT.of Go.Proofs.Tryd.func53 (by kernel_rfl) rfl rfl fun K => ?_
  refine T.seq ?_
  refine T.region ?_
  refine L.a [] [] (Ac.alloc rfl rfl) rfl rfl rfl rfl rfl ?_
  intro g1
  refine L.nil ?_
  refine E.then ?_
  refine T.seq ?_
  refine T.region ?_
  refine L.a [] [] (Ac.bs (ty := tyRef09Cell) (xs := []) .nil rfl rfl rfl rfl rfl rfl rfl) rfl rfl rfl rfl rfl ?_
  intro g2
  refine L.q 1 rfl ?_
  refine L.nil ?_
  refine E.then ?_
  refine T.seq ?_
  refine T.seq ?_
  refine T.region ?_
  refine L.q 3 rfl ?_
  refine L.nil ?_
  refine E.then ?_
  obtain ⟨e432, H433, H434⟩ := bnd H
  refine T.join (η := Unit × ((Option Addr × Nat))) (fun h => True) (fun h => (fun a429 c430 => [(2, .pointer (some ⟨g1, 0, none⟩)), (3, .slice a429 e432.length c430)]) h.2.1 h.2.2) (fun h => (fun a429 c430 => [Ch.arr tyRef09Cell 84 a429 c430 e432, Ch.box g1 30 [.slice none 0 0, .bool false]]) h.2.1 h.2.2) (fun h => (fun a429 c430 => [Im.sl tyRef09Cell a_0 c_0 l]) h.2.1 h.2.2) ?_ ?_
  · refine T.block ?_
    refine T.lp (η := (Option Addr × Nat)) (fun s287 h => (fun a284 c285 => [(0, .slice a_0 l.length c_0), (2, .pointer (some ⟨g1, 0, none⟩)), (3, .slice a284 s287.2.length c285), (8, .slice a_0 l.length c_0), (9, .int .i64 (l.length : Int)), (10, .int .i64 s287.1)]) h.1 h.2) (fun s287 h => (fun a284 c285 => [Ch.arr tyRef09Cell 84 a284 c285 s287.2, Ch.box g1 30 [.slice none 0 0, .bool false]]) h.1 h.2) (fun s287 h => (fun a284 c285 => [Im.sl tyRef09Cell a_0 c_0 l]) h.1 h.2) ((some ⟨g2, 0, none⟩), 0) [0, 0] [0] H433 ⟨rfl, rfl, rfl, rfl, rfl, rfl, trivial⟩ rfl rfl ?_
    rintro k s287 ⟨a284, c285⟩ z436 H435 hag437 hbr438
    refine T.seq ?_
    refine T.region ?_
    refine L.q 1 rfl ?_
    refine L.nil ?_
    refine E.then ?_
    refine T.seq ?_
    refine T.bif rfl H435 (fun hc H440 => ?_) (fun hc H440 => ?_)
    · refine T.skip ?_
      refine E.then ?_
      refine T.seq ?_
      refine T.block ?_
      refine T.seq ?_
      refine T.region ?_
      refine L.q 1 rfl ?_
      obtain ⟨x510, h511, H512⟩ := bnd H440
      refine L.addr 0 rfl (idx_lt h511) fun b513 o514 e515 => ?_
      obtain rfl : a_0 = some ⟨b513, o514, none⟩ := e515
      refine L.y (Yl.ia h511 rfl rfl rfl rfl rfl rfl) rfl rfl rfl ?_
      refine L.el 0 rfl (idx_some h511).2 ?_
      rintro _
      refine L.y (Yl.ldc 0 0 rfl rfl rfl rfl) rfl rfl rfl ?_
      refine L.a [] [] (Ac.alloc rfl rfl) rfl rfl rfl rfl rfl ?_
      intro g517
      refine L.q 1 rfl ?_
      refine L.a [0] [] (Ac.stb rfl rfl rfl rfl rfl rfl) rfl rfl rfl rfl rfl ?_
      intro _
      refine L.nil ?_
      refine E.then ?_
      refine T.seq ?_
      refine T.region ?_
      refine L.q 1 rfl ?_
      refine L.nil ?_
      refine E.then ?_
      refine T.seq ?_
      refine T.seq ?_
      refine T.region ?_
      refine L.q 1 rfl ?_
      refine L.y (Yl.ldb 0 rfl rfl rfl rfl) rfl rfl rfl ?_
      refine L.nil ?_
      refine E.then ?_
      obtain ⟨e547, H548, H549⟩ := bnd H512
      refine T.join (η := Unit × Unit) (fun h => True) (fun h => [(0, .slice (some ⟨b513, o514, none⟩) l.length c_0), (2, .pointer (some ⟨g1, 0, none⟩)), (3, .slice a284 s287.2.length c285), (5, .pointer (some ⟨g517, 0, none⟩)), (6, .bool e547), (8, .slice (some ⟨b513, o514, none⟩) l.length c_0), (9, .int .i64 (l.length : Int)), (10, .int .i64 s287.1)]) (fun h => [Ch.box g517 84 [.int .i64 x510.rune, .int .i64 x510.style, .int .i64 x510.part], Ch.box g1 30 [.slice none 0 0, .bool false], Ch.arr tyRef09Cell 84 a284 c285 s287.2]) (fun h => [Im.cells b513 (o514 + s287.1.toNat * 3) [.int .i64 x510.rune, .int .i64 x510.style, .int .i64 x510.part], Im.sl tyRef09Cell (some ⟨b513, o514, none⟩) c_0 l]) ?_ ?_
      · refine T.block ?_
        refine T.seq ?_
        refine T.region ?_
        refine L.q 2 rfl ?_
        refine L.nil ?_
        refine E.then ?_
        refine T.bif rfl H548 (fun hc H550 => ?_) (fun hc H550 => ?_)
        · refine T.region ?_
          refine L.q 6 rfl ?_
          refine L.cs 24 H550 rfl (fun hc H551 => ?_) (fun hc H551 => ?_)
          · refine L.q 9 rfl ?_
            refine L.nil ?_
            refine E.block ?_
            have hr := Option.some.inj H551
            subst e547
            exact E.give ((), ()) [0, 1, 0] [0, 1] trivial ⟨rfl, rfl, rfl, rfl, rfl, rfl, rfl, rfl, trivial⟩ rfl rfl
          · refine L.q 3 rfl ?_
            obtain ⟨x552, h553, H554⟩ := bnd H551
            refine L.y (Yl.ia h553 rfl rfl rfl rfl rfl rfl) rfl rfl rfl ?_
            refine L.el 1 rfl (idx_some h553).2 ?_
            rintro _
            refine L.q 1 rfl ?_
            refine L.y (Yl.ldc 0 2 rfl rfl rfl rfl) rfl rfl rfl ?_
            refine L.q 3 rfl ?_
            refine L.nil ?_
            refine E.block ?_
            have hr := Option.some.inj H554
            subst e547
            exact E.give ((), ()) [0, 1, 0] [1, 2] trivial ⟨rfl, rfl, rfl, rfl, rfl, rfl, rfl, rfl, trivial⟩ rfl rfl
        · refine T.seq ?_
          refine T.region ?_
          refine L.q 2 rfl ?_
          refine L.nil ?_
          refine E.then ?_
          refine T.bif rfl H550 (fun hc H556 => ?_) (fun hc H556 => ?_)
          · refine T.region ?_
            refine L.q 3 rfl ?_
            refine L.cs 37 H556 rfl (fun hc H557 => ?_) (fun hc H557 => ?_)
            · refine L.q 9 rfl ?_
              refine L.nil ?_
              refine E.block ?_
              have hr := Option.some.inj H557
              subst e547
              exact E.give ((), ()) [0, 1, 0] [0, 1] trivial ⟨rfl, rfl, rfl, rfl, rfl, rfl, rfl, rfl, trivial⟩ rfl rfl
            · refine L.q 3 rfl ?_
              obtain ⟨x558, h559, H560⟩ := bnd H557
              refine L.addro 1 rfl (idx_lt h559) fun b561 e562 => ?_
              obtain rfl : a284 = some ⟨b561, 0, none⟩ := e562
              refine L.y (Yl.ia h559 rfl rfl rfl rfl rfl rfl) rfl rfl rfl ?_
              refine L.q 1 rfl ?_
              refine L.y (Yl.lo (v := .int .i64 x558.part) 1 (IntKind.i64.wrap (s287.1 - 1)).toNat 2 (idx_some h559).2 rfl rfl rfl rfl (fun _ => rfl)) rfl rfl rfl ?_
              refine L.q 3 rfl ?_
              refine L.nil ?_
              refine E.block ?_
              have hr := Option.some.inj H560
              subst e547
              exact E.give ((), ()) [0, 1, 0] [0, 1] trivial ⟨rfl, rfl, rfl, rfl, rfl, rfl, rfl, rfl, trivial⟩ rfl rfl
          · refine T.seq ?_
            refine T.region ?_
            refine L.q 2 rfl ?_
            refine L.nil ?_
            refine E.then ?_
            refine T.bif rfl H556 (fun hc H563 => ?_) (fun hc H563 => ?_)
            · refine T.region ?_
              refine L.q 6 rfl ?_
              refine L.nil ?_
              refine E.block ?_
              have hr := Option.some.inj H563
              subst e547
              exact E.give ((), ()) [0, 1, 0] [0, 1] trivial ⟨rfl, rfl, rfl, rfl, rfl, rfl, rfl, rfl, trivial⟩ rfl rfl
            · refine T.skip ?_
              refine E.block ?_
              have hr := Option.some.inj H563
              subst e547
              exact E.give ((), ()) [0, 1, 0] [0, 1] trivial ⟨rfl, rfl, rfl, rfl, rfl, rfl, rfl, rfl, trivial⟩ rfl rfl
      · rintro ⟨_, ⟨⟩⟩ _
        refine T.seq ?_
        refine T.seq ?_
        refine T.region ?_
        refine L.q 1 rfl ?_
        refine L.nil ?_
        refine E.then ?_
        obtain ⟨e567, H568, H569⟩ := bnd H549
        refine T.join (η := Unit × Unit) (fun h => True) (fun h => [(0, .slice (some ⟨b513, o514, none⟩) l.length c_0), (2, .pointer (some ⟨g1, 0, none⟩)), (3, .slice a284 s287.2.length c285), (5, .pointer (some ⟨g517, 0, none⟩)), (8, .slice (some ⟨b513, o514, none⟩) l.length c_0), (9, .int .i64 (l.length : Int)), (10, .int .i64 s287.1)]) (fun h => [Ch.box g517 84 [.int .i64 e567.rune, .int .i64 e567.style, .int .i64 e567.part], Ch.box g1 30 [.slice none 0 0, .bool false], Ch.arr tyRef09Cell 84 a284 c285 s287.2]) (fun h => [Im.cells b513 (o514 + s287.1.toNat * 3) [.int .i64 x510.rune, .int .i64 x510.style, .int .i64 x510.part], Im.sl tyRef09Cell (some ⟨b513, o514, none⟩) c_0 l]) ?_ ?_
        · refine T.bif rfl H568 (fun hc H570 => ?_) (fun hc H570 => ?_)
          · refine T.region ?_
            refine L.q 1 rfl ?_
            refine L.y (Yl.ldb 0 rfl rfl rfl rfl) rfl rfl rfl ?_
            refine L.q 1 rfl ?_
            refine L.a [0] [] (Ac.stb rfl rfl rfl rfl rfl rfl) rfl rfl rfl rfl rfl ?_
            intro _
            refine L.nil ?_
            have hr := Option.some.inj H570
            subst e567
            exact E.give ((), ()) [0, 0, 0] [0, 1] trivial ⟨rfl, rfl, rfl, rfl, rfl, rfl, rfl, trivial⟩ rfl rfl
          · refine T.skip ?_
            have hr := Option.some.inj H570
            subst e567
            exact E.give ((), ()) [0, 0, 0] [0, 1] trivial ⟨rfl, rfl, rfl, rfl, rfl, rfl, rfl, trivial⟩ rfl rfl
        · rintro ⟨_, ⟨⟩⟩ _
          refine T.region ?_
          refine L.q 1 rfl ?_
          refine L.y (Yl.ldb 0 rfl rfl rfl rfl) rfl rfl rfl ?_
          refine L.a [] [] (Ac.bs (ty := tyRef09Cell) (xs := [e567]) (.cons () [] rfl .nil) rfl rfl rfl rfl rfl rfl rfl) rfl rfl rfl rfl rfl ?_
          intro g571
          refine L.frz 0 rfl ?_
          obtain ⟨_, h574, H575⟩ := bnd H569
          refine L.a [2] [0] (Ac.ap (ty := tyRef09Cell) h574 rfl rfl rfl rfl rfl rfl rfl) rfl rfl rfl rfl rfl ?_
          rintro ⟨a576, c577⟩
          refine L.q 1 rfl ?_
          refine L.nil ?_
          refine E.block ?_
          refine E.then ?_
          refine T.region ?_
          refine L.q 2 rfl ?_
          refine L.nil ?_
          have hr := Option.some.inj H575
          subst z436
          exact E.give (_, (a576, c577)) [0, 1] [2] (hag437 _ rfl) ⟨rfl, rfl, rfl, rfl, rfl, rfl, trivial⟩ rfl rfl
    · refine T.exit ?_
      refine E.then_exit' ?_
      refine E.then_exit' ?_
      refine E.block_here ?_
      have hr := Option.some.inj H440
      subst z436
      have hb := hbr438 _ rfl
      subst e432
      exact E.give ((), (a284, c285)) [0, 0] [0] trivial ⟨rfl, rfl, trivial⟩ rfl rfl
  · rintro ⟨_, ⟨a429, c430⟩⟩ _
    refine T.seq ?_
    refine T.region ?_
    refine L.q 2 rfl ?_
    refine L.a [1] [] (Ac.stb rfl rfl rfl rfl rfl rfl) rfl rfl rfl rfl rfl ?_
    intro _
    refine L.nil ?_
    refine E.then ?_
    refine T.ret ?_
    refine E.frz 1 rfl ?_
    have hr := Option.some.inj H434
    subst r
    exact E.ret (a429, c430) [] [0] (.cell 0 rfl rfl rfl .nil) rfl rfl rfl

theorem c_ref06_Of {r_ : Int} {r : Int} (H : p_ref06_Of r_ = some r) : CT G 77 [.int .i64 r_] [] [] (fun h : Unit => .int .i64 r) (fun h => []) (fun h => []) := by
  delta p_ref06_Of at H
  refine CT.of Go.Proofs.Tryd.func77 (by kernel_rfl) rfl rfl fun K => ?_
  refine T.seq ?_
  refine T.region ?_
  refine L.q 1 rfl ?_
  refine L.nil ?_
  refine E.then ?_
  refine T.seq ?_
  refine T.region ?_
  refine L.q 11 rfl ?_
  refine L.a [] [] (Ac.bs (ty := tyArr2Int) (xs := [(Arr2Int.mk 127 159), (Arr2Int.mk 768 879), (Arr2Int.mk 6832 6911), (Arr2Int.mk 7616 7679), (Arr2Int.mk 8203 8207), (Arr2Int.mk 8400 8447), (Arr2Int.mk 55296 57343), (Arr2Int.mk 65024 65039), (Arr2Int.mk 65056 65071), (Arr2Int.mk 65279 65279), (Arr2Int.mk 917760 917999)]) (.cons () [] rfl (.cons () [] rfl (.cons () [] rfl (.cons () [] rfl (.cons () [] rfl (.cons () [] rfl (.cons () [] rfl (.cons () [] rfl (.cons () [] rfl (.cons () [] rfl (.cons () [] rfl .nil))))))))))) rfl rfl rfl rfl rfl rfl rfl) rfl rfl rfl rfl rfl ?_
  intro g1
  refine L.q 1 rfl ?_
  refine L.nil ?_
  refine E.then ?_
  refine T.seq ?_
  refine T.region ?_
  refine L.q 14 rfl ?_
  refine L.a [] [] (Ac.bs (ty := tyArr2Int) (xs := [(Arr2Int.mk 4352 4447), (Arr2Int.mk 11904 12350), (Arr2Int.mk 12353 13311), (Arr2Int.mk 13312 19903), (Arr2Int.mk 19968 40959), (Arr2Int.mk 40960 42191), (Arr2Int.mk 44032 55203), (Arr2Int.mk 63744 64255), (Arr2Int.mk 65072 65135), (Arr2Int.mk 65280 65376), (Arr2Int.mk 65504 65510), (Arr2Int.mk 127744 128591), (Arr2Int.mk 129280 129535), (Arr2Int.mk 131072 262141)]) (.cons () [] rfl (.cons () [] rfl (.cons () [] rfl (.cons () [] rfl (.cons () [] rfl (.cons () [] rfl (.cons () [] rfl (.cons () [] rfl (.cons () [] rfl (.cons () [] rfl (.cons () [] rfl (.cons () [] rfl (.cons () [] rfl (.cons () [] rfl .nil)))))))))))))) rfl rfl rfl rfl rfl rfl rfl) rfl rfl rfl rfl rfl ?_
  intro g3
  refine L.q 1 rfl ?_
  refine L.nil ?_
  refine E.then ?_
  refine T.seq ?_
  refine T.seq ?_
  obtain ⟨e8, H9, H10⟩ := bnd H
  refine T.join (η := Unit × Unit) (fun h => True) (fun h => [(0, .int .i64 r_), (3, .slice (some ⟨g1, 0, none⟩) [(Arr2Int.mk 127 159), (Arr2Int.mk 768 879), (Arr2Int.mk 6832 6911), (Arr2Int.mk 7616 7679), (Arr2Int.mk 8203 8207), (Arr2Int.mk 8400 8447), (Arr2Int.mk 55296 57343), (Arr2Int.mk 65024 65039), (Arr2Int.mk 65056 65071), (Arr2Int.mk 65279 65279), (Arr2Int.mk 917760 917999)].length 11), (4, .slice (some ⟨g3, 0, none⟩) [(Arr2Int.mk 4352 4447), (Arr2Int.mk 11904 12350), (Arr2Int.mk 12353 13311), (Arr2Int.mk 13312 19903), (Arr2Int.mk 19968 40959), (Arr2Int.mk 40960 42191), (Arr2Int.mk 44032 55203), (Arr2Int.mk 63744 64255), (Arr2Int.mk 65072 65135), (Arr2Int.mk 65280 65376), (Arr2Int.mk 65504 65510), (Arr2Int.mk 127744 128591), (Arr2Int.mk 129280 129535), (Arr2Int.mk 131072 262141)].length 14), (41, .bool e8)]) (fun h => [Ch.arr tyArr2Int 133 (some ⟨g3, 0, none⟩) 14 [(Arr2Int.mk 4352 4447), (Arr2Int.mk 11904 12350), (Arr2Int.mk 12353 13311), (Arr2Int.mk 13312 19903), (Arr2Int.mk 19968 40959), (Arr2Int.mk 40960 42191), (Arr2Int.mk 44032 55203), (Arr2Int.mk 63744 64255), (Arr2Int.mk 65072 65135), (Arr2Int.mk 65280 65376), (Arr2Int.mk 65504 65510), (Arr2Int.mk 127744 128591), (Arr2Int.mk 129280 129535), (Arr2Int.mk 131072 262141)], Ch.arr tyArr2Int 133 (some ⟨g1, 0, none⟩) 11 [(Arr2Int.mk 127 159), (Arr2Int.mk 768 879), (Arr2Int.mk 6832 6911), (Arr2Int.mk 7616 7679), (Arr2Int.mk 8203 8207), (Arr2Int.mk 8400 8447), (Arr2Int.mk 55296 57343), (Arr2Int.mk 65024 65039), (Arr2Int.mk 65056 65071), (Arr2Int.mk 65279 65279), (Arr2Int.mk 917760 917999)]]) (fun h => []) ?_ ?_
  · refine T.region ?_
    refine L.q 3 rfl ?_
    refine L.cs 38 H9 rfl (fun hc H11 => ?_) (fun hc H11 => ?_)
    · refine L.q 3 rfl ?_
      refine L.nil ?_
      have hr := Option.some.inj H11
      subst e8
      exact E.give ((), ()) [0, 0] [] trivial ⟨rfl, rfl, rfl, rfl, trivial⟩ rfl rfl
    · refine L.q 3 rfl ?_
      refine L.nil ?_
      have hr := Option.some.inj H11
      subst e8
      exact E.give ((), ()) [0, 0] [] trivial ⟨rfl, rfl, rfl, rfl, trivial⟩ rfl rfl
  · rintro ⟨_, ⟨⟩⟩ _
    refine T.bif rfl H10 (fun hc H13 => ?_) (fun hc H13 => ?_)
    · refine T.seq ?_
      refine T.region ?_
      refine L.q 1 rfl ?_
      refine L.nil ?_
      refine E.then ?_
      refine T.ret ?_
      refine E.then_ret ?_
      have hr := Option.some.inj H13
      subst r
      exact E.ret () [] [] (.tmp rfl .nil) rfl rfl rfl
    · refine T.skip ?_
      refine E.then ?_
      refine T.seq ?_
      refine T.seq ?_
      refine T.region ?_
      refine L.q 3 rfl ?_
      refine L.nil ?_
      refine E.then ?_
      obtain ⟨y97, H98, H99⟩ := bnd H13
      refine T.join (η := Unit × Unit) (fun h => y97 = .inl h.1) (fun h => (fun e96 => [(0, .int .i64 r_), (4, .slice (some ⟨g3, 0, none⟩) [(Arr2Int.mk 4352 4447), (Arr2Int.mk 11904 12350), (Arr2Int.mk 12353 13311), (Arr2Int.mk 13312 19903), (Arr2Int.mk 19968 40959), (Arr2Int.mk 40960 42191), (Arr2Int.mk 44032 55203), (Arr2Int.mk 63744 64255), (Arr2Int.mk 65072 65135), (Arr2Int.mk 65280 65376), (Arr2Int.mk 65504 65510), (Arr2Int.mk 127744 128591), (Arr2Int.mk 129280 129535), (Arr2Int.mk 131072 262141)].length 14)]) h.1) (fun h => (fun e96 => [Ch.arr tyArr2Int 133 (some ⟨g3, 0, none⟩) 14 [(Arr2Int.mk 4352 4447), (Arr2Int.mk 11904 12350), (Arr2Int.mk 12353 13311), (Arr2Int.mk 13312 19903), (Arr2Int.mk 19968 40959), (Arr2Int.mk 40960 42191), (Arr2Int.mk 44032 55203), (Arr2Int.mk 63744 64255), (Arr2Int.mk 65072 65135), (Arr2Int.mk 65280 65376), (Arr2Int.mk 65504 65510), (Arr2Int.mk 127744 128591), (Arr2Int.mk 129280 129535), (Arr2Int.mk 131072 262141)]]) h.1) (fun h => (fun e96 => []) h.1) ?_ ?_
      · refine T.block ?_
        refine T.lp (η := Unit) (fun s69 h => [(0, .int .i64 r_), (4, .slice (some ⟨g3, 0, none⟩) [(Arr2Int.mk 4352 4447), (Arr2Int.mk 11904 12350), (Arr2Int.mk 12353 13311), (Arr2Int.mk 13312 19903), (Arr2Int.mk 19968 40959), (Arr2Int.mk 40960 42191), (Arr2Int.mk 44032 55203), (Arr2Int.mk 63744 64255), (Arr2Int.mk 65072 65135), (Arr2Int.mk 65280 65376), (Arr2Int.mk 65504 65510), (Arr2Int.mk 127744 128591), (Arr2Int.mk 129280 129535), (Arr2Int.mk 131072 262141)].length 14), (42, .slice (some ⟨g1, 0, none⟩) [(Arr2Int.mk 127 159), (Arr2Int.mk 768 879), (Arr2Int.mk 6832 6911), (Arr2Int.mk 7616 7679), (Arr2Int.mk 8203 8207), (Arr2Int.mk 8400 8447), (Arr2Int.mk 55296 57343), (Arr2Int.mk 65024 65039), (Arr2Int.mk 65056 65071), (Arr2Int.mk 65279 65279), (Arr2Int.mk 917760 917999)].length 11), (43, .int .i64 ([(Arr2Int.mk 127 159), (Arr2Int.mk 768 879), (Arr2Int.mk 6832 6911), (Arr2Int.mk 7616 7679), (Arr2Int.mk 8203 8207), (Arr2Int.mk 8400 8447), (Arr2Int.mk 55296 57343), (Arr2Int.mk 65024 65039), (Arr2Int.mk 65056 65071), (Arr2Int.mk 65279 65279), (Arr2Int.mk 917760 917999)].length : Int)), (44, .int .i64 s69)]) (fun s69 h => [Ch.arr tyArr2Int 133 (some ⟨g3, 0, none⟩) 14 [(Arr2Int.mk 4352 4447), (Arr2Int.mk 11904 12350), (Arr2Int.mk 12353 13311), (Arr2Int.mk 13312 19903), (Arr2Int.mk 19968 40959), (Arr2Int.mk 40960 42191), (Arr2Int.mk 44032 55203), (Arr2Int.mk 63744 64255), (Arr2Int.mk 65072 65135), (Arr2Int.mk 65280 65376), (Arr2Int.mk 65504 65510), (Arr2Int.mk 127744 128591), (Arr2Int.mk 129280 129535), (Arr2Int.mk 131072 262141)], Ch.arr tyArr2Int 133 (some ⟨g1, 0, none⟩) 11 [(Arr2Int.mk 127 159), (Arr2Int.mk 768 879), (Arr2Int.mk 6832 6911), (Arr2Int.mk 7616 7679), (Arr2Int.mk 8203 8207), (Arr2Int.mk 8400 8447), (Arr2Int.mk 55296 57343), (Arr2Int.mk 65024 65039), (Arr2Int.mk 65056 65071), (Arr2Int.mk 65279 65279), (Arr2Int.mk 917760 917999)]]) (fun s69 h => []) () [0, 0] [] H98 ⟨rfl, rfl, rfl, rfl, rfl, trivial⟩ rfl rfl ?_
        rintro k s69 ⟨⟩ z101 H100 hag102 hbr103
        refine T.seq ?_
        refine T.region ?_
        refine L.q 1 rfl ?_
        refine L.nil ?_
        refine E.then ?_
        refine T.seq ?_
        refine T.bif rfl H100 (fun hc H105 => ?_) (fun hc H105 => ?_)
        · refine T.skip ?_
          refine E.then ?_
          refine T.seq ?_
          refine T.block ?_
          refine T.seq ?_
          refine T.region ?_
          obtain ⟨x118, h119, H120⟩ := bnd H105
          refine L.y (Yl.ia h119 rfl rfl rfl rfl rfl rfl) rfl rfl rfl ?_
          refine L.y (Yl.lo (v := .agg #[.int .i64 x118.e0, .int .i64 x118.e1]) 1 s69.toNat 0 (idx_some h119).2 rfl rfl rfl rfl (fun _ => rfl)) rfl rfl rfl ?_
          refine L.a [] [] (Ac.alloc rfl rfl) rfl rfl rfl rfl rfl ?_
          intro g121
          refine L.a [0] [] (Ac.stb rfl rfl rfl rfl rfl rfl) rfl rfl rfl rfl rfl ?_
          intro _
          refine L.nil ?_
          refine E.then ?_
          refine T.seq ?_
          obtain ⟨e125, H126, H127⟩ := bnd H120
          refine T.join (η := Unit × Unit) (fun h => True) (fun h => [(0, .int .i64 r_), (4, .slice (some ⟨g3, 0, none⟩) [(Arr2Int.mk 4352 4447), (Arr2Int.mk 11904 12350), (Arr2Int.mk 12353 13311), (Arr2Int.mk 13312 19903), (Arr2Int.mk 19968 40959), (Arr2Int.mk 40960 42191), (Arr2Int.mk 44032 55203), (Arr2Int.mk 63744 64255), (Arr2Int.mk 65072 65135), (Arr2Int.mk 65280 65376), (Arr2Int.mk 65504 65510), (Arr2Int.mk 127744 128591), (Arr2Int.mk 129280 129535), (Arr2Int.mk 131072 262141)].length 14), (42, .slice (some ⟨g1, 0, none⟩) [(Arr2Int.mk 127 159), (Arr2Int.mk 768 879), (Arr2Int.mk 6832 6911), (Arr2Int.mk 7616 7679), (Arr2Int.mk 8203 8207), (Arr2Int.mk 8400 8447), (Arr2Int.mk 55296 57343), (Arr2Int.mk 65024 65039), (Arr2Int.mk 65056 65071), (Arr2Int.mk 65279 65279), (Arr2Int.mk 917760 917999)].length 11), (43, .int .i64 ([(Arr2Int.mk 127 159), (Arr2Int.mk 768 879), (Arr2Int.mk 6832 6911), (Arr2Int.mk 7616 7679), (Arr2Int.mk 8203 8207), (Arr2Int.mk 8400 8447), (Arr2Int.mk 55296 57343), (Arr2Int.mk 65024 65039), (Arr2Int.mk 65056 65071), (Arr2Int.mk 65279 65279), (Arr2Int.mk 917760 917999)].length : Int)), (44, .int .i64 s69), (57, .bool e125)]) (fun h => [Ch.box g121 133 [.int .i64 x118.e0, .int .i64 x118.e1], Ch.arr tyArr2Int 133 (some ⟨g3, 0, none⟩) 14 [(Arr2Int.mk 4352 4447), (Arr2Int.mk 11904 12350), (Arr2Int.mk 12353 13311), (Arr2Int.mk 13312 19903), (Arr2Int.mk 19968 40959), (Arr2Int.mk 40960 42191), (Arr2Int.mk 44032 55203), (Arr2Int.mk 63744 64255), (Arr2Int.mk 65072 65135), (Arr2Int.mk 65280 65376), (Arr2Int.mk 65504 65510), (Arr2Int.mk 127744 128591), (Arr2Int.mk 129280 129535), (Arr2Int.mk 131072 262141)], Ch.arr tyArr2Int 133 (some ⟨g1, 0, none⟩) 11 [(Arr2Int.mk 127 159), (Arr2Int.mk 768 879), (Arr2Int.mk 6832 6911), (Arr2Int.mk 7616 7679), (Arr2Int.mk 8203 8207), (Arr2Int.mk 8400 8447), (Arr2Int.mk 55296 57343), (Arr2Int.mk 65024 65039), (Arr2Int.mk 65056 65071), (Arr2Int.mk 65279 65279), (Arr2Int.mk 917760 917999)]]) (fun h => []) ?_ ?_
          · refine T.region ?_
            refine L.q 2 rfl ?_
            refine L.y (Yl.ldb 0 rfl rfl rfl rfl) rfl rfl rfl ?_
            refine L.q 2 rfl ?_
            refine L.cs 52 H126 rfl (fun hc H128 => ?_) (fun hc H128 => ?_)
            · refine L.q 2 rfl ?_
              refine L.y (Yl.ldb 0 rfl rfl rfl rfl) rfl rfl rfl ?_
              refine L.q 2 rfl ?_
              refine L.nil ?_
              have hr := Option.some.inj H128
              subst e125
              exact E.give ((), ()) [0, 0, 0] [] trivial ⟨rfl, rfl, rfl, rfl, rfl, rfl, trivial⟩ rfl rfl
            · refine L.q 5 rfl ?_
              refine L.nil ?_
              have hr := Option.some.inj H128
              subst e125
              exact E.give ((), ()) [0, 0, 0] [] trivial ⟨rfl, rfl, rfl, rfl, rfl, rfl, trivial⟩ rfl rfl
          · rintro ⟨_, ⟨⟩⟩ _
            refine T.bif rfl H127 (fun hc H129 => ?_) (fun hc H129 => ?_)
            · refine T.seq ?_
              refine T.region ?_
              refine L.q 1 rfl ?_
              refine L.nil ?_
              refine E.then ?_
              refine T.ret ?_
              refine E.block_ret ?_
              refine E.then_ret ?_
              refine E.then_ret ?_
              refine E.block_ret ?_
              obtain ⟨w130, hz, H131⟩ := inrr_some H129
              subst z101
              have hb := hbr103 _ rfl
              subst y97
              have hw : w130 = r := Option.some.inj H99
              subst w130
              refine E.then_ret ?_
              have hr := Option.some.inj H131
              subst r
              exact E.ret () [] [] (.tmp rfl .nil) rfl rfl rfl
            · refine T.skip ?_
              refine E.block ?_
              refine E.then ?_
              refine T.region ?_
              refine L.q 2 rfl ?_
              refine L.nil ?_
              have hr := Option.some.inj H129
              subst z101
              exact E.give (_, ()) [1, 1] [] (hag102 _ rfl) ⟨rfl, rfl, rfl, rfl, rfl, trivial⟩ rfl rfl
        · refine T.exit ?_
          refine E.then_exit' ?_
          refine E.then_exit' ?_
          refine E.block_here ?_
          have hr := Option.some.inj H105
          subst z101
          have hb := hbr103 _ rfl
          subst y97
          exact E.give (_, ()) [0] [] rfl ⟨rfl, rfl, trivial⟩ rfl rfl
      · rintro ⟨e96, ⟨⟩⟩ hy
        subst hy
        refine T.seq ?_
        refine T.seq ?_
        refine T.region ?_
        refine L.q 3 rfl ?_
        refine L.nil ?_
        refine E.then ?_
        obtain ⟨y215, H216, H217⟩ := bnd H99
        refine T.join (η := Unit × Unit) (fun h => y215 = .inl h.1) (fun h => (fun e214 => []) h.1) (fun h => (fun e214 => []) h.1) (fun h => (fun e214 => []) h.1) ?_ ?_
        · refine T.block ?_
          refine T.lp (η := Unit) (fun s187 h => [(0, .int .i64 r_), (59, .slice (some ⟨g3, 0, none⟩) [(Arr2Int.mk 4352 4447), (Arr2Int.mk 11904 12350), (Arr2Int.mk 12353 13311), (Arr2Int.mk 13312 19903), (Arr2Int.mk 19968 40959), (Arr2Int.mk 40960 42191), (Arr2Int.mk 44032 55203), (Arr2Int.mk 63744 64255), (Arr2Int.mk 65072 65135), (Arr2Int.mk 65280 65376), (Arr2Int.mk 65504 65510), (Arr2Int.mk 127744 128591), (Arr2Int.mk 129280 129535), (Arr2Int.mk 131072 262141)].length 14), (60, .int .i64 ([(Arr2Int.mk 4352 4447), (Arr2Int.mk 11904 12350), (Arr2Int.mk 12353 13311), (Arr2Int.mk 13312 19903), (Arr2Int.mk 19968 40959), (Arr2Int.mk 40960 42191), (Arr2Int.mk 44032 55203), (Arr2Int.mk 63744 64255), (Arr2Int.mk 65072 65135), (Arr2Int.mk 65280 65376), (Arr2Int.mk 65504 65510), (Arr2Int.mk 127744 128591), (Arr2Int.mk 129280 129535), (Arr2Int.mk 131072 262141)].length : Int)), (61, .int .i64 s187)]) (fun s187 h => [Ch.arr tyArr2Int 133 (some ⟨g3, 0, none⟩) 14 [(Arr2Int.mk 4352 4447), (Arr2Int.mk 11904 12350), (Arr2Int.mk 12353 13311), (Arr2Int.mk 13312 19903), (Arr2Int.mk 19968 40959), (Arr2Int.mk 40960 42191), (Arr2Int.mk 44032 55203), (Arr2Int.mk 63744 64255), (Arr2Int.mk 65072 65135), (Arr2Int.mk 65280 65376), (Arr2Int.mk 65504 65510), (Arr2Int.mk 127744 128591), (Arr2Int.mk 129280 129535), (Arr2Int.mk 131072 262141)]]) (fun s187 h => []) () [0] [] H216 ⟨rfl, rfl, rfl, rfl, trivial⟩ rfl rfl ?_
          rintro k s187 ⟨⟩ z219 H218 hag220 hbr221
          refine T.seq ?_
          refine T.region ?_
          refine L.q 1 rfl ?_
          refine L.nil ?_
          refine E.then ?_
          refine T.seq ?_
          refine T.bif rfl H218 (fun hc H223 => ?_) (fun hc H223 => ?_)
          · refine T.skip ?_
            refine E.then ?_
            refine T.seq ?_
            refine T.block ?_
            refine T.seq ?_
            refine T.region ?_
            obtain ⟨x236, h237, H238⟩ := bnd H223
            refine L.y (Yl.ia h237 rfl rfl rfl rfl rfl rfl) rfl rfl rfl ?_
            refine L.y (Yl.lo (v := .agg #[.int .i64 x236.e0, .int .i64 x236.e1]) 0 s187.toNat 0 (idx_some h237).2 rfl rfl rfl rfl (fun _ => rfl)) rfl rfl rfl ?_
            refine L.a [] [] (Ac.alloc rfl rfl) rfl rfl rfl rfl rfl ?_
            intro g239
            refine L.a [0] [] (Ac.stb rfl rfl rfl rfl rfl rfl) rfl rfl rfl rfl rfl ?_
            intro _
            refine L.nil ?_
            refine E.then ?_
            refine T.seq ?_
            obtain ⟨e243, H244, H245⟩ := bnd H238
            refine T.join (η := Unit × Unit) (fun h => True) (fun h => [(0, .int .i64 r_), (59, .slice (some ⟨g3, 0, none⟩) [(Arr2Int.mk 4352 4447), (Arr2Int.mk 11904 12350), (Arr2Int.mk 12353 13311), (Arr2Int.mk 13312 19903), (Arr2Int.mk 19968 40959), (Arr2Int.mk 40960 42191), (Arr2Int.mk 44032 55203), (Arr2Int.mk 63744 64255), (Arr2Int.mk 65072 65135), (Arr2Int.mk 65280 65376), (Arr2Int.mk 65504 65510), (Arr2Int.mk 127744 128591), (Arr2Int.mk 129280 129535), (Arr2Int.mk 131072 262141)].length 14), (60, .int .i64 ([(Arr2Int.mk 4352 4447), (Arr2Int.mk 11904 12350), (Arr2Int.mk 12353 13311), (Arr2Int.mk 13312 19903), (Arr2Int.mk 19968 40959), (Arr2Int.mk 40960 42191), (Arr2Int.mk 44032 55203), (Arr2Int.mk 63744 64255), (Arr2Int.mk 65072 65135), (Arr2Int.mk 65280 65376), (Arr2Int.mk 65504 65510), (Arr2Int.mk 127744 128591), (Arr2Int.mk 129280 129535), (Arr2Int.mk 131072 262141)].length : Int)), (61, .int .i64 s187), (74, .bool e243)]) (fun h => [Ch.box g239 133 [.int .i64 x236.e0, .int .i64 x236.e1], Ch.arr tyArr2Int 133 (some ⟨g3, 0, none⟩) 14 [(Arr2Int.mk 4352 4447), (Arr2Int.mk 11904 12350), (Arr2Int.mk 12353 13311), (Arr2Int.mk 13312 19903), (Arr2Int.mk 19968 40959), (Arr2Int.mk 40960 42191), (Arr2Int.mk 44032 55203), (Arr2Int.mk 63744 64255), (Arr2Int.mk 65072 65135), (Arr2Int.mk 65280 65376), (Arr2Int.mk 65504 65510), (Arr2Int.mk 127744 128591), (Arr2Int.mk 129280 129535), (Arr2Int.mk 131072 262141)]]) (fun h => []) ?_ ?_
            · refine T.region ?_
              refine L.q 2 rfl ?_
              refine L.y (Yl.ldb 0 rfl rfl rfl rfl) rfl rfl rfl ?_
              refine L.q 2 rfl ?_
              refine L.cs 69 H244 rfl (fun hc H246 => ?_) (fun hc H246 => ?_)
              · refine L.q 2 rfl ?_
                refine L.y (Yl.ldb 0 rfl rfl rfl rfl) rfl rfl rfl ?_
                refine L.q 2 rfl ?_
                refine L.nil ?_
                have hr := Option.some.inj H246
                subst e243
                exact E.give ((), ()) [0, 0] [] trivial ⟨rfl, rfl, rfl, rfl, rfl, trivial⟩ rfl rfl
              · refine L.q 5 rfl ?_
                refine L.nil ?_
                have hr := Option.some.inj H246
                subst e243
                exact E.give ((), ()) [0, 0] [] trivial ⟨rfl, rfl, rfl, rfl, rfl, trivial⟩ rfl rfl
            · rintro ⟨_, ⟨⟩⟩ _
              refine T.bif rfl H245 (fun hc H247 => ?_) (fun hc H247 => ?_)
              · refine T.seq ?_
                refine T.region ?_
                refine L.q 1 rfl ?_
                refine L.nil ?_
                refine E.then ?_
                refine T.ret ?_
                refine E.block_ret ?_
                refine E.then_ret ?_
                refine E.then_ret ?_
                refine E.block_ret ?_
                obtain ⟨w248, hz, H249⟩ := inrr_some H247
                subst z219
                have hb := hbr221 _ rfl
                subst y215
                have hw : w248 = r := Option.some.inj H217
                subst w248
                refine E.then_ret ?_
                have hr := Option.some.inj H249
                subst r
                exact E.ret () [] [] (.tmp rfl .nil) rfl rfl rfl
              · refine T.skip ?_
                refine E.block ?_
                refine E.then ?_
                refine T.region ?_
                refine L.q 2 rfl ?_
                refine L.nil ?_
                have hr := Option.some.inj H247
                subst z219
                exact E.give (_, ()) [1] [] (hag220 _ rfl) ⟨rfl, rfl, rfl, rfl, trivial⟩ rfl rfl
          · refine T.exit ?_
            refine E.then_exit' ?_
            refine E.then_exit' ?_
            refine E.block_here ?_
            have hr := Option.some.inj H223
            subst z219
            have hb := hbr221 _ rfl
            subst y215
            exact E.give (_, ()) [] [] rfl trivial rfl rfl
        · rintro ⟨e214, ⟨⟩⟩ hy
          subst hy
          refine T.seq ?_
          refine T.region ?_
          refine L.q 1 rfl ?_
          refine L.nil ?_
          refine E.then ?_
          refine T.ret ?_
          have hr := Option.some.inj H217
          subst r
          exact E.ret () [] [] (.tmp rfl .nil) rfl rfl rfl

end Go.Tw.Rw

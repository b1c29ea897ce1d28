import Derived.Test.YtkkapeoinhkncaaDoorWk2
import Derived.Test.YtkkapeoinhkncaaDoorFw2
import Derived.Test.YtkkapeoinhkncaaDoorWk1
set_option maxHeartbeats 2000000
set_option linter.unusedVariables false
set_option linter.unusedSimpArgs false
set_option maxRecDepth 10000
namespace Go.Tw.X
open Go Go.Tw
theorem c_ref16_limited {in_ : Ref01In} {most : Int} {r : Ref01In × Int} (H : p_ref16_limited in_ most = some r) : CT G 86 [.agg #[.string in_.s, .int .i64 in_.e], .int .i64 most] [] [] (fun h : Unit => .tuple #[.agg #[.string r.1.s, .int .i64 r.1.e], .int .i64 r.2]) (fun h => []) (fun h => []) := by
  delta p_ref16_limited at H
  refine CT.of Go.Proofs.Tryd.func86 (by kernel_rfl) rfl rfl rfl fun K => ?_
  refine T.seq ?_
  refine T.region ?_
  refine L.a [] [] (Ac.box rfl rfl) rfl rfl rfl rfl rfl ?_
  intro g1
  refine L.a [] [] (Ac.alloc rfl rfl) rfl rfl rfl rfl rfl ?_
  intro g2
  refine L.q 1 rfl ?_
  refine L.nil ?_
  refine E.then ?_
  refine T.seq ?_
  refine T.region ?_
  refine L.y (Yl.ldb 1 rfl rfl rfl rfl) rfl rfl rfl ?_
  obtain ⟨r3, h4, H5⟩ := bnd H
  refine L.a [] [] (Ac.call (c_ref01_Read h4) rfl rfl rfl rfl) rfl rfl rfl rfl rfl ?_
  rintro ⟨⟩
  refine L.q 3 rfl ?_
  refine L.a [] [] (Ac.alloc rfl rfl) rfl rfl rfl rfl rfl ?_
  intro g6
  refine L.a [0] [] (Ac.stb rfl rfl rfl rfl rfl rfl) rfl rfl rfl rfl rfl ?_
  intro _
  refine L.q 1 rfl ?_
  refine L.nil ?_
  refine E.then ?_
  refine T.seq ?_
  refine T.seq ?_
  obtain ⟨e10, H11, H12⟩ := bnd H5
  refine T.join (η := Unit × Unit) (fun h => True) (fun h => [(4, .pointer (some ⟨g2, 0, none⟩)), (6, .pointer (some ⟨g6, 0, none⟩)), (7, .int .i64 r3.2), (20, .bool e10)]) (fun h => [Ch.box g6 96 [.string r3.1.s, .int .i64 r3.1.e], Ch.box g2 96 [.string (ByteArray.mk #[]), .int .i64 0], Ch.box g1 96 [.string in_.s, .int .i64 in_.e]]) (fun h => []) ?_ ?_
  · refine T.region ?_
    refine L.q 1 rfl ?_
    refine L.y (Yl.ldb 0 rfl rfl rfl rfl) rfl rfl rfl ?_
    refine L.q 2 rfl ?_
    refine L.cs 16 H11 rfl (fun hc H13 => ?_) (fun hc H13 => ?_)
    · refine L.q 4 rfl ?_
      refine L.nil ?_
      have hr := Option.some.inj H13
      subst e10
      exact E.give ((), ()) [0, 0, 0] [] trivial ⟨rfl, rfl, rfl, rfl, trivial⟩ rfl rfl
    · refine L.q 4 rfl ?_
      refine L.nil ?_
      have hr := Option.some.inj H13
      subst e10
      exact E.give ((), ()) [0, 0, 0] [] trivial ⟨rfl, rfl, rfl, rfl, trivial⟩ rfl rfl
  · rintro ⟨_, ⟨⟩⟩ _
    refine T.bif rfl H12 (fun hc H15 => ?_) (fun hc H15 => ?_)
    · refine T.seq ?_
      refine T.region ?_
      refine L.q 1 rfl ?_
      refine L.a [1] [] (Ac.stb rfl rfl rfl rfl rfl rfl) rfl rfl rfl rfl rfl ?_
      intro _
      refine L.q 1 rfl ?_
      refine L.nil ?_
      refine E.then ?_
      refine T.ret ?_
      refine E.then_ret ?_
      have hr := Option.some.inj H15
      subst r
      exact E.ret () [] [] (.cell 0 rfl rfl rfl (.tmp rfl .nil)) rfl rfl rfl
    · refine T.skip ?_
      refine E.then ?_
      refine T.seq ?_
      refine T.region ?_
      refine L.y (Yl.ldb 0 rfl rfl rfl rfl) rfl rfl rfl ?_
      refine L.q 1 rfl ?_
      refine L.a [1] [] (Ac.stb rfl rfl rfl rfl rfl rfl) rfl rfl rfl rfl rfl ?_
      intro _
      refine L.q 1 rfl ?_
      refine L.nil ?_
      refine E.then ?_
      refine T.ret ?_
      have hr := Option.some.inj H15
      subst r
      exact E.ret () [] [] (.cell 0 rfl rfl rfl (.tmp rfl .nil)) rfl rfl rfl

theorem c_ref16_ReadRow {in_ : Ref01In} {w : Int} {r : Ref01In × Ref09Row} (H : p_ref16_ReadRow in_ w = some r) : CT G 51 [.agg #[.string in_.s, .int .i64 in_.e], .int .i64 w] [] [] (fun h : (Option Addr × Nat) => .tuple #[.agg #[.string r.1.s, .int .i64 r.1.e], .agg #[.slice h.1 r.2.l.length h.2, .bool r.2.wrapped]]) (fun h => []) (fun h => [Im.sl tyRef09Cell h.1 h.2 r.2.l]) := by
  delta p_ref16_ReadRow at H
  refine CT.of Go.Proofs.Tryd.func51 (by kernel_rfl) rfl rfl rfl fun K => ?_
  refine T.seq ?_
  refine T.region ?_
  refine L.a [] [] (Ac.box rfl rfl) rfl rfl rfl rfl rfl ?_
  intro g1
  refine L.a [] [] (Ac.alloc rfl rfl) rfl rfl rfl rfl rfl ?_
  intro g2
  refine L.a [] [] (Ac.alloc rfl rfl) rfl rfl rfl rfl rfl ?_
  intro g3
  refine L.nil ?_
  refine E.then ?_
  refine T.seq ?_
  refine T.region ?_
  refine L.q 1 rfl ?_
  refine L.nil ?_
  refine E.then ?_
  refine T.seq ?_
  refine T.region ?_
  refine L.y (Yl.ldb 2 rfl rfl rfl rfl) rfl rfl rfl ?_
  obtain ⟨r4, h5, H6⟩ := bnd H
  refine L.a [] [] (Ac.call (c_ref16_limited h5) rfl rfl rfl rfl) rfl rfl rfl rfl rfl ?_
  rintro ⟨⟩
  refine L.q 3 rfl ?_
  refine L.a [2] [] (Ac.stb rfl rfl rfl rfl rfl rfl) rfl rfl rfl rfl rfl ?_
  intro _
  refine L.q 1 rfl ?_
  refine L.nil ?_
  refine E.then ?_
  refine T.seq ?_
  refine T.region ?_
  refine L.a [] [] (Ac.bs (ty := tyRef09Cell) (xs := []) .nil rfl rfl rfl rfl rfl rfl rfl) rfl rfl rfl rfl rfl ?_
  intro g7
  refine L.q 1 rfl ?_
  refine L.nil ?_
  refine E.then ?_
  refine T.seq ?_
  obtain ⟨e666, H667, H668⟩ := bnd H6
  refine T.join (η := Unit × ((Option Addr × Nat))) (fun h => True) (fun h => (fun a662 c663 => [(2, .pointer (some ⟨g1, 0, none⟩)), (4, .pointer (some ⟨g2, 0, none⟩)), (5, .pointer (some ⟨g3, 0, none⟩)), (6, .int .i64 r4.2), (7, .slice a662 e666.1.length c663)]) h.2.1 h.2.2) (fun h => (fun a662 c663 => [Ch.arr tyRef09Cell 86 a662 c663 e666.1, Ch.box g1 96 [.string e666.2.s, .int .i64 e666.2.e], Ch.box g3 63 [.slice none 0 0, .bool false], Ch.box g2 96 [.string (ByteArray.mk #[]), .int .i64 0]]) h.2.1 h.2.2) (fun h => (fun a662 c663 => []) h.2.1 h.2.2) ?_ ?_
  · refine T.block ?_
    refine T.lp (η := (Option Addr × Nat)) (fun s444 h => (fun a441 c442 => [(1, .int .i64 w), (2, .pointer (some ⟨g1, 0, none⟩)), (4, .pointer (some ⟨g2, 0, none⟩)), (5, .pointer (some ⟨g3, 0, none⟩)), (6, .int .i64 r4.2), (7, .slice a441 s444.2.length c442)]) h.1 h.2) (fun s444 h => (fun a441 c442 => [Ch.arr tyRef09Cell 86 a441 c442 s444.2, Ch.box g1 96 [.string s444.1.s, .int .i64 s444.1.e], Ch.box g3 63 [.slice none 0 0, .bool false], Ch.box g2 96 [.string (ByteArray.mk #[]), .int .i64 0]]) h.1 h.2) (fun s444 h => (fun a441 c442 => []) h.1 h.2) ((some ⟨g7, 0, none⟩), 0) [0, 0, 0, 0] [] H667 ⟨rfl, rfl, rfl, rfl, rfl, rfl, trivial⟩ rfl rfl ?_
    rintro k s444 ⟨a441, c442⟩ z670 H669 hag671 hbr672
    refine T.seq ?_
    refine T.seq ?_
    obtain ⟨e676, H677, H678⟩ := bnd H669
    refine T.join (η := Unit × Unit) (fun h => True) (fun h => [(1, .int .i64 w), (2, .pointer (some ⟨g1, 0, none⟩)), (4, .pointer (some ⟨g2, 0, none⟩)), (5, .pointer (some ⟨g3, 0, none⟩)), (6, .int .i64 r4.2), (7, .slice a441 s444.2.length c442), (25, .bool e676)]) (fun h => [Ch.box g1 96 [.string s444.1.s, .int .i64 s444.1.e], Ch.box g3 63 [.slice none 0 0, .bool false], Ch.box g2 96 [.string (ByteArray.mk #[]), .int .i64 0], Ch.arr tyRef09Cell 86 a441 c442 s444.2]) (fun h => []) ?_ ?_
    · refine T.region ?_
      refine L.q 5 rfl ?_
      refine L.cs 21 H677 rfl (fun hc H679 => ?_) (fun hc H679 => ?_)
      · refine L.q 1 rfl ?_
        refine L.y (Yl.ldb 1 rfl rfl rfl rfl) rfl rfl rfl ?_
        refine L.q 2 rfl ?_
        refine L.nil ?_
        have hr := Option.some.inj H679
        subst e676
        exact E.give ((), ()) [1, 1, 1, 0] [] trivial ⟨rfl, rfl, rfl, rfl, rfl, rfl, rfl, trivial⟩ rfl rfl
      · refine L.q 4 rfl ?_
        refine L.nil ?_
        have hr := Option.some.inj H679
        subst e676
        exact E.give ((), ()) [1, 1, 1, 0] [] trivial ⟨rfl, rfl, rfl, rfl, rfl, rfl, rfl, trivial⟩ rfl rfl
    · rintro ⟨_, ⟨⟩⟩ _
      refine T.bif rfl H678 (fun hc H681 => ?_) (fun hc H681 => ?_)
      · refine T.skip ?_
        refine E.then ?_
        refine T.block ?_
        refine T.seq ?_
        refine T.region ?_
        refine L.q 1 rfl ?_
        refine L.nil ?_
        refine E.then ?_
        refine T.seq ?_
        refine T.region ?_
        refine L.q 1 rfl ?_
        refine L.a [] [] (Ac.alloc rfl rfl) rfl rfl rfl rfl rfl ?_
        intro g682
        refine L.a [0] [] (Ac.stb rfl rfl rfl rfl rfl rfl) rfl rfl rfl rfl rfl ?_
        intro _
        refine L.nil ?_
        refine E.then ?_
        refine T.seq ?_
        refine T.region ?_
        refine L.y (Yl.ldb 1 rfl rfl rfl rfl) rfl rfl rfl ?_
        refine L.q 4 rfl ?_
        obtain ⟨r683, h684, H685⟩ := bnd H681
        refine L.a [] [] (Ac.call (c_ref16_limited h684) rfl rfl rfl rfl) rfl rfl rfl rfl rfl ?_
        rintro ⟨⟩
        refine L.q 3 rfl ?_
        refine L.a [1] [] (Ac.stb rfl rfl rfl rfl rfl rfl) rfl rfl rfl rfl rfl ?_
        intro _
        refine L.q 1 rfl ?_
        refine L.nil ?_
        refine E.then ?_
        refine T.seq ?_
        refine T.seq ?_
        obtain ⟨e689, H690, H691⟩ := bnd H685
        refine T.join (η := Unit × Unit) (fun h => True) (fun h => [(1, .int .i64 w), (2, .pointer (some ⟨g1, 0, none⟩)), (4, .pointer (some ⟨g2, 0, none⟩)), (5, .pointer (some ⟨g3, 0, none⟩)), (6, .int .i64 r4.2), (7, .slice a441 s444.2.length c442), (8, .int .i64 r683.2), (9, .pointer (some ⟨g682, 0, none⟩)), (42, .bool e689)]) (fun h => [Ch.box g1 96 [.string r683.1.s, .int .i64 r683.1.e], Ch.box g682 86 [.int .i64 0, .int .i64 0, .int .i64 0], Ch.box g3 63 [.slice none 0 0, .bool false], Ch.box g2 96 [.string (ByteArray.mk #[]), .int .i64 0], Ch.arr tyRef09Cell 86 a441 c442 s444.2]) (fun h => []) ?_ ?_
        · refine T.region ?_
          refine L.q 1 rfl ?_
          refine L.y (Yl.ldb 0 rfl rfl rfl rfl) rfl rfl rfl ?_
          refine L.q 2 rfl ?_
          refine L.cs 39 H690 rfl (fun hc H692 => ?_) (fun hc H692 => ?_)
          · refine L.q 3 rfl ?_
            refine L.nil ?_
            have hr := Option.some.inj H692
            subst e689
            exact E.give ((), ()) [0, 0, 0, 0, 0] [] trivial ⟨rfl, rfl, rfl, rfl, rfl, rfl, rfl, rfl, rfl, trivial⟩ rfl rfl
          · refine L.q 3 rfl ?_
            refine L.nil ?_
            have hr := Option.some.inj H692
            subst e689
            exact E.give ((), ()) [0, 0, 0, 0, 0] [] trivial ⟨rfl, rfl, rfl, rfl, rfl, rfl, rfl, rfl, rfl, trivial⟩ rfl rfl
        · rintro ⟨_, ⟨⟩⟩ _
          obtain ⟨e696, H697, H698⟩ := bnd H691
          refine T.join (η := Unit × Unit) (fun h => True) (fun h => [(1, .int .i64 w), (2, .pointer (some ⟨g1, 0, none⟩)), (4, .pointer (some ⟨g2, 0, none⟩)), (5, .pointer (some ⟨g3, 0, none⟩)), (6, .int .i64 r4.2), (7, .slice a441 s444.2.length c442), (8, .int .i64 r683.2), (9, .pointer (some ⟨g682, 0, none⟩))]) (fun h => [Ch.box g1 96 [.string e696.s, .int .i64 e696.e], Ch.box g682 86 [.int .i64 0, .int .i64 0, .int .i64 0], Ch.box g3 63 [.slice none 0 0, .bool false], Ch.box g2 96 [.string (ByteArray.mk #[]), .int .i64 0], Ch.arr tyRef09Cell 86 a441 c442 s444.2]) (fun h => []) ?_ ?_
          · refine T.bif rfl H697 (fun hc H699 => ?_) (fun hc H699 => ?_)
            · refine T.region ?_
              refine L.q 1 rfl ?_
              refine L.a [0] [] (Ac.stb rfl rfl rfl rfl rfl rfl) rfl rfl rfl rfl rfl ?_
              intro _
              refine L.nil ?_
              have hr := Option.some.inj H699
              subst e696
              exact E.give ((), ()) [0, 0, 0, 0, 0] [] trivial ⟨rfl, rfl, rfl, rfl, rfl, rfl, rfl, rfl, trivial⟩ rfl rfl
            · refine T.skip ?_
              have hr := Option.some.inj H699
              subst e696
              exact E.give ((), ()) [0, 0, 0, 0, 0] [] trivial ⟨rfl, rfl, rfl, rfl, rfl, rfl, rfl, rfl, trivial⟩ rfl rfl
          · rintro ⟨_, ⟨⟩⟩ _
            refine T.seq ?_
            refine T.region ?_
            refine L.y (Yl.ldb 0 rfl rfl rfl rfl) rfl rfl rfl ?_
            obtain ⟨r700, h701, H702⟩ := bnd H698
            refine L.a [] [] (Ac.call (c_ref16_limited h701) rfl rfl rfl rfl) rfl rfl rfl rfl rfl ?_
            rintro ⟨⟩
            refine L.q 3 rfl ?_
            refine L.a [0] [] (Ac.stb rfl rfl rfl rfl rfl rfl) rfl rfl rfl rfl rfl ?_
            intro _
            refine L.q 1 rfl ?_
            refine L.a [1] [] (Ac.stb rfl rfl rfl rfl rfl rfl) rfl rfl rfl rfl rfl ?_
            intro _
            refine L.nil ?_
            refine E.then ?_
            refine T.seq ?_
            refine T.region ?_
            refine L.y (Yl.ldb 1 rfl rfl rfl rfl) rfl rfl rfl ?_
            obtain ⟨r703, h704, H705⟩ := bnd H702
            refine L.a [] [] (Ac.call (c_ref16_limited h704) rfl rfl rfl rfl) rfl rfl rfl rfl rfl ?_
            rintro ⟨⟩
            refine L.q 3 rfl ?_
            refine L.a [1] [] (Ac.stb rfl rfl rfl rfl rfl rfl) rfl rfl rfl rfl rfl ?_
            intro _
            refine L.q 1 rfl ?_
            refine L.a [1] [] (Ac.stb rfl rfl rfl rfl rfl rfl) rfl rfl rfl rfl rfl ?_
            intro _
            refine L.nil ?_
            refine E.then ?_
            refine T.seq ?_
            refine T.region ?_
            refine L.y (Yl.ldb 1 rfl rfl rfl rfl) rfl rfl rfl ?_
            obtain ⟨r706, h707, H708⟩ := bnd H705
            refine L.a [] [] (Ac.call (c_ref16_limited h707) rfl rfl rfl rfl) rfl rfl rfl rfl rfl ?_
            rintro ⟨⟩
            refine L.q 3 rfl ?_
            refine L.a [1] [] (Ac.stb rfl rfl rfl rfl rfl rfl) rfl rfl rfl rfl rfl ?_
            intro _
            refine L.q 1 rfl ?_
            refine L.a [1] [] (Ac.stb rfl rfl rfl rfl rfl rfl) rfl rfl rfl rfl rfl ?_
            intro _
            refine L.nil ?_
            refine E.then ?_
            refine T.seq ?_
            refine T.seq ?_
            obtain ⟨e738, H739, H740⟩ := bnd H708
            refine T.join (η := Unit × Unit) (fun h => True) (fun h => [(1, .int .i64 w), (2, .pointer (some ⟨g1, 0, none⟩)), (4, .pointer (some ⟨g2, 0, none⟩)), (5, .pointer (some ⟨g3, 0, none⟩)), (6, .int .i64 r4.2), (7, .slice a441 s444.2.length c442), (8, .int .i64 r683.2), (9, .pointer (some ⟨g682, 0, none⟩)), (79, .bool e738)]) (fun h => [Ch.box g682 86 [.int .i64 r700.2, .int .i64 r703.2, .int .i64 r706.2], Ch.box g1 96 [.string r706.1.s, .int .i64 r706.1.e], Ch.box g3 63 [.slice none 0 0, .bool false], Ch.box g2 96 [.string (ByteArray.mk #[]), .int .i64 0], Ch.arr tyRef09Cell 86 a441 c442 s444.2]) (fun h => []) ?_ ?_
            · refine T.draw [] [0, 0, 0, 0, 0] mo (by rfl) rfl ?_
              refine D.q 0 rfl rfl rfl rfl rfl rfl ?_
              refine D.y 1 (Yl.ldb 1 rfl rfl rfl rfl) rfl rfl rfl rfl rfl rfl ?_
              refine D.q 2 rfl rfl rfl rfl rfl rfl ?_
              refine D.q 3 rfl rfl rfl rfl rfl rfl ?_
              refine D.cs 65 H739 rfl (fun hc H748 => ?_) (fun hc H748 => ?_)
              · refine D.q 4 rfl rfl rfl rfl rfl rfl ?_
                refine D.q 5 rfl rfl rfl rfl rfl rfl ?_
                refine D.q 6 rfl rfl rfl rfl rfl rfl ?_
                refine D.q 7 rfl rfl rfl rfl rfl rfl ?_
                refine D.q 8 rfl rfl rfl rfl rfl rfl ?_
                refine D.cs 70 H748 rfl (fun hc H749 => ?_) (fun hc H749 => ?_)
                · refine D.q 9 rfl rfl rfl rfl rfl rfl ?_
                  refine D.q 10 rfl rfl rfl rfl rfl rfl ?_
                  refine D.q 11 rfl rfl rfl rfl rfl rfl ?_
                  refine D.q 12 rfl rfl rfl rfl rfl rfl ?_
                  obtain ⟨x750, h751, H752⟩ := bnd H749
                  refine D.addro 4 rfl (idx_lt h751) fun b753 e754 => ?_
                  obtain rfl : a441 = some ⟨b753, 0, none⟩ := e754
                  refine D.y 13 (Yl.ia h751 rfl rfl rfl rfl rfl rfl) rfl rfl rfl rfl rfl rfl ?_
                  refine D.y 14 (Yl.lo (v := .agg #[.int .i64 x750.rune, .int .i64 x750.style, .int .i64 x750.part]) 4 ((IntKind.i64.wrap ((s444.2.length : Int) - 1)).toNat) 0 (idx_some h751).2 rfl rfl rfl rfl (fun _ => rfl)) rfl rfl rfl rfl rfl rfl ?_
                  refine D.y 15 (Yl.ldb 0 rfl rfl rfl rfl) rfl rfl rfl rfl rfl rfl ?_
                  refine D.q 16 rfl rfl rfl rfl rfl rfl ?_
                  refine D.q 17 rfl rfl rfl rfl rfl rfl ?_
                  refine D.nil rfl rfl ?_
                  have hr := Option.some.inj H752
                  subst e738
                  exact E.give ((), ()) [0, 0, 0, 0, 0] [] trivial ⟨rfl, rfl, rfl, rfl, rfl, rfl, rfl, rfl, rfl, trivial⟩ rfl rfl
                · refine D.sk 9 rfl rfl rfl rfl rfl ?_
                  refine D.sk 10 rfl rfl rfl rfl rfl ?_
                  refine D.sk 11 rfl rfl rfl rfl rfl ?_
                  refine D.sk 12 rfl rfl rfl rfl rfl ?_
                  refine D.sk 13 rfl rfl rfl rfl rfl ?_
                  refine D.sk 14 rfl rfl rfl rfl rfl ?_
                  refine D.sk 15 rfl rfl rfl rfl rfl ?_
                  refine D.sk 16 rfl rfl rfl rfl rfl ?_
                  refine D.q 17 rfl rfl rfl rfl rfl rfl ?_
                  refine D.nil rfl rfl ?_
                  have hr := Option.some.inj H749
                  subst e738
                  exact E.give ((), ()) [0, 0, 0, 0, 0] [] trivial ⟨rfl, rfl, rfl, rfl, rfl, rfl, rfl, rfl, rfl, trivial⟩ rfl rfl
              · refine D.sk 4 rfl rfl rfl rfl rfl ?_
                refine D.sk 5 rfl rfl rfl rfl rfl ?_
                refine D.sk 6 rfl rfl rfl rfl rfl ?_
                refine D.q 7 rfl rfl rfl rfl rfl rfl ?_
                refine D.q 8 rfl rfl rfl rfl rfl rfl ?_
                refine D.sk 9 rfl rfl rfl rfl rfl ?_
                refine D.sk 10 rfl rfl rfl rfl rfl ?_
                refine D.sk 11 rfl rfl rfl rfl rfl ?_
                refine D.sk 12 rfl rfl rfl rfl rfl ?_
                refine D.sk 13 rfl rfl rfl rfl rfl ?_
                refine D.sk 14 rfl rfl rfl rfl rfl ?_
                refine D.sk 15 rfl rfl rfl rfl rfl ?_
                refine D.sk 16 rfl rfl rfl rfl rfl ?_
                refine D.q 17 rfl rfl rfl rfl rfl rfl ?_
                refine D.nil rfl rfl ?_
                have hr := Option.some.inj H748
                subst e738
                exact E.give ((), ()) [0, 0, 0, 0, 0] [] trivial ⟨rfl, rfl, rfl, rfl, rfl, rfl, rfl, rfl, rfl, trivial⟩ rfl rfl
            · rintro ⟨_, ⟨⟩⟩ _
              obtain ⟨e758, H759, H760⟩ := bnd H740
              refine T.join (η := Unit × Unit) (fun h => True) (fun h => [(1, .int .i64 w), (2, .pointer (some ⟨g1, 0, none⟩)), (4, .pointer (some ⟨g2, 0, none⟩)), (5, .pointer (some ⟨g3, 0, none⟩)), (6, .int .i64 r4.2), (7, .slice a441 s444.2.length c442), (8, .int .i64 r683.2), (9, .pointer (some ⟨g682, 0, none⟩))]) (fun h => [Ch.box g682 86 [.int .i64 r700.2, .int .i64 r703.2, .int .i64 r706.2], Ch.box g1 96 [.string e758.s, .int .i64 e758.e], Ch.box g3 63 [.slice none 0 0, .bool false], Ch.box g2 96 [.string (ByteArray.mk #[]), .int .i64 0], Ch.arr tyRef09Cell 86 a441 c442 s444.2]) (fun h => []) ?_ ?_
              · refine T.bif rfl H759 (fun hc H761 => ?_) (fun hc H761 => ?_)
                · refine T.region ?_
                  refine L.q 1 rfl ?_
                  refine L.a [1] [] (Ac.stb rfl rfl rfl rfl rfl rfl) rfl rfl rfl rfl rfl ?_
                  intro _
                  refine L.nil ?_
                  have hr := Option.some.inj H761
                  subst e758
                  exact E.give ((), ()) [1, 0, 0, 0, 0] [] trivial ⟨rfl, rfl, rfl, rfl, rfl, rfl, rfl, rfl, trivial⟩ rfl rfl
                · refine T.skip ?_
                  have hr := Option.some.inj H761
                  subst e758
                  exact E.give ((), ()) [0, 0, 0, 0, 0] [] trivial ⟨rfl, rfl, rfl, rfl, rfl, rfl, rfl, rfl, trivial⟩ rfl rfl
              · rintro ⟨_, ⟨⟩⟩ _
                refine T.seq ?_
                refine T.region ?_
                refine L.q 1 rfl ?_
                refine L.nil ?_
                refine E.then ?_
                obtain ⟨e857, H858, H859⟩ := bnd H760
                refine T.joinE (η := Unit × ((Option Addr × Nat))) (fun h => True) (fun h => (fun a854 c855 => [(1, .int .i64 w), (2, .pointer (some ⟨g1, 0, none⟩)), (4, .pointer (some ⟨g2, 0, none⟩)), (5, .pointer (some ⟨g3, 0, none⟩)), (6, .int .i64 r4.2), (7, .slice a854 e857.length c855)]) h.2.1 h.2.2) (fun h => (fun a854 c855 => [Ch.arr tyRef09Cell 86 a854 c855 e857, Ch.box g682 86 [.int .i64 r700.2, .int .i64 r703.2, .int .i64 r706.2], Ch.box g1 96 [.string e758.s, .int .i64 e758.e], Ch.box g3 63 [.slice none 0 0, .bool false], Ch.box g2 96 [.string (ByteArray.mk #[]), .int .i64 0]]) h.2.1 h.2.2) (fun h => (fun a854 c855 => []) h.2.1 h.2.2) ?_ ?_
                · refine T.block ?_
                  refine T.lp (η := (Option Addr × Nat)) (fun s827 h => (fun a824 c825 => [(1, .int .i64 w), (2, .pointer (some ⟨g1, 0, none⟩)), (4, .pointer (some ⟨g2, 0, none⟩)), (5, .pointer (some ⟨g3, 0, none⟩)), (6, .int .i64 r4.2), (7, .slice a824 s827.2.length c825), (8, .int .i64 r683.2), (9, .pointer (some ⟨g682, 0, none⟩)), (10, .int .i64 s827.1)]) h.1 h.2) (fun s827 h => (fun a824 c825 => [Ch.arr tyRef09Cell 86 a824 c825 s827.2, Ch.box g682 86 [.int .i64 r700.2, .int .i64 r703.2, .int .i64 r706.2], Ch.box g1 96 [.string e758.s, .int .i64 e758.e], Ch.box g3 63 [.slice none 0 0, .bool false], Ch.box g2 96 [.string (ByteArray.mk #[]), .int .i64 0]]) h.1 h.2) (fun s827 h => (fun a824 c825 => []) h.1 h.2) (a441, c442) [4, 0, 0, 0, 0] [] H858 ⟨rfl, rfl, rfl, rfl, rfl, rfl, rfl, rfl, rfl, trivial⟩ rfl rfl ?_
                  rintro k s827 ⟨a824, c825⟩ z861 H860 hag862 hbr863
                  refine T.seq ?_
                  refine T.seq ?_
                  obtain ⟨e867, H868, H869⟩ := bnd H860
                  refine T.join (η := Unit × Unit) (fun h => True) (fun h => [(1, .int .i64 w), (2, .pointer (some ⟨g1, 0, none⟩)), (4, .pointer (some ⟨g2, 0, none⟩)), (5, .pointer (some ⟨g3, 0, none⟩)), (6, .int .i64 r4.2), (7, .slice a824 s827.2.length c825), (8, .int .i64 r683.2), (9, .pointer (some ⟨g682, 0, none⟩)), (10, .int .i64 s827.1), (88, .bool e867)]) (fun h => [Ch.box g682 86 [.int .i64 r700.2, .int .i64 r703.2, .int .i64 r706.2], Ch.box g1 96 [.string e758.s, .int .i64 e758.e], Ch.box g3 63 [.slice none 0 0, .bool false], Ch.box g2 96 [.string (ByteArray.mk #[]), .int .i64 0], Ch.arr tyRef09Cell 86 a824 c825 s827.2]) (fun h => []) ?_ ?_
                  · refine T.region ?_
                    refine L.q 4 rfl ?_
                    refine L.cs 84 H868 rfl (fun hc H870 => ?_) (fun hc H870 => ?_)
                    · refine L.q 1 rfl ?_
                      refine L.y (Yl.ldb 2 rfl rfl rfl rfl) rfl rfl rfl ?_
                      refine L.q 2 rfl ?_
                      refine L.nil ?_
                      have hr := Option.some.inj H870
                      subst e867
                      exact E.give ((), ()) [1, 1, 1, 1, 0] [] trivial ⟨rfl, rfl, rfl, rfl, rfl, rfl, rfl, rfl, rfl, rfl, trivial⟩ rfl rfl
                    · refine L.q 4 rfl ?_
                      refine L.nil ?_
                      have hr := Option.some.inj H870
                      subst e867
                      exact E.give ((), ()) [1, 1, 1, 1, 0] [] trivial ⟨rfl, rfl, rfl, rfl, rfl, rfl, rfl, rfl, rfl, rfl, trivial⟩ rfl rfl
                  · rintro ⟨_, ⟨⟩⟩ _
                    refine T.bif rfl H869 (fun hc H872 => ?_) (fun hc H872 => ?_)
                    · refine T.skip ?_
                      refine E.then ?_
                      refine T.seq ?_
                      refine T.block ?_
                      refine T.region ?_
                      refine L.q 1 rfl ?_
                      refine L.y (Yl.ldb 0 rfl rfl rfl rfl) rfl rfl rfl ?_
                      refine L.a [] [] (Ac.bs (ty := tyRef09Cell) (xs := [(Ref09Cell.mk r700.2 r703.2 r706.2)]) (.cons () [] rfl .nil) rfl rfl rfl rfl rfl rfl rfl) rfl rfl rfl rfl rfl ?_
                      intro g881
                      refine L.frz 0 rfl ?_
                      obtain ⟨_, h884, H885⟩ := bnd H872
                      refine L.a [4] [0] (Ac.ap (ty := tyRef09Cell) h884 rfl rfl rfl rfl rfl rfl rfl) rfl rfl rfl rfl rfl ?_
                      rintro ⟨a886, c887⟩
                      refine L.q 1 rfl ?_
                      refine L.nil ?_
                      refine E.block ?_
                      refine E.then ?_
                      refine T.region ?_
                      refine L.q 3 rfl ?_
                      refine L.nil ?_
                      have hr := Option.some.inj H885
                      subst z861
                      exact E.give (_, (a886, c887)) [0, 0, 0, 0, 0] [] (hag862 _ rfl) ⟨rfl, rfl, rfl, rfl, rfl, rfl, rfl, rfl, rfl, trivial⟩ rfl rfl
                    · refine T.exit ?_
                      refine E.then_exit' ?_
                      refine E.then_exit' ?_
                      refine E.block_here ?_
                      have hr := Option.some.inj H872
                      subst z861
                      have hb := hbr863 _ rfl
                      subst e857
                      exact E.give ((), (a824, c825)) [4, 0, 0, 0, 0] [] trivial ⟨rfl, rfl, rfl, rfl, rfl, rfl, trivial⟩ rfl rfl
                · rintro ⟨_, ⟨a854, c855⟩⟩ _
                  refine E.block ?_
                  have hr := Option.some.inj H859
                  subst z670
                  exact E.give (_, (a854, c855)) [0, 1, 1, 1] [] (hag671 _ rfl) ⟨rfl, rfl, rfl, rfl, rfl, rfl, trivial⟩ rfl rfl
      · refine T.exit ?_
        refine E.then_exit' ?_
        refine E.then_exit' ?_
        refine E.block_here ?_
        have hr := Option.some.inj H681
        subst z670
        have hb := hbr672 _ rfl
        subst e666
        exact E.give ((), (a441, c442)) [3, 0, 0, 0] [] trivial ⟨rfl, rfl, rfl, rfl, rfl, trivial⟩ rfl rfl
  · rintro ⟨_, ⟨a662, c663⟩⟩ _
    refine T.seq ?_
    refine T.seq ?_
    refine T.region ?_
    refine L.q 1 rfl ?_
    refine L.y (Yl.ldb 1 rfl rfl rfl rfl) rfl rfl rfl ?_
    refine L.q 1 rfl ?_
    refine L.nil ?_
    refine E.then ?_
    refine T.bif rfl H668 (fun hc H890 => ?_) (fun hc H890 => ?_)
    · refine T.seq ?_
      refine T.region ?_
      refine L.y (Yl.ldb 1 rfl rfl rfl rfl) rfl rfl rfl ?_
      refine L.q 1 rfl ?_
      refine L.a [3] [] (Ac.stb rfl rfl rfl rfl rfl rfl) rfl rfl rfl rfl rfl ?_
      intro _
      refine L.a [3] [] (Ac.stb rfl rfl rfl rfl rfl rfl) rfl rfl rfl rfl rfl ?_
      intro _
      refine L.nil ?_
      refine E.then ?_
      refine T.ret ?_
      refine E.then_ret ?_
      refine E.know [Im.sl tyRef09Cell none 0 []] (fun A w _ _ f hf => by rw [List.mem_singleton.1 hf]; exact Im.sl_nil A w) ?_
      have hr := Option.some.inj H890
      subst r
      exact E.ret (none, 0) [] [0] (.cell 1 rfl rfl rfl (.cell 0 rfl rfl rfl .nil)) rfl rfl rfl
    · refine T.skip ?_
      refine E.then ?_
      refine T.seq ?_
      refine T.region ?_
      refine L.y (Yl.ldb 1 rfl rfl rfl rfl) rfl rfl rfl ?_
      refine L.q 4 rfl ?_
      refine L.a [3] [] (Ac.stb rfl rfl rfl rfl rfl rfl) rfl rfl rfl rfl rfl ?_
      intro _
      refine L.a [3] [] (Ac.stb rfl rfl rfl rfl rfl rfl) rfl rfl rfl rfl rfl ?_
      intro _
      refine L.nil ?_
      refine E.then ?_
      refine T.ret ?_
      refine E.frz 2 rfl ?_
      have hr := Option.some.inj H890
      subst r
      exact E.ret (a662, c663) [] [0] (.cell 1 rfl rfl rfl (.cell 0 rfl rfl rfl .nil)) rfl rfl rfl

theorem c_ref17_Apply {a : Ref16Snap} {s_ : ByteArray} (a_0_0 : Option Addr) (c_0_0 : Nat) (a_0_1 : Option Addr) (c_0_1 : Nat) {r : Ref16Snap × Int} (H : p_ref17_Apply a s_ = some r) : CT G 20 [.agg #[.int .i64 a.k, .int .i64 a.w, .int .i64 a.h, .int .i64 a.x, .int .i64 a.y, .string a.title, .slice a_0_0 a.rows.length c_0_0, .int .i64 a.len, .int .i64 a.chain, .slice a_0_1 a.begun.length c_0_1], .string s_] [] [Im.sl tyRef09Row a_0_0 c_0_0 a.rows, Im.sl tyRef09Glyph a_0_1 c_0_1 a.begun] (fun h : (Option Addr × Nat) × (Option Addr × Nat) => .tuple #[.agg #[.int .i64 r.1.k, .int .i64 r.1.w, .int .i64 r.1.h, .int .i64 r.1.x, .int .i64 r.1.y, .string r.1.title, .slice h.1.1 r.1.rows.length h.1.2, .int .i64 r.1.len, .int .i64 r.1.chain, .slice h.2.1 r.1.begun.length h.2.2], .int .i64 r.2]) (fun h => []) (fun h => [Im.sl tyRef09Row h.1.1 h.1.2 r.1.rows, Im.sl tyRef09Glyph h.2.1 h.2.2 r.1.begun]) := by
  delta p_ref17_Apply at H
  refine CT.of Go.Proofs.Tryd.func20 (by kernel_rfl) rfl rfl rfl fun K => ?_
  refine T.seq ?_
  refine T.region ?_
  refine L.a [] [] (Ac.box rfl rfl) rfl rfl rfl rfl rfl ?_
  intro g1
  refine L.a [] [] (Ac.alloc rfl rfl) rfl rfl rfl rfl rfl ?_
  intro g2
  refine L.q 1 rfl ?_
  refine L.nil ?_
  refine E.then ?_
  refine T.seq ?_
  refine T.region ?_
  refine L.q 1 rfl ?_
  refine L.a [] [] (Ac.alloc rfl rfl) rfl rfl rfl rfl rfl ?_
  intro g3
  refine L.a [0] [] (Ac.stb rfl rfl rfl rfl rfl rfl) rfl rfl rfl rfl rfl ?_
  intro _
  refine L.nil ?_
  refine E.then ?_
  refine T.seq ?_
  refine T.seq ?_
  refine T.region ?_
  refine L.y (Yl.ldb 2 rfl rfl rfl rfl) rfl rfl rfl ?_
  obtain ⟨r4, h5, H6⟩ := bnd H
  refine L.a [] [0, 1] (Ac.call (c_ref16_May a_0_0 c_0_0 a_0_1 c_0_1 h5) rfl rfl rfl rfl) rfl rfl rfl rfl rfl ?_
  rintro ⟨⟩
  refine L.q 1 rfl ?_
  refine L.nil ?_
  refine E.then ?_
  refine T.bif rfl H6 (fun hc H8 => ?_) (fun hc H8 => ?_)
  · refine T.seq ?_
    refine T.region ?_
    refine L.y (Yl.ldb 0 rfl rfl rfl rfl) rfl rfl rfl ?_
    refine L.a [1] [] (Ac.stb rfl rfl rfl rfl rfl rfl) rfl rfl rfl rfl rfl ?_
    intro _
    refine L.q 1 rfl ?_
    refine L.nil ?_
    refine E.then ?_
    refine T.ret ?_
    refine E.then_ret ?_
    refine E.know [Im.sl tyRef09Row none 0 []] (fun A w _ _ f hf => by rw [List.mem_singleton.1 hf]; exact Im.sl_nil A w) ?_
    refine E.know [Im.sl tyRef09Glyph none 0 []] (fun A w _ _ f hf => by rw [List.mem_singleton.1 hf]; exact Im.sl_nil A w) ?_
    have hr := Option.some.inj H8
    subst r
    exact E.ret ((none, 0), (none, 0)) [] [1, 0] (.cell 0 rfl rfl rfl (.tmp rfl .nil)) rfl rfl rfl
  · refine T.skip ?_
    refine E.then ?_
    refine T.seq ?_
    refine T.region ?_
    refine L.q 2 rfl ?_
    refine L.a [] [] (Ac.alloc rfl rfl) rfl rfl rfl rfl rfl ?_
    intro g11
    refine L.a [0] [] (Ac.stb rfl rfl rfl rfl rfl rfl) rfl rfl rfl rfl rfl ?_
    intro _
    refine L.nil ?_
    refine E.then ?_
    refine T.seq ?_
    refine T.region ?_
    refine L.q 1 rfl ?_
    refine L.nil ?_
    refine E.then ?_
    refine T.seq ?_
    refine T.region ?_
    refine L.q 1 rfl ?_
    refine L.nil ?_
    refine E.then ?_
    refine T.seq ?_
    refine T.region ?_
    refine L.y (Yl.ldb 1 rfl rfl rfl rfl) rfl rfl rfl ?_
    refine L.a [] [] (Ac.alloc rfl rfl) rfl rfl rfl rfl rfl ?_
    intro g12
    refine L.a [0] [] (Ac.stb rfl rfl rfl rfl rfl rfl) rfl rfl rfl rfl rfl ?_
    intro _
    refine L.nil ?_
    refine E.then ?_
    refine T.seq ?_
    refine T.region ?_
    refine L.y (Yl.ldb 1 rfl rfl rfl rfl) rfl rfl rfl ?_
    obtain ⟨r13, h14, H15⟩ := bnd H8
    refine L.a [] [] (Ac.call (c_ref01_Read h14) rfl rfl rfl rfl) rfl rfl rfl rfl rfl ?_
    rintro ⟨⟩
    refine L.q 3 rfl ?_
    refine L.a [1] [] (Ac.stb rfl rfl rfl rfl rfl rfl) rfl rfl rfl rfl rfl ?_
    intro _
    refine L.q 1 rfl ?_
    refine L.nil ?_
    refine E.then ?_
    refine T.seq ?_
    refine T.region ?_
    refine L.y (Yl.ldb 0 rfl rfl rfl rfl) rfl rfl rfl ?_
    obtain ⟨r16, h17, H18⟩ := bnd H15
    refine L.a [] [] (Ac.call (c_ref01_Read h17) rfl rfl rfl rfl) rfl rfl rfl rfl rfl ?_
    rintro ⟨⟩
    refine L.q 3 rfl ?_
    refine L.a [0] [] (Ac.stb rfl rfl rfl rfl rfl rfl) rfl rfl rfl rfl rfl ?_
    intro _
    refine L.q 1 rfl ?_
    refine L.a [1] [] (Ac.stb rfl rfl rfl rfl rfl rfl) rfl rfl rfl rfl rfl ?_
    intro _
    refine L.nil ?_
    refine E.then ?_
    refine T.seq ?_
    refine T.region ?_
    refine L.y (Yl.ldb 1 rfl rfl rfl rfl) rfl rfl rfl ?_
    obtain ⟨r19, h20, H21⟩ := bnd H18
    refine L.a [] [] (Ac.call (c_ref01_Read h20) rfl rfl rfl rfl) rfl rfl rfl rfl rfl ?_
    rintro ⟨⟩
    refine L.q 3 rfl ?_
    refine L.a [1] [] (Ac.stb rfl rfl rfl rfl rfl rfl) rfl rfl rfl rfl rfl ?_
    intro _
    refine L.q 1 rfl ?_
    refine L.a [1] [] (Ac.stb rfl rfl rfl rfl rfl rfl) rfl rfl rfl rfl rfl ?_
    intro _
    refine L.nil ?_
    refine E.then ?_
    refine T.seq ?_
    refine T.seq ?_
    obtain ⟨e25, H26, H27⟩ := bnd H21
    refine T.join (η := Unit × Unit) (fun h => True) (fun h => [(2, .pointer (some ⟨g1, 0, none⟩)), (4, .pointer (some ⟨g2, 0, none⟩)), (6, .pointer (some ⟨g3, 0, none⟩)), (7, .pointer (some ⟨g11, 0, none⟩)), (8, .int .i64 r13.2), (10, .pointer (some ⟨g12, 0, none⟩)), (50, .bool e25)]) (fun h => [Ch.box g12 32 [.int .i64 r16.2, .int .i64 r19.2, .int .i64 0, .int .i64 0, .int .i64 0, .string (ByteArray.mk #[]), .slice none 0 0, .int .i64 0, .int .i64 0, .slice none 0 0], Ch.box g11 96 [.string r19.1.s, .int .i64 r19.1.e], Ch.box g3 32 [.int .i64 0, .int .i64 0, .int .i64 0, .int .i64 0, .int .i64 0, .string (ByteArray.mk #[]), .slice none 0 0, .int .i64 0, .int .i64 0, .slice none 0 0], Ch.box g2 32 [.int .i64 0, .int .i64 0, .int .i64 0, .int .i64 0, .int .i64 0, .string (ByteArray.mk #[]), .slice none 0 0, .int .i64 0, .int .i64 0, .slice none 0 0], Ch.box g1 32 [.int .i64 a.k, .int .i64 a.w, .int .i64 a.h, .int .i64 a.x, .int .i64 a.y, .string a.title, .slice a_0_0 a.rows.length c_0_0, .int .i64 a.len, .int .i64 a.chain, .slice a_0_1 a.begun.length c_0_1]]) (fun h => [Im.sl tyRef09Row a_0_0 c_0_0 a.rows, Im.sl tyRef09Glyph a_0_1 c_0_1 a.begun]) ?_ ?_
    · refine T.region ?_
      refine L.q 1 rfl ?_
      refine L.y (Yl.ldb 1 rfl rfl rfl rfl) rfl rfl rfl ?_
      refine L.q 2 rfl ?_
      refine L.cs 46 H26 rfl (fun hc H28 => ?_) (fun hc H28 => ?_)
      · refine L.q 1 rfl ?_
        refine L.y (Yl.ldb 0 rfl rfl rfl rfl) rfl rfl rfl ?_
        refine L.q 2 rfl ?_
        refine L.nil ?_
        have hr := Option.some.inj H28
        subst e25
        exact E.give ((), ()) [0, 0, 0, 0, 0] [0, 1] trivial ⟨rfl, rfl, rfl, rfl, rfl, rfl, rfl, trivial⟩ rfl rfl
      · refine L.q 4 rfl ?_
        refine L.nil ?_
        have hr := Option.some.inj H28
        subst e25
        exact E.give ((), ()) [0, 0, 0, 0, 0] [0, 1] trivial ⟨rfl, rfl, rfl, rfl, rfl, rfl, rfl, trivial⟩ rfl rfl
    · rintro ⟨_, ⟨⟩⟩ _
      refine T.bif rfl H27 (fun hc H30 => ?_) (fun hc H30 => ?_)
      · refine T.seq ?_
        refine T.region ?_
        refine L.y (Yl.ldb 2 rfl rfl rfl rfl) rfl rfl rfl ?_
        refine L.a [3] [] (Ac.stb rfl rfl rfl rfl rfl rfl) rfl rfl rfl rfl rfl ?_
        intro _
        refine L.q 1 rfl ?_
        refine L.nil ?_
        refine E.then ?_
        refine T.ret ?_
        refine E.then_ret ?_
        refine E.know [Im.sl tyRef09Row none 0 []] (fun A w _ _ f hf => by rw [List.mem_singleton.1 hf]; exact Im.sl_nil A w) ?_
        refine E.know [Im.sl tyRef09Glyph none 0 []] (fun A w _ _ f hf => by rw [List.mem_singleton.1 hf]; exact Im.sl_nil A w) ?_
        have hr := Option.some.inj H30
        subst r
        exact E.ret ((none, 0), (none, 0)) [] [1, 0] (.cell 0 rfl rfl rfl (.tmp rfl .nil)) rfl rfl rfl
      · refine T.skip ?_
        refine E.then ?_
        refine T.seq ?_
        refine T.region ?_
        refine L.y (Yl.ldb 1 rfl rfl rfl rfl) rfl rfl rfl ?_
        obtain ⟨r33, h34, H35⟩ := bnd H30
        refine L.a [] [] (Ac.call (c_ref01_Read h34) rfl rfl rfl rfl) rfl rfl rfl rfl rfl ?_
        rintro ⟨⟩
        refine L.q 3 rfl ?_
        refine L.a [1] [] (Ac.stb rfl rfl rfl rfl rfl rfl) rfl rfl rfl rfl rfl ?_
        intro _
        refine L.q 1 rfl ?_
        refine L.a [1] [] (Ac.stb rfl rfl rfl rfl rfl rfl) rfl rfl rfl rfl rfl ?_
        intro _
        refine L.nil ?_
        refine E.then ?_
        refine T.seq ?_
        refine T.seq ?_
        obtain ⟨e39, H40, H41⟩ := bnd H35
        refine T.join (η := Unit × Unit) (fun h => True) (fun h => [(2, .pointer (some ⟨g1, 0, none⟩)), (4, .pointer (some ⟨g2, 0, none⟩)), (6, .pointer (some ⟨g3, 0, none⟩)), (7, .pointer (some ⟨g11, 0, none⟩)), (8, .int .i64 r13.2), (10, .pointer (some ⟨g12, 0, none⟩)), (65, .bool e39)]) (fun h => [Ch.box g12 32 [.int .i64 r16.2, .int .i64 r19.2, .int .i64 r33.2, .int .i64 0, .int .i64 0, .string (ByteArray.mk #[]), .slice none 0 0, .int .i64 0, .int .i64 0, .slice none 0 0], Ch.box g11 96 [.string r33.1.s, .int .i64 r33.1.e], Ch.box g3 32 [.int .i64 0, .int .i64 0, .int .i64 0, .int .i64 0, .int .i64 0, .string (ByteArray.mk #[]), .slice none 0 0, .int .i64 0, .int .i64 0, .slice none 0 0], Ch.box g2 32 [.int .i64 0, .int .i64 0, .int .i64 0, .int .i64 0, .int .i64 0, .string (ByteArray.mk #[]), .slice none 0 0, .int .i64 0, .int .i64 0, .slice none 0 0], Ch.box g1 32 [.int .i64 a.k, .int .i64 a.w, .int .i64 a.h, .int .i64 a.x, .int .i64 a.y, .string a.title, .slice a_0_0 a.rows.length c_0_0, .int .i64 a.len, .int .i64 a.chain, .slice a_0_1 a.begun.length c_0_1]]) (fun h => [Im.sl tyRef09Row a_0_0 c_0_0 a.rows, Im.sl tyRef09Glyph a_0_1 c_0_1 a.begun]) ?_ ?_
        · refine T.region ?_
          refine L.q 1 rfl ?_
          refine L.y (Yl.ldb 1 rfl rfl rfl rfl) rfl rfl rfl ?_
          refine L.q 2 rfl ?_
          refine L.cs 61 H40 rfl (fun hc H42 => ?_) (fun hc H42 => ?_)
          · refine L.q 1 rfl ?_
            refine L.y (Yl.ldb 0 rfl rfl rfl rfl) rfl rfl rfl ?_
            refine L.q 2 rfl ?_
            refine L.nil ?_
            have hr := Option.some.inj H42
            subst e39
            exact E.give ((), ()) [0, 0, 0, 0, 0] [0, 1] trivial ⟨rfl, rfl, rfl, rfl, rfl, rfl, rfl, trivial⟩ rfl rfl
          · refine L.q 4 rfl ?_
            refine L.nil ?_
            have hr := Option.some.inj H42
            subst e39
            exact E.give ((), ()) [0, 0, 0, 0, 0] [0, 1] trivial ⟨rfl, rfl, rfl, rfl, rfl, rfl, rfl, trivial⟩ rfl rfl
        · rintro ⟨_, ⟨⟩⟩ _
          refine T.bif rfl H41 (fun hc H44 => ?_) (fun hc H44 => ?_)
          · refine T.seq ?_
            refine T.region ?_
            refine L.y (Yl.ldb 2 rfl rfl rfl rfl) rfl rfl rfl ?_
            refine L.a [3] [] (Ac.stb rfl rfl rfl rfl rfl rfl) rfl rfl rfl rfl rfl ?_
            intro _
            refine L.q 1 rfl ?_
            refine L.nil ?_
            refine E.then ?_
            refine T.ret ?_
            refine E.then_ret ?_
            refine E.know [Im.sl tyRef09Row none 0 []] (fun A w _ _ f hf => by rw [List.mem_singleton.1 hf]; exact Im.sl_nil A w) ?_
            refine E.know [Im.sl tyRef09Glyph none 0 []] (fun A w _ _ f hf => by rw [List.mem_singleton.1 hf]; exact Im.sl_nil A w) ?_
            have hr := Option.some.inj H44
            subst r
            exact E.ret ((none, 0), (none, 0)) [] [1, 0] (.cell 0 rfl rfl rfl (.tmp rfl .nil)) rfl rfl rfl
          · refine T.skip ?_
            refine E.then ?_
            refine T.seq ?_
            refine T.region ?_
            refine L.y (Yl.ldb 1 rfl rfl rfl rfl) rfl rfl rfl ?_
            obtain ⟨r47, h48, H49⟩ := bnd H44
            refine L.a [] [] (Ac.call (c_ref01_Read h48) rfl rfl rfl rfl) rfl rfl rfl rfl rfl ?_
            rintro ⟨⟩
            refine L.q 3 rfl ?_
            refine L.a [1] [] (Ac.stb rfl rfl rfl rfl rfl rfl) rfl rfl rfl rfl rfl ?_
            intro _
            refine L.q 1 rfl ?_
            refine L.a [1] [] (Ac.stb rfl rfl rfl rfl rfl rfl) rfl rfl rfl rfl rfl ?_
            intro _
            refine L.nil ?_
            refine E.then ?_
            refine T.seq ?_
            refine T.region ?_
            refine L.y (Yl.ldb 1 rfl rfl rfl rfl) rfl rfl rfl ?_
            obtain ⟨r50, h51, H52⟩ := bnd H49
            refine L.a [] [] (Ac.call (c_ref01_Read h51) rfl rfl rfl rfl) rfl rfl rfl rfl rfl ?_
            rintro ⟨⟩
            refine L.q 3 rfl ?_
            refine L.a [1] [] (Ac.stb rfl rfl rfl rfl rfl rfl) rfl rfl rfl rfl rfl ?_
            intro _
            refine L.q 1 rfl ?_
            refine L.a [1] [] (Ac.stb rfl rfl rfl rfl rfl rfl) rfl rfl rfl rfl rfl ?_
            intro _
            refine L.nil ?_
            refine E.then ?_
            refine T.seq ?_
            refine T.region ?_
            refine L.y (Yl.ldb 1 rfl rfl rfl rfl) rfl rfl rfl ?_
            obtain ⟨r53, h54, H55⟩ := bnd H52
            refine L.a [] [] (Ac.call (c_ref01_ReadText h54) rfl rfl rfl rfl) rfl rfl rfl rfl rfl ?_
            rintro ⟨⟩
            refine L.q 3 rfl ?_
            refine L.a [1] [] (Ac.stb rfl rfl rfl rfl rfl rfl) rfl rfl rfl rfl rfl ?_
            intro _
            refine L.q 1 rfl ?_
            refine L.a [1] [] (Ac.stb rfl rfl rfl rfl rfl rfl) rfl rfl rfl rfl rfl ?_
            intro _
            refine L.nil ?_
            refine E.then ?_
            refine T.seq ?_
            refine T.region ?_
            refine L.y (Yl.ldb 1 rfl rfl rfl rfl) rfl rfl rfl ?_
            obtain ⟨r56, h57, H58⟩ := bnd H55
            refine L.a [] [] (Ac.call (c_ref01_Read h57) rfl rfl rfl rfl) rfl rfl rfl rfl rfl ?_
            rintro ⟨⟩
            refine L.q 3 rfl ?_
            refine L.a [1] [] (Ac.stb rfl rfl rfl rfl rfl rfl) rfl rfl rfl rfl rfl ?_
            intro _
            refine L.q 1 rfl ?_
            refine L.a [1] [] (Ac.stb rfl rfl rfl rfl rfl rfl) rfl rfl rfl rfl rfl ?_
            intro _
            refine L.nil ?_
            refine E.then ?_
            refine T.seq ?_
            refine T.region ?_
            refine L.y (Yl.ldb 1 rfl rfl rfl rfl) rfl rfl rfl ?_
            obtain ⟨r59, h60, H61⟩ := bnd H58
            refine L.a [] [] (Ac.call (c_ref01_Read h60) rfl rfl rfl rfl) rfl rfl rfl rfl rfl ?_
            rintro ⟨⟩
            refine L.q 3 rfl ?_
            refine L.a [1] [] (Ac.stb rfl rfl rfl rfl rfl rfl) rfl rfl rfl rfl rfl ?_
            intro _
            refine L.q 1 rfl ?_
            refine L.a [1] [] (Ac.stb rfl rfl rfl rfl rfl rfl) rfl rfl rfl rfl rfl ?_
            intro _
            refine L.nil ?_
            refine E.then ?_
            refine T.seq ?_
            refine T.seq ?_
            refine T.region ?_
            refine L.q 1 rfl ?_
            refine L.y (Yl.ldb 1 rfl rfl rfl rfl) rfl rfl rfl ?_
            refine L.q 1 rfl ?_
            refine L.nil ?_
            refine E.then ?_
            obtain ⟨e84, H85, H86⟩ := bnd H61
            refine T.join (η := Unit × ((Option Addr × Nat) × (Option Addr × Nat))) (fun h => True) (fun h => (fun a77 c78 a80 c81 => [(2, .pointer (some ⟨g1, 0, none⟩)), (4, .pointer (some ⟨g2, 0, none⟩)), (6, .pointer (some ⟨g3, 0, none⟩)), (7, .pointer (some ⟨g11, 0, none⟩)), (8, .int .i64 r13.2), (10, .pointer (some ⟨g12, 0, none⟩))]) h.2.1.1 h.2.1.2 h.2.2.1 h.2.2.2) (fun h => (fun a77 c78 a80 c81 => [Ch.arr tyRef09Row 63 a77 c78 e84.1.rows, Ch.arr tyRef09Glyph 84 a80 c81 e84.1.begun, Ch.box g12 32 [.int .i64 e84.1.k, .int .i64 e84.1.w, .int .i64 e84.1.h, .int .i64 e84.1.x, .int .i64 e84.1.y, .string e84.1.title, .slice a77 e84.1.rows.length c78, .int .i64 e84.1.len, .int .i64 e84.1.chain, .slice a80 e84.1.begun.length c81], Ch.box g11 96 [.string e84.2.s, .int .i64 e84.2.e], Ch.box g3 32 [.int .i64 0, .int .i64 0, .int .i64 0, .int .i64 0, .int .i64 0, .string (ByteArray.mk #[]), .slice none 0 0, .int .i64 0, .int .i64 0, .slice none 0 0], Ch.box g2 32 [.int .i64 0, .int .i64 0, .int .i64 0, .int .i64 0, .int .i64 0, .string (ByteArray.mk #[]), .slice none 0 0, .int .i64 0, .int .i64 0, .slice none 0 0], Ch.box g1 32 [.int .i64 a.k, .int .i64 a.w, .int .i64 a.h, .int .i64 a.x, .int .i64 a.y, .string a.title, .slice a_0_0 a.rows.length c_0_0, .int .i64 a.len, .int .i64 a.chain, .slice a_0_1 a.begun.length c_0_1]]) h.2.1.1 h.2.1.2 h.2.2.1 h.2.2.2) (fun h => (fun a77 c78 a80 c81 => [Im.sl tyRef09Row a_0_0 c_0_0 a.rows, Im.sl tyRef09Glyph a_0_1 c_0_1 a.begun]) h.2.1.1 h.2.1.2 h.2.2.1 h.2.2.2) ?_ ?_
            · refine T.bif rfl H85 (fun hc H87 => ?_) (fun hc H87 => ?_)
              · refine T.region ?_
                refine L.y (Yl.ldb 1 rfl rfl rfl rfl) rfl rfl rfl ?_
                obtain ⟨r88, h89, H90⟩ := bnd H87
                refine L.a [] [] (Ac.call (c_ref12_Read h89) rfl rfl rfl rfl) rfl rfl rfl rfl rfl ?_
                rintro ⟨a91, c92⟩
                refine L.q 3 rfl ?_
                refine L.a [2] [] (Ac.stb rfl rfl rfl rfl rfl rfl) rfl rfl rfl rfl rfl ?_
                intro _
                refine L.q 1 rfl ?_
                refine L.a [2] [] (Ac.stb rfl rfl rfl rfl rfl rfl) rfl rfl rfl rfl rfl ?_
                intro _
                refine L.nil ?_
                refine E.nil0 tyRef09Row 63 ?_
                have hr := Option.some.inj H90
                subst e84
                exact E.give ((), ((none, 0), (a91, c92))) [0, 2, 0, 0, 0, 0, 0] [0, 1] trivial ⟨rfl, rfl, rfl, rfl, rfl, rfl, trivial⟩ rfl rfl
              · refine T.skip ?_
                refine E.nil0 tyRef09Row 63 ?_
                refine E.nil0 tyRef09Glyph 84 ?_
                have hr := Option.some.inj H87
                subst e84
                exact E.give ((), ((none, 0), (none, 0))) [1, 0, 0, 0, 0, 0, 0] [0, 1] trivial ⟨rfl, rfl, rfl, rfl, rfl, rfl, trivial⟩ rfl rfl
            · rintro ⟨_, ⟨⟨a77, c78⟩, ⟨a80, c81⟩⟩⟩ _
              refine T.seq ?_
              refine T.region ?_
              refine L.y (Yl.ldb 3 rfl rfl rfl rfl) rfl rfl rfl ?_
              obtain ⟨r97, h98, H99⟩ := bnd H86
              refine L.a [] [] (Ac.call (c_ref01_Read h98) rfl rfl rfl rfl) rfl rfl rfl rfl rfl ?_
              rintro ⟨⟩
              refine L.q 3 rfl ?_
              refine L.a [3] [] (Ac.stb rfl rfl rfl rfl rfl rfl) rfl rfl rfl rfl rfl ?_
              intro _
              refine L.q 1 rfl ?_
              refine L.nil ?_
              refine E.then ?_
              refine T.seq ?_
              refine T.seq ?_
              refine T.region ?_
              refine L.q 1 rfl ?_
              refine L.y (Yl.ldb 0 rfl rfl rfl rfl) rfl rfl rfl ?_
              refine L.q 1 rfl ?_
              refine L.nil ?_
              refine E.then ?_
              refine T.bif rfl H99 (fun hc H101 => ?_) (fun hc H101 => ?_)
              · refine T.seq ?_
                refine T.draw [] [0, 0, 0, 0, 0, 1] mo (by rfl) rfl ?_
                refine D.y 0 (Yl.ldb 4 rfl rfl rfl rfl) rfl rfl rfl rfl rfl rfl ?_
                refine D.q 1 rfl rfl rfl rfl rfl rfl ?_
                refine D.y 2 (Yl.ldb 0 rfl rfl rfl rfl) rfl rfl rfl rfl rfl rfl ?_
                refine D.one rfl rfl rfl (Dp.a [0] [] (Ac.stb rfl rfl rfl rfl rfl rfl) rfl rfl rfl rfl rfl rfl ?_)
                intro _
                refine D.q 4 rfl rfl rfl rfl rfl rfl ?_
                refine D.nil rfl rfl ?_
                refine E.then ?_
                refine T.ret ?_
                refine E.then_ret ?_
                refine E.know [Im.sl tyRef09Row none 0 []] (fun A w _ _ f hf => by rw [List.mem_singleton.1 hf]; exact Im.sl_nil A w) ?_
                refine E.know [Im.sl tyRef09Glyph none 0 []] (fun A w _ _ f hf => by rw [List.mem_singleton.1 hf]; exact Im.sl_nil A w) ?_
                have hr := Option.some.inj H101
                subst r
                exact E.ret ((none, 0), (none, 0)) [] [1, 0] (.cell 6 rfl rfl rfl (.tmp rfl .nil)) rfl rfl rfl
              · refine T.skip ?_
                refine E.then ?_
                refine T.seq ?_
                refine T.region ?_
                refine L.q 1 rfl ?_
                refine L.y (Yl.ldb 3 rfl rfl rfl rfl) rfl rfl rfl ?_
                obtain ⟨_, h104, H105⟩ := bnd H101
                refine L.a [] [] (Ac.mk (ty := Ty.bool) false () h104 (fun _ _ f hf => by cases hf) rfl rfl rfl rfl rfl rfl rfl) rfl rfl rfl rfl rfl ?_
                intro g106
                refine L.q 1 rfl ?_
                refine L.nil ?_
                refine E.then ?_
                refine T.seq ?_
                refine T.region ?_
                refine L.q 1 rfl ?_
                refine L.y (Yl.ldb 4 rfl rfl rfl rfl) rfl rfl rfl ?_
                obtain ⟨_, h108, H109⟩ := bnd H105
                refine L.a [] [] (Ac.mk (ty := tyRef09Row) (Ref09Row.mk ([] : List Ref09Cell) false) (none, 0) h108 (fun _ _ f hf => by rw [List.mem_singleton.1 hf]; exact Im.sl_nil _ _) rfl rfl rfl rfl rfl rfl rfl) rfl rfl rfl rfl rfl ?_
                intro g110
                refine L.q 1 rfl ?_
                refine L.nil ?_
                refine E.then ?_
                refine T.seq ?_
                refine T.region ?_
                refine L.q 1 rfl ?_
                refine L.nil ?_
                refine E.then ?_
                refine T.seq ?_
                refine T.seq ?_
                refine T.region ?_
                refine L.q 1 rfl ?_
                refine L.nil ?_
                refine E.then ?_
                obtain ⟨y370, H371, H372⟩ := bnd H109
                refine T.join (η := ((List Bool) × (List Ref09Row) × Ref01In) × ((Option Addr × Nat) × (Option Addr × Nat))) (fun h => y370 = .inl h.1) (fun h => (fun e369 => (fun a361 c362 a365 c366 => [(2, .pointer (some ⟨g1, 0, none⟩)), (4, .pointer (some ⟨g2, 0, none⟩)), (6, .pointer (some ⟨g3, 0, none⟩)), (7, .pointer (some ⟨g11, 0, none⟩)), (8, .int .i64 r13.2), (10, .pointer (some ⟨g12, 0, none⟩)), (11, .slice a361 e369.1.length c362), (12, .slice a365 e369.2.1.length c366)]) h.2.1.1 h.2.1.2 h.2.2.1 h.2.2.2) h.1) (fun h => (fun e369 => (fun a361 c362 a365 c366 => [Ch.arr Ty.bool 4 a361 c362 e369.1, Ch.arr tyRef09Row 63 a365 c366 e369.2.1, Ch.box g11 96 [.string e369.2.2.s, .int .i64 e369.2.2.e], Ch.box g12 32 [.int .i64 e84.1.k, .int .i64 e84.1.w, .int .i64 e84.1.h, .int .i64 e84.1.x, .int .i64 e84.1.y, .string e84.1.title, .slice a77 e84.1.rows.length c78, .int .i64 e84.1.len, .int .i64 e84.1.chain, .slice a80 e84.1.begun.length c81], Ch.box g3 32 [.int .i64 0, .int .i64 0, .int .i64 0, .int .i64 0, .int .i64 0, .string (ByteArray.mk #[]), .slice none 0 0, .int .i64 0, .int .i64 0, .slice none 0 0], Ch.box g2 32 [.int .i64 0, .int .i64 0, .int .i64 0, .int .i64 0, .int .i64 0, .string (ByteArray.mk #[]), .slice none 0 0, .int .i64 0, .int .i64 0, .slice none 0 0], Ch.box g1 32 [.int .i64 a.k, .int .i64 a.w, .int .i64 a.h, .int .i64 a.x, .int .i64 a.y, .string a.title, .slice a_0_0 a.rows.length c_0_0, .int .i64 a.len, .int .i64 a.chain, .slice a_0_1 a.begun.length c_0_1], Ch.arr tyRef09Row 63 a77 c78 e84.1.rows, Ch.arr tyRef09Glyph 84 a80 c81 e84.1.begun]) h.2.1.1 h.2.1.2 h.2.2.1 h.2.2.2) h.1) (fun h => (fun e369 => (fun a361 c362 a365 c366 => [Im.sl tyRef09Row a_0_0 c_0_0 a.rows, Im.sl tyRef09Glyph a_0_1 c_0_1 a.begun]) h.2.1.1 h.2.1.2 h.2.2.1 h.2.2.2) h.1) ?_ ?_
                · refine T.block ?_
                  refine T.lp (η := (Option Addr × Nat) × (Option Addr × Nat)) (fun s285 h => (fun a276 c277 a280 c281 => [(2, .pointer (some ⟨g1, 0, none⟩)), (4, .pointer (some ⟨g2, 0, none⟩)), (6, .pointer (some ⟨g3, 0, none⟩)), (7, .pointer (some ⟨g11, 0, none⟩)), (8, .int .i64 r13.2), (9, .int .i64 r97.2), (10, .pointer (some ⟨g12, 0, none⟩)), (11, .slice a276 s285.2.1.length c277), (12, .slice a280 s285.2.2.1.length c281), (13, .int .i64 s285.2.2.2.1), (14, .int .i64 s285.2.2.2.2)]) h.1.1 h.1.2 h.2.1 h.2.2) (fun s285 h => (fun a276 c277 a280 c281 => [Ch.arr Ty.bool 4 a276 c277 s285.2.1, Ch.arr tyRef09Row 63 a280 c281 s285.2.2.1, Ch.box g11 96 [.string s285.1.s, .int .i64 s285.1.e], Ch.box g12 32 [.int .i64 e84.1.k, .int .i64 e84.1.w, .int .i64 e84.1.h, .int .i64 e84.1.x, .int .i64 e84.1.y, .string e84.1.title, .slice a77 e84.1.rows.length c78, .int .i64 e84.1.len, .int .i64 e84.1.chain, .slice a80 e84.1.begun.length c81], Ch.box g3 32 [.int .i64 0, .int .i64 0, .int .i64 0, .int .i64 0, .int .i64 0, .string (ByteArray.mk #[]), .slice none 0 0, .int .i64 0, .int .i64 0, .slice none 0 0], Ch.box g2 32 [.int .i64 0, .int .i64 0, .int .i64 0, .int .i64 0, .int .i64 0, .string (ByteArray.mk #[]), .slice none 0 0, .int .i64 0, .int .i64 0, .slice none 0 0], Ch.box g1 32 [.int .i64 a.k, .int .i64 a.w, .int .i64 a.h, .int .i64 a.x, .int .i64 a.y, .string a.title, .slice a_0_0 a.rows.length c_0_0, .int .i64 a.len, .int .i64 a.chain, .slice a_0_1 a.begun.length c_0_1], Ch.arr tyRef09Row 63 a77 c78 e84.1.rows, Ch.arr tyRef09Glyph 84 a80 c81 e84.1.begun]) h.1.1 h.1.2 h.2.1 h.2.2) (fun s285 h => (fun a276 c277 a280 c281 => [Im.sl tyRef09Row a_0_0 c_0_0 a.rows, Im.sl tyRef09Glyph a_0_1 c_0_1 a.begun]) h.1.1 h.1.2 h.2.1 h.2.2) (((some ⟨g106, 0, none⟩), e84.1.h.toNat), ((some ⟨g110, 0, none⟩), e84.1.h.toNat)) [1, 0, 0, 2, 2, 2, 2, 0, 0] [0, 1] H371 ⟨rfl, rfl, rfl, rfl, rfl, rfl, rfl, rfl, rfl, rfl, rfl, trivial⟩ rfl rfl ?_
                  rintro k s285 ⟨⟨a276, c277⟩, ⟨a280, c281⟩⟩ z374 H373 hag375 hbr376
                  refine T.seq ?_
                  refine T.seq ?_
                  refine T.region ?_
                  refine L.q 3 rfl ?_
                  refine L.nil ?_
                  refine E.then ?_
                  refine T.bif rfl H373 (fun hc H378 => ?_) (fun hc H378 => ?_)
                  · refine T.skip ?_
                    refine E.then ?_
                    refine T.seq ?_
                    refine T.block ?_
                    refine T.seq ?_
                    refine T.region ?_
                    refine L.q 1 rfl ?_
                    refine L.nil ?_
                    refine E.then ?_
                    refine T.seq ?_
                    refine T.region ?_
                    refine L.y (Yl.ldb 2 rfl rfl rfl rfl) rfl rfl rfl ?_
                    obtain ⟨r415, h416, H417⟩ := bnd H378
                    refine L.a [] [] (Ac.call (c_ref01_Read h416) rfl rfl rfl rfl) rfl rfl rfl rfl rfl ?_
                    rintro ⟨⟩
                    refine L.q 3 rfl ?_
                    refine L.a [2] [] (Ac.stb rfl rfl rfl rfl rfl rfl) rfl rfl rfl rfl rfl ?_
                    intro _
                    refine L.q 1 rfl ?_
                    refine L.nil ?_
                    refine E.then ?_
                    refine T.seq ?_
                    refine T.seq ?_
                    obtain ⟨e423, H424, H425⟩ := bnd H417
                    refine T.join (η := Unit × Unit) (fun h => True) (fun h => [(2, .pointer (some ⟨g1, 0, none⟩)), (4, .pointer (some ⟨g2, 0, none⟩)), (6, .pointer (some ⟨g3, 0, none⟩)), (7, .pointer (some ⟨g11, 0, none⟩)), (8, .int .i64 r13.2), (9, .int .i64 r97.2), (10, .pointer (some ⟨g12, 0, none⟩)), (11, .slice a276 s285.2.1.length c277), (12, .slice a280 s285.2.2.1.length c281), (14, .int .i64 s285.2.2.2.2), (15, .int .i64 r415.2), (146, .bool e423)]) (fun h => [Ch.box g11 96 [.string r415.1.s, .int .i64 r415.1.e], Ch.box g12 32 [.int .i64 e84.1.k, .int .i64 e84.1.w, .int .i64 e84.1.h, .int .i64 e84.1.x, .int .i64 e84.1.y, .string e84.1.title, .slice a77 e84.1.rows.length c78, .int .i64 e84.1.len, .int .i64 e84.1.chain, .slice a80 e84.1.begun.length c81], Ch.box g3 32 [.int .i64 0, .int .i64 0, .int .i64 0, .int .i64 0, .int .i64 0, .string (ByteArray.mk #[]), .slice none 0 0, .int .i64 0, .int .i64 0, .slice none 0 0], Ch.box g2 32 [.int .i64 0, .int .i64 0, .int .i64 0, .int .i64 0, .int .i64 0, .string (ByteArray.mk #[]), .slice none 0 0, .int .i64 0, .int .i64 0, .slice none 0 0], Ch.box g1 32 [.int .i64 a.k, .int .i64 a.w, .int .i64 a.h, .int .i64 a.x, .int .i64 a.y, .string a.title, .slice a_0_0 a.rows.length c_0_0, .int .i64 a.len, .int .i64 a.chain, .slice a_0_1 a.begun.length c_0_1], Ch.arr Ty.bool 4 a276 c277 s285.2.1, Ch.arr tyRef09Row 63 a280 c281 s285.2.2.1, Ch.arr tyRef09Row 63 a77 c78 e84.1.rows, Ch.arr tyRef09Glyph 84 a80 c81 e84.1.begun]) (fun h => [Im.sl tyRef09Row a_0_0 c_0_0 a.rows, Im.sl tyRef09Glyph a_0_1 c_0_1 a.begun]) ?_ ?_
                    · refine T.region ?_
                      refine L.q 1 rfl ?_
                      refine L.y (Yl.ldb 0 rfl rfl rfl rfl) rfl rfl rfl ?_
                      refine L.q 2 rfl ?_
                      refine L.cs 136 H424 rfl (fun hc H426 => ?_) (fun hc H426 => ?_)
                      · refine L.q 4 rfl ?_
                        refine L.cs 140 H426 rfl (fun hc H427 => ?_) (fun hc H427 => ?_)
                        · refine L.q 6 rfl ?_
                          refine L.nil ?_
                          have hr := Option.some.inj H427
                          subst e423
                          exact E.give ((), ()) [0, 2, 2, 2, 2, 0, 0, 0, 0] [0, 1] trivial ⟨rfl, rfl, rfl, rfl, rfl, rfl, rfl, rfl, rfl, rfl, rfl, rfl, trivial⟩ rfl rfl
                        · refine L.q 2 rfl ?_
                          refine L.y (Yl.ldb 3 rfl rfl rfl rfl) rfl rfl rfl ?_
                          refine L.q 3 rfl ?_
                          refine L.nil ?_
                          have hr := Option.some.inj H427
                          subst e423
                          exact E.give ((), ()) [0, 2, 2, 2, 2, 0, 0, 0, 0] [0, 1] trivial ⟨rfl, rfl, rfl, rfl, rfl, rfl, rfl, rfl, rfl, rfl, rfl, rfl, trivial⟩ rfl rfl
                      · refine L.q 10 rfl ?_
                        refine L.nil ?_
                        have hr := Option.some.inj H426
                        subst e423
                        exact E.give ((), ()) [0, 2, 2, 2, 2, 0, 0, 0, 0] [0, 1] trivial ⟨rfl, rfl, rfl, rfl, rfl, rfl, rfl, rfl, rfl, rfl, rfl, rfl, trivial⟩ rfl rfl
                    · rintro ⟨_, ⟨⟩⟩ _
                      refine T.bif rfl H425 (fun hc H429 => ?_) (fun hc H429 => ?_)
                      · refine T.seq ?_
                        refine T.region ?_
                        refine L.y (Yl.ldb 2 rfl rfl rfl rfl) rfl rfl rfl ?_
                        refine L.a [3] [] (Ac.stb rfl rfl rfl rfl rfl rfl) rfl rfl rfl rfl rfl ?_
                        intro _
                        refine L.q 1 rfl ?_
                        refine L.nil ?_
                        refine E.then ?_
                        refine T.ret ?_
                        refine E.then_ret ?_
                        refine E.block_ret ?_
                        refine E.then_ret ?_
                        refine E.then_ret ?_
                        refine E.block_ret ?_
                        obtain ⟨w430, hz, H431⟩ := inrr_some H429
                        subst z374
                        have hb := hbr376 _ rfl
                        subst y370
                        have hw : w430 = r := Option.some.inj H372
                        subst w430
                        refine E.then_ret ?_
                        refine E.know [Im.sl tyRef09Row none 0 []] (fun A w _ _ f hf => by rw [List.mem_singleton.1 hf]; exact Im.sl_nil A w) ?_
                        refine E.know [Im.sl tyRef09Glyph none 0 []] (fun A w _ _ f hf => by rw [List.mem_singleton.1 hf]; exact Im.sl_nil A w) ?_
                        have hr := Option.some.inj H431
                        subst r
                        exact E.ret ((none, 0), (none, 0)) [] [1, 0] (.cell 0 rfl rfl rfl (.tmp rfl .nil)) rfl rfl rfl
                      · refine T.skip ?_
                        refine E.then ?_
                        refine T.seq ?_
                        refine T.region ?_
                        refine L.q 1 rfl ?_
                        refine L.a [] [] (Ac.alloc rfl rfl) rfl rfl rfl rfl rfl ?_
                        intro g434
                        refine L.a [0] [] (Ac.stb rfl rfl rfl rfl rfl rfl) rfl rfl rfl rfl rfl ?_
                        intro _
                        refine L.nil ?_
                        refine E.then ?_
                        refine T.seq ?_
                        refine T.region ?_
                        refine L.y (Yl.ldb 1 rfl rfl rfl rfl) rfl rfl rfl ?_
                        refine L.q 1 rfl ?_
                        refine L.y (Yl.ldb 2 rfl rfl rfl rfl) rfl rfl rfl ?_
                        obtain ⟨r435, h436, H437⟩ := bnd H429
                        refine L.a [] [] (Ac.call (c_ref16_ReadRow h436) rfl rfl rfl rfl) rfl rfl rfl rfl rfl ?_
                        rintro ⟨a438, c439⟩
                        refine L.q 3 rfl ?_
                        refine L.a [1] [] (Ac.stb rfl rfl rfl rfl rfl rfl) rfl rfl rfl rfl rfl ?_
                        intro _
                        refine L.a [1] [] (Ac.stb rfl rfl rfl rfl rfl rfl) rfl rfl rfl rfl rfl ?_
                        intro _
                        refine L.nil ?_
                        refine E.then ?_
                        refine T.seq ?_
                        refine T.seq ?_
                        refine T.region ?_
                        refine L.q 1 rfl ?_
                        refine L.y (Yl.ldb 1 rfl rfl rfl rfl) rfl rfl rfl ?_
                        refine L.q 1 rfl ?_
                        refine L.nil ?_
                        refine E.then ?_
                        refine T.bif rfl H437 (fun hc H442 => ?_) (fun hc H442 => ?_)
                        · refine T.seq ?_
                          refine T.draw [] [0, 0, 0, 0, 1, 1, 1, 1, 1] mo (by rfl) rfl ?_
                          refine D.y 0 (Yl.ldb 3 rfl rfl rfl rfl) rfl rfl rfl rfl rfl rfl ?_
                          refine D.q 1 rfl rfl rfl rfl rfl rfl ?_
                          refine D.y 2 (Yl.ldb 1 rfl rfl rfl rfl) rfl rfl rfl rfl rfl rfl ?_
                          refine D.one rfl rfl rfl (Dp.a [0] [] (Ac.stb rfl rfl rfl rfl rfl rfl) rfl rfl rfl rfl rfl rfl ?_)
                          intro _
                          refine D.q 4 rfl rfl rfl rfl rfl rfl ?_
                          refine D.nil rfl rfl ?_
                          refine E.then ?_
                          refine T.ret ?_
                          refine E.then_ret ?_
                          refine E.block_ret ?_
                          refine E.then_ret ?_
                          refine E.then_ret ?_
                          refine E.block_ret ?_
                          obtain ⟨w443, hz, H444⟩ := inrr_some H442
                          subst z374
                          have hb := hbr376 _ rfl
                          subst y370
                          have hw : w443 = r := Option.some.inj H372
                          subst w443
                          refine E.then_ret ?_
                          refine E.know [Im.sl tyRef09Row none 0 []] (fun A w _ _ f hf => by rw [List.mem_singleton.1 hf]; exact Im.sl_nil A w) ?_
                          refine E.know [Im.sl tyRef09Glyph none 0 []] (fun A w _ _ f hf => by rw [List.mem_singleton.1 hf]; exact Im.sl_nil A w) ?_
                          have hr := Option.some.inj H444
                          subst r
                          exact E.ret ((none, 0), (none, 0)) [] [1, 0] (.cell 9 rfl rfl rfl (.tmp rfl .nil)) rfl rfl rfl
                        · refine T.skip ?_
                          refine E.then ?_
                          refine T.seq ?_
                          refine T.region ?_
                          refine L.q 2 rfl ?_
                          refine L.nil ?_
                          refine E.then ?_
                          refine T.seq ?_
                          refine T.region ?_
                          refine L.q 2 rfl ?_
                          obtain ⟨x447, h448, H449⟩ := bnd H442
                          refine L.addro 6 rfl (idx_lt h448) fun b450 e451 => ?_
                          obtain rfl : a276 = some ⟨b450, 0, none⟩ := e451
                          refine L.y (Yl.ia h448 rfl rfl rfl rfl rfl rfl) rfl rfl rfl ?_
                          refine L.a [6] [] (Ac.se 0 true (idx_some h448).2 rfl rfl rfl rfl rfl rfl (fun _ => ⟨(), rfl, [], rfl⟩)) rfl rfl rfl rfl rfl ?_
                          intro _
                          refine L.sl 11 (k' := (s285.2.1.set r415.2.toNat true).length) (List.length_set ..) rfl ?_
                          refine L.nil ?_
                          refine E.then ?_
                          refine T.region ?_
                          refine L.q 2 rfl ?_
                          refine L.y (Yl.ldb 1 rfl rfl rfl rfl) rfl rfl rfl ?_
                          obtain ⟨x453, h454, H455⟩ := bnd H449
                          refine L.addro 7 rfl (idx_lt h454) fun b456 e457 => ?_
                          obtain rfl : a280 = some ⟨b456, 0, none⟩ := e457
                          refine L.y (Yl.ia h454 rfl rfl rfl rfl rfl rfl) rfl rfl rfl ?_
                          refine L.a [7] [0] (Ac.se 0 r435.2 (idx_some h454).2 rfl rfl rfl rfl rfl rfl (fun _ => ⟨(a438, c439), rfl, [1], rfl⟩)) rfl rfl rfl rfl rfl ?_
                          intro _
                          refine L.sl 12 (k' := (s285.2.2.1.set r415.2.toNat r435.2).length) (List.length_set ..) rfl ?_
                          refine L.nil ?_
                          refine E.block ?_
                          refine E.then ?_
                          refine T.region ?_
                          refine L.q 3 rfl ?_
                          refine L.nil ?_
                          have hr := Option.some.inj H455
                          subst z374
                          exact E.give (_, (((some ⟨b450, 0, none⟩), c277), ((some ⟨b456, 0, none⟩), c281))) [1, 0, 1, 1, 1, 1, 1, 1, 1] [1, 2] (hag375 _ rfl) ⟨rfl, rfl, rfl, rfl, rfl, rfl, rfl, rfl, rfl, rfl, rfl, trivial⟩ rfl rfl
                  · refine T.exit ?_
                    refine E.then_exit' ?_
                    refine E.then_exit' ?_
                    refine E.block_here ?_
                    have hr := Option.some.inj H378
                    subst z374
                    have hb := hbr376 _ rfl
                    subst y370
                    exact E.give (_, ((a276, c277), (a280, c281))) [0, 0, 0, 0, 0, 0, 0, 0, 0] [0, 1] rfl ⟨rfl, rfl, rfl, rfl, rfl, rfl, rfl, rfl, trivial⟩ rfl rfl
                · rintro ⟨e369, ⟨⟨a361, c362⟩, ⟨a365, c366⟩⟩⟩ hy
                  subst hy
                  refine T.seq ?_
                  refine T.seq ?_
                  refine T.region ?_
                  refine L.q 1 rfl ?_
                  refine L.y (Yl.ldb 2 rfl rfl rfl rfl) rfl rfl rfl ?_
                  refine L.q 1 rfl ?_
                  refine L.nil ?_
                  refine E.then ?_
                  refine T.bif rfl H372 (fun hc H460 => ?_) (fun hc H460 => ?_)
                  · refine T.seq ?_
                    refine T.region ?_
                    refine L.y (Yl.ldb 4 rfl rfl rfl rfl) rfl rfl rfl ?_
                    refine L.a [5] [] (Ac.stb rfl rfl rfl rfl rfl rfl) rfl rfl rfl rfl rfl ?_
                    intro _
                    refine L.q 1 rfl ?_
                    refine L.nil ?_
                    refine E.then ?_
                    refine T.ret ?_
                    refine E.then_ret ?_
                    refine E.know [Im.sl tyRef09Row none 0 []] (fun A w _ _ f hf => by rw [List.mem_singleton.1 hf]; exact Im.sl_nil A w) ?_
                    refine E.know [Im.sl tyRef09Glyph none 0 []] (fun A w _ _ f hf => by rw [List.mem_singleton.1 hf]; exact Im.sl_nil A w) ?_
                    have hr := Option.some.inj H460
                    subst r
                    exact E.ret ((none, 0), (none, 0)) [] [1, 0] (.cell 0 rfl rfl rfl (.tmp rfl .nil)) rfl rfl rfl
                  · refine T.skip ?_
                    refine E.then ?_
                    refine T.seq ?_
                    refine T.seq ?_
                    refine T.region ?_
                    refine L.q 1 rfl ?_
                    refine L.y (Yl.ldb 6 rfl rfl rfl rfl) rfl rfl rfl ?_
                    obtain ⟨r463, h464, H465⟩ := bnd H460
                    refine L.a [] [0, 1] (Ac.call (c_ref16_Sum a_0_0 c_0_0 a_0_1 c_0_1 h464) rfl rfl rfl rfl) rfl rfl rfl rfl rfl ?_
                    rintro ⟨⟩
                    refine L.q 1 rfl ?_
                    refine L.nil ?_
                    refine E.then ?_
                    refine T.bif rfl H465 (fun hc H467 => ?_) (fun hc H467 => ?_)
                    · refine T.seq ?_
                      refine T.region ?_
                      refine L.y (Yl.ldb 4 rfl rfl rfl rfl) rfl rfl rfl ?_
                      refine L.a [5] [] (Ac.stb rfl rfl rfl rfl rfl rfl) rfl rfl rfl rfl rfl ?_
                      intro _
                      refine L.q 1 rfl ?_
                      refine L.nil ?_
                      refine E.then ?_
                      refine T.ret ?_
                      refine E.then_ret ?_
                      refine E.know [Im.sl tyRef09Row none 0 []] (fun A w _ _ f hf => by rw [List.mem_singleton.1 hf]; exact Im.sl_nil A w) ?_
                      refine E.know [Im.sl tyRef09Glyph none 0 []] (fun A w _ _ f hf => by rw [List.mem_singleton.1 hf]; exact Im.sl_nil A w) ?_
                      have hr := Option.some.inj H467
                      subst r
                      exact E.ret ((none, 0), (none, 0)) [] [1, 0] (.cell 0 rfl rfl rfl (.tmp rfl .nil)) rfl rfl rfl
                    · refine T.skip ?_
                      refine E.then ?_
                      refine T.seq ?_
                      refine T.seq ?_
                      refine T.region ?_
                      refine L.q 3 rfl ?_
                      refine L.nil ?_
                      refine E.then ?_
                      obtain ⟨y3951, H3952, H3953⟩ := bnd H467
                      refine T.join (η := (List Ref09Row) × Unit) (fun h => y3951 = .inl h.1) (fun h => (fun e3950 => [(4, .pointer (some ⟨g2, 0, none⟩)), (6, .pointer (some ⟨g3, 0, none⟩)), (10, .pointer (some ⟨g12, 0, none⟩)), (12, .slice a365 e3950.length c366)]) h.1) (fun h => (fun e3950 => [Ch.arr tyRef09Row 63 a365 c366 e3950, Ch.box g11 96 [.string e369.2.2.s, .int .i64 e369.2.2.e], Ch.box g12 32 [.int .i64 e84.1.k, .int .i64 e84.1.w, .int .i64 e84.1.h, .int .i64 e84.1.x, .int .i64 e84.1.y, .string e84.1.title, .slice a77 e84.1.rows.length c78, .int .i64 e84.1.len, .int .i64 e84.1.chain, .slice a80 e84.1.begun.length c81], Ch.box g3 32 [.int .i64 0, .int .i64 0, .int .i64 0, .int .i64 0, .int .i64 0, .string (ByteArray.mk #[]), .slice none 0 0, .int .i64 0, .int .i64 0, .slice none 0 0], Ch.box g2 32 [.int .i64 0, .int .i64 0, .int .i64 0, .int .i64 0, .int .i64 0, .string (ByteArray.mk #[]), .slice none 0 0, .int .i64 0, .int .i64 0, .slice none 0 0], Ch.box g1 32 [.int .i64 a.k, .int .i64 a.w, .int .i64 a.h, .int .i64 a.x, .int .i64 a.y, .string a.title, .slice a_0_0 a.rows.length c_0_0, .int .i64 a.len, .int .i64 a.chain, .slice a_0_1 a.begun.length c_0_1], Ch.arr tyRef09Row 63 a77 c78 e84.1.rows, Ch.arr tyRef09Glyph 84 a80 c81 e84.1.begun]) h.1) (fun h => (fun e3950 => [Im.sl tyRef09Row a_0_0 c_0_0 a.rows, Im.sl tyRef09Glyph a_0_1 c_0_1 a.begun]) h.1) ?_ ?_
                      · refine T.block ?_
                        refine T.lp (η := Unit) (fun s2791 h => [(2, .pointer (some ⟨g1, 0, none⟩)), (4, .pointer (some ⟨g2, 0, none⟩)), (6, .pointer (some ⟨g3, 0, none⟩)), (10, .pointer (some ⟨g12, 0, none⟩)), (11, .slice a361 e369.1.length c362), (12, .slice a365 s2791.1.length c366), (180, .int .i64 (e369.2.1.length : Int)), (181, .int .i64 s2791.2)]) (fun s2791 h => [Ch.arr tyRef09Row 63 a365 c366 s2791.1, Ch.box g11 96 [.string e369.2.2.s, .int .i64 e369.2.2.e], Ch.box g12 32 [.int .i64 e84.1.k, .int .i64 e84.1.w, .int .i64 e84.1.h, .int .i64 e84.1.x, .int .i64 e84.1.y, .string e84.1.title, .slice a77 e84.1.rows.length c78, .int .i64 e84.1.len, .int .i64 e84.1.chain, .slice a80 e84.1.begun.length c81], Ch.box g3 32 [.int .i64 0, .int .i64 0, .int .i64 0, .int .i64 0, .int .i64 0, .string (ByteArray.mk #[]), .slice none 0 0, .int .i64 0, .int .i64 0, .slice none 0 0], Ch.box g2 32 [.int .i64 0, .int .i64 0, .int .i64 0, .int .i64 0, .int .i64 0, .string (ByteArray.mk #[]), .slice none 0 0, .int .i64 0, .int .i64 0, .slice none 0 0], Ch.box g1 32 [.int .i64 a.k, .int .i64 a.w, .int .i64 a.h, .int .i64 a.x, .int .i64 a.y, .string a.title, .slice a_0_0 a.rows.length c_0_0, .int .i64 a.len, .int .i64 a.chain, .slice a_0_1 a.begun.length c_0_1], Ch.arr Ty.bool 4 a361 c362 e369.1, Ch.arr tyRef09Row 63 a77 c78 e84.1.rows, Ch.arr tyRef09Glyph 84 a80 c81 e84.1.begun]) (fun s2791 h => [Im.sl tyRef09Row a_0_0 c_0_0 a.rows, Im.sl tyRef09Glyph a_0_1 c_0_1 a.begun]) () [1, 1, 1, 1, 1, 1, 0, 0, 0] [0, 1] H3952 ⟨rfl, rfl, rfl, rfl, rfl, rfl, rfl, rfl, trivial⟩ rfl rfl ?_
                        rintro k s2791 ⟨⟩ z3955 H3954 hag3956 hbr3957
                        refine T.seq ?_
                        refine T.region ?_
                        refine L.q 1 rfl ?_
                        refine L.nil ?_
                        refine E.then ?_
                        refine T.seq ?_
                        refine T.bif rfl H3954 (fun hc H3959 => ?_) (fun hc H3959 => ?_)
                        · refine T.skip ?_
                          refine E.then ?_
                          refine T.seq ?_
                          obtain ⟨y4727, H4728, H4729⟩ := bnd H3959
                          refine T.join (η := (List Ref09Row) × Unit) (fun h => y4727 = .inl h.1) (fun h => (fun e4726 => [(2, .pointer (some ⟨g1, 0, none⟩)), (4, .pointer (some ⟨g2, 0, none⟩)), (6, .pointer (some ⟨g3, 0, none⟩)), (10, .pointer (some ⟨g12, 0, none⟩)), (11, .slice a361 e369.1.length c362), (12, .slice a365 e4726.length c366), (180, .int .i64 (e369.2.1.length : Int)), (181, .int .i64 s2791.2)]) h.1) (fun h => (fun e4726 => [Ch.arr tyRef09Row 63 a365 c366 e4726, Ch.box g11 96 [.string e369.2.2.s, .int .i64 e369.2.2.e], Ch.box g12 32 [.int .i64 e84.1.k, .int .i64 e84.1.w, .int .i64 e84.1.h, .int .i64 e84.1.x, .int .i64 e84.1.y, .string e84.1.title, .slice a77 e84.1.rows.length c78, .int .i64 e84.1.len, .int .i64 e84.1.chain, .slice a80 e84.1.begun.length c81], Ch.box g3 32 [.int .i64 0, .int .i64 0, .int .i64 0, .int .i64 0, .int .i64 0, .string (ByteArray.mk #[]), .slice none 0 0, .int .i64 0, .int .i64 0, .slice none 0 0], Ch.box g2 32 [.int .i64 0, .int .i64 0, .int .i64 0, .int .i64 0, .int .i64 0, .string (ByteArray.mk #[]), .slice none 0 0, .int .i64 0, .int .i64 0, .slice none 0 0], Ch.box g1 32 [.int .i64 a.k, .int .i64 a.w, .int .i64 a.h, .int .i64 a.x, .int .i64 a.y, .string a.title, .slice a_0_0 a.rows.length c_0_0, .int .i64 a.len, .int .i64 a.chain, .slice a_0_1 a.begun.length c_0_1], Ch.arr Ty.bool 4 a361 c362 e369.1, Ch.arr tyRef09Row 63 a77 c78 e84.1.rows, Ch.arr tyRef09Glyph 84 a80 c81 e84.1.begun]) h.1) (fun h => (fun e4726 => [Im.sl tyRef09Row a_0_0 c_0_0 a.rows, Im.sl tyRef09Glyph a_0_1 c_0_1 a.begun]) h.1) ?_ ?_
                          · refine T.block ?_
                            refine T.seq ?_
                            refine T.region ?_
                            refine L.q 2 rfl ?_
                            refine L.nil ?_
                            refine E.then ?_
                            refine T.seq ?_
                            refine T.seq ?_
                            obtain ⟨e4967, H4968, H4969⟩ := bnd H4728
                            refine T.join (η := Unit × Unit) (fun h => True) (fun h => [(2, .pointer (some ⟨g1, 0, none⟩)), (4, .pointer (some ⟨g2, 0, none⟩)), (6, .pointer (some ⟨g3, 0, none⟩)), (10, .pointer (some ⟨g12, 0, none⟩)), (11, .slice a361 e369.1.length c362), (12, .slice a365 s2791.1.length c366), (17, .int .i64 s2791.2), (180, .int .i64 (e369.2.1.length : Int)), (181, .int .i64 s2791.2), (220, .bool e4967)]) (fun h => [Ch.box g11 96 [.string e369.2.2.s, .int .i64 e369.2.2.e], Ch.box g12 32 [.int .i64 e84.1.k, .int .i64 e84.1.w, .int .i64 e84.1.h, .int .i64 e84.1.x, .int .i64 e84.1.y, .string e84.1.title, .slice a77 e84.1.rows.length c78, .int .i64 e84.1.len, .int .i64 e84.1.chain, .slice a80 e84.1.begun.length c81], Ch.box g3 32 [.int .i64 0, .int .i64 0, .int .i64 0, .int .i64 0, .int .i64 0, .string (ByteArray.mk #[]), .slice none 0 0, .int .i64 0, .int .i64 0, .slice none 0 0], Ch.box g2 32 [.int .i64 0, .int .i64 0, .int .i64 0, .int .i64 0, .int .i64 0, .string (ByteArray.mk #[]), .slice none 0 0, .int .i64 0, .int .i64 0, .slice none 0 0], Ch.box g1 32 [.int .i64 a.k, .int .i64 a.w, .int .i64 a.h, .int .i64 a.x, .int .i64 a.y, .string a.title, .slice a_0_0 a.rows.length c_0_0, .int .i64 a.len, .int .i64 a.chain, .slice a_0_1 a.begun.length c_0_1], Ch.arr tyRef09Row 63 a365 c366 s2791.1, Ch.arr Ty.bool 4 a361 c362 e369.1, Ch.arr tyRef09Row 63 a77 c78 e84.1.rows, Ch.arr tyRef09Glyph 84 a80 c81 e84.1.begun]) (fun h => [Im.sl tyRef09Row a_0_0 c_0_0 a.rows, Im.sl tyRef09Glyph a_0_1 c_0_1 a.begun]) ?_ ?_
                            · refine T.draw [] [1, 1, 1, 1, 1, 1, 1, 1] mo (by rfl) rfl ?_
                              refine D.q 0 rfl rfl rfl rfl rfl rfl ?_
                              refine D.q 1 rfl rfl rfl rfl rfl rfl ?_
                              obtain ⟨x5029, h5030, H5031⟩ := bnd H4968
                              refine D.addro 5 rfl (idx_lt h5030) fun b5032 e5033 => ?_
                              obtain rfl : a361 = some ⟨b5032, 0, none⟩ := e5033
                              refine D.y 2 (Yl.ia h5030 rfl rfl rfl rfl rfl rfl) rfl rfl rfl rfl rfl rfl ?_
                              refine D.y 3 (Yl.lo (v := .bool x5029) 5 s2791.2.toNat 0 (idx_some h5030).2 rfl rfl rfl rfl (fun _ => rfl)) rfl rfl rfl rfl rfl rfl ?_
                              refine D.q 4 rfl rfl rfl rfl rfl rfl ?_
                              refine D.q 5 rfl rfl rfl rfl rfl rfl ?_
                              refine D.cs 189 H5031 rfl (fun hc H5034 => ?_) (fun hc H5034 => ?_)
                              · refine D.q 6 rfl rfl rfl rfl rfl rfl ?_
                                refine D.q 7 rfl rfl rfl rfl rfl rfl ?_
                                refine D.y 8 (Yl.ldb 4 rfl rfl rfl rfl) rfl rfl rfl rfl rfl rfl ?_
                                refine D.q 9 rfl rfl rfl rfl rfl rfl ?_
                                refine D.q 10 rfl rfl rfl rfl rfl rfl ?_
                                refine D.q 11 rfl rfl rfl rfl rfl rfl ?_
                                refine D.q 12 rfl rfl rfl rfl rfl rfl ?_
                                refine D.cs 196 H5034 rfl (fun hc H5035 => ?_) (fun hc H5035 => ?_)
                                · refine D.sk 13 rfl rfl rfl rfl rfl ?_
                                  refine D.sk 14 rfl rfl rfl rfl rfl ?_
                                  refine D.sk 15 rfl rfl rfl rfl rfl ?_
                                  refine D.sk 16 rfl rfl rfl rfl rfl ?_
                                  refine D.sk 17 rfl rfl rfl rfl rfl ?_
                                  refine D.sk 18 rfl rfl rfl rfl rfl ?_
                                  refine D.sk 19 rfl rfl rfl rfl rfl ?_
                                  refine D.sk 20 rfl rfl rfl rfl rfl ?_
                                  refine D.sk 21 rfl rfl rfl rfl rfl ?_
                                  refine D.sk 22 rfl rfl rfl rfl rfl ?_
                                  refine D.sk 23 rfl rfl rfl rfl rfl ?_
                                  refine D.sk 24 rfl rfl rfl rfl rfl ?_
                                  refine D.sk 25 rfl rfl rfl rfl rfl ?_
                                  refine D.sk 26 rfl rfl rfl rfl rfl ?_
                                  refine D.sk 27 rfl rfl rfl rfl rfl ?_
                                  refine D.sk 28 rfl rfl rfl rfl rfl ?_
                                  refine D.sk 29 rfl rfl rfl rfl rfl ?_
                                  refine D.sk 30 rfl rfl rfl rfl rfl ?_
                                  refine D.sk 31 rfl rfl rfl rfl rfl ?_
                                  refine D.sk 32 rfl rfl rfl rfl rfl ?_
                                  refine D.sk 33 rfl rfl rfl rfl rfl ?_
                                  refine D.sk 34 rfl rfl rfl rfl rfl ?_
                                  refine D.sk 35 rfl rfl rfl rfl rfl ?_
                                  refine D.q 36 rfl rfl rfl rfl rfl rfl ?_
                                  refine D.nil rfl rfl ?_
                                  have hr := Option.some.inj H5035
                                  subst e4967
                                  exact E.give ((), ()) [0, 0, 0, 0, 0, 3, 0, 0, 0] [0, 1] trivial ⟨rfl, rfl, rfl, rfl, rfl, rfl, rfl, rfl, rfl, rfl, trivial⟩ rfl rfl
                                · refine D.q 13 rfl rfl rfl rfl rfl rfl ?_
                                  refine D.q 14 rfl rfl rfl rfl rfl rfl ?_
                                  obtain ⟨x5036, h5037, H5038⟩ := bnd H5035
                                  refine D.y 15 (Yl.ia h5037 rfl rfl rfl rfl rfl rfl) rfl rfl rfl rfl rfl rfl ?_
                                  refine D.y 16 (Yl.lo (v := .bool x5036) 5 s2791.2.toNat 0 (idx_some h5037).2 rfl rfl rfl rfl (fun _ => rfl)) rfl rfl rfl rfl rfl rfl ?_
                                  refine D.q 17 rfl rfl rfl rfl rfl rfl ?_
                                  refine D.cs 201 H5038 rfl (fun hc H5039 => ?_) (fun hc H5039 => ?_)
                                  · refine D.q 18 rfl rfl rfl rfl rfl rfl ?_
                                    refine D.q 19 rfl rfl rfl rfl rfl rfl ?_
                                    refine D.y 20 (Yl.ldb 4 rfl rfl rfl rfl) rfl rfl rfl rfl rfl rfl ?_
                                    refine D.q 21 rfl rfl rfl rfl rfl rfl ?_
                                    refine D.q 22 rfl rfl rfl rfl rfl rfl ?_
                                    refine D.q 23 rfl rfl rfl rfl rfl rfl ?_
                                    refine D.q 24 rfl rfl rfl rfl rfl rfl ?_
                                    refine D.cs 208 H5039 rfl (fun hc H5040 => ?_) (fun hc H5040 => ?_)
                                    · refine D.q 25 rfl rfl rfl rfl rfl rfl ?_
                                      refine D.q 26 rfl rfl rfl rfl rfl rfl ?_
                                      obtain ⟨x5041, h5042, H5043⟩ := bnd H5040
                                      refine D.addro 8 rfl (idx_lt h5042) fun b5044 e5045 => ?_
                                      obtain rfl : a365 = some ⟨b5044, 0, none⟩ := e5045
                                      refine D.y 27 (Yl.ia h5042 rfl rfl rfl rfl rfl rfl) rfl rfl rfl rfl rfl rfl ?_
                                      refine D.q 29 rfl rfl rfl rfl rfl rfl ?_
                                      refine D.y 30 (Yl.ldb 4 rfl rfl rfl rfl) rfl rfl rfl rfl rfl rfl ?_
                                      refine D.q 31 rfl rfl rfl rfl rfl rfl ?_
                                      obtain ⟨x5046, h5047, H5048⟩ := bnd H5043
                                      refine D.addr 0 rfl (idx_lt h5047) fun b5049 o5050 e5051 => ?_
                                      obtain rfl : a_0_0 = some ⟨b5049, o5050, none⟩ := e5051
                                      refine D.y 32 (Yl.ia h5047 rfl rfl rfl rfl rfl rfl) rfl rfl rfl rfl rfl rfl ?_
                                      refine D.el 0 rfl (idx_some h5047).2 ?_
                                      rintro ⟨a5052, c5053⟩
                                      refine D.y 33 (Yl.ldc 0 0 rfl rfl rfl rfl) rfl rfl rfl rfl rfl rfl ?_
                                      refine D.one rfl rfl rfl (Dp.a [0] [] (Ac.lo s2791.2.toNat 0 (v := (fun h : (Option Addr × Nat) => (fun a5056 c5057 => .agg #[.slice a5056 x5041.l.length c5057, .bool x5041.wrapped]) h.1 h.2)) (idx_some h5042).2 rfl rfl rfl (fun _ => rfl)) rfl rfl rfl rfl rfl rfl ?_)
                                      rintro ⟨a5056, c5057⟩
                                      obtain ⟨r5059, h5060, H5061⟩ := bnd H5048
                                      refine D.one rfl rfl rfl (Dp.a [] [0, 2] (Ac.call (c_ref17_same a5056 c5057 a5052 c5053 h5060) rfl rfl rfl rfl) rfl rfl rfl rfl rfl rfl ?_)
                                      rintro ⟨⟩
                                      refine D.q 35 rfl rfl rfl rfl rfl rfl ?_
                                      refine D.q 36 rfl rfl rfl rfl rfl rfl ?_
                                      refine D.nil rfl rfl ?_
                                      have hr := Option.some.inj H5061
                                      subst e4967
                                      exact E.give ((), ()) [0, 0, 0, 0, 0, 3, 0, 0, 0] [3, 4] trivial ⟨rfl, rfl, rfl, rfl, rfl, rfl, rfl, rfl, rfl, rfl, trivial⟩ rfl rfl
                                    · refine D.sk 25 rfl rfl rfl rfl rfl ?_
                                      refine D.sk 26 rfl rfl rfl rfl rfl ?_
                                      refine D.sk 27 rfl rfl rfl rfl rfl ?_
                                      refine D.sk 28 rfl rfl rfl rfl rfl ?_
                                      refine D.sk 29 rfl rfl rfl rfl rfl ?_
                                      refine D.sk 30 rfl rfl rfl rfl rfl ?_
                                      refine D.sk 31 rfl rfl rfl rfl rfl ?_
                                      refine D.sk 32 rfl rfl rfl rfl rfl ?_
                                      refine D.sk 33 rfl rfl rfl rfl rfl ?_
                                      refine D.sk 34 rfl rfl rfl rfl rfl ?_
                                      refine D.q 35 rfl rfl rfl rfl rfl rfl ?_
                                      refine D.q 36 rfl rfl rfl rfl rfl rfl ?_
                                      refine D.nil rfl rfl ?_
                                      have hr := Option.some.inj H5040
                                      subst e4967
                                      exact E.give ((), ()) [0, 0, 0, 0, 0, 3, 0, 0, 0] [0, 1] trivial ⟨rfl, rfl, rfl, rfl, rfl, rfl, rfl, rfl, rfl, rfl, trivial⟩ rfl rfl
                                  · refine D.sk 18 rfl rfl rfl rfl rfl ?_
                                    refine D.sk 19 rfl rfl rfl rfl rfl ?_
                                    refine D.sk 20 rfl rfl rfl rfl rfl ?_
                                    refine D.sk 21 rfl rfl rfl rfl rfl ?_
                                    refine D.sk 22 rfl rfl rfl rfl rfl ?_
                                    refine D.q 23 rfl rfl rfl rfl rfl rfl ?_
                                    refine D.q 24 rfl rfl rfl rfl rfl rfl ?_
                                    refine D.sk 25 rfl rfl rfl rfl rfl ?_
                                    refine D.sk 26 rfl rfl rfl rfl rfl ?_
                                    refine D.sk 27 rfl rfl rfl rfl rfl ?_
                                    refine D.sk 28 rfl rfl rfl rfl rfl ?_
                                    refine D.sk 29 rfl rfl rfl rfl rfl ?_
                                    refine D.sk 30 rfl rfl rfl rfl rfl ?_
                                    refine D.sk 31 rfl rfl rfl rfl rfl ?_
                                    refine D.sk 32 rfl rfl rfl rfl rfl ?_
                                    refine D.sk 33 rfl rfl rfl rfl rfl ?_
                                    refine D.sk 34 rfl rfl rfl rfl rfl ?_
                                    refine D.q 35 rfl rfl rfl rfl rfl rfl ?_
                                    refine D.q 36 rfl rfl rfl rfl rfl rfl ?_
                                    refine D.nil rfl rfl ?_
                                    have hr := Option.some.inj H5039
                                    subst e4967
                                    exact E.give ((), ()) [0, 0, 0, 0, 0, 3, 0, 0, 0] [0, 1] trivial ⟨rfl, rfl, rfl, rfl, rfl, rfl, rfl, rfl, rfl, rfl, trivial⟩ rfl rfl
                              · refine D.sk 6 rfl rfl rfl rfl rfl ?_
                                refine D.sk 7 rfl rfl rfl rfl rfl ?_
                                refine D.sk 8 rfl rfl rfl rfl rfl ?_
                                refine D.sk 9 rfl rfl rfl rfl rfl ?_
                                refine D.sk 10 rfl rfl rfl rfl rfl ?_
                                refine D.q 11 rfl rfl rfl rfl rfl rfl ?_
                                refine D.q 12 rfl rfl rfl rfl rfl rfl ?_
                                refine D.q 13 rfl rfl rfl rfl rfl rfl ?_
                                refine D.q 14 rfl rfl rfl rfl rfl rfl ?_
                                obtain ⟨x5062, h5063, H5064⟩ := bnd H5034
                                refine D.y 15 (Yl.ia h5063 rfl rfl rfl rfl rfl rfl) rfl rfl rfl rfl rfl rfl ?_
                                refine D.y 16 (Yl.lo (v := .bool x5062) 5 s2791.2.toNat 0 (idx_some h5063).2 rfl rfl rfl rfl (fun _ => rfl)) rfl rfl rfl rfl rfl rfl ?_
                                refine D.q 17 rfl rfl rfl rfl rfl rfl ?_
                                refine D.cs 201 H5064 rfl (fun hc H5065 => ?_) (fun hc H5065 => ?_)
                                · refine D.q 18 rfl rfl rfl rfl rfl rfl ?_
                                  refine D.q 19 rfl rfl rfl rfl rfl rfl ?_
                                  refine D.y 20 (Yl.ldb 4 rfl rfl rfl rfl) rfl rfl rfl rfl rfl rfl ?_
                                  refine D.q 21 rfl rfl rfl rfl rfl rfl ?_
                                  refine D.q 22 rfl rfl rfl rfl rfl rfl ?_
                                  refine D.q 23 rfl rfl rfl rfl rfl rfl ?_
                                  refine D.q 24 rfl rfl rfl rfl rfl rfl ?_
                                  refine D.cs 208 H5065 rfl (fun hc H5066 => ?_) (fun hc H5066 => ?_)
                                  · refine D.q 25 rfl rfl rfl rfl rfl rfl ?_
                                    refine D.q 26 rfl rfl rfl rfl rfl rfl ?_
                                    obtain ⟨x5067, h5068, H5069⟩ := bnd H5066
                                    refine D.addro 8 rfl (idx_lt h5068) fun b5070 e5071 => ?_
                                    obtain rfl : a365 = some ⟨b5070, 0, none⟩ := e5071
                                    refine D.y 27 (Yl.ia h5068 rfl rfl rfl rfl rfl rfl) rfl rfl rfl rfl rfl rfl ?_
                                    refine D.q 29 rfl rfl rfl rfl rfl rfl ?_
                                    refine D.y 30 (Yl.ldb 4 rfl rfl rfl rfl) rfl rfl rfl rfl rfl rfl ?_
                                    refine D.q 31 rfl rfl rfl rfl rfl rfl ?_
                                    obtain ⟨x5072, h5073, H5074⟩ := bnd H5069
                                    refine D.addr 0 rfl (idx_lt h5073) fun b5075 o5076 e5077 => ?_
                                    obtain rfl : a_0_0 = some ⟨b5075, o5076, none⟩ := e5077
                                    refine D.y 32 (Yl.ia h5073 rfl rfl rfl rfl rfl rfl) rfl rfl rfl rfl rfl rfl ?_
                                    refine D.el 0 rfl (idx_some h5073).2 ?_
                                    rintro ⟨a5078, c5079⟩
                                    refine D.y 33 (Yl.ldc 0 0 rfl rfl rfl rfl) rfl rfl rfl rfl rfl rfl ?_
                                    refine D.one rfl rfl rfl (Dp.a [0] [] (Ac.lo s2791.2.toNat 0 (v := (fun h : (Option Addr × Nat) => (fun a5082 c5083 => .agg #[.slice a5082 x5067.l.length c5083, .bool x5067.wrapped]) h.1 h.2)) (idx_some h5068).2 rfl rfl rfl (fun _ => rfl)) rfl rfl rfl rfl rfl rfl ?_)
                                    rintro ⟨a5082, c5083⟩
                                    obtain ⟨r5085, h5086, H5087⟩ := bnd H5074
                                    refine D.one rfl rfl rfl (Dp.a [] [0, 2] (Ac.call (c_ref17_same a5082 c5083 a5078 c5079 h5086) rfl rfl rfl rfl) rfl rfl rfl rfl rfl rfl ?_)
                                    rintro ⟨⟩
                                    refine D.q 35 rfl rfl rfl rfl rfl rfl ?_
                                    refine D.q 36 rfl rfl rfl rfl rfl rfl ?_
                                    refine D.nil rfl rfl ?_
                                    have hr := Option.some.inj H5087
                                    subst e4967
                                    exact E.give ((), ()) [0, 0, 0, 0, 0, 3, 0, 0, 0] [3, 4] trivial ⟨rfl, rfl, rfl, rfl, rfl, rfl, rfl, rfl, rfl, rfl, trivial⟩ rfl rfl
                                  · refine D.sk 25 rfl rfl rfl rfl rfl ?_
                                    refine D.sk 26 rfl rfl rfl rfl rfl ?_
                                    refine D.sk 27 rfl rfl rfl rfl rfl ?_
                                    refine D.sk 28 rfl rfl rfl rfl rfl ?_
                                    refine D.sk 29 rfl rfl rfl rfl rfl ?_
                                    refine D.sk 30 rfl rfl rfl rfl rfl ?_
                                    refine D.sk 31 rfl rfl rfl rfl rfl ?_
                                    refine D.sk 32 rfl rfl rfl rfl rfl ?_
                                    refine D.sk 33 rfl rfl rfl rfl rfl ?_
                                    refine D.sk 34 rfl rfl rfl rfl rfl ?_
                                    refine D.q 35 rfl rfl rfl rfl rfl rfl ?_
                                    refine D.q 36 rfl rfl rfl rfl rfl rfl ?_
                                    refine D.nil rfl rfl ?_
                                    have hr := Option.some.inj H5066
                                    subst e4967
                                    exact E.give ((), ()) [0, 0, 0, 0, 0, 3, 0, 0, 0] [0, 1] trivial ⟨rfl, rfl, rfl, rfl, rfl, rfl, rfl, rfl, rfl, rfl, trivial⟩ rfl rfl
                                · refine D.sk 18 rfl rfl rfl rfl rfl ?_
                                  refine D.sk 19 rfl rfl rfl rfl rfl ?_
                                  refine D.sk 20 rfl rfl rfl rfl rfl ?_
                                  refine D.sk 21 rfl rfl rfl rfl rfl ?_
                                  refine D.sk 22 rfl rfl rfl rfl rfl ?_
                                  refine D.q 23 rfl rfl rfl rfl rfl rfl ?_
                                  refine D.q 24 rfl rfl rfl rfl rfl rfl ?_
                                  refine D.sk 25 rfl rfl rfl rfl rfl ?_
                                  refine D.sk 26 rfl rfl rfl rfl rfl ?_
                                  refine D.sk 27 rfl rfl rfl rfl rfl ?_
                                  refine D.sk 28 rfl rfl rfl rfl rfl ?_
                                  refine D.sk 29 rfl rfl rfl rfl rfl ?_
                                  refine D.sk 30 rfl rfl rfl rfl rfl ?_
                                  refine D.sk 31 rfl rfl rfl rfl rfl ?_
                                  refine D.sk 32 rfl rfl rfl rfl rfl ?_
                                  refine D.sk 33 rfl rfl rfl rfl rfl ?_
                                  refine D.sk 34 rfl rfl rfl rfl rfl ?_
                                  refine D.q 35 rfl rfl rfl rfl rfl rfl ?_
                                  refine D.q 36 rfl rfl rfl rfl rfl rfl ?_
                                  refine D.nil rfl rfl ?_
                                  have hr := Option.some.inj H5065
                                  subst e4967
                                  exact E.give ((), ()) [0, 0, 0, 0, 0, 3, 0, 0, 0] [0, 1] trivial ⟨rfl, rfl, rfl, rfl, rfl, rfl, rfl, rfl, rfl, rfl, trivial⟩ rfl rfl
                            · rintro ⟨_, ⟨⟩⟩ _
                              refine T.bif rfl H4969 (fun hc H5089 => ?_) (fun hc H5089 => ?_)
                              · refine T.seq ?_
                                refine T.region ?_
                                refine L.y (Yl.ldb 2 rfl rfl rfl rfl) rfl rfl rfl ?_
                                refine L.a [3] [] (Ac.stb rfl rfl rfl rfl rfl rfl) rfl rfl rfl rfl rfl ?_
                                intro _
                                refine L.q 1 rfl ?_
                                refine L.nil ?_
                                refine E.then ?_
                                refine T.ret ?_
                                refine E.then_ret ?_
                                refine E.block_ret ?_
                                obtain ⟨w5090, hz, H5091⟩ := inrs_some H5089
                                subst y4727
                                have hw : w5090 = z3955 := Option.some.inj H4729
                                subst w5090
                                refine E.then_ret ?_
                                refine E.then_ret ?_
                                refine E.block_ret ?_
                                obtain ⟨w5092, hz, H5093⟩ := inrr_some H5091
                                subst z3955
                                have hb := hbr3957 _ rfl
                                subst y3951
                                have hw : w5092 = r := Option.some.inj H3953
                                subst w5092
                                refine E.then_ret ?_
                                refine E.know [Im.sl tyRef09Row none 0 []] (fun A w _ _ f hf => by rw [List.mem_singleton.1 hf]; exact Im.sl_nil A w) ?_
                                refine E.know [Im.sl tyRef09Glyph none 0 []] (fun A w _ _ f hf => by rw [List.mem_singleton.1 hf]; exact Im.sl_nil A w) ?_
                                have hr := Option.some.inj H5093
                                subst r
                                exact E.ret ((none, 0), (none, 0)) [] [1, 0] (.cell 0 rfl rfl rfl (.tmp rfl .nil)) rfl rfl rfl
                              · refine T.skip ?_
                                refine E.then ?_
                                refine T.seq ?_
                                refine T.region ?_
                                refine L.q 2 rfl ?_
                                obtain ⟨x5096, h5097, H5098⟩ := bnd H5089
                                refine L.addro 6 rfl (idx_lt h5097) fun b5099 e5100 => ?_
                                obtain rfl : a361 = some ⟨b5099, 0, none⟩ := e5100
                                refine L.y (Yl.ia h5097 rfl rfl rfl rfl rfl rfl) rfl rfl rfl ?_
                                refine L.y (Yl.lo (v := .bool x5096) 6 s2791.2.toNat 0 (idx_some h5097).2 rfl rfl rfl rfl (fun _ => rfl)) rfl rfl rfl ?_
                                refine L.q 1 rfl ?_
                                refine L.nil ?_
                                refine E.then ?_
                                refine T.bif rfl H5098 (fun hc H5101 => ?_) (fun hc H5101 => ?_)
                                · refine T.region ?_
                                  refine L.q 3 rfl ?_
                                  refine L.y (Yl.ldb 4 rfl rfl rfl rfl) rfl rfl rfl ?_
                                  refine L.q 1 rfl ?_
                                  obtain ⟨x5102, h5103, H5104⟩ := bnd H5101
                                  refine L.addr 0 rfl (idx_lt h5103) fun b5105 o5106 e5107 => ?_
                                  obtain rfl : a_0_0 = some ⟨b5105, o5106, none⟩ := e5107
                                  refine L.y (Yl.ia h5103 rfl rfl rfl rfl rfl rfl) rfl rfl rfl ?_
                                  refine L.el 0 rfl (idx_some h5103).2 ?_
                                  rintro ⟨a5108, c5109⟩
                                  refine L.y (Yl.ldc 0 0 rfl rfl rfl rfl) rfl rfl rfl ?_
                                  obtain ⟨x5112, h5113, H5114⟩ := bnd H5104
                                  refine L.addro 5 rfl (idx_lt h5113) fun b5115 e5116 => ?_
                                  obtain rfl : a365 = some ⟨b5115, 0, none⟩ := e5116
                                  refine L.y (Yl.ia h5113 rfl rfl rfl rfl rfl rfl) rfl rfl rfl ?_
                                  refine L.a [5] [1] (Ac.se 0 x5102 (idx_some h5113).2 rfl rfl rfl rfl rfl rfl (fun _ => ⟨(a5108, c5109), rfl, [1], rfl⟩)) rfl rfl rfl rfl rfl ?_
                                  intro _
                                  refine L.sl 12 (k' := (s2791.1.set s2791.2.toNat x5102).length) (List.length_set ..) rfl ?_
                                  refine L.nil ?_
                                  refine E.block ?_
                                  have hr := Option.some.inj H5114
                                  subst y4727
                                  exact E.give (_, ()) [0, 0, 0, 0, 0, 0, 0, 0, 0] [2, 3] rfl ⟨rfl, rfl, rfl, rfl, rfl, rfl, rfl, rfl, trivial⟩ rfl rfl
                                · refine T.skip ?_
                                  refine E.block ?_
                                  have hr := Option.some.inj H5101
                                  subst y4727
                                  exact E.give (_, ()) [5, 0, 0, 0, 0, 0, 0, 0, 0] [0, 1] rfl ⟨rfl, rfl, rfl, rfl, rfl, rfl, rfl, rfl, trivial⟩ rfl rfl
                          · rintro ⟨e4726, ⟨⟩⟩ hy
                            subst hy
                            refine T.region ?_
                            refine L.q 2 rfl ?_
                            refine L.nil ?_
                            have hr := Option.some.inj H4729
                            subst z3955
                            exact E.give (_, ()) [0, 0, 0, 0, 0, 0, 0, 0, 0] [0, 1] (hag3956 _ rfl) ⟨rfl, rfl, rfl, rfl, rfl, rfl, rfl, rfl, trivial⟩ rfl rfl
                        · refine T.exit ?_
                          refine E.then_exit' ?_
                          refine E.then_exit' ?_
                          refine E.block_here ?_
                          have hr := Option.some.inj H3959
                          subst z3955
                          have hb := hbr3957 _ rfl
                          subst y3951
                          exact E.give (_, ()) [0, 0, 0, 0, 0, 0, 1, 1] [0, 1] rfl ⟨rfl, rfl, rfl, rfl, trivial⟩ rfl rfl
                      · rintro ⟨e3950, ⟨⟩⟩ hy
                        subst hy
                        refine T.seq ?_
                        refine T.region ?_
                        refine L.q 2 rfl ?_
                        refine L.a [2] [] (Ac.stb rfl rfl rfl rfl rfl rfl) rfl rfl rfl rfl rfl ?_
                        intro _
                        refine L.nil ?_
                        refine E.then ?_
                        refine T.seq ?_
                        refine T.seq ?_
                        refine T.region ?_
                        refine L.y (Yl.ldb 0 rfl rfl rfl rfl) rfl rfl rfl ?_
                        refine L.frz 1 rfl ?_
                        refine L.frz 6 rfl ?_
                        obtain ⟨r5120, h5121, H5122⟩ := bnd H3953
                        refine L.a [] [1, 0] (Ac.call (c_ref16_Pack a365 c366 a80 c81 h5121) rfl rfl rfl rfl) rfl rfl rfl rfl rfl ?_
                        rintro ⟨⟩
                        refine L.q 1 rfl ?_
                        refine L.nil ?_
                        refine E.then ?_
                        refine T.bif rfl H5122 (fun hc H5124 => ?_) (fun hc H5124 => ?_)
                        · refine T.seq ?_
                          refine T.region ?_
                          refine L.y (Yl.ldb 2 rfl rfl rfl rfl) rfl rfl rfl ?_
                          refine L.a [3] [] (Ac.stb rfl rfl rfl rfl rfl rfl) rfl rfl rfl rfl rfl ?_
                          intro _
                          refine L.q 1 rfl ?_
                          refine L.nil ?_
                          refine E.then ?_
                          refine T.ret ?_
                          refine E.then_ret ?_
                          refine E.know [Im.sl tyRef09Row none 0 []] (fun A w _ _ f hf => by rw [List.mem_singleton.1 hf]; exact Im.sl_nil A w) ?_
                          refine E.know [Im.sl tyRef09Glyph none 0 []] (fun A w _ _ f hf => by rw [List.mem_singleton.1 hf]; exact Im.sl_nil A w) ?_
                          have hr := Option.some.inj H5124
                          subst r
                          exact E.ret ((none, 0), (none, 0)) [] [1, 0] (.cell 0 rfl rfl rfl (.tmp rfl .nil)) rfl rfl rfl
                        · refine T.skip ?_
                          refine E.then ?_
                          refine T.seq ?_
                          refine T.region ?_
                          refine L.y (Yl.ldb 0 rfl rfl rfl rfl) rfl rfl rfl ?_
                          refine L.a [3] [] (Ac.stb rfl rfl rfl rfl rfl rfl) rfl rfl rfl rfl rfl ?_
                          intro _
                          refine L.q 1 rfl ?_
                          refine L.nil ?_
                          refine E.then ?_
                          refine T.ret ?_
                          have hr := Option.some.inj H5124
                          subst r
                          exact E.ret ((a365, c366), (a80, c81)) [] [1, 0] (.cell 0 rfl rfl rfl (.tmp rfl .nil)) rfl rfl rfl

end Go.Tw.X

set_option maxHeartbeats 2000000
set_option linter.unusedVariables false
set_option linter.unusedSimpArgs false
set_option maxRecDepth 10000
namespace Go.Tw.X
open Go Go.Tw
theorem c_law17_DeltaApplies {a : SnapSnap} {s_ : ByteArray} (a_0_0 : Option Addr) (c_0_0 : Nat) (a_0_1 : Option Addr) (c_0_1 : Nat) {r : Bool} (H : p_law17_DeltaApplies a s_ = some r) : CT G 4 [.agg #[.int .i64 a.k, .int .i64 a.w, .int .i64 a.h, .int .i64 a.x, .int .i64 a.y, .string a.title, .slice a_0_0 a.rows.length c_0_0, .int .i64 a.len, .int .i64 a.chain, .slice a_0_1 a.begun.length c_0_1], .string s_] [] [Im.sl tyRowRow a_0_0 c_0_0 a.rows, Im.sl tyRowGlyph a_0_1 c_0_1 a.begun, Im.sl (Ty.int .u32) (some ⟨0, 0, none⟩) 16 t_sum_half] (fun h : Unit => .bool r) (fun h => []) (fun h => []) := by
  delta p_law17_DeltaApplies at H
  refine CT.of Go.Proofs.Tryd.func4 (by kernel_rfl) rfl rfl rfl fun K => ?_
  refine T.seq ?_
  refine T.region ?_
  refine L.a [] [] (Ac.box rfl rfl) rfl rfl rfl rfl rfl ?_
  intro g1
  refine L.q 1 rfl ?_
  refine L.nil ?_
  refine E.then ?_
  refine T.seq ?_
  refine T.seq ?_
  refine T.region ?_
  obtain ⟨r2, h3, H4⟩ := bnd H
  refine L.a [] [2] (Ac.call (c_law17_awake h3) rfl rfl rfl rfl) rfl rfl rfl rfl rfl ?_
  rintro ⟨⟩
  refine L.q 1 rfl ?_
  refine L.nil ?_
  refine E.then ?_
  refine T.bif rfl H4 (fun hc H6 => ?_) (fun hc H6 => ?_)
  · refine T.seq ?_
    refine T.region ?_
    refine L.q 1 rfl ?_
    refine L.nil ?_
    refine E.then ?_
    refine T.ret ?_
    refine E.then_ret ?_
    have hr := Option.some.inj H6
    subst r
    exact E.ret () [] [] (.tmp rfl .nil) rfl rfl rfl
  · refine T.skip ?_
    refine E.then ?_
    refine T.seq ?_
    refine T.region ?_
    refine L.y (Yl.ldb 0 rfl rfl rfl rfl) rfl rfl rfl ?_
    obtain ⟨r7, h8, H9⟩ := bnd H6
    refine L.a [] [0, 1] (Ac.call (c_law16_Cut a_0_0 c_0_0 a_0_1 c_0_1 h8) rfl rfl rfl rfl) rfl rfl rfl rfl rfl ?_
    rintro ⟨⟨a10, c11⟩, ⟨a12, c13⟩⟩
    refine L.a [0] [] (Ac.stb rfl rfl rfl rfl rfl rfl) rfl rfl rfl rfl rfl ?_
    intro _
    refine L.nil ?_
    refine E.then ?_
    refine T.seq ?_
    refine T.region ?_
    refine L.q 1 rfl ?_
    obtain ⟨r16, h17, H18⟩ := bnd H9
    refine L.a [] [] (Ac.call (c_law01_Cut h17) rfl rfl rfl rfl) rfl rfl rfl rfl rfl ?_
    rintro ⟨⟩
    refine L.q 1 rfl ?_
    refine L.nil ?_
    refine E.then ?_
    refine T.seq ?_
    refine T.region ?_
    refine L.y (Yl.ldb 0 rfl rfl rfl rfl) rfl rfl rfl ?_
    refine L.q 1 rfl ?_
    obtain ⟨r19, h20, H21⟩ := bnd H18
    refine L.a [] [0, 1, 4] (Ac.call (c_delta_Apply a10 c11 a12 c13 h20) rfl rfl rfl rfl) rfl rfl rfl rfl rfl ?_
    rintro ⟨⟨a22, c23⟩, ⟨a24, c25⟩⟩
    refine L.q 3 rfl ?_
    refine L.a [] [] (Ac.alloc rfl rfl) rfl rfl rfl rfl rfl ?_
    intro g28
    refine L.a [0] [] (Ac.stb rfl rfl rfl rfl rfl rfl) rfl rfl rfl rfl rfl ?_
    intro _
    refine L.q 1 rfl ?_
    refine L.nil ?_
    refine E.then ?_
    refine T.seq ?_
    refine T.region ?_
    refine L.y (Yl.ldb 1 rfl rfl rfl rfl) rfl rfl rfl ?_
    obtain ⟨r29, h30, H31⟩ := bnd H21
    refine L.a [] [2, 3] (Ac.call (c_law16_Told a10 c11 a12 c13 h30) rfl rfl rfl rfl) rfl rfl rfl rfl rfl ?_
    rintro ⟨⟨a32, c33⟩, ⟨a34, c35⟩⟩
    refine L.q 1 rfl ?_
    obtain ⟨r38, h39, H40⟩ := bnd H31
    refine L.a [] [0, 1] (Ac.call (c_ref17_Apply a32 c33 a34 c35 h39) rfl rfl rfl rfl) rfl rfl rfl rfl rfl ?_
    rintro ⟨⟨a41, c42⟩, ⟨a43, c44⟩⟩
    refine L.q 3 rfl ?_
    refine L.a [] [] (Ac.alloc rfl rfl) rfl rfl rfl rfl rfl ?_
    intro g47
    refine L.a [0] [] (Ac.stb rfl rfl rfl rfl rfl rfl) rfl rfl rfl rfl rfl ?_
    intro _
    refine L.q 1 rfl ?_
    refine L.nil ?_
    refine E.then ?_
    refine T.seq ?_
    obtain ⟨e67, H68, H69⟩ := bnd H40
    refine T.join (η := Unit × Unit) (fun h => True) (fun h => [(4, .bool e67)]) (fun h => [Ch.box g47 32 [.int .i64 r38.1.k, .int .i64 r38.1.w, .int .i64 r38.1.h, .int .i64 r38.1.x, .int .i64 r38.1.y, .string r38.1.title, .slice a41 r38.1.rows.length c42, .int .i64 r38.1.len, .int .i64 r38.1.chain, .slice a43 r38.1.begun.length c44], Ch.box g28 25 [.int .i64 r19.1.k, .int .i64 r19.1.w, .int .i64 r19.1.h, .int .i64 r19.1.x, .int .i64 r19.1.y, .string r19.1.title, .slice a22 r19.1.rows.length c23, .int .i64 r19.1.len, .int .i64 r19.1.chain, .slice a24 r19.1.begun.length c25], Ch.box g1 25 [.int .i64 r7.k, .int .i64 r7.w, .int .i64 r7.h, .int .i64 r7.x, .int .i64 r7.y, .string r7.title, .slice a10 r7.rows.length c11, .int .i64 r7.len, .int .i64 r7.chain, .slice a12 r7.begun.length c13]]) (fun h => [Im.sl tyRef09Row a41 c42 r38.1.rows, Im.sl tyRef09Glyph a43 c44 r38.1.begun, Im.sl tyRef09Row a32 c33 r29.rows, Im.sl tyRef09Glyph a34 c35 r29.begun, Im.sl tyRowRow a22 c23 r19.1.rows, Im.sl tyRowGlyph a24 c25 r19.1.begun, Im.sl tyRowRow a10 c11 r7.rows, Im.sl tyRowGlyph a12 c13 r7.begun, Im.sl tyRowRow a_0_0 c_0_0 a.rows, Im.sl tyRowGlyph a_0_1 c_0_1 a.begun, Im.sl (Ty.int .u32) (some ⟨0, 0, none⟩) 16 t_sum_half]) ?_ ?_
    · refine T.region ?_
      refine L.q 4 rfl ?_
      refine L.cs 31 H68 rfl (fun hc H70 => ?_) (fun hc H70 => ?_)
      · refine L.y (Yl.ldb 1 rfl rfl rfl rfl) rfl rfl rfl ?_
        refine L.y (Yl.ldb 0 rfl rfl rfl rfl) rfl rfl rfl ?_
        obtain ⟨r71, h72, H73⟩ := bnd H70
        refine L.a [] [4, 5, 0, 1] (Ac.call (c_law16_Is a22 c23 a24 c25 a41 c42 a43 c44 h72) rfl rfl rfl rfl) rfl rfl rfl rfl rfl ?_
        rintro ⟨⟩
        refine L.q 2 rfl ?_
        refine L.cs 36 H73 rfl (fun hc H74 => ?_) (fun hc H74 => ?_)
        · refine L.q 3 rfl ?_
          refine L.cs 39 H74 rfl (fun hc H75 => ?_) (fun hc H75 => ?_)
          · refine L.q 8 rfl ?_
            refine L.nil ?_
            have hr := Option.some.inj H75
            subst e67
            exact E.give ((), ()) [0, 0, 0] [0, 1, 2, 3, 4, 5, 6, 7, 8, 9, 10] trivial ⟨rfl, trivial⟩ rfl rfl
          · refine L.y (Yl.ldb 2 rfl rfl rfl rfl) rfl rfl rfl ?_
            refine L.y (Yl.ldb 1 rfl rfl rfl rfl) rfl rfl rfl ?_
            obtain ⟨r76, h77, H78⟩ := bnd H75
            refine L.a [] [6, 7, 4, 5, 10] (Ac.call (c_delta_Diff a10 c11 a12 c13 a22 c23 a24 c25 h77) rfl rfl rfl rfl) rfl rfl rfl rfl rfl ?_
            rintro ⟨⟩
            refine L.q 5 rfl ?_
            refine L.nil ?_
            have hr := Option.some.inj H78
            subst e67
            exact E.give ((), ()) [0, 0, 0] [0, 1, 2, 3, 4, 5, 6, 7, 8, 9, 10] trivial ⟨rfl, trivial⟩ rfl rfl
        · refine L.q 11 rfl ?_
          refine L.nil ?_
          have hr := Option.some.inj H74
          subst e67
          exact E.give ((), ()) [0, 0, 0] [0, 1, 2, 3, 4, 5, 6, 7, 8, 9, 10] trivial ⟨rfl, trivial⟩ rfl rfl
      · refine L.q 16 rfl ?_
        refine L.nil ?_
        have hr := Option.some.inj H70
        subst e67
        exact E.give ((), ()) [0, 0, 0] [0, 1, 2, 3, 4, 5, 6, 7, 8, 9, 10] trivial ⟨rfl, trivial⟩ rfl rfl
    · rintro ⟨_, ⟨⟩⟩ _
      refine T.ret ?_
      have hr := Option.some.inj H69
      subst r
      exact E.ret () [] [] (.tmp rfl .nil) rfl rfl rfl

end Go.Tw.X

set_option maxHeartbeats 2000000
set_option linter.unusedVariables false
set_option linter.unusedSimpArgs false
set_option maxRecDepth 10000
namespace Go.Tw.X
open Go Go.Tw
theorem opn_to {P : Program} {α β : Type} {t : TypeId} {ty : Ty α} {ty' : Ty β} {wf : α → Prop} {wf' : β → Prop} (h : Opn P t ty wf) (g : α → β) (gh : ty.Hid → ty'.Hid) (h1 : ∀ y hh, ty'.cs (g y) (gh hh) = ty.cs y hh) (h2 : ∀ y hh, ty'.im (g y) (gh hh) = ty.im y hh) (h3 : ∀ y, wf y → wf' (g y)) : Opn P t ty' wf' := Opn.to g gh h h1 h2 h3
theorem opn3 : Opn Go.Proofs.Tryd.prog 3 (Ty.int .i64) (inK .i64) := Opn.int (by kernel_rfl)
theorem opn9 : Opn Go.Proofs.Tryd.prog 9 Ty.str (fun s : ByteArray => s.size ≤ maxLen) := Opn.str (by kernel_rfl)
theorem opn21 : Opn Go.Proofs.Tryd.prog 21 (Ty.int .i32) (inK .i32) := Opn.int (by kernel_rfl)
theorem opn116 : Opn Go.Proofs.Tryd.prog 116 tyRowCell wfRowCell := opn_to (β := RowCell) (ty' := tyRowCell) (wf' := wfRowCell) (Opn.struct (fs := [(21, 0), (3, 1), (3, 2)]) (by kernel_rfl) (by kernel_rfl) (.cons opn21 (by kernel_rfl) (.cons opn3 (by kernel_rfl) (.cons opn3 (by kernel_rfl) .nil)))) (fun y => ⟨y.1, y.2.1, y.2.2.1⟩) (fun h => ()) (fun _ _ => rfl) (fun _ _ => rfl) (fun y h => h)
theorem opn55 : Opn Go.Proofs.Tryd.prog 55 (Ty.slice tyRowCell) (fun xs : List RowCell => ∀ x ∈ xs, wfRowCell x) := Opn.slice (by kernel_rfl) opn116 (by kernel_rfl) (by decide)
theorem opn4 : Opn Go.Proofs.Tryd.prog 4 Ty.bool (fun _ => True) := Opn.bool (by kernel_rfl)
theorem opn57 : Opn Go.Proofs.Tryd.prog 57 tyRowRow wfRowRow := opn_to (β := RowRow) (ty' := tyRowRow) (wf' := wfRowRow) (Opn.struct (fs := [(55, 0), (4, 1)]) (by kernel_rfl) (by kernel_rfl) (.cons opn55 (by kernel_rfl) (.cons opn4 (by kernel_rfl) .nil))) (fun y => ⟨y.1, y.2.1⟩) (fun h => h.1) (fun _ _ => rfl) (fun _ _ => rfl) (fun y h => h)
theorem opn22 : Opn Go.Proofs.Tryd.prog 22 (Ty.slice tyRowRow) (fun xs : List RowRow => ∀ x ∈ xs, wfRowRow x) := Opn.slice (by kernel_rfl) opn57 (by kernel_rfl) (by decide)
theorem opn112 : Opn Go.Proofs.Tryd.prog 112 tyRowGlyph wfRowGlyph := opn_to (β := RowGlyph) (ty' := tyRowGlyph) (wf' := wfRowGlyph) (Opn.struct (fs := [(21, 0), (3, 1)]) (by kernel_rfl) (by kernel_rfl) (.cons opn21 (by kernel_rfl) (.cons opn3 (by kernel_rfl) .nil))) (fun y => ⟨y.1, y.2.1⟩) (fun h => ()) (fun _ _ => rfl) (fun _ _ => rfl) (fun y h => h)
theorem opn23 : Opn Go.Proofs.Tryd.prog 23 (Ty.slice tyRowGlyph) (fun xs : List RowGlyph => ∀ x ∈ xs, wfRowGlyph x) := Opn.slice (by kernel_rfl) opn112 (by kernel_rfl) (by decide)
theorem opn25 : Opn Go.Proofs.Tryd.prog 25 tySnapSnap wfSnapSnap := opn_to (β := SnapSnap) (ty' := tySnapSnap) (wf' := wfSnapSnap) (Opn.struct (fs := [(3, 0), (3, 1), (3, 2), (3, 3), (3, 4), (9, 5), (22, 6), (3, 7), (3, 8), (23, 9)]) (by kernel_rfl) (by kernel_rfl) (.cons opn3 (by kernel_rfl) (.cons opn3 (by kernel_rfl) (.cons opn3 (by kernel_rfl) (.cons opn3 (by kernel_rfl) (.cons opn3 (by kernel_rfl) (.cons opn9 (by kernel_rfl) (.cons opn22 (by kernel_rfl) (.cons opn3 (by kernel_rfl) (.cons opn3 (by kernel_rfl) (.cons opn23 (by kernel_rfl) .nil))))))))))) (fun y => ⟨y.1, y.2.1, y.2.2.1, y.2.2.2.1, y.2.2.2.2.1, y.2.2.2.2.2.1, y.2.2.2.2.2.2.1, y.2.2.2.2.2.2.2.1, y.2.2.2.2.2.2.2.2.1, y.2.2.2.2.2.2.2.2.2.1⟩) (fun h => (h.2.2.2.2.2.2.1, h.2.2.2.2.2.2.2.2.2.1)) (fun _ _ => rfl) (fun _ _ => rfl) (fun y h => h)
end Go.Tw.X

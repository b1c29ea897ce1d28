import Derived.Test.YtbjchngfnpgnfaaGreatDoorWk1
set_option maxHeartbeats 2000000
set_option linter.unusedVariables false
set_option linter.unusedSimpArgs false
set_option maxRecDepth 10000
namespace Go.Tw.X
open Go Go.Tw
theorem c_law16_Told {s_ : SnapSnap} (a_0_0 : Option Addr) (c_0_0 : Nat) (a_0_1 : Option Addr) (c_0_1 : Nat) {r : Ref16Snap} (H : p_law16_Told s_ = some r) : CT G 18 [.agg (bx43 s_ a_0_0 c_0_0 a_0_1 c_0_1).toArray] [] [Im.sl tyRowRow a_0_0 c_0_0 s_.rows, Im.sl tyRowGlyph a_0_1 c_0_1 s_.begun] (fun h : (Option Addr × Nat) × (Option Addr × Nat) => .agg (bx33 r h.1.1 h.1.2 h.2.1 h.2.2).toArray) (fun h => []) (fun h => [Im.sl tyRef09Row h.1.1 h.1.2 r.rows, Im.sl tyRef09Glyph h.2.1 h.2.2 r.begun]) := by
  delta p_law16_Told at H
  refine CT.of Go.Proofs.Tryz.func18 (by kernel_rfl) rfl rfl rfl fun K => ?_
  refine T.seq (T.region ?_)
  refine L.a [] [] (Ac.box rfl rfl) rfl rfl rfl rfl rfl ?_
  intro g1
  refine L.a [] [] (Ac.alloc rfl rfl) rfl rfl rfl rfl rfl ?_
  intro g2
  refine L.nil (E.then (T.seq ?_))
  obtain ⟨e83, H84, H85⟩ := bnd H
  refine T.join (η := Unit × (Nat × (Option Addr × Nat) × (Option Addr × Nat))) (fun h => True) (fun h => (fun g76 a77 c78 a80 c81 => [(1, .pointer (some ⟨g1, 0, none⟩)), (2, .pointer (some ⟨g2, 0, none⟩)), (3, .pointer (some ⟨g76, 0, none⟩))]) h.2.1 h.2.2.1.1 h.2.2.1.2 h.2.2.2.1 h.2.2.2.2) (fun h => (fun g76 a77 c78 a80 c81 => [Ch.arr tyRef09Row 97 a77 c78 e83.rows, Ch.arr tyRef09Glyph 122 a80 c81 e83.begun, Ch.box g2 33 [.int .i64 0, .int .i64 0, .int .i64 0, .int .i64 0, .int .i64 0, .string (ByteArray.mk #[]), .slice none 0 0, .int .i64 0, .int .i64 0, .slice none 0 0], Ch.box g1 43 (bx43 s_ a_0_0 c_0_0 a_0_1 c_0_1), Ch.box g76 33 (bx33 e83 a77 c78 a80 c81)]) h.2.1 h.2.2.1.1 h.2.2.1.2 h.2.2.2.1 h.2.2.2.2) (fun h => (fun g76 a77 c78 a80 c81 => [Im.sl tyRowRow a_0_0 c_0_0 s_.rows, Im.sl tyRowGlyph a_0_1 c_0_1 s_.begun]) h.2.1 h.2.2.1.1 h.2.2.1.2 h.2.2.2.1 h.2.2.2.2) ?_ ?_
  · refine T.draw [21] [0, 0] mo (by rfl) rfl ?_
    refine D.q 0 rfl rfl rfl rfl rfl rfl ?_
    refine D.y 1 (Yl.ldb 1 rfl rfl rfl rfl) rfl rfl rfl rfl rfl rfl ?_
    refine D.q 2 rfl rfl rfl rfl rfl rfl ?_
    refine D.y 3 (Yl.ldb 1 rfl rfl rfl rfl) rfl rfl rfl rfl rfl rfl ?_
    refine D.q 4 rfl rfl rfl rfl rfl rfl ?_
    refine D.y 5 (Yl.ldb 1 rfl rfl rfl rfl) rfl rfl rfl rfl rfl rfl ?_
    refine D.q 6 rfl rfl rfl rfl rfl rfl ?_
    refine D.y 7 (Yl.ldb 1 rfl rfl rfl rfl) rfl rfl rfl rfl rfl rfl ?_
    refine D.q 8 rfl rfl rfl rfl rfl rfl ?_
    refine D.y 9 (Yl.ldb 1 rfl rfl rfl rfl) rfl rfl rfl rfl rfl rfl ?_
    refine D.q 10 rfl rfl rfl rfl rfl rfl ?_
    refine D.y 11 (Yl.ldb 1 rfl rfl rfl rfl) rfl rfl rfl rfl rfl rfl ?_
    refine D.q 12 rfl rfl rfl rfl rfl rfl ?_
    refine D.y 13 (Yl.ldb 1 rfl rfl rfl rfl) rfl rfl rfl rfl rfl rfl ?_
    refine D.q 14 rfl rfl rfl rfl rfl rfl ?_
    refine D.y 15 (Yl.ldb 1 rfl rfl rfl rfl) rfl rfl rfl rfl rfl rfl ?_
    refine D.q 16 rfl rfl rfl rfl rfl rfl ?_
    refine D.y 17 (Yl.ldb 1 rfl rfl rfl rfl) rfl rfl rfl rfl rfl rfl ?_
    obtain ⟨r104, h105, H112⟩ := bnd H84
    refine D.two rfl rfl rfl ?_ ?_
    · refine Dp.a [] [1] (Ac.call (c_law14_Told a_0_1 c_0_1 h105) rfl rfl rfl rfl) rfl rfl rfl rfl rfl rfl ?_
      rintro ⟨a114, c115⟩
      refine D.q 19 rfl rfl rfl rfl rfl rfl ?_
      refine D.one rfl rfl rfl (Dp.a [] [] (Ac.alloc rfl rfl) rfl rfl rfl rfl rfl rfl ?_)
      intro g117
      refine D.one rfl rfl rfl (Dp.al [2] [] (Ac.stb rfl rfl rfl rfl rfl rfl) rfl rfl rfl rfl rfl rfl rfl ?_)
      intro _
      refine D.nil rfl rfl ?_
      refine E.nil0 tyRef09Row 97 ?_
      have hr := Option.some.inj H112
      subst e83
      exact E.give ((), (g117, (none, 0), (a114, c115))) [0, 3, 1, 1, 0] [0, 1] trivial ⟨rfl, rfl, rfl, trivial⟩ rfl rfl
    refine Dp.a [] [] (Ac.alloc rfl rfl) rfl rfl rfl rfl rfl rfl ?_
    intro g119
    refine D.one rfl rfl rfl (Dp.a [] [1] (Ac.call (c_law14_Told a_0_1 c_0_1 h105) rfl rfl rfl rfl) rfl rfl rfl rfl rfl rfl ?_)
    rintro ⟨a121, c122⟩
    refine D.q 19 rfl rfl rfl rfl rfl rfl ?_
    refine D.one rfl rfl rfl (Dp.al [3] [] (Ac.stb rfl rfl rfl rfl rfl rfl) rfl rfl rfl rfl rfl rfl rfl ?_)
    intro _
    refine D.nil rfl rfl ?_
    refine E.nil0 tyRef09Row 97 ?_
    have hr := Option.some.inj H112
    subst e83
    exact E.give ((), (g119, (none, 0), (a121, c122))) [0, 3, 1, 1, 0] [0, 1] trivial ⟨rfl, rfl, rfl, trivial⟩ rfl rfl
  rintro ⟨_, ⟨g76, ⟨a77, c78⟩, ⟨a80, c81⟩⟩⟩ _
  refine T.seq (T.seq (T.region ?_))
  refine L.q 1 rfl ?_
  refine L.y (Yl.ldb 3 rfl rfl rfl rfl) rfl rfl rfl ?_
  refine L.q 2 rfl ?_
  refine L.nil (E.then ?_)
  obtain ⟨e389, H390, H391⟩ := bnd H85
  refine T.join (η := Unit × ((Option Addr × Nat))) (fun h => True) (fun h => (fun a385 c386 => [(2, .pointer (some ⟨g2, 0, none⟩)), (3, .pointer (some ⟨g76, 0, none⟩))]) h.2.1 h.2.2) (fun h => (fun a385 c386 => [Ch.arr tyRef09Row 97 a385 c386 e389.rows, Ch.arr tyRef09Glyph 122 a80 c81 e389.begun, Ch.box g2 33 [.int .i64 0, .int .i64 0, .int .i64 0, .int .i64 0, .int .i64 0, .string (ByteArray.mk #[]), .slice none 0 0, .int .i64 0, .int .i64 0, .slice none 0 0], Ch.box g1 43 (bx43 s_ a_0_0 c_0_0 a_0_1 c_0_1), Ch.box g76 33 (bx33 e389 a385 c386 a80 c81)]) h.2.1 h.2.2) (fun h => (fun a385 c386 => [Im.sl tyRowRow a_0_0 c_0_0 s_.rows, Im.sl tyRowGlyph a_0_1 c_0_1 s_.begun]) h.2.1 h.2.2) ?_ ?_
  · refine T.block ?_
    refine T.lp (η := (Option Addr × Nat)) (fun s303 h => (fun a298 c299 => [(2, .pointer (some ⟨g2, 0, none⟩)), (3, .pointer (some ⟨g76, 0, none⟩)), (27, .slice a_0_0 s_.rows.length c_0_0), (28, .int .i64 (s_.rows.length : Int)), (29, .int .i64 s303.2)]) h.1 h.2) (fun s303 h => (fun a298 c299 => [Ch.arr tyRef09Row 97 a298 c299 s303.1.rows, Ch.arr tyRef09Glyph 122 a80 c81 s303.1.begun, Ch.box g2 33 [.int .i64 0, .int .i64 0, .int .i64 0, .int .i64 0, .int .i64 0, .string (ByteArray.mk #[]), .slice none 0 0, .int .i64 0, .int .i64 0, .slice none 0 0], Ch.box g1 43 (bx43 s_ a_0_0 c_0_0 a_0_1 c_0_1), Ch.box g76 33 (bx33 s303.1 a298 c299 a80 c81)]) h.1 h.2) (fun s303 h => (fun a298 c299 => [Im.sl tyRowRow a_0_0 c_0_0 s_.rows, Im.sl tyRowGlyph a_0_1 c_0_1 s_.begun]) h.1 h.2) (a77, c78) [0, 0, 0, 0, 0] [0, 1] H390 ⟨rfl, rfl, rfl, rfl, rfl, trivial⟩ rfl rfl ?_
    rintro k_ s303 ⟨a298, c299⟩ z393 H392 hag394 hbr395
    refine T.seq (T.region ?_)
    refine L.q 1 rfl ?_
    refine L.nil (E.then (T.seq ?_))
    refine T.bif rfl H392 (fun hc H397 => ?_) (fun hc H397 => ?_)
    · refine T.skip (E.then (T.seq (T.block (T.seq (T.region ?_)))))
      obtain ⟨x437, h438, H439⟩ := bnd H397
      refine L.addr 0 rfl (idx_lt h438) fun b440 o441 e442 => ?_
      obtain rfl : a_0_0 = some ⟨b440, o441, none⟩ := e442
      refine L.y (Yl.ia h438 rfl rfl rfl rfl rfl rfl) rfl rfl rfl ?_
      refine L.el 0 rfl (idx_some h438).2 ?_
      rintro ⟨a443, c444⟩
      refine L.y (Yl.ldc 0 0 rfl rfl rfl rfl) rfl rfl rfl ?_
      refine L.a [] [] (Ac.alloc rfl rfl) rfl rfl rfl rfl rfl ?_
      intro g447
      refine L.a [0] [] (Ac.stb rfl rfl rfl rfl rfl rfl) rfl rfl rfl rfl rfl ?_
      intro _
      refine L.nil (E.then ?_)
      refine T.draw [7] [0, 1, 1, 1, 1] mo (by rfl) rfl ?_
      refine D.q 0 rfl rfl rfl rfl rfl rfl ?_
      refine D.y 1 (Yl.ldb 4 rfl rfl rfl rfl) rfl rfl rfl rfl rfl rfl ?_
      refine D.y 2 (Yl.ldb 0 rfl rfl rfl rfl) rfl rfl rfl rfl rfl rfl ?_
      obtain ⟨r462, h463, H464⟩ := bnd H439
      refine D.one rfl rfl rfl (Dp.a [] [1] (Ac.call (c_law09_Told a443 c444 h463) rfl rfl rfl rfl) rfl rfl rfl rfl rfl rfl ?_)
      rintro ⟨a465, c466⟩
      refine D.one rfl rfl rfl (Dp.a [] [0] (Ac.bs (ty := tyRef09Row) (xs := [r462]) (.cons (a465, c466) [0] rfl .nil) rfl rfl rfl rfl rfl rfl rfl) rfl rfl rfl rfl rfl rfl ?_)
      intro g468
      refine D.frz 0 rfl ?_
      obtain ⟨_, h471, H472⟩ := bnd H464
      refine D.one rfl rfl rfl (Dp.a [0] [0] (Ac.ap (ty := tyRef09Row) h471 rfl rfl rfl rfl rfl rfl rfl) rfl rfl rfl rfl rfl rfl ?_)
      rintro ⟨a473, c474⟩
      refine D.q 6 rfl rfl rfl rfl rfl rfl ?_
      refine D.one rfl rfl rfl (Dp.al [4] [] (Ac.stb rfl rfl rfl rfl rfl rfl) rfl rfl rfl rfl rfl rfl rfl ?_)
      intro _
      refine D.nil rfl rfl ?_
      refine E.block (E.then (T.region ?_))
      refine L.q 2 rfl ?_
      refine L.nil ?_
      have hr := Option.some.inj H472
      subst z393
      exact E.give (_, (a473, c474)) [5, 2, 2, 2, 0] [4, 5] (hag394 _ rfl) ⟨rfl, rfl, rfl, rfl, rfl, trivial⟩ rfl rfl
    refine T.exit (E.then_exit' (E.then_exit' (E.block_here ?_)))
    have hr := Option.some.inj H397
    subst z393
    have hb := hbr395 _ rfl
    subst e389
    exact E.give ((), (a298, c299)) [0, 0, 0, 0, 0] [0, 1] trivial ⟨rfl, rfl, trivial⟩ rfl rfl
  rintro ⟨_, ⟨a385, c386⟩⟩ _
  refine T.seq (T.region ?_)
  refine L.y (Yl.ldb 4 rfl rfl rfl rfl) rfl rfl rfl ?_
  refine L.a [2] [] (Ac.stb rfl rfl rfl rfl rfl rfl) rfl rfl rfl rfl rfl ?_
  intro _
  refine L.nil (E.then (T.ret ?_))
  refine E.frz 1 rfl ?_
  refine E.frz 1 rfl ?_
  have hr := Option.some.inj H391
  subst r
  exact E.ret ((a385, c386), (a80, c81)) [] [1, 0] (.cell 0 rfl rfl rfl .nil) rfl rfl rfl

theorem c_ref16_Empty {s_ : Ref16Snap} (a_0_0 : Option Addr) (c_0_0 : Nat) (a_0_1 : Option Addr) (c_0_1 : Nat) {r : Bool} (H : p_ref16_Empty s_ = some r) : CT G 64 [.agg (bx33 s_ a_0_0 c_0_0 a_0_1 c_0_1).toArray] [] [Im.sl tyRef09Row a_0_0 c_0_0 s_.rows, Im.sl tyRef09Glyph a_0_1 c_0_1 s_.begun] (fun h : Unit => .bool r) (fun h => []) (fun h => []) := by
  delta p_ref16_Empty at H
  refine CT.of Go.Proofs.Tryz.func64 (by kernel_rfl) rfl rfl rfl fun K => ?_
  refine T.seq (T.region ?_)
  refine L.a [] [] (Ac.box rfl rfl) rfl rfl rfl rfl rfl ?_
  intro g1
  refine L.q 1 rfl ?_
  refine L.nil (E.then (T.seq ?_))
  obtain ⟨e21, H22, H23⟩ := bnd H
  refine T.join (η := Unit × Unit) (fun h => True) (fun h => [(2, .bool e21)]) (fun h => [Ch.box g1 33 (bx33 s_ a_0_0 c_0_0 a_0_1 c_0_1)]) (fun h => [Im.sl tyRef09Row a_0_0 c_0_0 s_.rows, Im.sl tyRef09Glyph a_0_1 c_0_1 s_.begun]) ?_ ?_
  · refine T.region ?_
    refine L.q 1 rfl ?_
    refine L.y (Yl.ldb 0 rfl rfl rfl rfl) rfl rfl rfl ?_
    refine L.q 2 rfl ?_
    refine L.cs 6 H22 rfl (fun hc H24 => ?_) (fun hc H24 => ?_)
    · refine L.q 1 rfl ?_
      refine L.y (Yl.ldb 0 rfl rfl rfl rfl) rfl rfl rfl ?_
      refine L.q 3 rfl ?_
      refine L.cs 11 H24 rfl (fun hc H25 => ?_) (fun hc H25 => ?_)
      · refine L.q 1 rfl ?_
        refine L.y (Yl.ldb 0 rfl rfl rfl rfl) rfl rfl rfl ?_
        refine L.q 3 rfl ?_
        refine L.cs 16 H25 rfl (fun hc H26 => ?_) (fun hc H26 => ?_)
        · refine L.q 1 rfl ?_
          refine L.y (Yl.ldb 0 rfl rfl rfl rfl) rfl rfl rfl ?_
          refine L.q 3 rfl ?_
          refine L.cs 21 H26 rfl (fun hc H27 => ?_) (fun hc H27 => ?_)
          · refine L.q 1 rfl ?_
            refine L.y (Yl.ldb 0 rfl rfl rfl rfl) rfl rfl rfl ?_
            refine L.q 3 rfl ?_
            refine L.cs 26 H27 rfl (fun hc H28 => ?_) (fun hc H28 => ?_)
            · refine L.q 1 rfl ?_
              refine L.y (Yl.ldb 0 rfl rfl rfl rfl) rfl rfl rfl ?_
              refine L.q 3 rfl ?_
              refine L.cs 31 H28 rfl (fun hc H29 => ?_) (fun hc H29 => ?_)
              · refine L.q 1 rfl ?_
                refine L.y (Yl.ldb 0 rfl rfl rfl rfl) rfl rfl rfl ?_
                refine L.q 4 rfl ?_
                refine L.cs 37 H29 rfl (fun hc H30 => ?_) (fun hc H30 => ?_)
                · refine L.q 1 rfl ?_
                  refine L.y (Yl.ldb 0 rfl rfl rfl rfl) rfl rfl rfl ?_
                  refine L.q 3 rfl ?_
                  refine L.cs 42 H30 rfl (fun hc H31 => ?_) (fun hc H31 => ?_)
                  · refine L.q 1 rfl ?_
                    refine L.y (Yl.ldb 0 rfl rfl rfl rfl) rfl rfl rfl ?_
                    refine L.q 3 rfl ?_
                    refine L.cs 47 H31 rfl (fun hc H32 => ?_) (fun hc H32 => ?_)
                    · refine L.q 1 rfl ?_
                      refine L.y (Yl.ldb 0 rfl rfl rfl rfl) rfl rfl rfl ?_
                      refine L.q 4 rfl ?_
                      refine L.nil ?_
                      have hr := Option.some.inj H32
                      subst e21
                      exact E.give ((), ()) [0] [0, 1] trivial ⟨rfl, trivial⟩ rfl rfl
                    refine L.q 6 rfl ?_
                    refine L.nil ?_
                    have hr := Option.some.inj H32
                    subst e21
                    exact E.give ((), ()) [0] [0, 1] trivial ⟨rfl, trivial⟩ rfl rfl
                  refine L.q 11 rfl ?_
                  refine L.nil ?_
                  have hr := Option.some.inj H31
                  subst e21
                  exact E.give ((), ()) [0] [0, 1] trivial ⟨rfl, trivial⟩ rfl rfl
                refine L.q 16 rfl ?_
                refine L.nil ?_
                have hr := Option.some.inj H30
                subst e21
                exact E.give ((), ()) [0] [0, 1] trivial ⟨rfl, trivial⟩ rfl rfl
              refine L.q 22 rfl ?_
              refine L.nil ?_
              have hr := Option.some.inj H29
              subst e21
              exact E.give ((), ()) [0] [0, 1] trivial ⟨rfl, trivial⟩ rfl rfl
            refine L.q 27 rfl ?_
            refine L.nil ?_
            have hr := Option.some.inj H28
            subst e21
            exact E.give ((), ()) [0] [0, 1] trivial ⟨rfl, trivial⟩ rfl rfl
          refine L.q 32 rfl ?_
          refine L.nil ?_
          have hr := Option.some.inj H27
          subst e21
          exact E.give ((), ()) [0] [0, 1] trivial ⟨rfl, trivial⟩ rfl rfl
        refine L.q 37 rfl ?_
        refine L.nil ?_
        have hr := Option.some.inj H26
        subst e21
        exact E.give ((), ()) [0] [0, 1] trivial ⟨rfl, trivial⟩ rfl rfl
      refine L.q 42 rfl ?_
      refine L.nil ?_
      have hr := Option.some.inj H25
      subst e21
      exact E.give ((), ()) [0] [0, 1] trivial ⟨rfl, trivial⟩ rfl rfl
    refine L.q 47 rfl ?_
    refine L.nil ?_
    have hr := Option.some.inj H24
    subst e21
    exact E.give ((), ()) [0] [0, 1] trivial ⟨rfl, trivial⟩ rfl rfl
  rintro ⟨_, ⟨⟩⟩ _
  refine T.ret ?_
  have hr := Option.some.inj H23
  subst r
  exact E.ret () [] [] (.tmp rfl .nil) rfl rfl rfl

theorem c_ref16_May {s_ : Ref16Snap} (a_0_0 : Option Addr) (c_0_0 : Nat) (a_0_1 : Option Addr) (c_0_1 : Nat) {r : Bool} (H : p_ref16_May s_ = some r) : CT G 39 [.agg (bx33 s_ a_0_0 c_0_0 a_0_1 c_0_1).toArray] [] [Im.sl tyRef09Row a_0_0 c_0_0 s_.rows, Im.sl tyRef09Glyph a_0_1 c_0_1 s_.begun] (fun h : Unit => .bool r) (fun h => []) (fun h => []) := by
  delta p_ref16_May at H
  refine CT.of Go.Proofs.Tryz.func39 (by kernel_rfl) rfl rfl rfl fun K => ?_
  refine T.seq (T.region ?_)
  refine L.a [] [] (Ac.box rfl rfl) rfl rfl rfl rfl rfl ?_
  intro g1
  refine L.q 1 rfl ?_
  refine L.nil (E.then (T.seq (T.seq (T.region ?_))))
  refine L.y (Yl.ldb 0 rfl rfl rfl rfl) rfl rfl rfl ?_
  obtain ⟨r2, h3, H4⟩ := bnd H
  refine L.a [] [0, 1] (Ac.call (c_ref16_Empty a_0_0 c_0_0 a_0_1 c_0_1 h3) rfl rfl rfl rfl) rfl rfl rfl rfl rfl ?_
  rintro ⟨⟩
  refine L.nil (E.then ?_)
  refine T.bif rfl H4 (fun hc H6 => ?_) (fun hc H6 => ?_)
  · refine T.seq (T.region ?_)
    refine L.q 1 rfl ?_
    refine L.nil (E.then (T.ret (E.then_ret ?_)))
    have hr := Option.some.inj H6
    subst r
    exact E.ret () [] [] (.tmp rfl .nil) rfl rfl rfl
  refine T.skip (E.then (T.seq (T.seq ?_)))
  obtain ⟨e28, H29, H30⟩ := bnd H6
  refine T.join (η := Unit × Unit) (fun h => True) (fun h => [(1, .pointer (some ⟨g1, 0, none⟩)), (70, .bool e28)]) (fun h => [Ch.box g1 33 (bx33 s_ a_0_0 c_0_0 a_0_1 c_0_1)]) (fun h => [Im.sl tyRef09Row a_0_0 c_0_0 s_.rows, Im.sl tyRef09Glyph a_0_1 c_0_1 s_.begun]) ?_ ?_
  · refine T.region ?_
    refine L.q 1 rfl ?_
    refine L.y (Yl.ldb 0 rfl rfl rfl rfl) rfl rfl rfl ?_
    refine L.q 2 rfl ?_
    refine L.cs 14 H29 rfl (fun hc H31 => ?_) (fun hc H31 => ?_)
    · refine L.q 56 rfl ?_
      refine L.nil ?_
      have hr := Option.some.inj H31
      subst e28
      exact E.give ((), ()) [0] [0, 1] trivial ⟨rfl, rfl, trivial⟩ rfl rfl
    refine L.q 1 rfl ?_
    refine L.y (Yl.ldb 0 rfl rfl rfl rfl) rfl rfl rfl ?_
    refine L.q 3 rfl ?_
    refine L.cs 19 H31 rfl (fun hc H32 => ?_) (fun hc H32 => ?_)
    · refine L.q 51 rfl ?_
      refine L.nil ?_
      have hr := Option.some.inj H32
      subst e28
      exact E.give ((), ()) [0] [0, 1] trivial ⟨rfl, rfl, trivial⟩ rfl rfl
    refine L.q 1 rfl ?_
    refine L.y (Yl.ldb 0 rfl rfl rfl rfl) rfl rfl rfl ?_
    refine L.q 3 rfl ?_
    refine L.cs 24 H32 rfl (fun hc H33 => ?_) (fun hc H33 => ?_)
    · refine L.q 46 rfl ?_
      refine L.nil ?_
      have hr := Option.some.inj H33
      subst e28
      exact E.give ((), ()) [0] [0, 1] trivial ⟨rfl, rfl, trivial⟩ rfl rfl
    refine L.q 1 rfl ?_
    refine L.y (Yl.ldb 0 rfl rfl rfl rfl) rfl rfl rfl ?_
    refine L.q 3 rfl ?_
    refine L.cs 29 H33 rfl (fun hc H34 => ?_) (fun hc H34 => ?_)
    · refine L.q 41 rfl ?_
      refine L.nil ?_
      have hr := Option.some.inj H34
      subst e28
      exact E.give ((), ()) [0] [0, 1] trivial ⟨rfl, rfl, trivial⟩ rfl rfl
    refine L.q 1 rfl ?_
    refine L.y (Yl.ldb 0 rfl rfl rfl rfl) rfl rfl rfl ?_
    refine L.q 3 rfl ?_
    refine L.cs 34 H34 rfl (fun hc H35 => ?_) (fun hc H35 => ?_)
    · refine L.q 36 rfl ?_
      refine L.nil ?_
      have hr := Option.some.inj H35
      subst e28
      exact E.give ((), ()) [0] [0, 1] trivial ⟨rfl, rfl, trivial⟩ rfl rfl
    refine L.q 1 rfl ?_
    refine L.y (Yl.ldb 0 rfl rfl rfl rfl) rfl rfl rfl ?_
    refine L.q 3 rfl ?_
    refine L.cs 39 H35 rfl (fun hc H36 => ?_) (fun hc H36 => ?_)
    · refine L.q 31 rfl ?_
      refine L.nil ?_
      have hr := Option.some.inj H36
      subst e28
      exact E.give ((), ()) [0] [0, 1] trivial ⟨rfl, rfl, trivial⟩ rfl rfl
    refine L.q 1 rfl ?_
    refine L.y (Yl.ldb 0 rfl rfl rfl rfl) rfl rfl rfl ?_
    refine L.q 3 rfl ?_
    refine L.cs 44 H36 rfl (fun hc H37 => ?_) (fun hc H37 => ?_)
    · refine L.q 26 rfl ?_
      refine L.nil ?_
      have hr := Option.some.inj H37
      subst e28
      exact E.give ((), ()) [0] [0, 1] trivial ⟨rfl, rfl, trivial⟩ rfl rfl
    refine L.q 1 rfl ?_
    refine L.y (Yl.ldb 0 rfl rfl rfl rfl) rfl rfl rfl ?_
    refine L.q 1 rfl ?_
    refine L.y (Yl.ldb 0 rfl rfl rfl rfl) rfl rfl rfl ?_
    refine L.q 3 rfl ?_
    refine L.cs 51 H37 rfl (fun hc H38 => ?_) (fun hc H38 => ?_)
    · refine L.q 19 rfl ?_
      refine L.nil ?_
      have hr := Option.some.inj H38
      subst e28
      exact E.give ((), ()) [0] [0, 1] trivial ⟨rfl, rfl, trivial⟩ rfl rfl
    refine L.q 1 rfl ?_
    refine L.y (Yl.ldb 0 rfl rfl rfl rfl) rfl rfl rfl ?_
    refine L.q 3 rfl ?_
    refine L.cs 56 H38 rfl (fun hc H39 => ?_) (fun hc H39 => ?_)
    · refine L.q 14 rfl ?_
      refine L.nil ?_
      have hr := Option.some.inj H39
      subst e28
      exact E.give ((), ()) [0] [0, 1] trivial ⟨rfl, rfl, trivial⟩ rfl rfl
    refine L.q 1 rfl ?_
    refine L.y (Yl.ldb 0 rfl rfl rfl rfl) rfl rfl rfl ?_
    refine L.q 1 rfl ?_
    refine L.y (Yl.ldb 0 rfl rfl rfl rfl) rfl rfl rfl ?_
    refine L.q 3 rfl ?_
    refine L.cs 63 H39 rfl (fun hc H40 => ?_) (fun hc H40 => ?_)
    · refine L.q 7 rfl ?_
      refine L.nil ?_
      have hr := Option.some.inj H40
      subst e28
      exact E.give ((), ()) [0] [0, 1] trivial ⟨rfl, rfl, trivial⟩ rfl rfl
    refine L.q 1 rfl ?_
    refine L.y (Yl.ldb 0 rfl rfl rfl rfl) rfl rfl rfl ?_
    refine L.q 2 rfl ?_
    refine L.y (Yl.ldb 0 rfl rfl rfl rfl) rfl rfl rfl ?_
    refine L.q 2 rfl ?_
    refine L.nil ?_
    have hr := Option.some.inj H40
    subst e28
    exact E.give ((), ()) [0] [0, 1] trivial ⟨rfl, rfl, trivial⟩ rfl rfl
  rintro ⟨_, ⟨⟩⟩ _
  refine T.bif rfl H30 (fun hc H42 => ?_) (fun hc H42 => ?_)
  · refine T.seq (T.region ?_)
    refine L.q 1 rfl ?_
    refine L.nil (E.then (T.ret (E.then_ret ?_)))
    have hr := Option.some.inj H42
    subst r
    exact E.ret () [] [] (.tmp rfl .nil) rfl rfl rfl
  refine T.skip (E.then (T.seq (T.seq ?_)))
  obtain ⟨e54, H55, H56⟩ := bnd H42
  refine T.join (η := Unit × Unit) (fun h => True) (fun h => [(1, .pointer (some ⟨g1, 0, none⟩)), (100, .bool e54)]) (fun h => [Ch.box g1 33 (bx33 s_ a_0_0 c_0_0 a_0_1 c_0_1)]) (fun h => [Im.sl tyRef09Row a_0_0 c_0_0 s_.rows, Im.sl tyRef09Glyph a_0_1 c_0_1 s_.begun]) ?_ ?_
  · refine T.region ?_
    refine L.q 1 rfl ?_
    refine L.y (Yl.ldb 0 rfl rfl rfl rfl) rfl rfl rfl ?_
    refine L.q 3 rfl ?_
    refine L.cs 75 H55 rfl (fun hc H57 => ?_) (fun hc H57 => ?_)
    · refine L.q 25 rfl ?_
      refine L.nil ?_
      have hr := Option.some.inj H57
      subst e54
      exact E.give ((), ()) [0] [0, 1] trivial ⟨rfl, rfl, trivial⟩ rfl rfl
    refine L.q 1 rfl ?_
    refine L.y (Yl.ldb 0 rfl rfl rfl rfl) rfl rfl rfl ?_
    refine L.q 3 rfl ?_
    refine L.cs 80 H57 rfl (fun hc H58 => ?_) (fun hc H58 => ?_)
    · refine L.q 20 rfl ?_
      refine L.nil ?_
      have hr := Option.some.inj H58
      subst e54
      exact E.give ((), ()) [0] [0, 1] trivial ⟨rfl, rfl, trivial⟩ rfl rfl
    refine L.q 1 rfl ?_
    refine L.y (Yl.ldb 0 rfl rfl rfl rfl) rfl rfl rfl ?_
    refine L.q 3 rfl ?_
    refine L.cs 85 H58 rfl (fun hc H59 => ?_) (fun hc H59 => ?_)
    · refine L.q 15 rfl ?_
      refine L.nil ?_
      have hr := Option.some.inj H59
      subst e54
      exact E.give ((), ()) [0] [0, 1] trivial ⟨rfl, rfl, trivial⟩ rfl rfl
    refine L.q 1 rfl ?_
    refine L.y (Yl.ldb 0 rfl rfl rfl rfl) rfl rfl rfl ?_
    refine L.q 3 rfl ?_
    refine L.cs 90 H59 rfl (fun hc H60 => ?_) (fun hc H60 => ?_)
    · refine L.q 10 rfl ?_
      refine L.nil ?_
      have hr := Option.some.inj H60
      subst e54
      exact E.give ((), ()) [0] [0, 1] trivial ⟨rfl, rfl, trivial⟩ rfl rfl
    refine L.q 1 rfl ?_
    refine L.y (Yl.ldb 0 rfl rfl rfl rfl) rfl rfl rfl ?_
    refine L.q 3 rfl ?_
    refine L.cs 95 H60 rfl (fun hc H61 => ?_) (fun hc H61 => ?_)
    · refine L.q 5 rfl ?_
      refine L.nil ?_
      have hr := Option.some.inj H61
      subst e54
      exact E.give ((), ()) [0] [0, 1] trivial ⟨rfl, rfl, trivial⟩ rfl rfl
    refine L.q 1 rfl ?_
    refine L.y (Yl.ldb 0 rfl rfl rfl rfl) rfl rfl rfl ?_
    refine L.q 3 rfl ?_
    refine L.nil ?_
    have hr := Option.some.inj H61
    subst e54
    exact E.give ((), ()) [0] [0, 1] trivial ⟨rfl, rfl, trivial⟩ rfl rfl
  rintro ⟨_, ⟨⟩⟩ _
  refine T.bif rfl H56 (fun hc H63 => ?_) (fun hc H63 => ?_)
  · refine T.seq (T.region ?_)
    refine L.q 1 rfl ?_
    refine L.nil (E.then (T.ret (E.then_ret ?_)))
    have hr := Option.some.inj H63
    subst r
    exact E.ret () [] [] (.tmp rfl .nil) rfl rfl rfl
  refine T.skip (E.then (T.seq (T.seq (T.region ?_))))
  refine L.q 1 rfl ?_
  refine L.y (Yl.ldb 0 rfl rfl rfl rfl) rfl rfl rfl ?_
  refine L.q 2 rfl ?_
  refine L.nil (E.then ?_)
  obtain ⟨y207, H208, H209⟩ := bnd H63
  refine T.join (η := Unit × Unit) (fun h => y207 = .inl h.1) (fun h => (fun e206 => [(1, .pointer (some ⟨g1, 0, none⟩))]) h.1) (fun h => (fun e206 => [Ch.box g1 33 (bx33 s_ a_0_0 c_0_0 a_0_1 c_0_1)]) h.1) (fun h => (fun e206 => [Im.sl tyRef09Row a_0_0 c_0_0 s_.rows, Im.sl tyRef09Glyph a_0_1 c_0_1 s_.begun]) h.1) ?_ ?_
  · refine T.block ?_
    refine T.lp (η := Unit) (fun s159 h => [(1, .pointer (some ⟨g1, 0, none⟩)), (102, .slice a_0_1 s_.begun.length c_0_1), (103, .int .i64 (s_.begun.length : Int)), (104, .int .i64 s159)]) (fun s159 h => [Ch.box g1 33 (bx33 s_ a_0_0 c_0_0 a_0_1 c_0_1)]) (fun s159 h => [Im.sl tyRef09Row a_0_0 c_0_0 s_.rows, Im.sl tyRef09Glyph a_0_1 c_0_1 s_.begun]) () [0] [0, 1] H208 ⟨rfl, rfl, rfl, rfl, trivial⟩ rfl rfl ?_
    rintro k_ s159 ⟨⟩ z211 H210 hag212 hbr213
    refine T.seq (T.region ?_)
    refine L.q 1 rfl ?_
    refine L.nil (E.then (T.seq ?_))
    refine T.bif rfl H210 (fun hc H215 => ?_) (fun hc H215 => ?_)
    · refine T.skip (E.then (T.seq (T.block (T.seq (T.region ?_)))))
      obtain ⟨x238, h239, H240⟩ := bnd H215
      refine L.addr 1 rfl (idx_lt h239) fun b241 o242 e243 => ?_
      obtain rfl : a_0_1 = some ⟨b241, o242, none⟩ := e243
      refine L.y (Yl.ia h239 rfl rfl rfl rfl rfl rfl) rfl rfl rfl ?_
      refine L.el 1 rfl (idx_some h239).2 ?_
      rintro _
      refine L.y (Yl.ldc 0 0 rfl rfl rfl rfl) rfl rfl rfl ?_
      refine L.a [] [] (Ac.alloc rfl rfl) rfl rfl rfl rfl rfl ?_
      intro g245
      refine L.a [0] [] (Ac.stb rfl rfl rfl rfl rfl rfl) rfl rfl rfl rfl rfl ?_
      intro _
      refine L.nil (E.then (T.seq ?_))
      obtain ⟨e253, H254, H255⟩ := bnd H240
      refine T.join (η := Unit × Unit) (fun h => True) (fun h => [(1, .pointer (some ⟨g1, 0, none⟩)), (102, .slice (some ⟨b241, o242, none⟩) s_.begun.length c_0_1), (103, .int .i64 (s_.begun.length : Int)), (104, .int .i64 s159), (125, .bool e253)]) (fun h => [Ch.box g245 122 [.int .i64 x238.rune, .int .i64 x238.style], Ch.box g1 33 [.int .i64 s_.k, .int .i64 s_.w, .int .i64 s_.h, .int .i64 s_.x, .int .i64 s_.y, .string s_.title, .slice a_0_0 s_.rows.length c_0_0, .int .i64 s_.len, .int .i64 s_.chain, .slice (some ⟨b241, o242, none⟩) s_.begun.length c_0_1]]) (fun h => [Im.cells b241 (o242 + s159.toNat * 2) [.int .i64 x238.rune, .int .i64 x238.style], Im.sl tyRef09Row a_0_0 c_0_0 s_.rows, Im.sl tyRef09Glyph (some ⟨b241, o242, none⟩) c_0_1 s_.begun]) ?_ ?_
      · refine T.region ?_
        refine L.q 1 rfl ?_
        refine L.y (Yl.ldb 0 rfl rfl rfl rfl) rfl rfl rfl ?_
        refine L.q 2 rfl ?_
        refine L.cs 111 H254 rfl (fun hc H256 => ?_) (fun hc H256 => ?_)
        · refine L.q 14 rfl ?_
          refine L.nil ?_
          have hr := Option.some.inj H256
          subst e253
          exact E.give ((), ()) [0, 0] [0, 1, 2] trivial ⟨rfl, rfl, rfl, rfl, rfl, trivial⟩ rfl rfl
        refine L.q 1 rfl ?_
        refine L.y (Yl.ldb 0 rfl rfl rfl rfl) rfl rfl rfl ?_
        refine L.q 3 rfl ?_
        refine L.cs 116 H256 rfl (fun hc H257 => ?_) (fun hc H257 => ?_)
        · refine L.q 9 rfl ?_
          refine L.nil ?_
          have hr := Option.some.inj H257
          subst e253
          exact E.give ((), ()) [0, 0] [0, 1, 2] trivial ⟨rfl, rfl, rfl, rfl, rfl, trivial⟩ rfl rfl
        refine L.q 1 rfl ?_
        refine L.y (Yl.ldb 0 rfl rfl rfl rfl) rfl rfl rfl ?_
        refine L.q 3 rfl ?_
        refine L.cs 121 H257 rfl (fun hc H258 => ?_) (fun hc H258 => ?_)
        · refine L.q 4 rfl ?_
          refine L.nil ?_
          have hr := Option.some.inj H258
          subst e253
          exact E.give ((), ()) [0, 0] [0, 1, 2] trivial ⟨rfl, rfl, rfl, rfl, rfl, trivial⟩ rfl rfl
        refine L.q 1 rfl ?_
        refine L.y (Yl.ldb 0 rfl rfl rfl rfl) rfl rfl rfl ?_
        refine L.q 2 rfl ?_
        refine L.nil ?_
        have hr := Option.some.inj H258
        subst e253
        exact E.give ((), ()) [0, 0] [0, 1, 2] trivial ⟨rfl, rfl, rfl, rfl, rfl, trivial⟩ rfl rfl
      rintro ⟨_, ⟨⟩⟩ _
      refine T.bif rfl H255 (fun hc H259 => ?_) (fun hc H259 => ?_)
      · refine T.seq (T.region ?_)
        refine L.q 1 rfl ?_
        refine L.nil (E.then (T.ret (E.block_ret (E.then_ret (E.then_ret (E.block_ret ?_))))))
        obtain ⟨w260, hz, H261⟩ := inrr_some H259
        subst z211
        have hb := hbr213 _ rfl
        subst y207
        have hw : w260 = r := Option.some.inj H209
        subst w260
        refine E.then_ret ?_
        have hr := Option.some.inj H261
        subst r
        exact E.ret () [] [] (.tmp rfl .nil) rfl rfl rfl
      refine T.skip (E.block (E.then (T.region ?_)))
      refine L.q 2 rfl ?_
      refine L.nil ?_
      have hr := Option.some.inj H259
      subst z211
      exact E.give (_, ()) [1] [1, 2] (hag212 _ rfl) ⟨rfl, rfl, rfl, rfl, trivial⟩ rfl rfl
    refine T.exit (E.then_exit' (E.then_exit' (E.block_here ?_)))
    have hr := Option.some.inj H215
    subst z211
    have hb := hbr213 _ rfl
    subst y207
    exact E.give (_, ()) [0] [0, 1] rfl ⟨rfl, trivial⟩ rfl rfl
  rintro ⟨e206, ⟨⟩⟩ hy
  subst hy
  refine T.seq (T.seq (T.region ?_))
  refine L.q 1 rfl ?_
  refine L.y (Yl.ldb 0 rfl rfl rfl rfl) rfl rfl rfl ?_
  refine L.q 2 rfl ?_
  refine L.nil (E.then ?_)
  obtain ⟨y1827, H1828, H1829⟩ := bnd H209
  refine T.join (η := Unit × Unit) (fun h => y1827 = .inl h.1) (fun h => (fun e1826 => []) h.1) (fun h => (fun e1826 => [Ch.box g1 33 (bx33 s_ a_0_0 c_0_0 a_0_1 c_0_1)]) h.1) (fun h => (fun e1826 => [Im.sl tyRef09Row a_0_0 c_0_0 s_.rows, Im.sl tyRef09Glyph a_0_1 c_0_1 s_.begun]) h.1) ?_ ?_
  · refine T.block ?_
    refine T.lp (η := Unit) (fun s1305 h => [(1, .pointer (some ⟨g1, 0, none⟩)), (128, .slice a_0_0 s_.rows.length c_0_0), (129, .int .i64 (s_.rows.length : Int)), (130, .int .i64 s1305)]) (fun s1305 h => [Ch.box g1 33 (bx33 s_ a_0_0 c_0_0 a_0_1 c_0_1)]) (fun s1305 h => [Im.sl tyRef09Row a_0_0 c_0_0 s_.rows, Im.sl tyRef09Glyph a_0_1 c_0_1 s_.begun]) () [0] [0, 1] H1828 ⟨rfl, rfl, rfl, rfl, trivial⟩ rfl rfl ?_
    rintro k_ s1305 ⟨⟩ z1831 H1830 hag1832 hbr1833
    refine T.seq (T.region ?_)
    refine L.q 1 rfl ?_
    refine L.nil (E.then (T.seq ?_))
    refine T.bif rfl H1830 (fun hc H1835 => ?_) (fun hc H1835 => ?_)
    · refine T.skip (E.then (T.seq (T.block (T.seq (T.region ?_)))))
      obtain ⟨x2095, h2096, H2097⟩ := bnd H1835
      refine L.addr 0 rfl (idx_lt h2096) fun b2098 o2099 e2100 => ?_
      obtain rfl : a_0_0 = some ⟨b2098, o2099, none⟩ := e2100
      refine L.y (Yl.ia h2096 rfl rfl rfl rfl rfl rfl) rfl rfl rfl ?_
      refine L.el 0 rfl (idx_some h2096).2 ?_
      rintro ⟨a2101, c2102⟩
      refine L.y (Yl.ldc 0 0 rfl rfl rfl rfl) rfl rfl rfl ?_
      refine L.a [] [] (Ac.alloc rfl rfl) rfl rfl rfl rfl rfl ?_
      intro g2105
      refine L.a [0] [] (Ac.stb rfl rfl rfl rfl rfl rfl) rfl rfl rfl rfl rfl ?_
      intro _
      refine L.nil (E.then (T.seq (T.seq (T.region ?_))))
      refine L.q 1 rfl ?_
      refine L.y (Yl.ldb 0 rfl rfl rfl rfl) rfl rfl rfl ?_
      refine L.q 2 rfl ?_
      refine L.y (Yl.ldb 1 rfl rfl rfl rfl) rfl rfl rfl ?_
      refine L.q 1 rfl ?_
      refine L.nil (E.then ?_)
      refine T.bif rfl H2097 (fun hc H2107 => ?_) (fun hc H2107 => ?_)
      · refine T.seq (T.region ?_)
        refine L.q 1 rfl ?_
        refine L.nil (E.then (T.ret (E.then_ret (E.block_ret (E.then_ret (E.then_ret (E.block_ret ?_)))))))
        obtain ⟨w2108, hz, H2109⟩ := inrr_some H2107
        subst z1831
        have hb := hbr1833 _ rfl
        subst y1827
        have hw : w2108 = r := Option.some.inj H1829
        subst w2108
        refine E.then_ret ?_
        have hr := Option.some.inj H2109
        subst r
        exact E.ret () [] [] (.tmp rfl .nil) rfl rfl rfl
      refine T.skip (E.then (T.seq (T.region ?_)))
      refine L.q 1 rfl ?_
      refine L.y (Yl.ldb 0 rfl rfl rfl rfl) rfl rfl rfl ?_
      refine L.q 2 rfl ?_
      refine L.nil (E.then ?_)
      obtain ⟨y2289, H2290, H2291⟩ := bnd H2107
      refine T.joinE (η := Unit × Unit) (fun h => y2289 = .inl h.1) (fun h => (fun e2288 => [(1, .pointer (some ⟨g1, 0, none⟩)), (128, .slice (some ⟨b2098, o2099, none⟩) s_.rows.length c_0_0), (129, .int .i64 (s_.rows.length : Int)), (130, .int .i64 s1305)]) h.1) (fun h => (fun e2288 => [Ch.box g2105 97 [.slice a2101 x2095.l.length c2102, .bool x2095.wrapped], Ch.box g1 33 [.int .i64 s_.k, .int .i64 s_.w, .int .i64 s_.h, .int .i64 s_.x, .int .i64 s_.y, .string s_.title, .slice (some ⟨b2098, o2099, none⟩) s_.rows.length c_0_0, .int .i64 s_.len, .int .i64 s_.chain, .slice a_0_1 s_.begun.length c_0_1]]) h.1) (fun h => (fun e2288 => [Im.cells b2098 (o2099 + s1305.toNat * 2) [.slice a2101 x2095.l.length c2102, .bool x2095.wrapped], Im.sl tyRef09Cell a2101 c2102 x2095.l, Im.sl tyRef09Row (some ⟨b2098, o2099, none⟩) c_0_0 s_.rows, Im.sl tyRef09Glyph a_0_1 c_0_1 s_.begun]) h.1) ?_ ?_
      · refine T.block ?_
        refine T.lp (η := Unit) (fun s2229 h => [(1, .pointer (some ⟨g1, 0, none⟩)), (128, .slice (some ⟨b2098, o2099, none⟩) s_.rows.length c_0_0), (129, .int .i64 (s_.rows.length : Int)), (130, .int .i64 s1305), (141, .slice a2101 x2095.l.length c2102), (142, .int .i64 (x2095.l.length : Int)), (143, .int .i64 s2229)]) (fun s2229 h => [Ch.box g2105 97 [.slice a2101 x2095.l.length c2102, .bool x2095.wrapped], Ch.box g1 33 [.int .i64 s_.k, .int .i64 s_.w, .int .i64 s_.h, .int .i64 s_.x, .int .i64 s_.y, .string s_.title, .slice (some ⟨b2098, o2099, none⟩) s_.rows.length c_0_0, .int .i64 s_.len, .int .i64 s_.chain, .slice a_0_1 s_.begun.length c_0_1]]) (fun s2229 h => [Im.cells b2098 (o2099 + s1305.toNat * 2) [.slice a2101 x2095.l.length c2102, .bool x2095.wrapped], Im.sl tyRef09Cell a2101 c2102 x2095.l, Im.sl tyRef09Row (some ⟨b2098, o2099, none⟩) c_0_0 s_.rows, Im.sl tyRef09Glyph a_0_1 c_0_1 s_.begun]) () [0, 0] [0, 1, 2, 3] H2290 ⟨rfl, rfl, rfl, rfl, rfl, rfl, rfl, trivial⟩ rfl rfl ?_
        rintro k_ s2229 ⟨⟩ z2293 H2292 hag2294 hbr2295
        refine T.seq (T.region ?_)
        refine L.q 1 rfl ?_
        refine L.nil (E.then (T.seq ?_))
        refine T.bif rfl H2292 (fun hc H2297 => ?_) (fun hc H2297 => ?_)
        · refine T.skip (E.then (T.seq (T.block (T.seq (T.region ?_)))))
          obtain ⟨x2326, h2327, H2328⟩ := bnd H2297
          refine L.addr 1 rfl (idx_lt h2327) fun b2329 o2330 e2331 => ?_
          obtain rfl : a2101 = some ⟨b2329, o2330, none⟩ := e2331
          refine L.y (Yl.ia h2327 rfl rfl rfl rfl rfl rfl) rfl rfl rfl ?_
          refine L.el 1 rfl (idx_some h2327).2 ?_
          rintro _
          refine L.y (Yl.ldc 0 0 rfl rfl rfl rfl) rfl rfl rfl ?_
          refine L.a [] [] (Ac.alloc rfl rfl) rfl rfl rfl rfl rfl ?_
          intro g2333
          refine L.a [0] [] (Ac.stb rfl rfl rfl rfl rfl rfl) rfl rfl rfl rfl rfl ?_
          intro _
          refine L.nil (E.then (T.seq ?_))
          obtain ⟨e2345, H2346, H2347⟩ := bnd H2328
          refine T.join (η := Unit × Unit) (fun h => True) (fun h => [(1, .pointer (some ⟨g1, 0, none⟩)), (128, .slice (some ⟨b2098, o2099, none⟩) s_.rows.length c_0_0), (129, .int .i64 (s_.rows.length : Int)), (130, .int .i64 s1305), (141, .slice (some ⟨b2329, o2330, none⟩) x2095.l.length c2102), (142, .int .i64 (x2095.l.length : Int)), (143, .int .i64 s2229), (174, .bool e2345)]) (fun h => [Ch.box g2333 124 [.int .i64 x2326.rune, .int .i64 x2326.style, .int .i64 x2326.part], Ch.box g2105 97 [.slice (some ⟨b2329, o2330, none⟩) x2095.l.length c2102, .bool x2095.wrapped], Ch.box g1 33 [.int .i64 s_.k, .int .i64 s_.w, .int .i64 s_.h, .int .i64 s_.x, .int .i64 s_.y, .string s_.title, .slice (some ⟨b2098, o2099, none⟩) s_.rows.length c_0_0, .int .i64 s_.len, .int .i64 s_.chain, .slice a_0_1 s_.begun.length c_0_1]]) (fun h => [Im.cells b2329 (o2330 + s2229.toNat * 3) [.int .i64 x2326.rune, .int .i64 x2326.style, .int .i64 x2326.part], Im.cells b2098 (o2099 + s1305.toNat * 2) [.slice (some ⟨b2329, o2330, none⟩) x2095.l.length c2102, .bool x2095.wrapped], Im.sl tyRef09Cell (some ⟨b2329, o2330, none⟩) c2102 x2095.l, Im.sl tyRef09Row (some ⟨b2098, o2099, none⟩) c_0_0 s_.rows, Im.sl tyRef09Glyph a_0_1 c_0_1 s_.begun]) ?_ ?_
          · refine T.region ?_
            refine L.q 1 rfl ?_
            refine L.y (Yl.ldb 0 rfl rfl rfl rfl) rfl rfl rfl ?_
            refine L.q 2 rfl ?_
            refine L.cs 150 H2346 rfl (fun hc H2348 => ?_) (fun hc H2348 => ?_)
            · refine L.q 24 rfl ?_
              refine L.nil ?_
              have hr := Option.some.inj H2348
              subst e2345
              exact E.give ((), ()) [0, 0, 0] [0, 1, 2, 3, 4] trivial ⟨rfl, rfl, rfl, rfl, rfl, rfl, rfl, rfl, trivial⟩ rfl rfl
            refine L.q 1 rfl ?_
            refine L.y (Yl.ldb 0 rfl rfl rfl rfl) rfl rfl rfl ?_
            refine L.q 3 rfl ?_
            refine L.cs 155 H2348 rfl (fun hc H2349 => ?_) (fun hc H2349 => ?_)
            · refine L.q 19 rfl ?_
              refine L.nil ?_
              have hr := Option.some.inj H2349
              subst e2345
              exact E.give ((), ()) [0, 0, 0] [0, 1, 2, 3, 4] trivial ⟨rfl, rfl, rfl, rfl, rfl, rfl, rfl, rfl, trivial⟩ rfl rfl
            refine L.q 1 rfl ?_
            refine L.y (Yl.ldb 0 rfl rfl rfl rfl) rfl rfl rfl ?_
            refine L.q 3 rfl ?_
            refine L.cs 160 H2349 rfl (fun hc H2350 => ?_) (fun hc H2350 => ?_)
            · refine L.q 14 rfl ?_
              refine L.nil ?_
              have hr := Option.some.inj H2350
              subst e2345
              exact E.give ((), ()) [0, 0, 0] [0, 1, 2, 3, 4] trivial ⟨rfl, rfl, rfl, rfl, rfl, rfl, rfl, rfl, trivial⟩ rfl rfl
            refine L.q 1 rfl ?_
            refine L.y (Yl.ldb 0 rfl rfl rfl rfl) rfl rfl rfl ?_
            refine L.q 3 rfl ?_
            refine L.cs 165 H2350 rfl (fun hc H2351 => ?_) (fun hc H2351 => ?_)
            · refine L.q 9 rfl ?_
              refine L.nil ?_
              have hr := Option.some.inj H2351
              subst e2345
              exact E.give ((), ()) [0, 0, 0] [0, 1, 2, 3, 4] trivial ⟨rfl, rfl, rfl, rfl, rfl, rfl, rfl, rfl, trivial⟩ rfl rfl
            refine L.q 1 rfl ?_
            refine L.y (Yl.ldb 0 rfl rfl rfl rfl) rfl rfl rfl ?_
            refine L.q 3 rfl ?_
            refine L.cs 170 H2351 rfl (fun hc H2352 => ?_) (fun hc H2352 => ?_)
            · refine L.q 4 rfl ?_
              refine L.nil ?_
              have hr := Option.some.inj H2352
              subst e2345
              exact E.give ((), ()) [0, 0, 0] [0, 1, 2, 3, 4] trivial ⟨rfl, rfl, rfl, rfl, rfl, rfl, rfl, rfl, trivial⟩ rfl rfl
            refine L.q 1 rfl ?_
            refine L.y (Yl.ldb 0 rfl rfl rfl rfl) rfl rfl rfl ?_
            refine L.q 2 rfl ?_
            refine L.nil ?_
            have hr := Option.some.inj H2352
            subst e2345
            exact E.give ((), ()) [0, 0, 0] [0, 1, 2, 3, 4] trivial ⟨rfl, rfl, rfl, rfl, rfl, rfl, rfl, rfl, trivial⟩ rfl rfl
          rintro ⟨_, ⟨⟩⟩ _
          refine T.bif rfl H2347 (fun hc H2353 => ?_) (fun hc H2353 => ?_)
          · refine T.seq (T.region ?_)
            refine L.q 1 rfl ?_
            refine L.nil (E.then (T.ret (E.block_ret (E.then_ret (E.then_ret (E.block_ret ?_))))))
            obtain ⟨w2354, hz, H2355⟩ := inrr_some H2353
            subst z2293
            have hb := hbr2295 _ rfl
            subst y2289
            have hw : w2354 = z1831 := Option.some.inj H2291
            subst w2354
            refine E.then_ret (E.block_ret (E.then_ret (E.then_ret (E.block_ret ?_))))
            obtain ⟨w2356, hz, H2357⟩ := inrr_some H2355
            subst z1831
            have hb := hbr1833 _ rfl
            subst y1827
            have hw : w2356 = r := Option.some.inj H1829
            subst w2356
            refine E.then_ret ?_
            have hr := Option.some.inj H2357
            subst r
            exact E.ret () [] [] (.tmp rfl .nil) rfl rfl rfl
          refine T.skip (E.block (E.then (T.region ?_)))
          refine L.q 2 rfl ?_
          refine L.nil ?_
          have hr := Option.some.inj H2353
          subst z2293
          exact E.give (_, ()) [1, 1] [1, 2, 3, 4] (hag2294 _ rfl) ⟨rfl, rfl, rfl, rfl, rfl, rfl, rfl, trivial⟩ rfl rfl
        refine T.exit (E.then_exit' (E.then_exit' (E.block_here ?_)))
        have hr := Option.some.inj H2297
        subst z2293
        have hb := hbr2295 _ rfl
        subst y2289
        exact E.give (_, ()) [0, 0] [0, 1, 2, 3] rfl ⟨rfl, rfl, rfl, rfl, trivial⟩ rfl rfl
      rintro ⟨e2288, ⟨⟩⟩ hy
      subst hy
      refine E.block (E.then (T.region ?_))
      refine L.q 2 rfl ?_
      refine L.nil ?_
      have hr := Option.some.inj H2291
      subst z1831
      exact E.give (_, ()) [1] [2, 3] (hag1832 _ rfl) ⟨rfl, rfl, rfl, rfl, trivial⟩ rfl rfl
    refine T.exit (E.then_exit' (E.then_exit' (E.block_here ?_)))
    have hr := Option.some.inj H1835
    subst z1831
    have hb := hbr1833 _ rfl
    subst y1827
    exact E.give (_, ()) [0] [0, 1] rfl trivial rfl rfl
  rintro ⟨e1826, ⟨⟩⟩ hy
  subst hy
  refine T.seq (T.region ?_)
  refine L.q 1 rfl ?_
  refine L.nil (E.then (T.ret ?_))
  have hr := Option.some.inj H1829
  subst r
  exact E.ret () [] [] (.tmp rfl .nil) rfl rfl rfl

theorem c_ref19_Note {s_ : Ref19Sender} {x_ : Ref16Snap} (a_0_0 : Option Addr) (c_0_0 : Nat) (a_0_1 : Option Addr) (c_0_1 : Nat) (a_0_2 : Option Addr) (c_0_2 : Nat) (a_0_3 : Option Addr) (c_0_3 : Nat) (a_0_4 : Option Addr) (c_0_4 : Nat) (a_0_5 : Option Addr) (c_0_5 : Nat) (a_0_6 : Option Addr) (c_0_6 : Nat) (a_1_0 : Option Addr) (c_1_0 : Nat) (a_1_1 : Option Addr) (c_1_1 : Nat) {r : Ref19Sender × Bool} (H : p_ref19_Note s_ x_ = some r) : CT G 17 [.agg (bx38 s_ a_0_0 c_0_0 a_0_1 c_0_1 a_0_2 c_0_2 a_0_3 c_0_3 a_0_4 c_0_4 a_0_5 c_0_5 a_0_6 c_0_6).toArray, .agg (bx33 x_ a_1_0 c_1_0 a_1_1 c_1_1).toArray] [] [Im.sl tyRef09Row a_0_0 c_0_0 s_.current.rows, Im.sl tyRef09Glyph a_0_1 c_0_1 s_.current.begun, Im.sl tyRef09Row a_0_2 c_0_2 s_.acked.rows, Im.sl tyRef09Glyph a_0_3 c_0_3 s_.acked.begun, Im.sl tyRef16Snap a_0_4 c_0_4 s_.kept, Im.sl Ty.str a_0_5 c_0_5 s_.parts, Im.sl Ty.bool a_0_6 c_0_6 s_.there, Im.sl tyRef09Row a_1_0 c_1_0 x_.rows, Im.sl tyRef09Glyph a_1_1 c_1_1 x_.begun] (fun h : (Option Addr × Nat) × (Option Addr × Nat) => .tuple #[.agg (bx38 r.1 h.1.1 h.1.2 h.2.1 h.2.2 a_0_2 c_0_2 a_0_3 c_0_3 a_0_4 c_0_4 a_0_5 c_0_5 a_0_6 c_0_6).toArray, .bool r.2]) (fun h => []) (fun h => [Im.sl tyRef09Row h.1.1 h.1.2 r.1.current.rows, Im.sl tyRef09Glyph h.2.1 h.2.2 r.1.current.begun, Im.sl tyRef09Row a_0_2 c_0_2 r.1.acked.rows, Im.sl tyRef09Glyph a_0_3 c_0_3 r.1.acked.begun, Im.sl tyRef16Snap a_0_4 c_0_4 r.1.kept, Im.sl Ty.str a_0_5 c_0_5 r.1.parts, Im.sl Ty.bool a_0_6 c_0_6 r.1.there]) := by
  delta p_ref19_Note at H
  refine CT.of Go.Proofs.Tryz.func17 (by kernel_rfl) rfl rfl rfl fun K => ?_
  refine T.seq (T.region ?_)
  refine L.a [] [] (Ac.box rfl rfl) rfl rfl rfl rfl rfl ?_
  intro g1
  refine L.a [] [] (Ac.box rfl rfl) rfl rfl rfl rfl rfl ?_
  intro g2
  refine L.a [] [] (Ac.alloc rfl rfl) rfl rfl rfl rfl rfl ?_
  intro g3
  refine L.q 1 rfl ?_
  refine L.nil (E.then (T.seq (T.seq ?_)))
  obtain ⟨e13, H14, H15⟩ := bnd H
  refine T.join (η := Unit × Unit) (fun h => True) (fun h => [(2, .pointer (some ⟨g1, 0, none⟩)), (3, .pointer (some ⟨g2, 0, none⟩)), (4, .pointer (some ⟨g3, 0, none⟩)), (16, .bool e13)]) (fun h => [Ch.box g3 38 [.int .i64 0, .int .i64 0, .int .i64 0, .int .i64 0, .int .i64 0, .int .i64 0, .int .i64 0, .int .i64 0, .string (ByteArray.mk #[]), .slice none 0 0, .int .i64 0, .int .i64 0, .slice none 0 0, .int .i64 0, .int .i64 0, .int .i64 0, .int .i64 0, .int .i64 0, .string (ByteArray.mk #[]), .slice none 0 0, .int .i64 0, .int .i64 0, .slice none 0 0, .slice none 0 0, .int .i64 0, .int .i64 0, .int .i64 0, .slice none 0 0, .slice none 0 0, .int .i64 0, .int .i64 0], Ch.box g2 33 (bx33 x_ a_1_0 c_1_0 a_1_1 c_1_1), Ch.box g1 38 (bx38 s_ a_0_0 c_0_0 a_0_1 c_0_1 a_0_2 c_0_2 a_0_3 c_0_3 a_0_4 c_0_4 a_0_5 c_0_5 a_0_6 c_0_6)]) (fun h => [Im.sl tyRef09Row a_0_0 c_0_0 s_.current.rows, Im.sl tyRef09Glyph a_0_1 c_0_1 s_.current.begun, Im.sl tyRef09Row a_0_2 c_0_2 s_.acked.rows, Im.sl tyRef09Glyph a_0_3 c_0_3 s_.acked.begun, Im.sl tyRef16Snap a_0_4 c_0_4 s_.kept, Im.sl Ty.str a_0_5 c_0_5 s_.parts, Im.sl Ty.bool a_0_6 c_0_6 s_.there, Im.sl tyRef09Row a_1_0 c_1_0 x_.rows, Im.sl tyRef09Glyph a_1_1 c_1_1 x_.begun]) ?_ ?_
  · refine T.region ?_
    refine L.y (Yl.ldb 1 rfl rfl rfl rfl) rfl rfl rfl ?_
    obtain ⟨r16, h17, H18⟩ := bnd H14
    refine L.a [] [7, 8] (Ac.call (c_ref16_May a_1_0 c_1_0 a_1_1 c_1_1 h17) rfl rfl rfl rfl) rfl rfl rfl rfl rfl ?_
    rintro ⟨⟩
    refine L.q 2 rfl ?_
    refine L.cs 9 H18 rfl (fun hc H19 => ?_) (fun hc H19 => ?_)
    · refine L.q 7 rfl ?_
      refine L.nil ?_
      have hr := Option.some.inj H19
      subst e13
      exact E.give ((), ()) [0, 0, 0] [0, 1, 2, 3, 4, 5, 6, 7, 8] trivial ⟨rfl, rfl, rfl, rfl, trivial⟩ rfl rfl
    refine L.q 1 rfl ?_
    refine L.y (Yl.ldb 1 rfl rfl rfl rfl) rfl rfl rfl ?_
    refine L.q 2 rfl ?_
    refine L.y (Yl.ldb 2 rfl rfl rfl rfl) rfl rfl rfl ?_
    refine L.q 2 rfl ?_
    refine L.nil ?_
    have hr := Option.some.inj H19
    subst e13
    exact E.give ((), ()) [0, 0, 0] [0, 1, 2, 3, 4, 5, 6, 7, 8] trivial ⟨rfl, rfl, rfl, rfl, trivial⟩ rfl rfl
  rintro ⟨_, ⟨⟩⟩ _
  refine T.bif rfl H15 (fun hc H21 => ?_) (fun hc H21 => ?_)
  · refine T.seq (T.region ?_)
    refine L.y (Yl.ldb 2 rfl rfl rfl rfl) rfl rfl rfl ?_
    refine L.a [0] [] (Ac.stb rfl rfl rfl rfl rfl rfl) rfl rfl rfl rfl rfl ?_
    intro _
    refine L.q 1 rfl ?_
    refine L.nil (E.then (T.ret (E.then_ret ?_)))
    have hr := Option.some.inj H21
    subst r
    exact E.ret ((a_0_0, c_0_0), (a_0_1, c_0_1)) [] [0, 1, 2, 3, 4, 5, 6] (.cell 0 rfl rfl rfl (.tmp rfl .nil)) rfl rfl rfl
  refine T.skip (E.then (T.seq (T.region ?_)))
  refine L.y (Yl.ldb 1 rfl rfl rfl rfl) rfl rfl rfl ?_
  refine L.q 1 rfl ?_
  refine L.a [2] [] (Ac.stb rfl rfl rfl rfl rfl rfl) rfl rfl rfl rfl rfl ?_
  intro _
  refine L.nil (E.then (T.seq (T.region ?_)))
  refine L.y (Yl.ldb 0 rfl rfl rfl rfl) rfl rfl rfl ?_
  refine L.a [1] [] (Ac.stb rfl rfl rfl rfl rfl rfl) rfl rfl rfl rfl rfl ?_
  intro _
  refine L.q 1 rfl ?_
  refine L.nil (E.then (T.ret ?_))
  have hr := Option.some.inj H21
  subst r
  exact E.ret ((a_1_0, c_1_0), (a_1_1, c_1_1)) [] [7, 8, 2, 3, 4, 5, 6] (.cell 0 rfl rfl rfl (.tmp rfl .nil)) rfl rfl rfl

theorem c_ref01_Num {n_ : Int} {r : ByteArray} (H : p_ref01_Num n_ = some r) : CT G 67 [.int .i64 n_] [] [] (fun h : Unit => .string r) (fun h => []) (fun h => []) := by
  delta p_ref01_Num at H
  refine CT.of Go.Proofs.Tryz.func67 (by kernel_rfl) rfl rfl rfl fun K => ?_
  refine T.seq (T.region ?_)
  refine L.q 1 rfl ?_
  refine L.nil (E.then (T.seq (T.region ?_)))
  refine L.q 4 rfl ?_
  refine L.nil (E.then (T.seq (T.region ?_)))
  refine L.a [] [] (Ac.bs (ty := (Ty.int .u8)) (xs := []) .nil rfl rfl rfl rfl rfl rfl rfl) rfl rfl rfl rfl rfl ?_
  intro g1
  refine L.q 1 rfl ?_
  refine L.nil (E.then (T.seq ?_))
  obtain ⟨e54, H55, H56⟩ := bnd H
  refine T.join (η := Unit × ((Option Addr × Nat))) (fun h => True) (fun h => (fun a51 c52 => [(0, .int .i64 e54.1), (3, .slice a51 e54.2.length c52)]) h.2.1 h.2.2) (fun h => (fun a51 c52 => [Ch.arr (Ty.int .u8) 5 a51 c52 e54.2]) h.2.1 h.2.2) (fun h => (fun a51 c52 => []) h.2.1 h.2.2) ?_ ?_
  · refine T.block ?_
    refine T.lp (η := (Option Addr × Nat)) (fun s38 h => (fun a35 c36 => [(0, .int .i64 s38.1), (3, .slice a35 s38.2.length c36)]) h.1 h.2) (fun s38 h => (fun a35 c36 => [Ch.arr (Ty.int .u8) 5 a35 c36 s38.2]) h.1 h.2) (fun s38 h => (fun a35 c36 => []) h.1 h.2) ((some ⟨g1, 0, none⟩), 0) [0] [] H55 ⟨rfl, rfl, trivial⟩ rfl rfl ?_
    rintro k_ s38 ⟨a35, c36⟩ z58 H57 hag59 hbr60
    refine T.seq (T.seq (T.region ?_))
    refine L.q 2 rfl ?_
    refine L.nil (E.then ?_)
    refine T.bif rfl H57 (fun hc H62 => ?_) (fun hc H62 => ?_)
    · refine T.skip (E.then (T.block (T.seq (T.region ?_))))
      refine L.q 5 rfl ?_
      refine L.a [] [] (Ac.bs (ty := (Ty.int .u8)) (xs := [(IntKind.u8.wrap (IntKind.i64.wrap (128 + (s38.1.tmod 128))))]) (.cons () [] rfl .nil) rfl rfl rfl rfl rfl rfl rfl) rfl rfl rfl rfl rfl ?_
      intro g63
      refine L.frz 0 rfl ?_
      obtain ⟨_, h66, H67⟩ := bnd H62
      refine L.a [0] [0] (Ac.ap (ty := (Ty.int .u8)) h66 rfl rfl rfl rfl rfl rfl rfl) rfl rfl rfl rfl rfl ?_
      rintro ⟨a68, c69⟩
      refine L.q 1 rfl ?_
      refine L.nil (E.then (T.region ?_))
      refine L.q 3 rfl ?_
      refine L.nil (E.block ?_)
      have hr := Option.some.inj H67
      subst z58
      exact E.give (_, (a68, c69)) [0] [] (hag59 _ rfl) ⟨rfl, rfl, trivial⟩ rfl rfl
    refine T.exit (E.then_exit' (E.then_exit' (E.block_here ?_)))
    have hr := Option.some.inj H62
    subst z58
    have hb := hbr60 _ rfl
    subst e54
    exact E.give ((), (a35, c36)) [0] [] trivial ⟨rfl, rfl, trivial⟩ rfl rfl
  rintro ⟨_, ⟨a51, c52⟩⟩ _
  refine T.seq (T.region ?_)
  refine L.q 3 rfl ?_
  refine L.a [] [] (Ac.bs (ty := (Ty.int .u8)) (xs := [(IntKind.u8.wrap e54.1)]) (.cons () [] rfl .nil) rfl rfl rfl rfl rfl rfl rfl) rfl rfl rfl rfl rfl ?_
  intro g71
  refine L.frz 0 rfl ?_
  obtain ⟨_, h74, H75⟩ := bnd H56
  refine L.a [0] [0] (Ac.ap (ty := (Ty.int .u8)) h74 rfl rfl rfl rfl rfl rfl rfl) rfl rfl rfl rfl rfl ?_
  rintro ⟨a76, c77⟩
  refine L.y (Yl.bs 0 rfl rfl rfl rfl rfl rfl rfl rfl rfl) rfl rfl rfl ?_
  refine L.q 1 rfl ?_
  refine L.nil (E.then (T.ret ?_))
  have hr := Option.some.inj H75
  subst r
  exact E.ret () [] [] (.tmp rfl .nil) rfl rfl rfl

theorem c_ref01_Text {s_ : ByteArray} {r : ByteArray} (H : p_ref01_Text s_ = some r) : CT G 69 [.string s_] [] [] (fun h : Unit => .string r) (fun h => []) (fun h => []) := by
  delta p_ref01_Text at H
  refine CT.of Go.Proofs.Tryz.func69 (by kernel_rfl) rfl rfl rfl fun K => ?_
  refine T.seq (T.region ?_)
  refine L.q 1 rfl ?_
  refine L.nil (E.then (T.seq (T.region ?_)))
  refine L.q 2 rfl ?_
  obtain ⟨r1, h2, H3⟩ := bnd H
  refine L.a [] [] (Ac.call (c_ref01_Num h2) rfl rfl rfl rfl) rfl rfl rfl rfl rfl ?_
  rintro ⟨⟩
  refine L.q 1 rfl ?_
  obtain ⟨_, h4, H5⟩ := bnd H3
  refine L.y (Yl.sa h4 rfl rfl rfl) rfl rfl rfl ?_
  refine L.q 1 rfl ?_
  refine L.nil (E.then (T.ret ?_))
  have hr := Option.some.inj H5
  subst r
  exact E.ret () [] [] (.tmp rfl .nil) rfl rfl rfl

theorem c_ref12_Pack {l : List Ref09Glyph} (a_0 : Option Addr) (c_0 : Nat) {r : ByteArray} (H : p_ref12_Pack l = some r) : CT G 70 [.slice a_0 l.length c_0] [] [Im.sl tyRef09Glyph a_0 c_0 l] (fun h : Unit => .string r) (fun h => []) (fun h => []) := by
  delta p_ref12_Pack at H
  refine CT.of Go.Proofs.Tryz.func70 (by kernel_rfl) rfl rfl rfl fun K => ?_
  refine T.seq (T.region ?_)
  refine L.q 1 rfl ?_
  refine L.nil (E.then (T.seq (T.region ?_)))
  refine L.q 2 rfl ?_
  obtain ⟨r1, h2, H3⟩ := bnd H
  refine L.a [] [] (Ac.call (c_ref01_Num h2) rfl rfl rfl rfl) rfl rfl rfl rfl rfl ?_
  rintro ⟨⟩
  refine L.q 1 rfl ?_
  refine L.nil (E.then (T.seq (T.seq (T.region ?_))))
  refine L.q 3 rfl ?_
  refine L.nil (E.then ?_)
  obtain ⟨e186, H187, H188⟩ := bnd H3
  refine T.join (η := Unit × Unit) (fun h => True) (fun h => [(3, .string e186)]) (fun h => []) (fun h => [Im.sl tyRef09Glyph a_0 c_0 l]) ?_ ?_
  · refine T.block ?_
    refine T.lp (η := Unit) (fun s126 h => [(3, .string s126.2), (9, .slice a_0 l.length c_0), (10, .int .i64 (l.length : Int)), (11, .int .i64 s126.1)]) (fun s126 h => []) (fun s126 h => [Im.sl tyRef09Glyph a_0 c_0 l]) () [] [0] H187 ⟨rfl, rfl, rfl, rfl, trivial⟩ rfl rfl ?_
    rintro k_ s126 ⟨⟩ z190 H189 hag191 hbr192
    refine T.seq (T.region ?_)
    refine L.q 1 rfl ?_
    refine L.nil (E.then (T.seq ?_))
    refine T.bif rfl H189 (fun hc H194 => ?_) (fun hc H194 => ?_)
    · refine T.skip (E.then (T.seq (T.block (T.seq (T.region ?_)))))
      obtain ⟨x223, h224, H225⟩ := bnd H194
      refine L.addr 0 rfl (idx_lt h224) fun b226 o227 e228 => ?_
      obtain rfl : a_0 = some ⟨b226, o227, none⟩ := e228
      refine L.y (Yl.ia h224 rfl rfl rfl rfl rfl rfl) rfl rfl rfl ?_
      refine L.el 0 rfl (idx_some h224).2 ?_
      rintro _
      refine L.y (Yl.ldc 0 0 rfl rfl rfl rfl) rfl rfl rfl ?_
      refine L.a [] [] (Ac.alloc rfl rfl) rfl rfl rfl rfl rfl ?_
      intro g230
      refine L.a [0] [] (Ac.stb rfl rfl rfl rfl rfl rfl) rfl rfl rfl rfl rfl ?_
      intro _
      refine L.nil (E.then ?_)
      refine T.draw [] [0] mo (by rfl) rfl ?_
      refine D.q 0 rfl rfl rfl rfl rfl rfl ?_
      refine D.q 1 rfl rfl rfl rfl rfl rfl ?_
      refine D.y 2 (Yl.ldb 0 rfl rfl rfl rfl) rfl rfl rfl rfl rfl rfl ?_
      refine D.q 4 rfl rfl rfl rfl rfl rfl ?_
      refine D.y 5 (Yl.ldb 0 rfl rfl rfl rfl) rfl rfl rfl rfl rfl rfl ?_
      obtain ⟨r241, h242, H243⟩ := bnd H225
      refine D.one rfl rfl rfl (Dp.a [] [] (Ac.call (c_ref01_Num h242) rfl rfl rfl rfl) rfl rfl rfl rfl rfl rfl ?_)
      rintro ⟨⟩
      obtain ⟨r244, h245, H246⟩ := bnd H243
      refine D.one rfl rfl rfl (Dp.a [] [] (Ac.call (c_ref01_Num h245) rfl rfl rfl rfl) rfl rfl rfl rfl rfl rfl ?_)
      rintro ⟨⟩
      obtain ⟨_, h247, H248⟩ := bnd H246
      refine D.y 7 (Yl.sa h247 rfl rfl rfl) rfl rfl rfl rfl rfl rfl ?_
      obtain ⟨_, h249, H250⟩ := bnd H248
      refine D.y 8 (Yl.sa h249 rfl rfl rfl) rfl rfl rfl rfl rfl rfl ?_
      refine D.q 9 rfl rfl rfl rfl rfl rfl ?_
      refine D.nil rfl rfl ?_
      refine E.block (E.then (T.region ?_))
      refine L.q 2 rfl ?_
      refine L.nil ?_
      have hr := Option.some.inj H250
      subst z190
      exact E.give (_, ()) [] [1] (hag191 _ rfl) ⟨rfl, rfl, rfl, rfl, trivial⟩ rfl rfl
    refine T.exit (E.then_exit' (E.then_exit' (E.block_here ?_)))
    have hr := Option.some.inj H194
    subst z190
    have hb := hbr192 _ rfl
    subst e186
    exact E.give ((), ()) [] [0] trivial ⟨rfl, trivial⟩ rfl rfl
  rintro ⟨_, ⟨⟩⟩ _
  refine T.seq (T.region ?_)
  refine L.q 2 rfl ?_
  refine L.nil (E.then (T.ret ?_))
  have hr := Option.some.inj H188
  subst r
  exact E.ret () [] [] (.tmp rfl .nil) rfl rfl rfl

theorem c_ref16_PackRow {r_ : Ref09Row} (a_0_0 : Option Addr) (c_0_0 : Nat) {r : ByteArray} (H : p_ref16_PackRow r_ = some r) : CT G 71 [.agg #[.slice a_0_0 r_.l.length c_0_0, .bool r_.wrapped]] [] [Im.sl tyRef09Cell a_0_0 c_0_0 r_.l] (fun h : Unit => .string r) (fun h => []) (fun h => []) := by
  delta p_ref16_PackRow at H
  refine CT.of Go.Proofs.Tryz.func71 (by kernel_rfl) rfl rfl rfl fun K => ?_
  refine T.seq (T.region ?_)
  refine L.a [] [] (Ac.box rfl rfl) rfl rfl rfl rfl rfl ?_
  intro g1
  refine L.q 1 rfl ?_
  refine L.nil (E.then (T.seq (T.region ?_)))
  refine L.q 1 rfl ?_
  refine L.nil (E.then (T.seq (T.seq (T.region ?_))))
  refine L.q 1 rfl ?_
  refine L.y (Yl.ldb 0 rfl rfl rfl rfl) rfl rfl rfl ?_
  refine L.nil (E.then ?_)
  obtain ⟨e5, H6, H7⟩ := bnd H
  refine T.join (η := Unit × Unit) (fun h => True) (fun h => [(1, .pointer (some ⟨g1, 0, none⟩)), (3, .string e5)]) (fun h => [Ch.box g1 97 [.slice a_0_0 r_.l.length c_0_0, .bool r_.wrapped]]) (fun h => [Im.sl tyRef09Cell a_0_0 c_0_0 r_.l]) ?_ ?_
  · refine T.bif rfl H6 (fun hc H8 => ?_) (fun hc H8 => ?_)
    · refine T.region ?_
      refine L.q 1 rfl ?_
      refine L.nil ?_
      have hr := Option.some.inj H8
      subst e5
      exact E.give ((), ()) [0] [0] trivial ⟨rfl, rfl, trivial⟩ rfl rfl
    refine T.skip ?_
    have hr := Option.some.inj H8
    subst e5
    exact E.give ((), ()) [0] [0] trivial ⟨rfl, rfl, trivial⟩ rfl rfl
  rintro ⟨_, ⟨⟩⟩ _
  refine T.seq (T.region ?_)
  refine L.q 1 rfl ?_
  refine L.nil (E.then (T.seq (T.seq (T.region ?_))))
  refine L.q 1 rfl ?_
  refine L.y (Yl.ldb 0 rfl rfl rfl rfl) rfl rfl rfl ?_
  refine L.q 2 rfl ?_
  refine L.nil (E.then ?_)
  obtain ⟨e1157, H1158, H1159⟩ := bnd H7
  refine T.join (η := Unit × Unit) (fun h => True) (fun h => [(3, .string e1157)]) (fun h => [Ch.box g1 97 [.slice a_0_0 r_.l.length c_0_0, .bool r_.wrapped]]) (fun h => [Im.sl tyRef09Cell a_0_0 c_0_0 r_.l]) ?_ ?_
  · refine T.block ?_
    refine T.lp (η := Unit) (fun s776 h => [(1, .pointer (some ⟨g1, 0, none⟩)), (3, .string s776.2.1), (4, .int .i64 s776.2.2), (10, .slice a_0_0 r_.l.length c_0_0), (11, .int .i64 (r_.l.length : Int)), (12, .int .i64 s776.1)]) (fun s776 h => [Ch.box g1 97 [.slice a_0_0 r_.l.length c_0_0, .bool r_.wrapped]]) (fun s776 h => [Im.sl tyRef09Cell a_0_0 c_0_0 r_.l]) () [0] [0] H1158 ⟨rfl, rfl, rfl, rfl, rfl, rfl, trivial⟩ rfl rfl ?_
    rintro k_ s776 ⟨⟩ z1161 H1160 hag1162 hbr1163
    refine T.seq (T.region ?_)
    refine L.q 1 rfl ?_
    refine L.nil (E.then (T.seq ?_))
    refine T.bif rfl H1160 (fun hc H1165 => ?_) (fun hc H1165 => ?_)
    · refine T.skip (E.then (T.seq ?_))
      obtain ⟨e1416, H1417, H1418⟩ := bnd H1165
      refine T.join (η := Unit × Unit) (fun h => True) (fun h => [(1, .pointer (some ⟨g1, 0, none⟩)), (3, .string e1416.1), (4, .int .i64 e1416.2), (10, .slice a_0_0 r_.l.length c_0_0), (11, .int .i64 (r_.l.length : Int)), (12, .int .i64 s776.1)]) (fun h => [Ch.box g1 97 [.slice a_0_0 r_.l.length c_0_0, .bool r_.wrapped]]) (fun h => [Im.sl tyRef09Cell a_0_0 c_0_0 r_.l]) ?_ ?_
      · refine T.block (T.seq (T.region ?_))
        refine L.q 1 rfl ?_
        obtain ⟨x1419, h1420, H1421⟩ := bnd H1417
        refine L.addr 0 rfl (idx_lt h1420) fun b1422 o1423 e1424 => ?_
        obtain rfl : a_0_0 = some ⟨b1422, o1423, none⟩ := e1424
        refine L.y (Yl.ia h1420 rfl rfl rfl rfl rfl rfl) rfl rfl rfl ?_
        refine L.el 0 rfl (idx_some h1420).2 ?_
        rintro _
        refine L.y (Yl.ldc 0 0 rfl rfl rfl rfl) rfl rfl rfl ?_
        refine L.a [] [] (Ac.alloc rfl rfl) rfl rfl rfl rfl rfl ?_
        intro g1426
        refine L.q 1 rfl ?_
        refine L.a [0] [] (Ac.stb rfl rfl rfl rfl rfl rfl) rfl rfl rfl rfl rfl ?_
        intro _
        refine L.nil (E.then (T.seq (T.region ?_)))
        refine L.q 3 rfl ?_
        refine L.nil (E.then (T.seq (T.seq ?_)))
        obtain ⟨e1448, H1449, H1450⟩ := bnd H1421
        refine T.join (η := Unit × Unit) (fun h => True) (fun h => [(1, .pointer (some ⟨g1, 0, none⟩)), (3, .string s776.2.1), (4, .int .i64 (IntKind.i64.wrap (s776.2.2 + 1))), (6, .pointer (some ⟨g1426, 0, none⟩)), (10, .slice (some ⟨b1422, o1423, none⟩) r_.l.length c_0_0), (11, .int .i64 (r_.l.length : Int)), (12, .int .i64 s776.1), (34, .bool e1448)]) (fun h => [Ch.box g1426 124 [.int .i64 x1419.rune, .int .i64 x1419.style, .int .i64 x1419.part], Ch.box g1 97 [.slice (some ⟨b1422, o1423, none⟩) r_.l.length c_0_0, .bool r_.wrapped]]) (fun h => [Im.cells b1422 (o1423 + s776.1.toNat * 3) [.int .i64 x1419.rune, .int .i64 x1419.style, .int .i64 x1419.part], Im.sl tyRef09Cell (some ⟨b1422, o1423, none⟩) c_0_0 r_.l]) ?_ ?_
        · refine T.draw [] [0, 0] mo (by rfl) rfl ?_
          refine D.q 0 rfl rfl rfl rfl rfl rfl ?_
          refine D.q 1 rfl rfl rfl rfl rfl rfl ?_
          refine D.q 2 rfl rfl rfl rfl rfl rfl ?_
          refine D.y 3 (Yl.ldb 1 rfl rfl rfl rfl) rfl rfl rfl rfl rfl rfl ?_
          refine D.q 4 rfl rfl rfl rfl rfl rfl ?_
          refine D.q 5 rfl rfl rfl rfl rfl rfl ?_
          refine D.q 6 rfl rfl rfl rfl rfl rfl ?_
          refine D.cs 25 H1449 rfl (fun hc H1456 => ?_) (fun hc H1456 => ?_)
          · refine D.q 7 rfl rfl rfl rfl rfl rfl ?_
            refine D.y 8 (Yl.ldb 1 rfl rfl rfl rfl) rfl rfl rfl rfl rfl rfl ?_
            refine D.q 9 rfl rfl rfl rfl rfl rfl ?_
            refine D.q 10 rfl rfl rfl rfl rfl rfl ?_
            obtain ⟨x1457, h1458, H1459⟩ := bnd H1456
            refine D.y 11 (Yl.ia h1458 rfl rfl rfl rfl rfl rfl) rfl rfl rfl rfl rfl rfl ?_
            refine D.el 1 rfl (idx_some h1458).2 ?_
            rintro _
            refine D.y 12 (Yl.ldc 0 0 rfl rfl rfl rfl) rfl rfl rfl rfl rfl rfl ?_
            refine D.y 13 (Yl.ldb 0 rfl rfl rfl rfl) rfl rfl rfl rfl rfl rfl ?_
            refine D.q 14 rfl rfl rfl rfl rfl rfl ?_
            refine D.q 15 rfl rfl rfl rfl rfl rfl ?_
            refine D.nil rfl rfl ?_
            have hr := Option.some.inj H1459
            subst e1448
            exact E.give ((), ()) [0, 0] [1, 2] trivial ⟨rfl, rfl, rfl, rfl, rfl, rfl, rfl, rfl, trivial⟩ rfl rfl
          refine D.sk 7 rfl rfl rfl rfl rfl ?_
          refine D.sk 8 rfl rfl rfl rfl rfl ?_
          refine D.sk 9 rfl rfl rfl rfl rfl ?_
          refine D.sk 10 rfl rfl rfl rfl rfl ?_
          refine D.sk 11 rfl rfl rfl rfl rfl ?_
          refine D.sk 12 rfl rfl rfl rfl rfl ?_
          refine D.sk 13 rfl rfl rfl rfl rfl ?_
          refine D.sk 14 rfl rfl rfl rfl rfl ?_
          refine D.q 15 rfl rfl rfl rfl rfl rfl ?_
          refine D.nil rfl rfl ?_
          have hr := Option.some.inj H1456
          subst e1448
          exact E.give ((), ()) [0, 0] [0, 1] trivial ⟨rfl, rfl, rfl, rfl, rfl, rfl, rfl, rfl, trivial⟩ rfl rfl
        rintro ⟨_, ⟨⟩⟩ _
        refine T.bif rfl H1450 (fun hc H1462 => ?_) (fun hc H1462 => ?_)
        · refine T.exit (E.then_exit' (E.block_here ?_))
          have hr := Option.some.inj H1462
          subst e1416
          exact E.give ((), ()) [1] [1] trivial ⟨rfl, rfl, rfl, rfl, rfl, rfl, trivial⟩ rfl rfl
        refine T.skip (E.then (T.seq ?_))
        refine T.draw [] [0, 0] mo (by rfl) rfl ?_
        refine D.q 0 rfl rfl rfl rfl rfl rfl ?_
        refine D.q 1 rfl rfl rfl rfl rfl rfl ?_
        refine D.q 3 rfl rfl rfl rfl rfl rfl ?_
        refine D.y 4 (Yl.ldb 0 rfl rfl rfl rfl) rfl rfl rfl rfl rfl rfl ?_
        refine D.q 7 rfl rfl rfl rfl rfl rfl ?_
        refine D.y 8 (Yl.ldb 0 rfl rfl rfl rfl) rfl rfl rfl rfl rfl rfl ?_
        refine D.q 11 rfl rfl rfl rfl rfl rfl ?_
        refine D.y 12 (Yl.ldb 0 rfl rfl rfl rfl) rfl rfl rfl rfl rfl rfl ?_
        obtain ⟨r1523, h1524, H1525⟩ := bnd H1462
        refine D.one rfl rfl rfl (Dp.a [] [] (Ac.call (c_ref01_Num h1524) rfl rfl rfl rfl) rfl rfl rfl rfl rfl rfl ?_)
        rintro ⟨⟩
        obtain ⟨r1526, h1527, H1528⟩ := bnd H1525
        refine D.one rfl rfl rfl (Dp.a [] [] (Ac.call (c_ref01_Num h1527) rfl rfl rfl rfl) rfl rfl rfl rfl rfl rfl ?_)
        rintro ⟨⟩
        obtain ⟨_, h1529, H1530⟩ := bnd H1528
        refine D.y 6 (Yl.sa h1529 rfl rfl rfl) rfl rfl rfl rfl rfl rfl ?_
        obtain ⟨r1531, h1532, H1533⟩ := bnd H1530
        refine D.one rfl rfl rfl (Dp.a [] [] (Ac.call (c_ref01_Num h1532) rfl rfl rfl rfl) rfl rfl rfl rfl rfl rfl ?_)
        rintro ⟨⟩
        obtain ⟨_, h1534, H1535⟩ := bnd H1533
        refine D.y 10 (Yl.sa h1534 rfl rfl rfl) rfl rfl rfl rfl rfl rfl ?_
        obtain ⟨r1536, h1537, H1538⟩ := bnd H1535
        refine D.one rfl rfl rfl (Dp.a [] [] (Ac.call (c_ref01_Num h1537) rfl rfl rfl rfl) rfl rfl rfl rfl rfl rfl ?_)
        rintro ⟨⟩
        obtain ⟨_, h1539, H1540⟩ := bnd H1538
        refine D.y 14 (Yl.sa h1539 rfl rfl rfl) rfl rfl rfl rfl rfl rfl ?_
        obtain ⟨_, h1541, H1542⟩ := bnd H1540
        refine D.y 15 (Yl.sa h1541 rfl rfl rfl) rfl rfl rfl rfl rfl rfl ?_
        refine D.q 16 rfl rfl rfl rfl rfl rfl ?_
        refine D.nil rfl rfl ?_
        refine E.then (T.region ?_)
        refine L.q 1 rfl ?_
        refine L.nil (E.block ?_)
        have hr := Option.some.inj H1542
        subst e1416
        exact E.give ((), ()) [1] [1] trivial ⟨rfl, rfl, rfl, rfl, rfl, rfl, trivial⟩ rfl rfl
      rintro ⟨_, ⟨⟩⟩ _
      refine T.region ?_
      refine L.q 2 rfl ?_
      refine L.nil ?_
      have hr := Option.some.inj H1418
      subst z1161
      exact E.give (_, ()) [0] [0] (hag1162 _ rfl) ⟨rfl, rfl, rfl, rfl, rfl, rfl, trivial⟩ rfl rfl
    refine T.exit (E.then_exit' (E.then_exit' (E.block_here ?_)))
    have hr := Option.some.inj H1165
    subst z1161
    have hb := hbr1163 _ rfl
    subst e1157
    exact E.give ((), ()) [0] [0] trivial ⟨rfl, trivial⟩ rfl rfl
  rintro ⟨_, ⟨⟩⟩ _
  refine T.seq (T.region ?_)
  refine L.q 2 rfl ?_
  refine L.nil (E.then (T.ret ?_))
  have hr := Option.some.inj H1159
  subst r
  exact E.ret () [] [] (.tmp rfl .nil) rfl rfl rfl

end Go.Tw.X

set_option maxHeartbeats 2000000
set_option linter.unusedVariables false
set_option linter.unusedSimpArgs false
set_option maxRecDepth 10000
namespace Go.Tw.X
open Go Go.Tw
theorem c_ref16_Pack {s_ : Ref16Snap} (a_0_0 : Option Addr) (c_0_0 : Nat) (a_0_1 : Option Addr) (c_0_1 : Nat) {r : ByteArray} (H : p_ref16_Pack s_ = some r) : CT G 65 [.agg (bx33 s_ a_0_0 c_0_0 a_0_1 c_0_1).toArray] [] [Im.sl tyRef09Row a_0_0 c_0_0 s_.rows, Im.sl tyRef09Glyph a_0_1 c_0_1 s_.begun] (fun h : Unit => .string r) (fun h => []) (fun h => []) := by
  delta p_ref16_Pack at H
  refine CT.of Go.Proofs.Tryz.func65 (by kernel_rfl) rfl rfl rfl fun K => ?_
  refine T.seq (T.region ?_)
  refine L.a [] [] (Ac.box rfl rfl) rfl rfl rfl rfl rfl ?_
  intro g1
  refine L.q 1 rfl ?_
  refine L.nil (E.then (T.seq (T.seq ?_)))
  obtain ⟨e17, H18, H19⟩ := bnd H
  refine T.join (η := Unit × Unit) (fun h => True) (fun h => [(1, .pointer (some ⟨g1, 0, none⟩)), (14, .bool e17)]) (fun h => [Ch.box g1 33 (bx33 s_ a_0_0 c_0_0 a_0_1 c_0_1)]) (fun h => [Im.sl tyRef09Row a_0_0 c_0_0 s_.rows, Im.sl tyRef09Glyph a_0_1 c_0_1 s_.begun]) ?_ ?_
  · refine T.region ?_
    refine L.y (Yl.ldb 0 rfl rfl rfl rfl) rfl rfl rfl ?_
    obtain ⟨r20, h21, H22⟩ := bnd H18
    refine L.a [] [0, 1] (Ac.call (c_ref16_Empty a_0_0 c_0_0 a_0_1 c_0_1 h21) rfl rfl rfl rfl) rfl rfl rfl rfl rfl ?_
    rintro ⟨⟩
    refine L.q 1 rfl ?_
    refine L.cs 10 H22 rfl (fun hc H23 => ?_) (fun hc H23 => ?_)
    · refine L.q 4 rfl ?_
      refine L.nil ?_
      have hr := Option.some.inj H23
      subst e17
      exact E.give ((), ()) [0] [0, 1] trivial ⟨rfl, rfl, trivial⟩ rfl rfl
    refine L.y (Yl.ldb 0 rfl rfl rfl rfl) rfl rfl rfl ?_
    obtain ⟨r24, h25, H26⟩ := bnd H23
    refine L.a [] [0, 1] (Ac.call (c_ref16_May a_0_0 c_0_0 a_0_1 c_0_1 h25) rfl rfl rfl rfl) rfl rfl rfl rfl rfl ?_
    rintro ⟨⟩
    refine L.q 2 rfl ?_
    refine L.nil ?_
    have hr := Option.some.inj H26
    subst e17
    exact E.give ((), ()) [0] [0, 1] trivial ⟨rfl, rfl, trivial⟩ rfl rfl
  rintro ⟨_, ⟨⟩⟩ _
  refine T.bif rfl H19 (fun hc H28 => ?_) (fun hc H28 => ?_)
  · refine T.seq (T.region ?_)
    refine L.q 1 rfl ?_
    refine L.nil (E.then (T.ret (E.then_ret ?_)))
    have hr := Option.some.inj H28
    subst r
    exact E.ret () [] [] (.tmp rfl .nil) rfl rfl rfl
  refine T.skip (E.then (T.seq (T.region ?_)))
  refine L.q 1 rfl ?_
  refine L.nil (E.then (T.seq (T.seq (T.region ?_))))
  refine L.q 1 rfl ?_
  refine L.y (Yl.ldb 0 rfl rfl rfl rfl) rfl rfl rfl ?_
  refine L.q 1 rfl ?_
  refine L.y (Yl.ldb 0 rfl rfl rfl rfl) rfl rfl rfl ?_
  refine L.q 1 rfl ?_
  refine L.y (Yl.ldb 0 rfl rfl rfl rfl) rfl rfl rfl ?_
  refine L.q 1 rfl ?_
  refine L.y (Yl.ldb 0 rfl rfl rfl rfl) rfl rfl rfl ?_
  refine L.q 1 rfl ?_
  refine L.y (Yl.ldb 0 rfl rfl rfl rfl) rfl rfl rfl ?_
  refine L.a [] [] (Ac.bs (ty := (Ty.int .i64)) (xs := [s_.k, s_.w, s_.h, s_.x, s_.y]) (.cons () [] rfl (.cons () [] rfl (.cons () [] rfl (.cons () [] rfl (.cons () [] rfl .nil))))) rfl rfl rfl rfl rfl rfl rfl) rfl rfl rfl rfl rfl ?_
  intro g29
  refine L.q 2 rfl ?_
  refine L.nil (E.then ?_)
  obtain ⟨e93, H94, H95⟩ := bnd H28
  refine T.join (η := Unit × Unit) (fun h => True) (fun h => [(1, .pointer (some ⟨g1, 0, none⟩)), (3, .string e93)]) (fun h => [Ch.box g1 33 (bx33 s_ a_0_0 c_0_0 a_0_1 c_0_1)]) (fun h => [Im.sl tyRef09Row a_0_0 c_0_0 s_.rows, Im.sl tyRef09Glyph a_0_1 c_0_1 s_.begun]) ?_ ?_
  · refine T.block ?_
    refine T.lp (η := Unit) (fun s73 h => [(1, .pointer (some ⟨g1, 0, none⟩)), (3, .string s73.2), (25, .slice (some ⟨g29, 0, none⟩) [s_.k, s_.w, s_.h, s_.x, s_.y].length 5), (26, .int .i64 ([s_.k, s_.w, s_.h, s_.x, s_.y].length : Int)), (27, .int .i64 s73.1)]) (fun s73 h => [Ch.box g1 33 (bx33 s_ a_0_0 c_0_0 a_0_1 c_0_1), Ch.arr (Ty.int .i64) 3 (some ⟨g29, 0, none⟩) 5 [s_.k, s_.w, s_.h, s_.x, s_.y]]) (fun s73 h => [Im.sl tyRef09Row a_0_0 c_0_0 s_.rows, Im.sl tyRef09Glyph a_0_1 c_0_1 s_.begun]) () [1, 0] [0, 1] H94 ⟨rfl, rfl, rfl, rfl, rfl, trivial⟩ rfl rfl ?_
    rintro k_ s73 ⟨⟩ z97 H96 hag98 hbr99
    refine T.seq (T.region ?_)
    refine L.q 1 rfl ?_
    refine L.nil (E.then (T.seq ?_))
    refine T.bif rfl H96 (fun hc H101 => ?_) (fun hc H101 => ?_)
    · refine T.skip (E.then (T.seq (T.block (T.seq (T.region ?_)))))
      obtain ⟨x110, h111, H112⟩ := bnd H101
      refine L.y (Yl.ia h111 rfl rfl rfl rfl rfl rfl) rfl rfl rfl ?_
      refine L.y (Yl.lo (v := .int .i64 x110) 1 s73.1.toNat 0 (idx_some h111).2 rfl rfl rfl rfl (fun _ => rfl)) rfl rfl rfl ?_
      refine L.q 1 rfl ?_
      refine L.nil (E.then (T.region ?_))
      refine L.q 2 rfl ?_
      obtain ⟨r113, h114, H115⟩ := bnd H112
      refine L.a [] [] (Ac.call (c_ref01_Num h114) rfl rfl rfl rfl) rfl rfl rfl rfl rfl ?_
      rintro ⟨⟩
      obtain ⟨_, h116, H117⟩ := bnd H115
      refine L.y (Yl.sa h116 rfl rfl rfl) rfl rfl rfl ?_
      refine L.q 1 rfl ?_
      refine L.nil (E.block (E.then (T.region ?_)))
      refine L.q 2 rfl ?_
      refine L.nil ?_
      have hr := Option.some.inj H117
      subst z97
      exact E.give (_, ()) [0, 0] [0, 1] (hag98 _ rfl) ⟨rfl, rfl, rfl, rfl, rfl, trivial⟩ rfl rfl
    refine T.exit (E.then_exit' (E.then_exit' (E.block_here ?_)))
    have hr := Option.some.inj H101
    subst z97
    have hb := hbr99 _ rfl
    subst e93
    exact E.give ((), ()) [0] [0, 1] trivial ⟨rfl, rfl, trivial⟩ rfl rfl
  rintro ⟨_, ⟨⟩⟩ _
  refine T.seq ?_
  refine T.draw [] [0] mo (by rfl) rfl ?_
  refine D.q 0 rfl rfl rfl rfl rfl rfl ?_
  refine D.q 1 rfl rfl rfl rfl rfl rfl ?_
  refine D.y 2 (Yl.ldb 0 rfl rfl rfl rfl) rfl rfl rfl rfl rfl rfl ?_
  refine D.q 4 rfl rfl rfl rfl rfl rfl ?_
  refine D.y 5 (Yl.ldb 0 rfl rfl rfl rfl) rfl rfl rfl rfl rfl rfl ?_
  refine D.q 8 rfl rfl rfl rfl rfl rfl ?_
  refine D.y 9 (Yl.ldb 0 rfl rfl rfl rfl) rfl rfl rfl rfl rfl rfl ?_
  refine D.q 12 rfl rfl rfl rfl rfl rfl ?_
  refine D.y 13 (Yl.ldb 0 rfl rfl rfl rfl) rfl rfl rfl rfl rfl rfl ?_
  obtain ⟨r178, h179, H180⟩ := bnd H95
  refine D.one rfl rfl rfl (Dp.a [] [] (Ac.call (c_ref01_Text h179) rfl rfl rfl rfl) rfl rfl rfl rfl rfl rfl ?_)
  rintro ⟨⟩
  obtain ⟨r181, h182, H183⟩ := bnd H180
  refine D.one rfl rfl rfl (Dp.a [] [] (Ac.call (c_ref01_Num h182) rfl rfl rfl rfl) rfl rfl rfl rfl rfl rfl ?_)
  rintro ⟨⟩
  obtain ⟨_, h184, H185⟩ := bnd H183
  refine D.y 7 (Yl.sa h184 rfl rfl rfl) rfl rfl rfl rfl rfl rfl ?_
  obtain ⟨r186, h187, H188⟩ := bnd H185
  refine D.one rfl rfl rfl (Dp.a [] [] (Ac.call (c_ref01_Num h187) rfl rfl rfl rfl) rfl rfl rfl rfl rfl rfl ?_)
  rintro ⟨⟩
  obtain ⟨_, h189, H190⟩ := bnd H188
  refine D.y 11 (Yl.sa h189 rfl rfl rfl) rfl rfl rfl rfl rfl rfl ?_
  obtain ⟨r191, h192, H193⟩ := bnd H190
  refine D.one rfl rfl rfl (Dp.a [] [1] (Ac.call (c_ref12_Pack a_0_1 c_0_1 h192) rfl rfl rfl rfl) rfl rfl rfl rfl rfl rfl ?_)
  rintro ⟨⟩
  obtain ⟨_, h194, H195⟩ := bnd H193
  refine D.y 15 (Yl.sa h194 rfl rfl rfl) rfl rfl rfl rfl rfl rfl ?_
  obtain ⟨_, h196, H197⟩ := bnd H195
  refine D.y 16 (Yl.sa h196 rfl rfl rfl) rfl rfl rfl rfl rfl rfl ?_
  refine D.q 17 rfl rfl rfl rfl rfl rfl ?_
  refine D.nil rfl rfl ?_
  refine E.then (T.seq (T.seq (T.region ?_)))
  refine L.q 1 rfl ?_
  refine L.y (Yl.ldb 0 rfl rfl rfl rfl) rfl rfl rfl ?_
  refine L.q 2 rfl ?_
  refine L.nil (E.then ?_)
  obtain ⟨e308, H309, H310⟩ := bnd H197
  refine T.join (η := Unit × Unit) (fun h => True) (fun h => [(3, .string e308)]) (fun h => [Ch.box g1 33 (bx33 s_ a_0_0 c_0_0 a_0_1 c_0_1)]) (fun h => [Im.sl tyRef09Row a_0_0 c_0_0 s_.rows, Im.sl tyRef09Glyph a_0_1 c_0_1 s_.begun]) ?_ ?_
  · refine T.block ?_
    refine T.lp (η := Unit) (fun s272 h => [(3, .string s272.1), (54, .slice a_0_0 s_.rows.length c_0_0), (55, .int .i64 (s_.rows.length : Int)), (56, .int .i64 s272.2)]) (fun s272 h => [Ch.box g1 33 (bx33 s_ a_0_0 c_0_0 a_0_1 c_0_1)]) (fun s272 h => [Im.sl tyRef09Row a_0_0 c_0_0 s_.rows, Im.sl tyRef09Glyph a_0_1 c_0_1 s_.begun]) () [0] [0, 1] H309 ⟨rfl, rfl, rfl, rfl, trivial⟩ rfl rfl ?_
    rintro k_ s272 ⟨⟩ z312 H311 hag313 hbr314
    refine T.seq (T.region ?_)
    refine L.q 1 rfl ?_
    refine L.nil (E.then (T.seq ?_))
    refine T.bif rfl H311 (fun hc H316 => ?_) (fun hc H316 => ?_)
    · refine T.skip (E.then (T.seq (T.block (T.seq (T.region ?_)))))
      obtain ⟨x333, h334, H335⟩ := bnd H316
      refine L.addr 0 rfl (idx_lt h334) fun b336 o337 e338 => ?_
      obtain rfl : a_0_0 = some ⟨b336, o337, none⟩ := e338
      refine L.y (Yl.ia h334 rfl rfl rfl rfl rfl rfl) rfl rfl rfl ?_
      refine L.el 0 rfl (idx_some h334).2 ?_
      rintro ⟨a339, c340⟩
      refine L.y (Yl.ldc 0 0 rfl rfl rfl rfl) rfl rfl rfl ?_
      refine L.a [] [] (Ac.alloc rfl rfl) rfl rfl rfl rfl rfl ?_
      intro g343
      refine L.a [0] [] (Ac.stb rfl rfl rfl rfl rfl rfl) rfl rfl rfl rfl rfl ?_
      intro _
      refine L.nil (E.then (T.region ?_))
      refine L.q 1 rfl ?_
      refine L.y (Yl.ldb 0 rfl rfl rfl rfl) rfl rfl rfl ?_
      obtain ⟨r344, h345, H346⟩ := bnd H335
      refine L.a [] [1] (Ac.call (c_ref16_PackRow a339 c340 h345) rfl rfl rfl rfl) rfl rfl rfl rfl rfl ?_
      rintro ⟨⟩
      obtain ⟨_, h347, H348⟩ := bnd H346
      refine L.y (Yl.sa h347 rfl rfl rfl) rfl rfl rfl ?_
      refine L.q 1 rfl ?_
      refine L.nil (E.block (E.then (T.region ?_)))
      refine L.q 2 rfl ?_
      refine L.nil ?_
      have hr := Option.some.inj H348
      subst z312
      exact E.give (_, ()) [1] [2, 3] (hag313 _ rfl) ⟨rfl, rfl, rfl, rfl, trivial⟩ rfl rfl
    refine T.exit (E.then_exit' (E.then_exit' (E.block_here ?_)))
    have hr := Option.some.inj H316
    subst z312
    have hb := hbr314 _ rfl
    subst e308
    exact E.give ((), ()) [0] [0, 1] trivial ⟨rfl, trivial⟩ rfl rfl
  rintro ⟨_, ⟨⟩⟩ _
  refine T.seq (T.region ?_)
  refine L.q 2 rfl ?_
  refine L.nil (E.then (T.ret ?_))
  have hr := Option.some.inj H310
  subst r
  exact E.ret () [] [] (.tmp rfl .nil) rfl rfl rfl

theorem c_ref02_Of {s_ : ByteArray} {r : Int} (H : p_ref02_Of s_ = some r) : CT G 86 [.string s_] [] [] (fun h : Unit => .int .i64 r) (fun h => []) (fun h => []) := by
  delta p_ref02_Of at H
  refine CT.of Go.Proofs.Tryz.func86 (by kernel_rfl) rfl rfl rfl fun K => ?_
  refine T.seq (T.region ?_)
  refine L.q 1 rfl ?_
  refine L.nil (E.then (T.seq (T.region ?_)))
  refine L.q 1 rfl ?_
  refine L.nil (E.then (T.seq (T.seq (T.region ?_))))
  refine L.q 1 rfl ?_
  refine L.nil (E.then ?_)
  obtain ⟨e339, H340, H341⟩ := bnd H
  refine T.join (η := Unit × Unit) (fun h => True) (fun h => [(3, .int .i64 e339)]) (fun h => []) (fun h => []) ?_ ?_
  · refine T.block ?_
    refine T.lp (η := Unit) (fun s227 h => [(0, .string s_), (3, .int .i64 s227.1), (4, .int .i64 s227.2)]) (fun s227 h => []) (fun s227 h => []) () [] [] H340 ⟨rfl, rfl, rfl, trivial⟩ rfl rfl ?_
    rintro k_ s227 ⟨⟩ z343 H342 hag344 hbr345
    refine T.seq (T.seq (T.region ?_))
    refine L.q 4 rfl ?_
    refine L.nil (E.then ?_)
    refine T.bif rfl H342 (fun hc H347 => ?_) (fun hc H347 => ?_)
    · refine T.skip (E.then (T.seq (T.block (T.seq (T.region ?_)))))
      refine L.q 3 rfl ?_
      obtain ⟨b402, h403, H404⟩ := bnd H347
      refine L.y (Yl.si h403 rfl rfl rfl rfl rfl) rfl rfl rfl ?_
      refine L.q 3 rfl ?_
      refine L.nil (E.then (T.seq (T.region ?_)))
      refine L.q 1 rfl ?_
      refine L.nil (E.then ?_)
      obtain ⟨e440, H441, H442⟩ := bnd H404
      refine T.joinE (η := Unit × Unit) (fun h => True) (fun h => [(0, .string s_), (3, .int .i64 e440), (4, .int .i64 s227.2)]) (fun h => []) (fun h => []) ?_ ?_
      · refine T.block ?_
        refine T.lp (η := Unit) (fun s429 h => [(0, .string s_), (3, .int .i64 s429.1), (4, .int .i64 s227.2), (5, .int .i64 s429.2)]) (fun s429 h => []) (fun s429 h => []) () [] [] H441 ⟨rfl, rfl, rfl, rfl, trivial⟩ rfl rfl ?_
        rintro k_ s429 ⟨⟩ z444 H443 hag445 hbr446
        refine T.seq (T.seq (T.region ?_))
        refine L.q 2 rfl ?_
        refine L.nil (E.then ?_)
        refine T.bif rfl H443 (fun hc H448 => ?_) (fun hc H448 => ?_)
        · refine T.skip (E.then (T.seq ?_))
          obtain ⟨e452, H453, H454⟩ := bnd H448
          refine T.join (η := Unit × Unit) (fun h => True) (fun h => [(0, .string s_), (3, .int .i64 e452), (4, .int .i64 s227.2), (5, .int .i64 s429.2)]) (fun h => []) (fun h => []) ?_ ?_
          · refine T.block (T.seq (T.region ?_))
            refine L.q 3 rfl ?_
            refine L.nil (E.then ?_)
            refine T.bif rfl H453 (fun hc H455 => ?_) (fun hc H455 => ?_)
            · refine T.region ?_
              refine L.q 4 rfl ?_
              refine L.nil (E.block ?_)
              have hr := Option.some.inj H455
              subst e452
              exact E.give ((), ()) [] [] trivial ⟨rfl, rfl, rfl, rfl, trivial⟩ rfl rfl
            refine T.region ?_
            refine L.q 3 rfl ?_
            refine L.nil (E.block ?_)
            have hr := Option.some.inj H455
            subst e452
            exact E.give ((), ()) [] [] trivial ⟨rfl, rfl, rfl, rfl, trivial⟩ rfl rfl
          rintro ⟨_, ⟨⟩⟩ _
          refine T.region ?_
          refine L.q 3 rfl ?_
          refine L.nil ?_
          have hr := Option.some.inj H454
          subst z444
          exact E.give (_, ()) [] [] (hag445 _ rfl) ⟨rfl, rfl, rfl, rfl, trivial⟩ rfl rfl
        refine T.exit (E.then_exit' (E.then_exit' (E.block_here ?_)))
        have hr := Option.some.inj H448
        subst z444
        have hb := hbr446 _ rfl
        subst e440
        exact E.give ((), ()) [] [] trivial ⟨rfl, rfl, rfl, trivial⟩ rfl rfl
      rintro ⟨_, ⟨⟩⟩ _
      refine E.block (E.then (T.region ?_))
      refine L.q 3 rfl ?_
      refine L.nil ?_
      have hr := Option.some.inj H442
      subst z343
      exact E.give (_, ()) [] [] (hag344 _ rfl) ⟨rfl, rfl, rfl, trivial⟩ rfl rfl
    refine T.exit (E.then_exit' (E.then_exit' (E.block_here ?_)))
    have hr := Option.some.inj H347
    subst z343
    have hb := hbr345 _ rfl
    subst e339
    exact E.give ((), ()) [] [] trivial ⟨rfl, trivial⟩ rfl rfl
  rintro ⟨_, ⟨⟩⟩ _
  refine T.seq (T.region ?_)
  refine L.q 3 rfl ?_
  refine L.nil (E.then (T.ret ?_))
  have hr := Option.some.inj H341
  subst r
  exact E.ret () [] [] (.tmp rfl .nil) rfl rfl rfl

theorem c_ref16_Sum {s_ : Ref16Snap} (a_0_0 : Option Addr) (c_0_0 : Nat) (a_0_1 : Option Addr) (c_0_1 : Nat) {r : Int} (H : p_ref16_Sum s_ = some r) : CT G 66 [.agg (bx33 s_ a_0_0 c_0_0 a_0_1 c_0_1).toArray] [] [Im.sl tyRef09Row a_0_0 c_0_0 s_.rows, Im.sl tyRef09Glyph a_0_1 c_0_1 s_.begun] (fun h : Unit => .int .i64 r) (fun h => []) (fun h => []) := by
  delta p_ref16_Sum at H
  refine CT.of Go.Proofs.Tryz.func66 (by kernel_rfl) rfl rfl rfl fun K => ?_
  refine T.seq (T.region ?_)
  refine L.a [] [] (Ac.box rfl rfl) rfl rfl rfl rfl rfl ?_
  intro g1
  refine L.q 1 rfl ?_
  refine L.nil (E.then (T.seq (T.region ?_)))
  refine L.y (Yl.ldb 0 rfl rfl rfl rfl) rfl rfl rfl ?_
  obtain ⟨r2, h3, H4⟩ := bnd H
  refine L.a [] [0, 1] (Ac.call (c_ref16_Pack a_0_0 c_0_0 a_0_1 c_0_1 h3) rfl rfl rfl rfl) rfl rfl rfl rfl rfl ?_
  rintro ⟨⟩
  obtain ⟨r5, h6, H7⟩ := bnd H4
  refine L.a [] [] (Ac.call (c_ref02_Of h6) rfl rfl rfl rfl) rfl rfl rfl rfl rfl ?_
  rintro ⟨⟩
  refine L.q 1 rfl ?_
  refine L.nil (E.then (T.ret ?_))
  have hr := Option.some.inj H7
  subst r
  exact E.ret () [] [] (.tmp rfl .nil) rfl rfl rfl

theorem c_ref17_same {a : Ref09Row} {b : Ref09Row} (a_0_0 : Option Addr) (c_0_0 : Nat) (a_1_0 : Option Addr) (c_1_0 : Nat) {r : Bool} (H : p_ref17_same a b = some r) : CT G 87 [.agg #[.slice a_0_0 a.l.length c_0_0, .bool a.wrapped], .agg #[.slice a_1_0 b.l.length c_1_0, .bool b.wrapped]] [] [Im.sl tyRef09Cell a_0_0 c_0_0 a.l, Im.sl tyRef09Cell a_1_0 c_1_0 b.l] (fun h : Unit => .bool r) (fun h => []) (fun h => []) := by
  delta p_ref17_same at H
  refine CT.of Go.Proofs.Tryz.func87 (by kernel_rfl) rfl rfl rfl fun K => ?_
  refine T.seq (T.region ?_)
  refine L.a [] [] (Ac.box rfl rfl) rfl rfl rfl rfl rfl ?_
  intro g1
  refine L.a [] [] (Ac.box rfl rfl) rfl rfl rfl rfl rfl ?_
  intro g2
  refine L.q 1 rfl ?_
  refine L.nil (E.then (T.seq (T.seq ?_)))
  obtain ⟨e6, H7, H8⟩ := bnd H
  refine T.join (η := Unit × Unit) (fun h => True) (fun h => [(2, .pointer (some ⟨g1, 0, none⟩)), (3, .pointer (some ⟨g2, 0, none⟩)), (19, .bool e6)]) (fun h => [Ch.box g2 97 [.slice a_1_0 b.l.length c_1_0, .bool b.wrapped], Ch.box g1 97 [.slice a_0_0 a.l.length c_0_0, .bool a.wrapped]]) (fun h => [Im.sl tyRef09Cell a_0_0 c_0_0 a.l, Im.sl tyRef09Cell a_1_0 c_1_0 b.l]) ?_ ?_
  · refine T.region ?_
    refine L.q 1 rfl ?_
    refine L.y (Yl.ldb 1 rfl rfl rfl rfl) rfl rfl rfl ?_
    refine L.q 1 rfl ?_
    refine L.y (Yl.ldb 0 rfl rfl rfl rfl) rfl rfl rfl ?_
    refine L.q 2 rfl ?_
    refine L.cs 11 H7 rfl (fun hc H9 => ?_) (fun hc H9 => ?_)
    · refine L.q 8 rfl ?_
      refine L.nil ?_
      have hr := Option.some.inj H9
      subst e6
      exact E.give ((), ()) [0, 0] [0, 1] trivial ⟨rfl, rfl, rfl, trivial⟩ rfl rfl
    refine L.q 1 rfl ?_
    refine L.y (Yl.ldb 1 rfl rfl rfl rfl) rfl rfl rfl ?_
    refine L.q 2 rfl ?_
    refine L.y (Yl.ldb 0 rfl rfl rfl rfl) rfl rfl rfl ?_
    refine L.q 3 rfl ?_
    refine L.nil ?_
    have hr := Option.some.inj H9
    subst e6
    exact E.give ((), ()) [0, 0] [0, 1] trivial ⟨rfl, rfl, rfl, trivial⟩ rfl rfl
  rintro ⟨_, ⟨⟩⟩ _
  refine T.bif rfl H8 (fun hc H11 => ?_) (fun hc H11 => ?_)
  · refine T.seq (T.region ?_)
    refine L.q 1 rfl ?_
    refine L.nil (E.then (T.ret (E.then_ret ?_)))
    have hr := Option.some.inj H11
    subst r
    exact E.ret () [] [] (.tmp rfl .nil) rfl rfl rfl
  refine T.skip (E.then (T.seq (T.seq (T.region ?_))))
  refine L.q 1 rfl ?_
  refine L.y (Yl.ldb 1 rfl rfl rfl rfl) rfl rfl rfl ?_
  refine L.q 2 rfl ?_
  refine L.nil (E.then ?_)
  obtain ⟨y365, H366, H367⟩ := bnd H11
  refine T.join (η := Unit × Unit) (fun h => y365 = .inl h.1) (fun h => (fun e364 => []) h.1) (fun h => (fun e364 => [Ch.box g2 97 [.slice a_1_0 b.l.length c_1_0, .bool b.wrapped], Ch.box g1 97 [.slice a_0_0 a.l.length c_0_0, .bool a.wrapped]]) h.1) (fun h => (fun e364 => [Im.sl tyRef09Cell a_0_0 c_0_0 a.l, Im.sl tyRef09Cell a_1_0 c_1_0 b.l]) h.1) ?_ ?_
  · refine T.block ?_
    refine T.lp (η := Unit) (fun s247 h => [(2, .pointer (some ⟨g1, 0, none⟩)), (3, .pointer (some ⟨g2, 0, none⟩)), (22, .int .i64 (a.l.length : Int)), (23, .int .i64 s247)]) (fun s247 h => [Ch.box g2 97 [.slice a_1_0 b.l.length c_1_0, .bool b.wrapped], Ch.box g1 97 [.slice a_0_0 a.l.length c_0_0, .bool a.wrapped]]) (fun s247 h => [Im.sl tyRef09Cell a_0_0 c_0_0 a.l, Im.sl tyRef09Cell a_1_0 c_1_0 b.l]) () [0, 0] [0, 1] H366 ⟨rfl, rfl, rfl, rfl, trivial⟩ rfl rfl ?_
    rintro k_ s247 ⟨⟩ z369 H368 hag370 hbr371
    refine T.seq (T.region ?_)
    refine L.q 1 rfl ?_
    refine L.nil (E.then (T.seq ?_))
    refine T.bif rfl H368 (fun hc H373 => ?_) (fun hc H373 => ?_)
    · refine T.skip (E.then (T.seq (T.block (T.seq (T.region ?_)))))
      refine L.q 2 rfl ?_
      refine L.nil (E.then (T.seq ?_))
      refine T.draw [] [0, 0] mo (by rfl) rfl ?_
      refine D.q 0 rfl rfl rfl rfl rfl rfl ?_
      refine D.y 1 (Yl.ldb 1 rfl rfl rfl rfl) rfl rfl rfl rfl rfl rfl ?_
      refine D.q 2 rfl rfl rfl rfl rfl rfl ?_
      obtain ⟨x473, h474, H475⟩ := bnd H373
      refine D.addr 0 rfl (idx_lt h474) fun b476 o477 e478 => ?_
      obtain rfl : a_0_0 = some ⟨b476, o477, none⟩ := e478
      refine D.y 3 (Yl.ia h474 rfl rfl rfl rfl rfl rfl) rfl rfl rfl rfl rfl rfl ?_
      refine D.el 0 rfl (idx_some h474).2 ?_
      rintro _
      refine D.y 4 (Yl.ldc 0 0 rfl rfl rfl rfl) rfl rfl rfl rfl rfl rfl ?_
      refine D.q 5 rfl rfl rfl rfl rfl rfl ?_
      refine D.y 6 (Yl.ldb 0 rfl rfl rfl rfl) rfl rfl rfl rfl rfl rfl ?_
      refine D.q 7 rfl rfl rfl rfl rfl rfl ?_
      obtain ⟨x480, h481, H482⟩ := bnd H475
      refine D.addr 2 rfl (idx_lt h481) fun b483 o484 e485 => ?_
      obtain rfl : a_1_0 = some ⟨b483, o484, none⟩ := e485
      refine D.y 8 (Yl.ia h481 rfl rfl rfl rfl rfl rfl) rfl rfl rfl rfl rfl rfl ?_
      refine D.el 2 rfl (idx_some h481).2 ?_
      rintro _
      refine D.y 9 (Yl.ldc 0 0 rfl rfl rfl rfl) rfl rfl rfl rfl rfl rfl ?_
      refine D.q 10 rfl rfl rfl rfl rfl rfl ?_
      refine D.nil rfl rfl ?_
      refine E.then ?_
      refine T.bif rfl H482 (fun hc H487 => ?_) (fun hc H487 => ?_)
      · refine T.seq (T.region ?_)
        refine L.q 1 rfl ?_
        refine L.nil (E.then (T.ret (E.block_ret (E.then_ret (E.then_ret (E.block_ret ?_))))))
        obtain ⟨w488, hz, H489⟩ := inrr_some H487
        subst z369
        have hb := hbr371 _ rfl
        subst y365
        have hw : w488 = r := Option.some.inj H367
        subst w488
        refine E.then_ret ?_
        have hr := Option.some.inj H489
        subst r
        exact E.ret () [] [] (.tmp rfl .nil) rfl rfl rfl
      refine T.skip (E.block (E.then (T.region ?_)))
      refine L.q 2 rfl ?_
      refine L.nil ?_
      have hr := Option.some.inj H487
      subst z369
      exact E.give (_, ()) [0, 0] [2, 3] (hag370 _ rfl) ⟨rfl, rfl, rfl, rfl, trivial⟩ rfl rfl
    refine T.exit (E.then_exit' (E.then_exit' (E.block_here ?_)))
    have hr := Option.some.inj H373
    subst z369
    have hb := hbr371 _ rfl
    subst y365
    exact E.give (_, ()) [0, 0] [0, 1] rfl trivial rfl rfl
  rintro ⟨e364, ⟨⟩⟩ hy
  subst hy
  refine T.seq (T.region ?_)
  refine L.q 1 rfl ?_
  refine L.nil (E.then (T.ret ?_))
  have hr := Option.some.inj H367
  subst r
  exact E.ret () [] [] (.tmp rfl .nil) rfl rfl rfl

theorem c_ref17_Changes {a : Ref16Snap} {b : Ref16Snap} (a_0_0 : Option Addr) (c_0_0 : Nat) (a_0_1 : Option Addr) (c_0_1 : Nat) (a_1_0 : Option Addr) (c_1_0 : Nat) (a_1_1 : Option Addr) (c_1_1 : Nat) {r : (List Int)} (H : p_ref17_Changes a b = some r) : CT G 68 [.agg (bx33 a a_0_0 c_0_0 a_0_1 c_0_1).toArray, .agg (bx33 b a_1_0 c_1_0 a_1_1 c_1_1).toArray] [] [Im.sl tyRef09Row a_0_0 c_0_0 a.rows, Im.sl tyRef09Glyph a_0_1 c_0_1 a.begun, Im.sl tyRef09Row a_1_0 c_1_0 b.rows, Im.sl tyRef09Glyph a_1_1 c_1_1 b.begun] (fun h : (Option Addr × Nat) => .slice h.1 r.length h.2) (fun h => [Ch.arr (Ty.int .i64) 3 h.1 h.2 r]) (fun h => []) := by
  delta p_ref17_Changes at H
  refine CT.of Go.Proofs.Tryz.func68 (by kernel_rfl) rfl rfl rfl fun K => ?_
  refine T.seq (T.region ?_)
  refine L.a [] [] (Ac.box rfl rfl) rfl rfl rfl rfl rfl ?_
  intro g1
  refine L.a [] [] (Ac.box rfl rfl) rfl rfl rfl rfl rfl ?_
  intro g2
  refine L.q 1 rfl ?_
  refine L.nil (E.then (T.seq (T.region ?_)))
  refine L.a [] [] (Ac.bs (ty := (Ty.int .i64)) (xs := []) .nil rfl rfl rfl rfl rfl rfl rfl) rfl rfl rfl rfl rfl ?_
  intro g3
  refine L.q 1 rfl ?_
  refine L.nil (E.then (T.seq (T.seq (T.region ?_))))
  refine L.q 1 rfl ?_
  refine L.y (Yl.ldb 1 rfl rfl rfl rfl) rfl rfl rfl ?_
  refine L.q 2 rfl ?_
  refine L.nil (E.then ?_)
  obtain ⟨e1024, H1025, H1026⟩ := bnd H
  refine T.join (η := Unit × ((Option Addr × Nat))) (fun h => True) (fun h => (fun a1021 c1022 => [(5, .slice a1021 e1024.length c1022)]) h.2.1 h.2.2) (fun h => (fun a1021 c1022 => [Ch.arr (Ty.int .i64) 3 a1021 c1022 e1024, Ch.box g2 33 (bx33 b a_1_0 c_1_0 a_1_1 c_1_1), Ch.box g1 33 (bx33 a a_0_0 c_0_0 a_0_1 c_0_1)]) h.2.1 h.2.2) (fun h => (fun a1021 c1022 => [Im.sl tyRef09Row a_0_0 c_0_0 a.rows, Im.sl tyRef09Glyph a_0_1 c_0_1 a.begun, Im.sl tyRef09Row a_1_0 c_1_0 b.rows, Im.sl tyRef09Glyph a_1_1 c_1_1 b.begun]) h.2.1 h.2.2) ?_ ?_
  · refine T.block ?_
    refine T.lp (η := (Option Addr × Nat)) (fun s686 h => (fun a683 c684 => [(2, .pointer (some ⟨g1, 0, none⟩)), (5, .slice a683 s686.2.length c684), (10, .slice a_1_0 b.rows.length c_1_0), (11, .int .i64 (b.rows.length : Int)), (12, .int .i64 s686.1)]) h.1 h.2) (fun s686 h => (fun a683 c684 => [Ch.arr (Ty.int .i64) 3 a683 c684 s686.2, Ch.box g2 33 (bx33 b a_1_0 c_1_0 a_1_1 c_1_1), Ch.box g1 33 (bx33 a a_0_0 c_0_0 a_0_1 c_0_1)]) h.1 h.2) (fun s686 h => (fun a683 c684 => [Im.sl tyRef09Row a_0_0 c_0_0 a.rows, Im.sl tyRef09Glyph a_0_1 c_0_1 a.begun, Im.sl tyRef09Row a_1_0 c_1_0 b.rows, Im.sl tyRef09Glyph a_1_1 c_1_1 b.begun]) h.1 h.2) ((some ⟨g3, 0, none⟩), 0) [0, 0, 0] [0, 1, 2, 3] H1025 ⟨rfl, rfl, rfl, rfl, rfl, trivial⟩ rfl rfl ?_
    rintro k_ s686 ⟨a683, c684⟩ z1028 H1027 hag1029 hbr1030
    refine T.seq (T.region ?_)
    refine L.q 1 rfl ?_
    refine L.nil (E.then (T.seq ?_))
    refine T.bif rfl H1027 (fun hc H1032 => ?_) (fun hc H1032 => ?_)
    · refine T.skip (E.then (T.seq ?_))
      obtain ⟨e1253, H1254, H1255⟩ := bnd H1032
      refine T.join (η := Unit × ((Option Addr × Nat))) (fun h => True) (fun h => (fun a1250 c1251 => [(2, .pointer (some ⟨g1, 0, none⟩)), (5, .slice a1250 e1253.length c1251), (10, .slice a_1_0 b.rows.length c_1_0), (11, .int .i64 (b.rows.length : Int)), (12, .int .i64 s686.1)]) h.2.1 h.2.2) (fun h => (fun a1250 c1251 => [Ch.arr (Ty.int .i64) 3 a1250 c1251 e1253, Ch.box g2 33 (bx33 b a_1_0 c_1_0 a_1_1 c_1_1), Ch.box g1 33 (bx33 a a_0_0 c_0_0 a_0_1 c_0_1)]) h.2.1 h.2.2) (fun h => (fun a1250 c1251 => [Im.sl tyRef09Row a_0_0 c_0_0 a.rows, Im.sl tyRef09Glyph a_0_1 c_0_1 a.begun, Im.sl tyRef09Row a_1_0 c_1_0 b.rows, Im.sl tyRef09Glyph a_1_1 c_1_1 b.begun]) h.2.1 h.2.2) ?_ ?_
      · refine T.block (T.seq (T.region ?_))
        refine L.q 1 rfl ?_
        obtain ⟨x1256, h1257, H1258⟩ := bnd H1254
        refine L.addr 2 rfl (idx_lt h1257) fun b1259 o1260 e1261 => ?_
        obtain rfl : a_1_0 = some ⟨b1259, o1260, none⟩ := e1261
        refine L.y (Yl.ia h1257 rfl rfl rfl rfl rfl rfl) rfl rfl rfl ?_
        refine L.el 2 rfl (idx_some h1257).2 ?_
        rintro ⟨a1262, c1263⟩
        refine L.y (Yl.ldc 0 0 rfl rfl rfl rfl) rfl rfl rfl ?_
        refine L.a [] [] (Ac.alloc rfl rfl) rfl rfl rfl rfl rfl ?_
        intro g1266
        refine L.q 1 rfl ?_
        refine L.a [0] [] (Ac.stb rfl rfl rfl rfl rfl rfl) rfl rfl rfl rfl rfl ?_
        intro _
        refine L.nil (E.then (T.seq ?_))
        obtain ⟨e1324, H1325, H1326⟩ := bnd H1258
        refine T.join (η := Unit × Unit) (fun h => True) (fun h => [(2, .pointer (some ⟨g1, 0, none⟩)), (5, .slice a683 s686.2.length c684), (6, .int .i64 s686.1), (10, .slice (some ⟨b1259, o1260, none⟩) b.rows.length c_1_0), (11, .int .i64 (b.rows.length : Int)), (12, .int .i64 s686.1), (31, .bool e1324)]) (fun h => [Ch.box g1266 97 [.slice a1262 x1256.l.length c1263, .bool x1256.wrapped], Ch.box g2 33 [.int .i64 b.k, .int .i64 b.w, .int .i64 b.h, .int .i64 b.x, .int .i64 b.y, .string b.title, .slice (some ⟨b1259, o1260, none⟩) b.rows.length c_1_0, .int .i64 b.len, .int .i64 b.chain, .slice a_1_1 b.begun.length c_1_1], Ch.box g1 33 (bx33 a a_0_0 c_0_0 a_0_1 c_0_1), Ch.arr (Ty.int .i64) 3 a683 c684 s686.2]) (fun h => [Im.cells b1259 (o1260 + s686.1.toNat * 2) [.slice a1262 x1256.l.length c1263, .bool x1256.wrapped], Im.sl tyRef09Cell a1262 c1263 x1256.l, Im.sl tyRef09Row a_0_0 c_0_0 a.rows, Im.sl tyRef09Glyph a_0_1 c_0_1 a.begun, Im.sl tyRef09Row (some ⟨b1259, o1260, none⟩) c_1_0 b.rows, Im.sl tyRef09Glyph a_1_1 c_1_1 b.begun]) ?_ ?_
        · refine T.draw [] [0, 0, 0, 0] mo (by rfl) rfl ?_
          refine D.q 0 rfl rfl rfl rfl rfl rfl ?_
          refine D.q 1 rfl rfl rfl rfl rfl rfl ?_
          refine D.y 2 (Yl.ldb 3 rfl rfl rfl rfl) rfl rfl rfl rfl rfl rfl ?_
          refine D.q 3 rfl rfl rfl rfl rfl rfl ?_
          refine D.q 4 rfl rfl rfl rfl rfl rfl ?_
          refine D.q 5 rfl rfl rfl rfl rfl rfl ?_
          refine D.cs 22 H1325 rfl (fun hc H1341 => ?_) (fun hc H1341 => ?_)
          · refine D.sk 6 rfl rfl rfl rfl rfl ?_
            refine D.sk 7 rfl rfl rfl rfl rfl ?_
            refine D.sk 8 rfl rfl rfl rfl rfl ?_
            refine D.sk 9 rfl rfl rfl rfl rfl ?_
            refine D.sk 10 rfl rfl rfl rfl rfl ?_
            refine D.sk 11 rfl rfl rfl rfl rfl ?_
            refine D.sk 12 rfl rfl rfl rfl rfl ?_
            refine D.sk 13 rfl rfl rfl rfl rfl ?_
            refine D.q 14 rfl rfl rfl rfl rfl rfl ?_
            refine D.nil rfl rfl ?_
            have hr := Option.some.inj H1341
            subst e1324
            exact E.give ((), ()) [0, 1, 1, 0] [0, 1, 2, 3, 4, 5] trivial ⟨rfl, rfl, rfl, rfl, rfl, rfl, rfl, trivial⟩ rfl rfl
          refine D.q 6 rfl rfl rfl rfl rfl rfl ?_
          refine D.y 7 (Yl.ldb 3 rfl rfl rfl rfl) rfl rfl rfl rfl rfl rfl ?_
          refine D.q 8 rfl rfl rfl rfl rfl rfl ?_
          obtain ⟨x1342, h1343, H1344⟩ := bnd H1341
          refine D.addr 2 rfl (idx_lt h1343) fun b1345 o1346 e1347 => ?_
          obtain rfl : a_0_0 = some ⟨b1345, o1346, none⟩ := e1347
          refine D.y 9 (Yl.ia h1343 rfl rfl rfl rfl rfl rfl) rfl rfl rfl rfl rfl rfl ?_
          refine D.el 2 rfl (idx_some h1343).2 ?_
          rintro ⟨a1348, c1349⟩
          refine D.y 10 (Yl.ldc 0 0 rfl rfl rfl rfl) rfl rfl rfl rfl rfl rfl ?_
          refine D.y 11 (Yl.ldb 0 rfl rfl rfl rfl) rfl rfl rfl rfl rfl rfl ?_
          obtain ⟨r1352, h1353, H1354⟩ := bnd H1344
          refine D.one rfl rfl rfl (Dp.a [] [1, 3] (Ac.call (c_ref17_same a1348 c1349 a1262 c1263 h1353) rfl rfl rfl rfl) rfl rfl rfl rfl rfl rfl ?_)
          rintro ⟨⟩
          refine D.q 13 rfl rfl rfl rfl rfl rfl ?_
          refine D.q 14 rfl rfl rfl rfl rfl rfl ?_
          refine D.nil rfl rfl ?_
          have hr := Option.some.inj H1354
          subst e1324
          exact E.give ((), ()) [0, 1, 1, 0] [2, 3, 4, 5, 6, 7] trivial ⟨rfl, rfl, rfl, rfl, rfl, rfl, rfl, trivial⟩ rfl rfl
        rintro ⟨_, ⟨⟩⟩ _
        refine T.bif rfl H1326 (fun hc H1355 => ?_) (fun hc H1355 => ?_)
        · refine T.region ?_
          refine L.q 2 rfl ?_
          refine L.a [] [] (Ac.bs (ty := (Ty.int .i64)) (xs := [s686.1]) (.cons () [] rfl .nil) rfl rfl rfl rfl rfl rfl rfl) rfl rfl rfl rfl rfl ?_
          intro g1356
          refine L.frz 0 rfl ?_
          obtain ⟨_, h1359, H1360⟩ := bnd H1355
          refine L.a [3] [0] (Ac.ap (ty := (Ty.int .i64)) h1359 rfl rfl rfl rfl rfl rfl rfl) rfl rfl rfl rfl rfl ?_
          rintro ⟨a1361, c1362⟩
          refine L.q 1 rfl ?_
          refine L.nil (E.block ?_)
          have hr := Option.some.inj H1360
          subst e1253
          exact E.give ((), (a1361, c1362)) [0, 1, 1] [3, 4, 5, 6] trivial ⟨rfl, rfl, rfl, rfl, rfl, trivial⟩ rfl rfl
        refine T.skip (E.block ?_)
        have hr := Option.some.inj H1355
        subst e1253
        exact E.give ((), (a683, c684)) [3, 1, 1] [2, 3, 4, 5] trivial ⟨rfl, rfl, rfl, rfl, rfl, trivial⟩ rfl rfl
      rintro ⟨_, ⟨a1250, c1251⟩⟩ _
      refine T.region ?_
      refine L.q 2 rfl ?_
      refine L.nil ?_
      have hr := Option.some.inj H1255
      subst z1028
      exact E.give (_, (a1250, c1251)) [0, 0, 0] [0, 1, 2, 3] (hag1029 _ rfl) ⟨rfl, rfl, rfl, rfl, rfl, trivial⟩ rfl rfl
    refine T.exit (E.then_exit' (E.then_exit' (E.block_here ?_)))
    have hr := Option.some.inj H1032
    subst z1028
    have hb := hbr1030 _ rfl
    subst e1024
    exact E.give ((), (a683, c684)) [0, 0, 0] [0, 1, 2, 3] trivial ⟨rfl, trivial⟩ rfl rfl
  rintro ⟨_, ⟨a1021, c1022⟩⟩ _
  refine T.seq (T.region ?_)
  refine L.q 2 rfl ?_
  refine L.nil (E.then (T.ret ?_))
  have hr := Option.some.inj H1026
  subst r
  exact E.ret (a1021, c1022) [0] [] (.tmp rfl .nil) rfl rfl rfl

theorem c_ref17_Diff {a : Ref16Snap} {b : Ref16Snap} (a_0_0 : Option Addr) (c_0_0 : Nat) (a_0_1 : Option Addr) (c_0_1 : Nat) (a_1_0 : Option Addr) (c_1_0 : Nat) (a_1_1 : Option Addr) (c_1_1 : Nat) {r : ByteArray} (H : p_ref17_Diff a b = some r) : CT G 43 [.agg (bx33 a a_0_0 c_0_0 a_0_1 c_0_1).toArray, .agg (bx33 b a_1_0 c_1_0 a_1_1 c_1_1).toArray] [] [Im.sl tyRef09Row a_0_0 c_0_0 a.rows, Im.sl tyRef09Glyph a_0_1 c_0_1 a.begun, Im.sl tyRef09Row a_1_0 c_1_0 b.rows, Im.sl tyRef09Glyph a_1_1 c_1_1 b.begun] (fun h : Unit => .string r) (fun h => []) (fun h => []) := by
  delta p_ref17_Diff at H
  refine CT.of Go.Proofs.Tryz.func43 (by kernel_rfl) rfl rfl rfl fun K => ?_
  refine T.seq (T.region ?_)
  refine L.a [] [] (Ac.box rfl rfl) rfl rfl rfl rfl rfl ?_
  intro g1
  refine L.a [] [] (Ac.box rfl rfl) rfl rfl rfl rfl rfl ?_
  intro g2
  refine L.q 1 rfl ?_
  refine L.nil (E.then (T.seq (T.seq ?_)))
  obtain ⟨e18, H19, H20⟩ := bnd H
  refine T.join (η := Unit × Unit) (fun h => True) (fun h => [(2, .pointer (some ⟨g1, 0, none⟩)), (3, .pointer (some ⟨g2, 0, none⟩)), (18, .bool e18)]) (fun h => [Ch.box g2 33 (bx33 b a_1_0 c_1_0 a_1_1 c_1_1), Ch.box g1 33 (bx33 a a_0_0 c_0_0 a_0_1 c_0_1)]) (fun h => [Im.sl tyRef09Row a_0_0 c_0_0 a.rows, Im.sl tyRef09Glyph a_0_1 c_0_1 a.begun, Im.sl tyRef09Row a_1_0 c_1_0 b.rows, Im.sl tyRef09Glyph a_1_1 c_1_1 b.begun]) ?_ ?_
  · refine T.region ?_
    refine L.y (Yl.ldb 1 rfl rfl rfl rfl) rfl rfl rfl ?_
    obtain ⟨r21, h22, H23⟩ := bnd H19
    refine L.a [] [0, 1] (Ac.call (c_ref16_May a_0_0 c_0_0 a_0_1 c_0_1 h22) rfl rfl rfl rfl) rfl rfl rfl rfl rfl ?_
    rintro ⟨⟩
    refine L.q 2 rfl ?_
    refine L.cs 14 H23 rfl (fun hc H24 => ?_) (fun hc H24 => ?_)
    · refine L.q 4 rfl ?_
      refine L.nil ?_
      have hr := Option.some.inj H24
      subst e18
      exact E.give ((), ()) [0, 0] [0, 1, 2, 3] trivial ⟨rfl, rfl, rfl, trivial⟩ rfl rfl
    refine L.y (Yl.ldb 0 rfl rfl rfl rfl) rfl rfl rfl ?_
    obtain ⟨r25, h26, H27⟩ := bnd H24
    refine L.a [] [2, 3] (Ac.call (c_ref16_Pack a_1_0 c_1_0 a_1_1 c_1_1 h26) rfl rfl rfl rfl) rfl rfl rfl rfl rfl ?_
    rintro ⟨⟩
    refine L.q 2 rfl ?_
    refine L.nil ?_
    have hr := Option.some.inj H27
    subst e18
    exact E.give ((), ()) [0, 0] [0, 1, 2, 3] trivial ⟨rfl, rfl, rfl, trivial⟩ rfl rfl
  rintro ⟨_, ⟨⟩⟩ _
  refine T.bif rfl H20 (fun hc H29 => ?_) (fun hc H29 => ?_)
  · refine T.seq (T.region ?_)
    refine L.q 1 rfl ?_
    refine L.nil (E.then (T.ret (E.then_ret ?_)))
    have hr := Option.some.inj H29
    subst r
    exact E.ret () [] [] (.tmp rfl .nil) rfl rfl rfl
  refine T.skip (E.then (T.seq (T.region ?_)))
  refine L.q 1 rfl ?_
  refine L.nil (E.then (T.seq (T.seq ?_)))
  refine T.draw [] [0, 0] mo (by rfl) rfl ?_
  refine D.y 0 (Yl.ldb 1 rfl rfl rfl rfl) rfl rfl rfl rfl rfl rfl ?_
  refine D.q 2 rfl rfl rfl rfl rfl rfl ?_
  refine D.y 3 (Yl.ldb 0 rfl rfl rfl rfl) rfl rfl rfl rfl rfl rfl ?_
  refine D.q 4 rfl rfl rfl rfl rfl rfl ?_
  refine D.y 5 (Yl.ldb 0 rfl rfl rfl rfl) rfl rfl rfl rfl rfl rfl ?_
  refine D.q 6 rfl rfl rfl rfl rfl rfl ?_
  refine D.y 7 (Yl.ldb 0 rfl rfl rfl rfl) rfl rfl rfl rfl rfl rfl ?_
  refine D.q 8 rfl rfl rfl rfl rfl rfl ?_
  refine D.y 9 (Yl.ldb 0 rfl rfl rfl rfl) rfl rfl rfl rfl rfl rfl ?_
  refine D.q 10 rfl rfl rfl rfl rfl rfl ?_
  refine D.y 11 (Yl.ldb 0 rfl rfl rfl rfl) rfl rfl rfl rfl rfl rfl ?_
  refine D.q 14 rfl rfl rfl rfl rfl rfl ?_
  obtain ⟨r45, h46, H47⟩ := bnd H29
  refine D.one rfl rfl rfl (Dp.a [] [0, 1] (Ac.call (c_ref16_Sum a_0_0 c_0_0 a_0_1 c_0_1 h46) rfl rfl rfl rfl) rfl rfl rfl rfl rfl rfl ?_)
  rintro ⟨⟩
  refine D.one rfl rfl rfl (Dp.a [] [] (Ac.bs (ty := (Ty.int .i64)) (xs := [r45, b.k, b.w, b.h, b.x, b.y]) (.cons () [] rfl (.cons () [] rfl (.cons () [] rfl (.cons () [] rfl (.cons () [] rfl (.cons () [] rfl .nil)))))) rfl rfl rfl rfl rfl rfl rfl) rfl rfl rfl rfl rfl rfl ?_)
  intro g48
  refine D.q 13 rfl rfl rfl rfl rfl rfl ?_
  refine D.nil rfl rfl ?_
  refine E.then ?_
  obtain ⟨e112, H113, H114⟩ := bnd H47
  refine T.join (η := Unit × Unit) (fun h => True) (fun h => [(2, .pointer (some ⟨g1, 0, none⟩)), (3, .pointer (some ⟨g2, 0, none⟩)), (5, .string e112)]) (fun h => [Ch.box g2 33 (bx33 b a_1_0 c_1_0 a_1_1 c_1_1), Ch.box g1 33 (bx33 a a_0_0 c_0_0 a_0_1 c_0_1)]) (fun h => [Im.sl tyRef09Row a_0_0 c_0_0 a.rows, Im.sl tyRef09Glyph a_0_1 c_0_1 a.begun, Im.sl tyRef09Row a_1_0 c_1_0 b.rows, Im.sl tyRef09Glyph a_1_1 c_1_1 b.begun]) ?_ ?_
  · refine T.block ?_
    refine T.lp (η := Unit) (fun s92 h => [(2, .pointer (some ⟨g1, 0, none⟩)), (3, .pointer (some ⟨g2, 0, none⟩)), (5, .string s92.2), (31, .slice (some ⟨g48, 0, none⟩) [r45, b.k, b.w, b.h, b.x, b.y].length 6), (32, .int .i64 ([r45, b.k, b.w, b.h, b.x, b.y].length : Int)), (33, .int .i64 s92.1)]) (fun s92 h => [Ch.box g2 33 (bx33 b a_1_0 c_1_0 a_1_1 c_1_1), Ch.box g1 33 (bx33 a a_0_0 c_0_0 a_0_1 c_0_1), Ch.arr (Ty.int .i64) 3 (some ⟨g48, 0, none⟩) 6 [r45, b.k, b.w, b.h, b.x, b.y]]) (fun s92 h => [Im.sl tyRef09Row a_0_0 c_0_0 a.rows, Im.sl tyRef09Glyph a_0_1 c_0_1 a.begun, Im.sl tyRef09Row a_1_0 c_1_0 b.rows, Im.sl tyRef09Glyph a_1_1 c_1_1 b.begun]) () [0, 0, 0] [0, 1, 2, 3] H113 ⟨rfl, rfl, rfl, rfl, rfl, rfl, trivial⟩ rfl rfl ?_
    rintro k_ s92 ⟨⟩ z116 H115 hag117 hbr118
    refine T.seq (T.region ?_)
    refine L.q 1 rfl ?_
    refine L.nil (E.then (T.seq ?_))
    refine T.bif rfl H115 (fun hc H120 => ?_) (fun hc H120 => ?_)
    · refine T.skip (E.then (T.seq (T.block (T.seq (T.region ?_)))))
      obtain ⟨x129, h130, H131⟩ := bnd H120
      refine L.y (Yl.ia h130 rfl rfl rfl rfl rfl rfl) rfl rfl rfl ?_
      refine L.y (Yl.lo (v := .int .i64 x129) 2 s92.1.toNat 0 (idx_some h130).2 rfl rfl rfl rfl (fun _ => rfl)) rfl rfl rfl ?_
      refine L.q 1 rfl ?_
      refine L.nil (E.then (T.region ?_))
      refine L.q 2 rfl ?_
      obtain ⟨r132, h133, H134⟩ := bnd H131
      refine L.a [] [] (Ac.call (c_ref01_Num h133) rfl rfl rfl rfl) rfl rfl rfl rfl rfl ?_
      rintro ⟨⟩
      obtain ⟨_, h135, H136⟩ := bnd H134
      refine L.y (Yl.sa h135 rfl rfl rfl) rfl rfl rfl ?_
      refine L.q 1 rfl ?_
      refine L.nil (E.block (E.then (T.region ?_)))
      refine L.q 2 rfl ?_
      refine L.nil ?_
      have hr := Option.some.inj H136
      subst z116
      exact E.give (_, ()) [0, 0, 0] [0, 1, 2, 3] (hag117 _ rfl) ⟨rfl, rfl, rfl, rfl, rfl, rfl, trivial⟩ rfl rfl
    refine T.exit (E.then_exit' (E.then_exit' (E.block_here ?_)))
    have hr := Option.some.inj H120
    subst z116
    have hb := hbr118 _ rfl
    subst e112
    exact E.give ((), ()) [0, 0] [0, 1, 2, 3] trivial ⟨rfl, rfl, rfl, trivial⟩ rfl rfl
  rintro ⟨_, ⟨⟩⟩ _
  refine T.seq (T.region ?_)
  refine L.y (Yl.ldb 1 rfl rfl rfl rfl) rfl rfl rfl ?_
  refine L.y (Yl.ldb 0 rfl rfl rfl rfl) rfl rfl rfl ?_
  obtain ⟨r137, h138, H139⟩ := bnd H114
  refine L.a [] [0, 1, 2, 3] (Ac.call (c_ref17_Changes a_0_0 c_0_0 a_0_1 c_0_1 a_1_0 c_1_0 a_1_1 c_1_1 h138) rfl rfl rfl rfl) rfl rfl rfl rfl rfl ?_
  rintro ⟨a140, c141⟩
  refine L.q 1 rfl ?_
  refine L.nil (E.then (T.seq ?_))
  refine T.draw [] [0, 0, 0] mo (by rfl) rfl ?_
  refine D.q 0 rfl rfl rfl rfl rfl rfl ?_
  refine D.q 1 rfl rfl rfl rfl rfl rfl ?_
  refine D.y 2 (Yl.ldb 1 rfl rfl rfl rfl) rfl rfl rfl rfl rfl rfl ?_
  refine D.q 4 rfl rfl rfl rfl rfl rfl ?_
  refine D.y 5 (Yl.ldb 1 rfl rfl rfl rfl) rfl rfl rfl rfl rfl rfl ?_
  refine D.q 8 rfl rfl rfl rfl rfl rfl ?_
  refine D.y 9 (Yl.ldb 1 rfl rfl rfl rfl) rfl rfl rfl rfl rfl rfl ?_
  refine D.q 12 rfl rfl rfl rfl rfl rfl ?_
  refine D.y 13 (Yl.ldb 1 rfl rfl rfl rfl) rfl rfl rfl rfl rfl rfl ?_
  refine D.q 16 rfl rfl rfl rfl rfl rfl ?_
  refine D.q 17 rfl rfl rfl rfl rfl rfl ?_
  obtain ⟨r218, h219, H220⟩ := bnd H139
  refine D.one rfl rfl rfl (Dp.a [] [] (Ac.call (c_ref01_Text h219) rfl rfl rfl rfl) rfl rfl rfl rfl rfl rfl ?_)
  rintro ⟨⟩
  obtain ⟨r221, h222, H223⟩ := bnd H220
  refine D.one rfl rfl rfl (Dp.a [] [] (Ac.call (c_ref01_Num h222) rfl rfl rfl rfl) rfl rfl rfl rfl rfl rfl ?_)
  rintro ⟨⟩
  obtain ⟨_, h224, H225⟩ := bnd H223
  refine D.y 7 (Yl.sa h224 rfl rfl rfl) rfl rfl rfl rfl rfl rfl ?_
  obtain ⟨r226, h227, H228⟩ := bnd H225
  refine D.one rfl rfl rfl (Dp.a [] [] (Ac.call (c_ref01_Num h227) rfl rfl rfl rfl) rfl rfl rfl rfl rfl rfl ?_)
  rintro ⟨⟩
  obtain ⟨_, h229, H230⟩ := bnd H228
  refine D.y 11 (Yl.sa h229 rfl rfl rfl) rfl rfl rfl rfl rfl rfl ?_
  obtain ⟨r231, h232, H233⟩ := bnd H230
  refine D.one rfl rfl rfl (Dp.a [] [3] (Ac.call (c_ref12_Pack a_1_1 c_1_1 h232) rfl rfl rfl rfl) rfl rfl rfl rfl rfl rfl ?_)
  rintro ⟨⟩
  obtain ⟨_, h234, H235⟩ := bnd H233
  refine D.y 15 (Yl.sa h234 rfl rfl rfl) rfl rfl rfl rfl rfl rfl ?_
  obtain ⟨r236, h237, H238⟩ := bnd H235
  refine D.one rfl rfl rfl (Dp.a [] [] (Ac.call (c_ref01_Num h237) rfl rfl rfl rfl) rfl rfl rfl rfl rfl rfl ?_)
  rintro ⟨⟩
  obtain ⟨_, h239, H240⟩ := bnd H238
  refine D.y 19 (Yl.sa h239 rfl rfl rfl) rfl rfl rfl rfl rfl rfl ?_
  obtain ⟨_, h241, H242⟩ := bnd H240
  refine D.y 20 (Yl.sa h241 rfl rfl rfl) rfl rfl rfl rfl rfl rfl ?_
  refine D.q 21 rfl rfl rfl rfl rfl rfl ?_
  refine D.nil rfl rfl ?_
  refine E.then (T.seq (T.seq (T.region ?_)))
  refine L.q 3 rfl ?_
  refine L.nil (E.then ?_)
  obtain ⟨e527, H528, H529⟩ := bnd H242
  refine T.join (η := Unit × Unit) (fun h => True) (fun h => [(5, .string e527)]) (fun h => [Ch.box g2 33 (bx33 b a_1_0 c_1_0 a_1_1 c_1_1), Ch.box g1 33 (bx33 a a_0_0 c_0_0 a_0_1 c_0_1)]) (fun h => [Im.sl tyRef09Row a_0_0 c_0_0 a.rows, Im.sl tyRef09Glyph a_0_1 c_0_1 a.begun, Im.sl tyRef09Row a_1_0 c_1_0 b.rows, Im.sl tyRef09Glyph a_1_1 c_1_1 b.begun]) ?_ ?_
  · refine T.block ?_
    refine T.lp (η := Unit) (fun s433 h => [(3, .pointer (some ⟨g2, 0, none⟩)), (5, .string s433.1), (66, .slice a140 r137.length c141), (67, .int .i64 (r137.length : Int)), (68, .int .i64 s433.2)]) (fun s433 h => [Ch.box g2 33 (bx33 b a_1_0 c_1_0 a_1_1 c_1_1), Ch.box g1 33 (bx33 a a_0_0 c_0_0 a_0_1 c_0_1), Ch.arr (Ty.int .i64) 3 a140 c141 r137]) (fun s433 h => [Im.sl tyRef09Row a_0_0 c_0_0 a.rows, Im.sl tyRef09Glyph a_0_1 c_0_1 a.begun, Im.sl tyRef09Row a_1_0 c_1_0 b.rows, Im.sl tyRef09Glyph a_1_1 c_1_1 b.begun]) () [1, 1, 0] [0, 1, 2, 3] H528 ⟨rfl, rfl, rfl, rfl, rfl, trivial⟩ rfl rfl ?_
    rintro k_ s433 ⟨⟩ z531 H530 hag532 hbr533
    refine T.seq (T.region ?_)
    refine L.q 1 rfl ?_
    refine L.nil (E.then (T.seq ?_))
    refine T.bif rfl H530 (fun hc H535 => ?_) (fun hc H535 => ?_)
    · refine T.skip (E.then (T.seq (T.block (T.seq (T.region ?_)))))
      obtain ⟨x581, h582, H583⟩ := bnd H535
      refine L.addro 2 rfl (idx_lt h582) fun b584 e585 => ?_
      obtain rfl : a140 = some ⟨b584, 0, none⟩ := e585
      refine L.y (Yl.ia h582 rfl rfl rfl rfl rfl rfl) rfl rfl rfl ?_
      refine L.y (Yl.lo (v := .int .i64 x581) 2 s433.2.toNat 0 (idx_some h582).2 rfl rfl rfl rfl (fun _ => rfl)) rfl rfl rfl ?_
      refine L.q 1 rfl ?_
      refine L.nil (E.then ?_)
      refine T.draw [] [0, 0, 0] mo (by rfl) rfl ?_
      refine D.q 0 rfl rfl rfl rfl rfl rfl ?_
      refine D.q 1 rfl rfl rfl rfl rfl rfl ?_
      refine D.q 3 rfl rfl rfl rfl rfl rfl ?_
      refine D.y 4 (Yl.ldb 0 rfl rfl rfl rfl) rfl rfl rfl rfl rfl rfl ?_
      refine D.q 5 rfl rfl rfl rfl rfl rfl ?_
      obtain ⟨x606, h607, H608⟩ := bnd H583
      refine D.addr 2 rfl (idx_lt h607) fun b609 o610 e611 => ?_
      obtain rfl : a_1_0 = some ⟨b609, o610, none⟩ := e611
      refine D.y 6 (Yl.ia h607 rfl rfl rfl rfl rfl rfl) rfl rfl rfl rfl rfl rfl ?_
      refine D.el 2 rfl (idx_some h607).2 ?_
      rintro ⟨a612, c613⟩
      refine D.y 7 (Yl.ldc 0 0 rfl rfl rfl rfl) rfl rfl rfl rfl rfl rfl ?_
      obtain ⟨r616, h617, H618⟩ := bnd H608
      refine D.one rfl rfl rfl (Dp.a [] [] (Ac.call (c_ref01_Num h617) rfl rfl rfl rfl) rfl rfl rfl rfl rfl rfl ?_)
      rintro ⟨⟩
      obtain ⟨r619, h620, H621⟩ := bnd H618
      refine D.one rfl rfl rfl (Dp.a [] [1] (Ac.call (c_ref16_PackRow a612 c613 h620) rfl rfl rfl rfl) rfl rfl rfl rfl rfl rfl ?_)
      rintro ⟨⟩
      obtain ⟨_, h622, H623⟩ := bnd H621
      refine D.y 9 (Yl.sa h622 rfl rfl rfl) rfl rfl rfl rfl rfl rfl ?_
      obtain ⟨_, h624, H625⟩ := bnd H623
      refine D.y 10 (Yl.sa h624 rfl rfl rfl) rfl rfl rfl rfl rfl rfl ?_
      refine D.q 11 rfl rfl rfl rfl rfl rfl ?_
      refine D.nil rfl rfl ?_
      refine E.block (E.then (T.region ?_))
      refine L.q 2 rfl ?_
      refine L.nil ?_
      have hr := Option.some.inj H625
      subst z531
      exact E.give (_, ()) [0, 0, 0] [2, 3, 4, 5] (hag532 _ rfl) ⟨rfl, rfl, rfl, rfl, rfl, trivial⟩ rfl rfl
    refine T.exit (E.then_exit' (E.then_exit' (E.block_here ?_)))
    have hr := Option.some.inj H535
    subst z531
    have hb := hbr533 _ rfl
    subst e527
    exact E.give ((), ()) [0, 0] [0, 1, 2, 3] trivial ⟨rfl, trivial⟩ rfl rfl
  rintro ⟨_, ⟨⟩⟩ _
  refine T.seq (T.region ?_)
  refine L.q 2 rfl ?_
  refine L.nil (E.then (T.ret ?_))
  have hr := Option.some.inj H529
  subst r
  exact E.ret () [] [] (.tmp rfl .nil) rfl rfl rfl

theorem c_ref04_Split {s_ : ByteArray} {size : Int} {r : (List ByteArray)} (H : p_ref04_Split s_ size = some r) : CT G 42 [.string s_, .int .i64 size] [] [] (fun h : (Option Addr × Nat) => .slice h.1 r.length h.2) (fun h => [Ch.arr Ty.str 9 h.1 h.2 r]) (fun h => []) := by
  delta p_ref04_Split at H
  refine CT.of Go.Proofs.Tryz.func42 (by kernel_rfl) rfl rfl rfl fun K => ?_
  refine T.seq (T.region ?_)
  refine L.q 1 rfl ?_
  refine L.nil (E.then (T.seq (T.region ?_)))
  refine L.q 4 rfl ?_
  refine L.nil (E.then (T.seq (T.region ?_)))
  refine L.q 6 rfl ?_
  obtain ⟨_, h1, H2⟩ := bnd H
  refine L.y (Yl.quo (b := (imax 1 (imin size 8000))) h1 rfl rfl rfl) rfl rfl rfl ?_
  refine L.q 2 rfl ?_
  refine L.nil (E.then (T.seq (T.region ?_)))
  refine L.a [] [] (Ac.bs (ty := Ty.str) (xs := []) .nil rfl rfl rfl rfl rfl rfl rfl) rfl rfl rfl rfl rfl ?_
  intro g3
  refine L.q 1 rfl ?_
  refine L.nil (E.then (T.seq (T.seq (T.region ?_))))
  refine L.q 1 rfl ?_
  refine L.nil (E.then ?_)
  obtain ⟨e91, H92, H93⟩ := bnd H2
  refine T.join (η := Unit × ((Option Addr × Nat))) (fun h => True) (fun h => (fun a88 c89 => [(7, .slice a88 e91.length c89)]) h.2.1 h.2.2) (fun h => (fun a88 c89 => [Ch.arr Ty.str 9 a88 c89 e91]) h.2.1 h.2.2) (fun h => (fun a88 c89 => []) h.2.1 h.2.2) ?_ ?_
  · refine T.block ?_
    refine T.lp (η := (Option Addr × Nat)) (fun s64 h => (fun a60 c61 => [(0, .string s_), (5, .int .i64 (imax 1 (imin size 8000))), (6, .int .i64 (imax 1 (IntKind.i64.wrap ((IntKind.i64.wrap ((IntKind.i64.wrap ((s_.size : Int) + (imax 1 (imin size 8000)))) - 1)).tdiv (imax 1 (imin size 8000)))))), (7, .slice a60 s64.1.length c61), (8, .int .i64 s64.2)]) h.1 h.2) (fun s64 h => (fun a60 c61 => [Ch.arr Ty.str 9 a60 c61 s64.1]) h.1 h.2) (fun s64 h => (fun a60 c61 => []) h.1 h.2) ((some ⟨g3, 0, none⟩), 0) [0] [] H92 ⟨rfl, rfl, rfl, rfl, rfl, trivial⟩ rfl rfl ?_
    rintro k_ s64 ⟨a60, c61⟩ z95 H94 hag96 hbr97
    refine T.seq (T.seq (T.region ?_))
    refine L.q 3 rfl ?_
    refine L.nil (E.then ?_)
    refine T.bif rfl H94 (fun hc H99 => ?_) (fun hc H99 => ?_)
    · refine T.skip (E.then (T.seq (T.block (T.region ?_))))
      refine L.q 13 rfl ?_
      obtain ⟨_, h110, H111⟩ := bnd H99
      refine L.y (Yl.sc h110 rfl rfl rfl rfl rfl rfl) rfl rfl rfl ?_
      refine L.a [] [] (Ac.bs (ty := Ty.str) (xs := [(scut s_ (IntKind.i64.wrap (s64.2 * (imax 1 (imin size 8000)))) (imin (s_.size : Int) (IntKind.i64.wrap ((IntKind.i64.wrap (s64.2 * (imax 1 (imin size 8000)))) + (imax 1 (imin size 8000))))))]) (.cons () [] rfl .nil) rfl rfl rfl rfl rfl rfl rfl) rfl rfl rfl rfl rfl ?_
      intro g112
      refine L.frz 0 rfl ?_
      obtain ⟨_, h115, H116⟩ := bnd H111
      refine L.a [0] [0] (Ac.ap (ty := Ty.str) h115 rfl rfl rfl rfl rfl rfl rfl) rfl rfl rfl rfl rfl ?_
      rintro ⟨a117, c118⟩
      refine L.q 1 rfl ?_
      refine L.nil (E.block (E.then (T.region ?_)))
      refine L.q 3 rfl ?_
      refine L.nil ?_
      have hr := Option.some.inj H116
      subst z95
      exact E.give (_, (a117, c118)) [0] [] (hag96 _ rfl) ⟨rfl, rfl, rfl, rfl, rfl, trivial⟩ rfl rfl
    refine T.exit (E.then_exit' (E.then_exit' (E.block_here ?_)))
    have hr := Option.some.inj H99
    subst z95
    have hb := hbr97 _ rfl
    subst e91
    exact E.give ((), (a60, c61)) [0] [] trivial ⟨rfl, trivial⟩ rfl rfl
  rintro ⟨_, ⟨a88, c89⟩⟩ _
  refine T.seq (T.region ?_)
  refine L.q 2 rfl ?_
  refine L.nil (E.then (T.ret ?_))
  have hr := Option.some.inj H93
  subst r
  exact E.ret (a88, c89) [0] [] (.tmp rfl .nil) rfl rfl rfl

theorem c_ref19_Step {s_ : Ref19Sender} {now : Int} (a_0_0 : Option Addr) (c_0_0 : Nat) (a_0_1 : Option Addr) (c_0_1 : Nat) (a_0_2 : Option Addr) (c_0_2 : Nat) (a_0_3 : Option Addr) (c_0_3 : Nat) (a_0_4 : Option Addr) (c_0_4 : Nat) (a_0_5 : Option Addr) (c_0_5 : Nat) (a_0_6 : Option Addr) (c_0_6 : Nat) {r : Ref19Sender × (List Ref03Gram)} (H : p_ref19_Step s_ now = some r) : CT G 19 [.agg (bx38 s_ a_0_0 c_0_0 a_0_1 c_0_1 a_0_2 c_0_2 a_0_3 c_0_3 a_0_4 c_0_4 a_0_5 c_0_5 a_0_6 c_0_6).toArray, .int .i64 now] [] [Im.sl tyRef09Row a_0_0 c_0_0 s_.current.rows, Im.sl tyRef09Glyph a_0_1 c_0_1 s_.current.begun, Im.sl tyRef09Row a_0_2 c_0_2 s_.acked.rows, Im.sl tyRef09Glyph a_0_3 c_0_3 s_.acked.begun, Im.sl tyRef16Snap a_0_4 c_0_4 s_.kept, Im.sl Ty.str a_0_5 c_0_5 s_.parts, Im.sl Ty.bool a_0_6 c_0_6 s_.there] (fun h : (Option Addr × Nat) × (Option Addr × Nat) × (Option Addr × Nat) × (Option Addr × Nat) => .tuple #[.agg (bx38 r.1 a_0_0 c_0_0 a_0_1 c_0_1 a_0_2 c_0_2 a_0_3 c_0_3 h.1.1 h.1.2 h.2.1.1 h.2.1.2 h.2.2.1.1 h.2.2.1.2).toArray, .slice h.2.2.2.1 r.2.length h.2.2.2.2]) (fun h => [Ch.arr tyRef03Gram 101 h.2.2.2.1 h.2.2.2.2 r.2]) (fun h => [Im.sl tyRef09Row a_0_0 c_0_0 r.1.current.rows, Im.sl tyRef09Glyph a_0_1 c_0_1 r.1.current.begun, Im.sl tyRef09Row a_0_2 c_0_2 r.1.acked.rows, Im.sl tyRef09Glyph a_0_3 c_0_3 r.1.acked.begun, Im.sl tyRef16Snap h.1.1 h.1.2 r.1.kept, Im.sl Ty.str h.2.1.1 h.2.1.2 r.1.parts, Im.sl Ty.bool h.2.2.1.1 h.2.2.1.2 r.1.there]) := by
  delta p_ref19_Step at H
  refine CT.of Go.Proofs.Tryz.func19 (by kernel_rfl) rfl rfl rfl fun K => ?_
  refine T.seq (T.region ?_)
  refine L.a [] [] (Ac.box rfl rfl) rfl rfl rfl rfl rfl ?_
  intro g1
  refine L.a [] [] (Ac.alloc rfl rfl) rfl rfl rfl rfl rfl ?_
  intro g2
  refine L.q 1 rfl ?_
  refine L.nil (E.then (T.seq (T.region ?_)))
  refine L.a [] [] (Ac.bs (ty := tyRef03Gram) (xs := []) .nil rfl rfl rfl rfl rfl rfl rfl) rfl rfl rfl rfl rfl ?_
  intro g3
  refine L.q 1 rfl ?_
  refine L.nil (E.then (T.seq (T.seq (T.region ?_))))
  refine L.q 2 rfl ?_
  refine L.y (Yl.ldb 2 rfl rfl rfl rfl) rfl rfl rfl ?_
  refine L.q 2 rfl ?_
  refine L.y (Yl.ldb 2 rfl rfl rfl rfl) rfl rfl rfl ?_
  refine L.q 1 rfl ?_
  refine L.nil (E.then ?_)
  refine T.bif rfl H (fun hc H6 => ?_) (fun hc H6 => ?_)
  · refine T.seq (T.region ?_)
    refine L.q 1 rfl ?_
    refine L.a [2] [] (Ac.stb rfl rfl rfl rfl rfl rfl) rfl rfl rfl rfl rfl ?_
    intro _
    refine L.q 1 rfl ?_
    refine L.a [0] [] (Ac.stb rfl rfl rfl rfl rfl rfl) rfl rfl rfl rfl rfl ?_
    intro _
    refine L.q 1 rfl ?_
    refine L.a [0] [] (Ac.stb rfl rfl rfl rfl rfl rfl) rfl rfl rfl rfl rfl ?_
    intro _
    refine L.q 1 rfl ?_
    refine L.a [0] [] (Ac.stb rfl rfl rfl rfl rfl rfl) rfl rfl rfl rfl rfl ?_
    intro _
    refine L.q 1 rfl ?_
    refine L.a [0] [] (Ac.stb rfl rfl rfl rfl rfl rfl) rfl rfl rfl rfl rfl ?_
    intro _
    refine L.q 1 rfl ?_
    refine L.a [0] [] (Ac.stb rfl rfl rfl rfl rfl rfl) rfl rfl rfl rfl rfl ?_
    intro _
    refine L.nil (E.then (T.seq (T.region ?_)))
    refine L.y (Yl.ldb 0 rfl rfl rfl rfl) rfl rfl rfl ?_
    refine L.q 1 rfl ?_
    refine L.a [2] [] (Ac.stb rfl rfl rfl rfl rfl rfl) rfl rfl rfl rfl rfl ?_
    intro _
    refine L.q 1 rfl ?_
    refine L.nil (E.then (T.ret (E.then_ret ?_)))
    refine E.know [Im.sl Ty.str none 0 []] (fun A w _ _ f hf => by rw [List.mem_singleton.1 hf]; exact Im.sl_nil A w) ?_
    refine E.know [Im.sl Ty.bool none 0 []] (fun A w _ _ f hf => by rw [List.mem_singleton.1 hf]; exact Im.sl_nil A w) ?_
    have hr := Option.some.inj H6
    subst r
    exact E.ret ((a_0_4, c_0_4), (none, 0), (none, 0), ((some ⟨g3, 0, none⟩), 0)) [2] [2, 3, 4, 5, 6, 1, 0] (.cell 0 rfl rfl rfl (.tmp rfl .nil)) rfl rfl rfl
  refine T.skip (E.then (T.seq (T.seq ?_)))
  obtain ⟨e14, H15, H16⟩ := bnd H6
  refine T.join (η := Unit × Unit) (fun h => True) (fun h => [(1, .int .i64 now), (2, .pointer (some ⟨g1, 0, none⟩)), (4, .pointer (some ⟨g2, 0, none⟩)), (6, .slice (some ⟨g3, 0, none⟩) ([] : List Ref03Gram).length 0), (46, .bool e14)]) (fun h => [Ch.box g2 38 [.int .i64 0, .int .i64 0, .int .i64 0, .int .i64 0, .int .i64 0, .int .i64 0, .int .i64 0, .int .i64 0, .string (ByteArray.mk #[]), .slice none 0 0, .int .i64 0, .int .i64 0, .slice none 0 0, .int .i64 0, .int .i64 0, .int .i64 0, .int .i64 0, .int .i64 0, .string (ByteArray.mk #[]), .slice none 0 0, .int .i64 0, .int .i64 0, .slice none 0 0, .slice none 0 0, .int .i64 0, .int .i64 0, .int .i64 0, .slice none 0 0, .slice none 0 0, .int .i64 0, .int .i64 0], Ch.box g1 38 (bx38 s_ a_0_0 c_0_0 a_0_1 c_0_1 a_0_2 c_0_2 a_0_3 c_0_3 a_0_4 c_0_4 a_0_5 c_0_5 a_0_6 c_0_6), Ch.arr tyRef03Gram 101 (some ⟨g3, 0, none⟩) 0 ([] : List Ref03Gram)]) (fun h => [Im.sl tyRef09Row a_0_0 c_0_0 s_.current.rows, Im.sl tyRef09Glyph a_0_1 c_0_1 s_.current.begun, Im.sl tyRef09Row a_0_2 c_0_2 s_.acked.rows, Im.sl tyRef09Glyph a_0_3 c_0_3 s_.acked.begun, Im.sl tyRef16Snap a_0_4 c_0_4 s_.kept, Im.sl Ty.str a_0_5 c_0_5 s_.parts, Im.sl Ty.bool a_0_6 c_0_6 s_.there]) ?_ ?_
  · refine T.region ?_
    refine L.q 1 rfl ?_
    refine L.y (Yl.ldb 2 rfl rfl rfl rfl) rfl rfl rfl ?_
    refine L.q 2 rfl ?_
    refine L.cs 31 H15 rfl (fun hc H17 => ?_) (fun hc H17 => ?_)
    · refine L.q 15 rfl ?_
      refine L.nil ?_
      have hr := Option.some.inj H17
      subst e14
      exact E.give ((), ()) [1, 1, 0] [0, 1, 2, 3, 4, 5, 6] trivial ⟨rfl, rfl, rfl, rfl, rfl, trivial⟩ rfl rfl
    refine L.q 1 rfl ?_
    refine L.y (Yl.ldb 2 rfl rfl rfl rfl) rfl rfl rfl ?_
    refine L.q 2 rfl ?_
    refine L.y (Yl.ldb 2 rfl rfl rfl rfl) rfl rfl rfl ?_
    refine L.q 3 rfl ?_
    refine L.cs 39 H17 rfl (fun hc H18 => ?_) (fun hc H18 => ?_)
    · refine L.q 7 rfl ?_
      refine L.nil ?_
      have hr := Option.some.inj H18
      subst e14
      exact E.give ((), ()) [1, 1, 0] [0, 1, 2, 3, 4, 5, 6] trivial ⟨rfl, rfl, rfl, rfl, rfl, trivial⟩ rfl rfl
    refine L.q 1 rfl ?_
    refine L.y (Yl.ldb 2 rfl rfl rfl rfl) rfl rfl rfl ?_
    refine L.q 2 rfl ?_
    refine L.y (Yl.ldb 2 rfl rfl rfl rfl) rfl rfl rfl ?_
    refine L.q 2 rfl ?_
    refine L.nil ?_
    have hr := Option.some.inj H18
    subst e14
    exact E.give ((), ()) [1, 1, 0] [0, 1, 2, 3, 4, 5, 6] trivial ⟨rfl, rfl, rfl, rfl, rfl, trivial⟩ rfl rfl
  rintro ⟨_, ⟨⟩⟩ _
  obtain ⟨e741, H742, H743⟩ := bnd H16
  refine T.join (η := Unit × ((Option Addr × Nat) × (Option Addr × Nat) × (Option Addr × Nat))) (fun h => True) (fun h => (fun a732 c733 a735 c736 a738 c739 => [(1, .int .i64 now), (2, .pointer (some ⟨g1, 0, none⟩)), (4, .pointer (some ⟨g2, 0, none⟩)), (6, .slice (some ⟨g3, 0, none⟩) ([] : List Ref03Gram).length 0)]) h.2.1.1 h.2.1.2 h.2.2.1.1 h.2.2.1.2 h.2.2.2.1 h.2.2.2.2) (fun h => (fun a732 c733 a735 c736 a738 c739 => [Ch.box g2 38 [.int .i64 0, .int .i64 0, .int .i64 0, .int .i64 0, .int .i64 0, .int .i64 0, .int .i64 0, .int .i64 0, .string (ByteArray.mk #[]), .slice none 0 0, .int .i64 0, .int .i64 0, .slice none 0 0, .int .i64 0, .int .i64 0, .int .i64 0, .int .i64 0, .int .i64 0, .string (ByteArray.mk #[]), .slice none 0 0, .int .i64 0, .int .i64 0, .slice none 0 0, .slice none 0 0, .int .i64 0, .int .i64 0, .int .i64 0, .slice none 0 0, .slice none 0 0, .int .i64 0, .int .i64 0], Ch.box g1 38 (bx38 e741 a_0_0 c_0_0 a_0_1 c_0_1 a_0_2 c_0_2 a_0_3 c_0_3 a732 c733 a735 c736 a738 c739), Ch.arr tyRef03Gram 101 (some ⟨g3, 0, none⟩) 0 ([] : List Ref03Gram)]) h.2.1.1 h.2.1.2 h.2.2.1.1 h.2.2.1.2 h.2.2.2.1 h.2.2.2.2) (fun h => (fun a732 c733 a735 c736 a738 c739 => [Im.sl tyRef09Row a_0_0 c_0_0 e741.current.rows, Im.sl tyRef09Glyph a_0_1 c_0_1 e741.current.begun, Im.sl tyRef09Row a_0_2 c_0_2 e741.acked.rows, Im.sl tyRef09Glyph a_0_3 c_0_3 e741.acked.begun, Im.sl tyRef16Snap a732 c733 e741.kept, Im.sl Ty.str a735 c736 e741.parts, Im.sl Ty.bool a738 c739 e741.there, Im.sl tyRef09Row a_0_0 c_0_0 s_.current.rows, Im.sl tyRef09Glyph a_0_1 c_0_1 s_.current.begun, Im.sl tyRef09Row a_0_2 c_0_2 s_.acked.rows, Im.sl tyRef09Glyph a_0_3 c_0_3 s_.acked.begun, Im.sl tyRef16Snap a_0_4 c_0_4 s_.kept, Im.sl Ty.str a_0_5 c_0_5 s_.parts, Im.sl Ty.bool a_0_6 c_0_6 s_.there]) h.2.1.1 h.2.1.2 h.2.2.1.1 h.2.2.1.2 h.2.2.2.1 h.2.2.2.2) ?_ ?_
  · refine T.bif rfl H742 (fun hc H744 => ?_) (fun hc H744 => ?_)
    · refine T.seq (T.region ?_)
      refine L.q 1 rfl ?_
      refine L.y (Yl.ldb 1 rfl rfl rfl rfl) rfl rfl rfl ?_
      refine L.q 1 rfl ?_
      refine L.a [1] [] (Ac.stb rfl rfl rfl rfl rfl rfl) rfl rfl rfl rfl rfl ?_
      intro _
      refine L.nil (E.then (T.seq (T.region ?_)))
      refine L.q 1 rfl ?_
      refine L.y (Yl.ldb 0 rfl rfl rfl rfl) rfl rfl rfl ?_
      refine L.q 2 rfl ?_
      refine L.a [0] [] (Ac.stb rfl rfl rfl rfl rfl rfl) rfl rfl rfl rfl rfl ?_
      intro _
      refine L.nil (E.then (T.seq (T.region ?_)))
      refine L.q 2 rfl ?_
      refine L.y (Yl.ldb 0 rfl rfl rfl rfl) rfl rfl rfl ?_
      refine L.q 1 rfl ?_
      refine L.a [0] [] (Ac.stb rfl rfl rfl rfl rfl rfl) rfl rfl rfl rfl rfl ?_
      intro _
      refine L.nil (E.then (T.seq (T.region ?_)))
      refine L.q 2 rfl ?_
      refine L.y (Yl.ldb 0 rfl rfl rfl rfl) rfl rfl rfl ?_
      refine L.q 1 rfl ?_
      refine L.a [0] [] (Ac.stb rfl rfl rfl rfl rfl rfl) rfl rfl rfl rfl rfl ?_
      intro _
      refine L.nil (E.then (T.seq ?_))
      refine T.draw [10] [0, 0, 0] mo (by rfl) rfl ?_
      refine D.q 0 rfl rfl rfl rfl rfl rfl ?_
      refine D.y 1 (Yl.ldb 0 rfl rfl rfl rfl) rfl rfl rfl rfl rfl rfl ?_
      refine D.q 2 rfl rfl rfl rfl rfl rfl ?_
      refine D.y 3 (Yl.ldb 0 rfl rfl rfl rfl) rfl rfl rfl rfl rfl rfl ?_
      refine D.q 5 rfl rfl rfl rfl rfl rfl ?_
      refine D.q 6 rfl rfl rfl rfl rfl rfl ?_
      refine D.y 7 (Yl.ldb 0 rfl rfl rfl rfl) rfl rfl rfl rfl rfl rfl ?_
      obtain ⟨r772, h773, H774⟩ := bnd H744
      refine D.one rfl rfl rfl (Dp.a [] [2, 3, 0, 1] (Ac.call (c_ref17_Diff a_0_2 c_0_2 a_0_3 c_0_3 a_0_0 c_0_0 a_0_1 c_0_1 h773) rfl rfl rfl rfl) rfl rfl rfl rfl rfl rfl ?_)
      rintro ⟨⟩
      obtain ⟨r775, h776, H777⟩ := bnd H774
      refine D.one rfl rfl rfl (Dp.a [] [] (Ac.call (c_ref04_Split h776) rfl rfl rfl rfl) rfl rfl rfl rfl rfl rfl ?_)
      rintro ⟨a778, c779⟩
      refine D.q 9 rfl rfl rfl rfl rfl rfl ?_
      refine D.one rfl rfl rfl (Dp.al [0] [] (Ac.stb rfl rfl rfl rfl rfl rfl) rfl rfl rfl rfl rfl rfl rfl ?_)
      intro _
      refine D.nil rfl rfl ?_
      refine E.then (T.seq (T.region ?_))
      refine L.q 1 rfl ?_
      refine L.y (Yl.ldb 0 rfl rfl rfl rfl) rfl rfl rfl ?_
      refine L.q 1 rfl ?_
      obtain ⟨_, h781, H782⟩ := bnd H777
      refine L.a [] [] (Ac.mk (ty := Ty.bool) false () h781 (fun _ _ f hf => by cases hf) rfl rfl rfl rfl rfl rfl rfl) rfl rfl rfl rfl rfl ?_
      intro g783
      refine L.q 1 rfl ?_
      refine L.a [1] [] (Ac.stb rfl rfl rfl rfl rfl rfl) rfl rfl rfl rfl rfl ?_
      intro _
      refine L.nil (E.then (T.seq (T.region ?_)))
      refine L.q 2 rfl ?_
      refine L.a [0] [] (Ac.stb rfl rfl rfl rfl rfl rfl) rfl rfl rfl rfl rfl ?_
      intro _
      refine L.nil (E.then (T.seq (T.region ?_)))
      refine L.q 1 rfl ?_
      refine L.nil (E.then (T.seq (T.seq (T.region ?_))))
      refine L.q 1 rfl ?_
      refine L.y (Yl.ldb 0 rfl rfl rfl rfl) rfl rfl rfl ?_
      refine L.q 2 rfl ?_
      refine L.nil (E.then ?_)
      obtain ⟨e925, H926, H927⟩ := bnd H782
      refine T.join (η := Unit × Unit) (fun h => True) (fun h => [(1, .int .i64 now), (2, .pointer (some ⟨g1, 0, none⟩)), (4, .pointer (some ⟨g2, 0, none⟩)), (6, .slice (some ⟨g3, 0, none⟩) ([] : List Ref03Gram).length 0), (7, .bool e925)]) (fun h => [Ch.box g1 38 [.int .i64 s_.c.part, .int .i64 s_.c.every, .int .i64 s_.c.most, .int .i64 s_.current.k, .int .i64 s_.current.w, .int .i64 s_.current.h, .int .i64 s_.current.x, .int .i64 s_.current.y, .string s_.current.title, .slice a_0_0 s_.current.rows.length c_0_0, .int .i64 s_.current.len, .int .i64 s_.current.chain, .slice a_0_1 s_.current.begun.length c_0_1, .int .i64 s_.acked.k, .int .i64 s_.acked.w, .int .i64 s_.acked.h, .int .i64 s_.acked.x, .int .i64 s_.acked.y, .string s_.acked.title, .slice a_0_2 s_.acked.rows.length c_0_2, .int .i64 s_.acked.len, .int .i64 s_.acked.chain, .slice a_0_3 s_.acked.begun.length c_0_3, .slice a_0_4 s_.kept.length c_0_4, .int .i64 s_.next, .int .i64 s_.current.k, .int .i64 s_.acked.k, .slice a778 r775.length c779, .slice (some ⟨g783, 0, none⟩) (List.replicate (r775.length : Int).toNat false).length ((r775.length : Int).toNat), .int .i64 now, .int .i64 (IntKind.i64.wrap (s_.next + 1))], Ch.box g2 38 [.int .i64 0, .int .i64 0, .int .i64 0, .int .i64 0, .int .i64 0, .int .i64 0, .int .i64 0, .int .i64 0, .string (ByteArray.mk #[]), .slice none 0 0, .int .i64 0, .int .i64 0, .slice none 0 0, .int .i64 0, .int .i64 0, .int .i64 0, .int .i64 0, .int .i64 0, .string (ByteArray.mk #[]), .slice none 0 0, .int .i64 0, .int .i64 0, .slice none 0 0, .slice none 0 0, .int .i64 0, .int .i64 0, .int .i64 0, .slice none 0 0, .slice none 0 0, .int .i64 0, .int .i64 0], Ch.arr Ty.bool 4 (some ⟨g783, 0, none⟩) ((r775.length : Int).toNat) (List.replicate (r775.length : Int).toNat false), Ch.arr tyRef03Gram 101 (some ⟨g3, 0, none⟩) 0 ([] : List Ref03Gram), Ch.arr Ty.str 9 a778 c779 r775]) (fun h => [Im.sl tyRef09Row a_0_0 c_0_0 s_.current.rows, Im.sl tyRef09Glyph a_0_1 c_0_1 s_.current.begun, Im.sl tyRef09Row a_0_2 c_0_2 s_.acked.rows, Im.sl tyRef09Glyph a_0_3 c_0_3 s_.acked.begun, Im.sl tyRef16Snap a_0_4 c_0_4 s_.kept, Im.sl Ty.str a_0_5 c_0_5 s_.parts, Im.sl Ty.bool a_0_6 c_0_6 s_.there]) ?_ ?_
      · refine T.block ?_
        refine T.lp (η := Unit) (fun s872 h => [(1, .int .i64 now), (2, .pointer (some ⟨g1, 0, none⟩)), (4, .pointer (some ⟨g2, 0, none⟩)), (6, .slice (some ⟨g3, 0, none⟩) ([] : List Ref03Gram).length 0), (7, .bool s872.1), (80, .slice a_0_4 s_.kept.length c_0_4), (81, .int .i64 (s_.kept.length : Int)), (82, .int .i64 s872.2)]) (fun s872 h => [Ch.box g1 38 [.int .i64 s_.c.part, .int .i64 s_.c.every, .int .i64 s_.c.most, .int .i64 s_.current.k, .int .i64 s_.current.w, .int .i64 s_.current.h, .int .i64 s_.current.x, .int .i64 s_.current.y, .string s_.current.title, .slice a_0_0 s_.current.rows.length c_0_0, .int .i64 s_.current.len, .int .i64 s_.current.chain, .slice a_0_1 s_.current.begun.length c_0_1, .int .i64 s_.acked.k, .int .i64 s_.acked.w, .int .i64 s_.acked.h, .int .i64 s_.acked.x, .int .i64 s_.acked.y, .string s_.acked.title, .slice a_0_2 s_.acked.rows.length c_0_2, .int .i64 s_.acked.len, .int .i64 s_.acked.chain, .slice a_0_3 s_.acked.begun.length c_0_3, .slice a_0_4 s_.kept.length c_0_4, .int .i64 s_.next, .int .i64 s_.current.k, .int .i64 s_.acked.k, .slice a778 r775.length c779, .slice (some ⟨g783, 0, none⟩) (List.replicate (r775.length : Int).toNat false).length ((r775.length : Int).toNat), .int .i64 now, .int .i64 (IntKind.i64.wrap (s_.next + 1))], Ch.box g2 38 [.int .i64 0, .int .i64 0, .int .i64 0, .int .i64 0, .int .i64 0, .int .i64 0, .int .i64 0, .int .i64 0, .string (ByteArray.mk #[]), .slice none 0 0, .int .i64 0, .int .i64 0, .slice none 0 0, .int .i64 0, .int .i64 0, .int .i64 0, .int .i64 0, .int .i64 0, .string (ByteArray.mk #[]), .slice none 0 0, .int .i64 0, .int .i64 0, .slice none 0 0, .slice none 0 0, .int .i64 0, .int .i64 0, .int .i64 0, .slice none 0 0, .slice none 0 0, .int .i64 0, .int .i64 0], Ch.arr Ty.bool 4 (some ⟨g783, 0, none⟩) ((r775.length : Int).toNat) (List.replicate (r775.length : Int).toNat false), Ch.arr tyRef03Gram 101 (some ⟨g3, 0, none⟩) 0 ([] : List Ref03Gram), Ch.arr Ty.str 9 a778 c779 r775]) (fun s872 h => [Im.sl tyRef09Row a_0_0 c_0_0 s_.current.rows, Im.sl tyRef09Glyph a_0_1 c_0_1 s_.current.begun, Im.sl tyRef09Row a_0_2 c_0_2 s_.acked.rows, Im.sl tyRef09Glyph a_0_3 c_0_3 s_.acked.begun, Im.sl tyRef16Snap a_0_4 c_0_4 s_.kept, Im.sl Ty.str a_0_5 c_0_5 s_.parts, Im.sl Ty.bool a_0_6 c_0_6 s_.there]) () [0, 1, 0, 0, 0] [0, 1, 2, 3, 4, 5, 6] H926 ⟨rfl, rfl, rfl, rfl, rfl, rfl, rfl, rfl, trivial⟩ rfl rfl ?_
        rintro k_ s872 ⟨⟩ z929 H928 hag930 hbr931
        refine T.seq (T.region ?_)
        refine L.q 1 rfl ?_
        refine L.nil (E.then (T.seq ?_))
        refine T.bif rfl H928 (fun hc H933 => ?_) (fun hc H933 => ?_)
        · refine T.skip (E.then (T.seq ?_))
          obtain ⟨e965, H966, H967⟩ := bnd H933
          refine T.join (η := Unit × Unit) (fun h => True) (fun h => [(1, .int .i64 now), (2, .pointer (some ⟨g1, 0, none⟩)), (4, .pointer (some ⟨g2, 0, none⟩)), (6, .slice (some ⟨g3, 0, none⟩) ([] : List Ref03Gram).length 0), (7, .bool e965), (80, .slice a_0_4 s_.kept.length c_0_4), (81, .int .i64 (s_.kept.length : Int)), (82, .int .i64 s872.2)]) (fun h => [Ch.box g1 38 [.int .i64 s_.c.part, .int .i64 s_.c.every, .int .i64 s_.c.most, .int .i64 s_.current.k, .int .i64 s_.current.w, .int .i64 s_.current.h, .int .i64 s_.current.x, .int .i64 s_.current.y, .string s_.current.title, .slice a_0_0 s_.current.rows.length c_0_0, .int .i64 s_.current.len, .int .i64 s_.current.chain, .slice a_0_1 s_.current.begun.length c_0_1, .int .i64 s_.acked.k, .int .i64 s_.acked.w, .int .i64 s_.acked.h, .int .i64 s_.acked.x, .int .i64 s_.acked.y, .string s_.acked.title, .slice a_0_2 s_.acked.rows.length c_0_2, .int .i64 s_.acked.len, .int .i64 s_.acked.chain, .slice a_0_3 s_.acked.begun.length c_0_3, .slice a_0_4 s_.kept.length c_0_4, .int .i64 s_.next, .int .i64 s_.current.k, .int .i64 s_.acked.k, .slice a778 r775.length c779, .slice (some ⟨g783, 0, none⟩) (List.replicate (r775.length : Int).toNat false).length ((r775.length : Int).toNat), .int .i64 now, .int .i64 (IntKind.i64.wrap (s_.next + 1))], Ch.box g2 38 [.int .i64 0, .int .i64 0, .int .i64 0, .int .i64 0, .int .i64 0, .int .i64 0, .int .i64 0, .int .i64 0, .string (ByteArray.mk #[]), .slice none 0 0, .int .i64 0, .int .i64 0, .slice none 0 0, .int .i64 0, .int .i64 0, .int .i64 0, .int .i64 0, .int .i64 0, .string (ByteArray.mk #[]), .slice none 0 0, .int .i64 0, .int .i64 0, .slice none 0 0, .slice none 0 0, .int .i64 0, .int .i64 0, .int .i64 0, .slice none 0 0, .slice none 0 0, .int .i64 0, .int .i64 0], Ch.arr Ty.bool 4 (some ⟨g783, 0, none⟩) ((r775.length : Int).toNat) (List.replicate (r775.length : Int).toNat false), Ch.arr tyRef03Gram 101 (some ⟨g3, 0, none⟩) 0 ([] : List Ref03Gram), Ch.arr Ty.str 9 a778 c779 r775]) (fun h => [Im.sl tyRef09Row a_0_0 c_0_0 s_.current.rows, Im.sl tyRef09Glyph a_0_1 c_0_1 s_.current.begun, Im.sl tyRef09Row a_0_2 c_0_2 s_.acked.rows, Im.sl tyRef09Glyph a_0_3 c_0_3 s_.acked.begun, Im.sl tyRef16Snap a_0_4 c_0_4 s_.kept, Im.sl Ty.str a_0_5 c_0_5 s_.parts, Im.sl Ty.bool a_0_6 c_0_6 s_.there]) ?_ ?_
          · refine T.block (T.seq (T.region ?_))
            obtain ⟨x968, h969, H970⟩ := bnd H966
            refine L.addr 4 rfl (idx_lt h969) fun b971 o972 e973 => ?_
            obtain rfl : a_0_4 = some ⟨b971, o972, none⟩ := e973
            refine L.y (Yl.ia h969 rfl rfl rfl rfl rfl rfl) rfl rfl rfl ?_
            refine L.el 4 rfl (idx_some h969).2 ?_
            rintro ⟨⟨a974, c975⟩, ⟨a976, c977⟩⟩
            refine L.y (Yl.ldc 0 0 rfl rfl rfl rfl) rfl rfl rfl ?_
            refine L.a [] [] (Ac.alloc rfl rfl) rfl rfl rfl rfl rfl ?_
            intro g981
            refine L.a [0] [] (Ac.stb rfl rfl rfl rfl rfl rfl) rfl rfl rfl rfl rfl ?_
            intro _
            refine L.nil (E.then (T.region ?_))
            refine L.q 2 rfl ?_
            refine L.cs 87 H970 rfl (fun hc H982 => ?_) (fun hc H982 => ?_)
            · refine L.q 7 rfl ?_
              refine L.nil (E.block ?_)
              have hr := Option.some.inj H982
              subst e965
              exact E.give ((), ()) [1, 1, 1, 1, 1] [3, 4, 5, 6, 7, 8, 9] trivial ⟨rfl, rfl, rfl, rfl, rfl, rfl, rfl, rfl, trivial⟩ rfl rfl
            refine L.q 1 rfl ?_
            refine L.y (Yl.ldb 0 rfl rfl rfl rfl) rfl rfl rfl ?_
            refine L.q 1 rfl ?_
            refine L.y (Yl.ldb 1 rfl rfl rfl rfl) rfl rfl rfl ?_
            refine L.q 3 rfl ?_
            refine L.nil (E.block ?_)
            have hr := Option.some.inj H982
            subst e965
            exact E.give ((), ()) [1, 1, 1, 1, 1] [3, 4, 5, 6, 7, 8, 9] trivial ⟨rfl, rfl, rfl, rfl, rfl, rfl, rfl, rfl, trivial⟩ rfl rfl
          rintro ⟨_, ⟨⟩⟩ _
          refine T.region ?_
          refine L.q 2 rfl ?_
          refine L.nil ?_
          have hr := Option.some.inj H967
          subst z929
          exact E.give (_, ()) [0, 0, 0, 0, 0] [0, 1, 2, 3, 4, 5, 6] (hag930 _ rfl) ⟨rfl, rfl, rfl, rfl, rfl, rfl, rfl, rfl, trivial⟩ rfl rfl
        refine T.exit (E.then_exit' (E.then_exit' (E.block_here ?_)))
        have hr := Option.some.inj H933
        subst z929
        have hb := hbr931 _ rfl
        subst e925
        exact E.give ((), ()) [0, 0, 0, 0, 0] [0, 1, 2, 3, 4, 5, 6] trivial ⟨rfl, rfl, rfl, rfl, rfl, trivial⟩ rfl rfl
      rintro ⟨_, ⟨⟩⟩ _
      refine T.seq (T.seq (T.region ?_))
      refine L.q 2 rfl ?_
      refine L.nil (E.then ?_)
      obtain ⟨e1057, H1058, H1059⟩ := bnd H927
      refine T.join (η := Unit × ((Option Addr × Nat) × (Option Addr × Nat))) (fun h => True) (fun h => (fun a1050 c1051 a1054 c1055 => [(1, .int .i64 now), (2, .pointer (some ⟨g1, 0, none⟩)), (4, .pointer (some ⟨g2, 0, none⟩)), (6, .slice (some ⟨g3, 0, none⟩) ([] : List Ref03Gram).length 0)]) h.2.1.1 h.2.1.2 h.2.2.1 h.2.2.2) (fun h => (fun a1050 c1051 a1054 c1055 => [Ch.arr Ty.str 9 a778 c779 e1057.parts, Ch.arr Ty.bool 4 a1054 c1055 e1057.there, Ch.box g1 38 (bx38 e1057 a_0_0 c_0_0 a_0_1 c_0_1 a_0_2 c_0_2 a_0_3 c_0_3 a1050 c1051 a778 c779 a1054 c1055), Ch.box g2 38 [.int .i64 0, .int .i64 0, .int .i64 0, .int .i64 0, .int .i64 0, .int .i64 0, .int .i64 0, .int .i64 0, .string (ByteArray.mk #[]), .slice none 0 0, .int .i64 0, .int .i64 0, .slice none 0 0, .int .i64 0, .int .i64 0, .int .i64 0, .int .i64 0, .int .i64 0, .string (ByteArray.mk #[]), .slice none 0 0, .int .i64 0, .int .i64 0, .slice none 0 0, .slice none 0 0, .int .i64 0, .int .i64 0, .int .i64 0, .slice none 0 0, .slice none 0 0, .int .i64 0, .int .i64 0], Ch.arr tyRef03Gram 101 (some ⟨g3, 0, none⟩) 0 ([] : List Ref03Gram)]) h.2.1.1 h.2.1.2 h.2.2.1 h.2.2.2) (fun h => (fun a1050 c1051 a1054 c1055 => [Im.sl tyRef09Row a_0_0 c_0_0 e1057.current.rows, Im.sl tyRef09Glyph a_0_1 c_0_1 e1057.current.begun, Im.sl tyRef09Row a_0_2 c_0_2 e1057.acked.rows, Im.sl tyRef09Glyph a_0_3 c_0_3 e1057.acked.begun, Im.sl tyRef16Snap a1050 c1051 e1057.kept, Im.sl tyRef09Row a_0_0 c_0_0 s_.current.rows, Im.sl tyRef09Glyph a_0_1 c_0_1 s_.current.begun, Im.sl tyRef09Row a_0_2 c_0_2 s_.acked.rows, Im.sl tyRef09Glyph a_0_3 c_0_3 s_.acked.begun, Im.sl tyRef16Snap a_0_4 c_0_4 s_.kept, Im.sl Ty.str a_0_5 c_0_5 s_.parts, Im.sl Ty.bool a_0_6 c_0_6 s_.there]) h.2.1.1 h.2.1.2 h.2.2.1 h.2.2.2) ?_ ?_
      · refine T.bif rfl H1058 (fun hc H1060 => ?_) (fun hc H1060 => ?_)
        · refine T.draw [9] [0, 0, 0, 0, 0] mo (by rfl) rfl ?_
          refine D.q 1 rfl rfl rfl rfl rfl rfl ?_
          refine D.y 2 (Yl.ldb 0 rfl rfl rfl rfl) rfl rfl rfl rfl rfl rfl ?_
          refine D.q 4 rfl rfl rfl rfl rfl rfl ?_
          refine D.y 5 (Yl.ldb 0 rfl rfl rfl rfl) rfl rfl rfl rfl rfl rfl ?_
          refine DF.of rfl ?_
          refine DF.add _ (FSp.ac 6 [0, 1] (Ac.frz (Ac.bs (ty := tyRef16Snap) (xs := [s_.current]) (.cons ((a_0_0, c_0_0), (a_0_1, c_0_1)) [0, 1] rfl .nil) rfl rfl rfl rfl rfl rfl rfl)) rfl rfl rfl rfl rfl) rfl ?_
          refine DF.step 0 rfl rfl rfl rfl rfl ?_
          refine DFp.a [] [] (Ac.bs (ty := tyRef16Snap) (xs := []) .nil rfl rfl rfl rfl rfl rfl rfl) rfl rfl rfl rfl rfl rfl rfl rfl ?_
          intro g1079
          refine DF.step 3 rfl rfl rfl rfl rfl ?_
          obtain ⟨_, h1081, H1082⟩ := bnd H1060
          refine DFp.a [0] [4] (Ac.ap (ty := tyRef16Snap) h1081 rfl rfl rfl rfl rfl rfl rfl) rfl rfl rfl rfl rfl rfl rfl rfl ?_
          rintro ⟨a1083, c1084⟩
          refine DF.step 7 rfl rfl rfl rfl rfl ?_
          refine DFp.use 0 rfl rfl rfl ?_
          intro g1076
          obtain ⟨_, h1086, H1087⟩ := bnd H1082
          refine DFp.a [0] [0] (Ac.ap (ty := tyRef16Snap) h1086 rfl rfl rfl rfl rfl rfl rfl) rfl rfl rfl rfl rfl rfl rfl rfl ?_
          rintro ⟨a1088, c1089⟩
          refine DF.add _ (FSp.q 8 rfl rfl rfl rfl rfl) rfl ?_
          refine DF.step 9 rfl rfl rfl rfl rfl ?_
          refine DFp.use 0 rfl rfl rfl ?_
          intro _
          refine DFp.al [0] [] (Ac.stb rfl rfl rfl rfl rfl rfl) rfl rfl rfl rfl rfl rfl rfl ?_
          intro _
          refine DF.fin rfl rfl rfl rfl rfl ?_
          refine DFe.nil ?_
          refine E.frz 5 rfl ?_
          have hr := Option.some.inj H1087
          subst e1057
          exact E.give ((), ((a1088, c1089), ((some ⟨g783, 0, none⟩), (r775.length : Int).toNat))) [4, 2, 0, 0, 0] [2, 3, 4, 5, 0, 2, 3, 4, 5, 6, 7, 8] trivial ⟨rfl, rfl, rfl, rfl, trivial⟩ rfl rfl
        refine T.skip ?_
        have hr := Option.some.inj H1060
        subst e1057
        exact E.give ((), ((a_0_4, c_0_4), ((some ⟨g783, 0, none⟩), (r775.length : Int).toNat))) [4, 2, 0, 0, 0] [0, 1, 2, 3, 4, 0, 1, 2, 3, 4, 5, 6] trivial ⟨rfl, rfl, rfl, rfl, trivial⟩ rfl rfl
      rintro ⟨_, ⟨⟨a1050, c1051⟩, ⟨a1054, c1055⟩⟩⟩ _
      refine T.seq (T.region ?_)
      refine L.q 1 rfl ?_
      refine L.y (Yl.ldb 2 rfl rfl rfl rfl) rfl rfl rfl ?_
      refine L.q 3 rfl ?_
      refine L.y (Yl.ldb 2 rfl rfl rfl rfl) rfl rfl rfl ?_
      refine L.q 1 rfl ?_
      refine L.nil (E.then ?_)
      refine T.bif rfl H1059 (fun hc H1092 => ?_) (fun hc H1092 => ?_)
      · refine T.region ?_
        refine L.q 1 rfl ?_
        refine L.y (Yl.ldb 2 rfl rfl rfl rfl) rfl rfl rfl ?_
        obtain ⟨_, h1093, H1094⟩ := bnd H1092
        refine L.rs 4 h1093 rfl rfl rfl rfl rfl rfl rfl rfl rfl rfl rfl rfl ?_
        intro a1095 c1096
        refine L.q 1 rfl ?_
        refine L.a [2] [] (Ac.stb rfl rfl rfl rfl rfl rfl) rfl rfl rfl rfl rfl ?_
        intro _
        refine L.nil ?_
        refine E.frz 1 rfl ?_
        refine E.frz 1 rfl ?_
        have hr := Option.some.inj H1094
        subst e741
        exact E.give ((), ((a1095, c1096), (a778, c779), (a1054, c1055))) [1, 0, 0] [3, 4, 5, 6, 2, 1, 0, 8, 9, 10, 11, 12, 13, 14] trivial ⟨rfl, rfl, rfl, rfl, trivial⟩ rfl rfl
      refine T.skip ?_
      refine E.frz 0 rfl ?_
      refine E.frz 0 rfl ?_
      have hr := Option.some.inj H1092
      subst e741
      exact E.give ((), ((a1050, c1051), (a778, c779), (a1054, c1055))) [1, 0, 0] [2, 3, 4, 5, 6, 1, 0, 7, 8, 9, 10, 11, 12, 13] trivial ⟨rfl, rfl, rfl, rfl, trivial⟩ rfl rfl
    refine T.skip ?_
    have hr := Option.some.inj H744
    subst e741
    exact E.give ((), ((a_0_4, c_0_4), (a_0_5, c_0_5), (a_0_6, c_0_6))) [0, 0, 0] [0, 1, 2, 3, 4, 5, 6, 0, 1, 2, 3, 4, 5, 6] trivial ⟨rfl, rfl, rfl, rfl, trivial⟩ rfl rfl
  rintro ⟨_, ⟨⟨a732, c733⟩, ⟨a735, c736⟩, ⟨a738, c739⟩⟩⟩ _
  refine T.seq (T.seq (T.region ?_))
  refine L.q 2 rfl ?_
  refine L.y (Yl.ldb 1 rfl rfl rfl rfl) rfl rfl rfl ?_
  refine L.q 1 rfl ?_
  refine L.nil (E.then ?_)
  refine T.bif rfl H743 (fun hc H1103 => ?_) (fun hc H1103 => ?_)
  · refine T.seq (T.region ?_)
    refine L.y (Yl.ldb 1 rfl rfl rfl rfl) rfl rfl rfl ?_
    refine L.q 1 rfl ?_
    refine L.a [0] [] (Ac.stb rfl rfl rfl rfl rfl rfl) rfl rfl rfl rfl rfl ?_
    intro _
    refine L.q 1 rfl ?_
    refine L.nil (E.then (T.ret (E.then_ret ?_)))
    have hr := Option.some.inj H1103
    subst r
    exact E.ret ((a732, c733), (a735, c736), (a738, c739), ((some ⟨g3, 0, none⟩), 0)) [2] [0, 1, 2, 3, 4, 5, 6] (.cell 0 rfl rfl rfl (.tmp rfl .nil)) rfl rfl rfl
  refine T.skip (E.then (T.seq (T.region ?_)))
  refine L.q 3 rfl ?_
  refine L.y (Yl.ldb 1 rfl rfl rfl rfl) rfl rfl rfl ?_
  refine L.q 2 rfl ?_
  refine L.a [1] [] (Ac.stb rfl rfl rfl rfl rfl rfl) rfl rfl rfl rfl rfl ?_
  intro _
  refine L.nil (E.then (T.seq (T.seq (T.region ?_))))
  refine L.q 1 rfl ?_
  refine L.y (Yl.ldb 0 rfl rfl rfl rfl) rfl rfl rfl ?_
  refine L.q 2 rfl ?_
  refine L.nil (E.then ?_)
  obtain ⟨e1385, H1386, H1387⟩ := bnd H1103
  refine T.join (η := Unit × ((Option Addr × Nat))) (fun h => True) (fun h => (fun a1382 c1383 => [(2, .pointer (some ⟨g1, 0, none⟩)), (4, .pointer (some ⟨g2, 0, none⟩)), (6, .slice a1382 e1385.length c1383)]) h.2.1 h.2.2) (fun h => (fun a1382 c1383 => [Ch.arr tyRef03Gram 101 a1382 c1383 e1385, Ch.box g1 38 [.int .i64 e741.c.part, .int .i64 e741.c.every, .int .i64 e741.c.most, .int .i64 e741.current.k, .int .i64 e741.current.w, .int .i64 e741.current.h, .int .i64 e741.current.x, .int .i64 e741.current.y, .string e741.current.title, .slice a_0_0 e741.current.rows.length c_0_0, .int .i64 e741.current.len, .int .i64 e741.current.chain, .slice a_0_1 e741.current.begun.length c_0_1, .int .i64 e741.acked.k, .int .i64 e741.acked.w, .int .i64 e741.acked.h, .int .i64 e741.acked.x, .int .i64 e741.acked.y, .string e741.acked.title, .slice a_0_2 e741.acked.rows.length c_0_2, .int .i64 e741.acked.len, .int .i64 e741.acked.chain, .slice a_0_3 e741.acked.begun.length c_0_3, .slice a732 e741.kept.length c733, .int .i64 e741.iD, .int .i64 e741.key, .int .i64 e741.base, .slice a735 e741.parts.length c736, .slice a738 e741.there.length c739, .int .i64 (IntKind.i64.wrap (now + e741.c.every)), .int .i64 e741.next], Ch.box g2 38 [.int .i64 0, .int .i64 0, .int .i64 0, .int .i64 0, .int .i64 0, .int .i64 0, .int .i64 0, .int .i64 0, .string (ByteArray.mk #[]), .slice none 0 0, .int .i64 0, .int .i64 0, .slice none 0 0, .int .i64 0, .int .i64 0, .int .i64 0, .int .i64 0, .int .i64 0, .string (ByteArray.mk #[]), .slice none 0 0, .int .i64 0, .int .i64 0, .slice none 0 0, .slice none 0 0, .int .i64 0, .int .i64 0, .int .i64 0, .slice none 0 0, .slice none 0 0, .int .i64 0, .int .i64 0]]) h.2.1 h.2.2) (fun h => (fun a1382 c1383 => [Im.sl tyRef09Row a_0_0 c_0_0 e741.current.rows, Im.sl tyRef09Glyph a_0_1 c_0_1 e741.current.begun, Im.sl tyRef09Row a_0_2 c_0_2 e741.acked.rows, Im.sl tyRef09Glyph a_0_3 c_0_3 e741.acked.begun, Im.sl tyRef16Snap a732 c733 e741.kept, Im.sl Ty.str a735 c736 e741.parts, Im.sl Ty.bool a738 c739 e741.there, Im.sl tyRef09Row a_0_0 c_0_0 s_.current.rows, Im.sl tyRef09Glyph a_0_1 c_0_1 s_.current.begun, Im.sl tyRef09Row a_0_2 c_0_2 s_.acked.rows, Im.sl tyRef09Glyph a_0_3 c_0_3 s_.acked.begun, Im.sl tyRef16Snap a_0_4 c_0_4 s_.kept, Im.sl Ty.str a_0_5 c_0_5 s_.parts, Im.sl Ty.bool a_0_6 c_0_6 s_.there]) h.2.1 h.2.2) ?_ ?_
  · refine T.block ?_
    refine T.lp (η := (Option Addr × Nat)) (fun s1293 h => (fun a1290 c1291 => [(2, .pointer (some ⟨g1, 0, none⟩)), (4, .pointer (some ⟨g2, 0, none⟩)), (6, .slice a1290 s1293.2.length c1291), (130, .slice a735 e741.parts.length c736), (131, .int .i64 (e741.parts.length : Int)), (132, .int .i64 s1293.1)]) h.1 h.2) (fun s1293 h => (fun a1290 c1291 => [Ch.arr tyRef03Gram 101 a1290 c1291 s1293.2, Ch.box g1 38 [.int .i64 e741.c.part, .int .i64 e741.c.every, .int .i64 e741.c.most, .int .i64 e741.current.k, .int .i64 e741.current.w, .int .i64 e741.current.h, .int .i64 e741.current.x, .int .i64 e741.current.y, .string e741.current.title, .slice a_0_0 e741.current.rows.length c_0_0, .int .i64 e741.current.len, .int .i64 e741.current.chain, .slice a_0_1 e741.current.begun.length c_0_1, .int .i64 e741.acked.k, .int .i64 e741.acked.w, .int .i64 e741.acked.h, .int .i64 e741.acked.x, .int .i64 e741.acked.y, .string e741.acked.title, .slice a_0_2 e741.acked.rows.length c_0_2, .int .i64 e741.acked.len, .int .i64 e741.acked.chain, .slice a_0_3 e741.acked.begun.length c_0_3, .slice a732 e741.kept.length c733, .int .i64 e741.iD, .int .i64 e741.key, .int .i64 e741.base, .slice a735 e741.parts.length c736, .slice a738 e741.there.length c739, .int .i64 (IntKind.i64.wrap (now + e741.c.every)), .int .i64 e741.next], Ch.box g2 38 [.int .i64 0, .int .i64 0, .int .i64 0, .int .i64 0, .int .i64 0, .int .i64 0, .int .i64 0, .int .i64 0, .string (ByteArray.mk #[]), .slice none 0 0, .int .i64 0, .int .i64 0, .slice none 0 0, .int .i64 0, .int .i64 0, .int .i64 0, .int .i64 0, .int .i64 0, .string (ByteArray.mk #[]), .slice none 0 0, .int .i64 0, .int .i64 0, .slice none 0 0, .slice none 0 0, .int .i64 0, .int .i64 0, .int .i64 0, .slice none 0 0, .slice none 0 0, .int .i64 0, .int .i64 0]]) h.1 h.2) (fun s1293 h => (fun a1290 c1291 => [Im.sl tyRef09Row a_0_0 c_0_0 e741.current.rows, Im.sl tyRef09Glyph a_0_1 c_0_1 e741.current.begun, Im.sl tyRef09Row a_0_2 c_0_2 e741.acked.rows, Im.sl tyRef09Glyph a_0_3 c_0_3 e741.acked.begun, Im.sl tyRef16Snap a732 c733 e741.kept, Im.sl Ty.str a735 c736 e741.parts, Im.sl Ty.bool a738 c739 e741.there, Im.sl tyRef09Row a_0_0 c_0_0 s_.current.rows, Im.sl tyRef09Glyph a_0_1 c_0_1 s_.current.begun, Im.sl tyRef09Row a_0_2 c_0_2 s_.acked.rows, Im.sl tyRef09Glyph a_0_3 c_0_3 s_.acked.begun, Im.sl tyRef16Snap a_0_4 c_0_4 s_.kept, Im.sl Ty.str a_0_5 c_0_5 s_.parts, Im.sl Ty.bool a_0_6 c_0_6 s_.there]) h.1 h.2) ((some ⟨g3, 0, none⟩), 0) [2, 0, 0] [0, 1, 2, 3, 4, 5, 6, 7, 8, 9, 10, 11, 12, 13] H1386 ⟨rfl, rfl, rfl, rfl, rfl, rfl, trivial⟩ rfl rfl ?_
    rintro k_ s1293 ⟨a1290, c1291⟩ z1389 H1388 hag1390 hbr1391
    refine T.seq (T.region ?_)
    refine L.q 1 rfl ?_
    refine L.nil (E.then (T.seq ?_))
    refine T.bif rfl H1388 (fun hc H1393 => ?_) (fun hc H1393 => ?_)
    · refine T.skip (E.then (T.seq ?_))
      obtain ⟨e1450, H1451, H1452⟩ := bnd H1393
      refine T.join (η := Unit × ((Option Addr × Nat))) (fun h => True) (fun h => (fun a1447 c1448 => [(2, .pointer (some ⟨g1, 0, none⟩)), (4, .pointer (some ⟨g2, 0, none⟩)), (6, .slice a1447 e1450.length c1448), (130, .slice a735 e741.parts.length c736), (131, .int .i64 (e741.parts.length : Int)), (132, .int .i64 s1293.1)]) h.2.1 h.2.2) (fun h => (fun a1447 c1448 => [Ch.arr tyRef03Gram 101 a1447 c1448 e1450, Ch.box g1 38 [.int .i64 e741.c.part, .int .i64 e741.c.every, .int .i64 e741.c.most, .int .i64 e741.current.k, .int .i64 e741.current.w, .int .i64 e741.current.h, .int .i64 e741.current.x, .int .i64 e741.current.y, .string e741.current.title, .slice a_0_0 e741.current.rows.length c_0_0, .int .i64 e741.current.len, .int .i64 e741.current.chain, .slice a_0_1 e741.current.begun.length c_0_1, .int .i64 e741.acked.k, .int .i64 e741.acked.w, .int .i64 e741.acked.h, .int .i64 e741.acked.x, .int .i64 e741.acked.y, .string e741.acked.title, .slice a_0_2 e741.acked.rows.length c_0_2, .int .i64 e741.acked.len, .int .i64 e741.acked.chain, .slice a_0_3 e741.acked.begun.length c_0_3, .slice a732 e741.kept.length c733, .int .i64 e741.iD, .int .i64 e741.key, .int .i64 e741.base, .slice a735 e741.parts.length c736, .slice a738 e741.there.length c739, .int .i64 (IntKind.i64.wrap (now + e741.c.every)), .int .i64 e741.next], Ch.box g2 38 [.int .i64 0, .int .i64 0, .int .i64 0, .int .i64 0, .int .i64 0, .int .i64 0, .int .i64 0, .int .i64 0, .string (ByteArray.mk #[]), .slice none 0 0, .int .i64 0, .int .i64 0, .slice none 0 0, .int .i64 0, .int .i64 0, .int .i64 0, .int .i64 0, .int .i64 0, .string (ByteArray.mk #[]), .slice none 0 0, .int .i64 0, .int .i64 0, .slice none 0 0, .slice none 0 0, .int .i64 0, .int .i64 0, .int .i64 0, .slice none 0 0, .slice none 0 0, .int .i64 0, .int .i64 0]]) h.2.1 h.2.2) (fun h => (fun a1447 c1448 => [Im.sl tyRef09Row a_0_0 c_0_0 e741.current.rows, Im.sl tyRef09Glyph a_0_1 c_0_1 e741.current.begun, Im.sl tyRef09Row a_0_2 c_0_2 e741.acked.rows, Im.sl tyRef09Glyph a_0_3 c_0_3 e741.acked.begun, Im.sl tyRef16Snap a732 c733 e741.kept, Im.sl Ty.str a735 c736 e741.parts, Im.sl Ty.bool a738 c739 e741.there, Im.sl tyRef09Row a_0_0 c_0_0 s_.current.rows, Im.sl tyRef09Glyph a_0_1 c_0_1 s_.current.begun, Im.sl tyRef09Row a_0_2 c_0_2 s_.acked.rows, Im.sl tyRef09Glyph a_0_3 c_0_3 s_.acked.begun, Im.sl tyRef16Snap a_0_4 c_0_4 s_.kept, Im.sl Ty.str a_0_5 c_0_5 s_.parts, Im.sl Ty.bool a_0_6 c_0_6 s_.there]) h.2.1 h.2.2) ?_ ?_
      · refine T.block (T.seq (T.region ?_))
        refine L.q 1 rfl ?_
        obtain ⟨x1453, h1454, H1455⟩ := bnd H1451
        refine L.addr 5 rfl (idx_lt h1454) fun b1456 o1457 e1458 => ?_
        obtain rfl : a735 = some ⟨b1456, o1457, none⟩ := e1458
        refine L.y (Yl.ia h1454 rfl rfl rfl rfl rfl rfl) rfl rfl rfl ?_
        refine L.el 5 rfl (idx_some h1454).2 ?_
        rintro _
        refine L.y (Yl.ldc 0 0 rfl rfl rfl rfl) rfl rfl rfl ?_
        refine L.q 2 rfl ?_
        refine L.nil (E.then (T.seq (T.region ?_)))
        refine L.q 1 rfl ?_
        refine L.y (Yl.ldb 1 rfl rfl rfl rfl) rfl rfl rfl ?_
        refine L.q 1 rfl ?_
        obtain ⟨x1460, h1461, H1462⟩ := bnd H1455
        refine L.addr 7 rfl (idx_lt h1461) fun b1463 o1464 e1465 => ?_
        obtain rfl : a738 = some ⟨b1463, o1464, none⟩ := e1465
        refine L.y (Yl.ia h1461 rfl rfl rfl rfl rfl rfl) rfl rfl rfl ?_
        refine L.el 7 rfl (idx_some h1461).2 ?_
        rintro _
        refine L.y (Yl.ldc 0 0 rfl rfl rfl rfl) rfl rfl rfl ?_
        refine L.q 1 rfl ?_
        refine L.nil (E.then ?_)
        refine T.bif rfl H1462 (fun hc H1467 => ?_) (fun hc H1467 => ?_)
        · refine T.region ?_
          refine L.q 2 rfl ?_
          refine L.y (Yl.ldb 1 rfl rfl rfl rfl) rfl rfl rfl ?_
          refine L.q 1 rfl ?_
          refine L.y (Yl.ldb 1 rfl rfl rfl rfl) rfl rfl rfl ?_
          refine L.q 1 rfl ?_
          refine L.y (Yl.ldb 1 rfl rfl rfl rfl) rfl rfl rfl ?_
          refine L.q 2 rfl ?_
          refine L.y (Yl.ldb 1 rfl rfl rfl rfl) rfl rfl rfl ?_
          refine L.q 1 rfl ?_
          refine L.a [] [] (Ac.bs (ty := (Ty.int .i64)) (xs := [e741.iD, e741.key, e741.base, s1293.1, (e741.parts.length : Int)]) (.cons () [] rfl (.cons () [] rfl (.cons () [] rfl (.cons () [] rfl (.cons () [] rfl .nil))))) rfl rfl rfl rfl rfl rfl rfl) rfl rfl rfl rfl rfl ?_
          intro g1468
          refine L.q 2 rfl ?_
          refine L.frz 0 rfl ?_
          refine L.a [] [0] (Ac.bs (ty := tyRef03Gram) (xs := [(Ref03Gram.mk 1 1 [e741.iD, e741.key, e741.base, s1293.1, (e741.parts.length : Int)] x1453)]) (.cons ((some ⟨g1468, 0, none⟩), 5) [0] rfl .nil) rfl rfl rfl rfl rfl rfl rfl) rfl rfl rfl rfl rfl ?_
          intro g1471
          refine L.frz 0 rfl ?_
          obtain ⟨_, h1474, H1475⟩ := bnd H1467
          refine L.a [0] [0] (Ac.ap (ty := tyRef03Gram) h1474 rfl rfl rfl rfl rfl rfl rfl) rfl rfl rfl rfl rfl ?_
          rintro ⟨a1476, c1477⟩
          refine L.q 1 rfl ?_
          refine L.nil (E.block ?_)
          have hr := Option.some.inj H1475
          subst e1450
          exact E.give ((), (a1476, c1477)) [0, 0, 0] [4, 5, 6, 7, 8, 9, 10, 11, 12, 13, 14, 15, 16, 17] trivial ⟨rfl, rfl, rfl, rfl, rfl, rfl, trivial⟩ rfl rfl
        refine T.skip (E.block ?_)
        have hr := Option.some.inj H1467
        subst e1450
        exact E.give ((), (a1290, c1291)) [0, 0, 0] [2, 3, 4, 5, 6, 7, 8, 9, 10, 11, 12, 13, 14, 15] trivial ⟨rfl, rfl, rfl, rfl, rfl, rfl, trivial⟩ rfl rfl
      rintro ⟨_, ⟨a1447, c1448⟩⟩ _
      refine T.region ?_
      refine L.q 2 rfl ?_
      refine L.nil ?_
      have hr := Option.some.inj H1452
      subst z1389
      exact E.give (_, (a1447, c1448)) [0, 0, 0] [0, 1, 2, 3, 4, 5, 6, 7, 8, 9, 10, 11, 12, 13] (hag1390 _ rfl) ⟨rfl, rfl, rfl, rfl, rfl, rfl, trivial⟩ rfl rfl
    refine T.exit (E.then_exit' (E.then_exit' (E.block_here ?_)))
    have hr := Option.some.inj H1393
    subst z1389
    have hb := hbr1391 _ rfl
    subst e1385
    exact E.give ((), (a1290, c1291)) [0, 0, 0] [0, 1, 2, 3, 4, 5, 6, 7, 8, 9, 10, 11, 12, 13] trivial ⟨rfl, rfl, rfl, trivial⟩ rfl rfl
  rintro ⟨_, ⟨a1382, c1383⟩⟩ _
  refine T.seq (T.region ?_)
  refine L.y (Yl.ldb 1 rfl rfl rfl rfl) rfl rfl rfl ?_
  refine L.q 1 rfl ?_
  refine L.a [2] [] (Ac.stb rfl rfl rfl rfl rfl rfl) rfl rfl rfl rfl rfl ?_
  intro _
  refine L.q 1 rfl ?_
  refine L.nil (E.then (T.ret ?_))
  have hr := Option.some.inj H1387
  subst r
  exact E.ret ((a732, c733), (a735, c736), (a738, c739), (a1382, c1383)) [1] [0, 1, 2, 3, 4, 5, 6] (.cell 0 rfl rfl rfl (.tmp rfl .nil)) rfl rfl rfl

end Go.Tw.X

set_option maxHeartbeats 2000000
set_option linter.unusedVariables false
set_option linter.unusedSimpArgs false
set_option maxRecDepth 10000
namespace Go.Tw.X
open Go Go.Tw
theorem c_law03_Is {g : GramGram} {x_ : Ref03Gram} (a_0_0 : Option Addr) (c_0_0 : Nat) (a_1_0 : Option Addr) (c_1_0 : Nat) {r : Bool} (H : p_law03_Is g x_ = some r) : CT G 44 [.agg #[.int .i64 g.epoch, .int .i64 g.kind, .slice a_0_0 g.nums.length c_0_0, .string g.data], .agg #[.int .i64 x_.epoch, .int .i64 x_.kind, .slice a_1_0 x_.nums.length c_1_0, .string x_.data]] [] [Im.sl (Ty.int .i64) a_0_0 c_0_0 g.nums, Im.sl (Ty.int .i64) a_1_0 c_1_0 x_.nums] (fun h : Unit => .bool r) (fun h => []) (fun h => []) := by
  delta p_law03_Is at H
  refine CT.of Go.Proofs.Tryz.func44 (by kernel_rfl) rfl rfl rfl fun K => ?_
  refine T.seq (T.region ?_)
  refine L.a [] [] (Ac.box rfl rfl) rfl rfl rfl rfl rfl ?_
  intro g1
  refine L.a [] [] (Ac.box rfl rfl) rfl rfl rfl rfl rfl ?_
  intro g2
  refine L.q 1 rfl ?_
  refine L.nil (E.then (T.seq ?_))
  obtain ⟨e16, H17, H18⟩ := bnd H
  refine T.join (η := Unit × Unit) (fun h => True) (fun h => [(4, .bool e16)]) (fun h => [Ch.box g2 101 [.int .i64 x_.epoch, .int .i64 x_.kind, .slice a_1_0 x_.nums.length c_1_0, .string x_.data], Ch.box g1 60 [.int .i64 g.epoch, .int .i64 g.kind, .slice a_0_0 g.nums.length c_0_0, .string g.data]]) (fun h => [Im.sl (Ty.int .i64) a_0_0 c_0_0 g.nums, Im.sl (Ty.int .i64) a_1_0 c_1_0 x_.nums]) ?_ ?_
  · refine T.region ?_
    refine L.q 1 rfl ?_
    refine L.y (Yl.ldb 1 rfl rfl rfl rfl) rfl rfl rfl ?_
    refine L.q 1 rfl ?_
    refine L.y (Yl.ldb 0 rfl rfl rfl rfl) rfl rfl rfl ?_
    refine L.q 2 rfl ?_
    refine L.cs 10 H17 rfl (fun hc H19 => ?_) (fun hc H19 => ?_)
    · refine L.q 1 rfl ?_
      refine L.y (Yl.ldb 1 rfl rfl rfl rfl) rfl rfl rfl ?_
      refine L.q 1 rfl ?_
      refine L.y (Yl.ldb 0 rfl rfl rfl rfl) rfl rfl rfl ?_
      refine L.q 3 rfl ?_
      refine L.cs 17 H19 rfl (fun hc H20 => ?_) (fun hc H20 => ?_)
      · refine L.q 1 rfl ?_
        refine L.y (Yl.ldb 1 rfl rfl rfl rfl) rfl rfl rfl ?_
        refine L.q 1 rfl ?_
        refine L.y (Yl.ldb 0 rfl rfl rfl rfl) rfl rfl rfl ?_
        obtain ⟨r21, h22, H23⟩ := bnd H20
        refine L.a [] [0, 1] (Ac.call (c_law01_Same a_0_0 c_0_0 a_1_0 c_1_0 h22) rfl rfl rfl rfl) rfl rfl rfl rfl rfl ?_
        rintro ⟨⟩
        refine L.q 2 rfl ?_
        refine L.cs 24 H23 rfl (fun hc H24 => ?_) (fun hc H24 => ?_)
        · refine L.q 1 rfl ?_
          refine L.y (Yl.ldb 1 rfl rfl rfl rfl) rfl rfl rfl ?_
          refine L.q 1 rfl ?_
          refine L.y (Yl.ldb 0 rfl rfl rfl rfl) rfl rfl rfl ?_
          refine L.q 3 rfl ?_
          refine L.nil ?_
          have hr := Option.some.inj H24
          subst e16
          exact E.give ((), ()) [0, 0] [0, 1] trivial ⟨rfl, trivial⟩ rfl rfl
        refine L.q 7 rfl ?_
        refine L.nil ?_
        have hr := Option.some.inj H24
        subst e16
        exact E.give ((), ()) [0, 0] [0, 1] trivial ⟨rfl, trivial⟩ rfl rfl
      refine L.q 14 rfl ?_
      refine L.nil ?_
      have hr := Option.some.inj H20
      subst e16
      exact E.give ((), ()) [0, 0] [0, 1] trivial ⟨rfl, trivial⟩ rfl rfl
    refine L.q 21 rfl ?_
    refine L.nil ?_
    have hr := Option.some.inj H19
    subst e16
    exact E.give ((), ()) [0, 0] [0, 1] trivial ⟨rfl, trivial⟩ rfl rfl
  rintro ⟨_, ⟨⟩⟩ _
  refine T.ret ?_
  have hr := Option.some.inj H18
  subst r
  exact E.ret () [] [] (.tmp rfl .nil) rfl rfl rfl

theorem c_law19_Grams {l : List GramGram} {x_ : List Ref03Gram} (a_0 : Option Addr) (c_0 : Nat) (a_1 : Option Addr) (c_1 : Nat) {r : Bool} (H : p_law19_Grams l x_ = some r) : CT G 20 [.slice a_0 l.length c_0, .slice a_1 x_.length c_1] [] [Im.sl tyGramGram a_0 c_0 l, Im.sl tyRef03Gram a_1 c_1 x_] (fun h : Unit => .bool r) (fun h => []) (fun h => []) := by
  delta p_law19_Grams at H
  refine CT.of Go.Proofs.Tryz.func20 (by kernel_rfl) rfl rfl rfl fun K => ?_
  refine T.seq (T.region ?_)
  refine L.q 1 rfl ?_
  refine L.nil (E.then (T.seq (T.seq (T.region ?_))))
  refine L.q 5 rfl ?_
  refine L.nil (E.then ?_)
  refine T.bif rfl H (fun hc H2 => ?_) (fun hc H2 => ?_)
  · refine T.seq (T.region ?_)
    refine L.q 1 rfl ?_
    refine L.nil (E.then (T.ret (E.then_ret ?_)))
    have hr := Option.some.inj H2
    subst r
    exact E.ret () [] [] (.tmp rfl .nil) rfl rfl rfl
  refine T.skip (E.then (T.seq (T.seq (T.region ?_))))
  refine L.q 3 rfl ?_
  refine L.nil (E.then ?_)
  obtain ⟨y572, H573, H574⟩ := bnd H2
  refine T.join (η := Unit × Unit) (fun h => y572 = .inl h.1) (fun h => (fun e571 => []) h.1) (fun h => (fun e571 => []) h.1) (fun h => (fun e571 => [Im.sl tyGramGram a_0 c_0 l, Im.sl tyRef03Gram a_1 c_1 x_]) h.1) ?_ ?_
  · refine T.block ?_
    refine T.lp (η := Unit) (fun s382 h => [(0, .slice a_0 l.length c_0), (1, .slice a_1 x_.length c_1), (12, .int .i64 (x_.length : Int)), (13, .int .i64 s382)]) (fun s382 h => []) (fun s382 h => [Im.sl tyGramGram a_0 c_0 l, Im.sl tyRef03Gram a_1 c_1 x_]) () [] [0, 1] H573 ⟨rfl, rfl, rfl, rfl, trivial⟩ rfl rfl ?_
    rintro k_ s382 ⟨⟩ z576 H575 hag577 hbr578
    refine T.seq (T.region ?_)
    refine L.q 1 rfl ?_
    refine L.nil (E.then (T.seq ?_))
    refine T.bif rfl H575 (fun hc H580 => ?_) (fun hc H580 => ?_)
    · refine T.skip (E.then (T.seq (T.block (T.seq (T.region ?_)))))
      refine L.q 2 rfl ?_
      refine L.nil (E.then (T.seq ?_))
      refine T.draw [] [] mo (by rfl) rfl ?_
      refine D.q 0 rfl rfl rfl rfl rfl rfl ?_
      refine D.q 1 rfl rfl rfl rfl rfl rfl ?_
      obtain ⟨x743, h744, H745⟩ := bnd H580
      refine D.addr 0 rfl (idx_lt h744) fun b746 o747 e748 => ?_
      obtain rfl : a_0 = some ⟨b746, o747, none⟩ := e748
      refine D.y 2 (Yl.ia h744 rfl rfl rfl rfl rfl rfl) rfl rfl rfl rfl rfl rfl ?_
      refine D.el 0 rfl (idx_some h744).2 ?_
      rintro ⟨a749, c750⟩
      refine D.y 3 (Yl.ldc 0 0 rfl rfl rfl rfl) rfl rfl rfl rfl rfl rfl ?_
      refine D.q 4 rfl rfl rfl rfl rfl rfl ?_
      refine D.q 5 rfl rfl rfl rfl rfl rfl ?_
      obtain ⟨x753, h754, H755⟩ := bnd H745
      refine D.addr 3 rfl (idx_lt h754) fun b756 o757 e758 => ?_
      obtain rfl : a_1 = some ⟨b756, o757, none⟩ := e758
      refine D.y 6 (Yl.ia h754 rfl rfl rfl rfl rfl rfl) rfl rfl rfl rfl rfl rfl ?_
      refine D.el 3 rfl (idx_some h754).2 ?_
      rintro ⟨a759, c760⟩
      refine D.y 7 (Yl.ldc 0 0 rfl rfl rfl rfl) rfl rfl rfl rfl rfl rfl ?_
      obtain ⟨r763, h764, H765⟩ := bnd H755
      refine D.one rfl rfl rfl (Dp.a [] [3, 1] (Ac.call (c_law03_Is a749 c750 a759 c760 h764) rfl rfl rfl rfl) rfl rfl rfl rfl rfl rfl ?_)
      rintro ⟨⟩
      refine D.q 9 rfl rfl rfl rfl rfl rfl ?_
      refine D.nil rfl rfl ?_
      refine E.then ?_
      refine T.bif rfl H765 (fun hc H766 => ?_) (fun hc H766 => ?_)
      · refine T.seq (T.region ?_)
        refine L.q 1 rfl ?_
        refine L.nil (E.then (T.ret (E.block_ret (E.then_ret (E.then_ret (E.block_ret ?_))))))
        obtain ⟨w767, hz, H768⟩ := inrr_some H766
        subst z576
        have hb := hbr578 _ rfl
        subst y572
        have hw : w767 = r := Option.some.inj H574
        subst w767
        refine E.then_ret ?_
        have hr := Option.some.inj H768
        subst r
        exact E.ret () [] [] (.tmp rfl .nil) rfl rfl rfl
      refine T.skip (E.block (E.then (T.region ?_)))
      refine L.q 2 rfl ?_
      refine L.nil ?_
      have hr := Option.some.inj H766
      subst z576
      exact E.give (_, ()) [] [4, 5] (hag577 _ rfl) ⟨rfl, rfl, rfl, rfl, trivial⟩ rfl rfl
    refine T.exit (E.then_exit' (E.then_exit' (E.block_here ?_)))
    have hr := Option.some.inj H580
    subst z576
    have hb := hbr578 _ rfl
    subst y572
    exact E.give (_, ()) [] [0, 1] rfl trivial rfl rfl
  rintro ⟨e571, ⟨⟩⟩ hy
  subst hy
  refine T.seq (T.region ?_)
  refine L.q 1 rfl ?_
  refine L.nil (E.then (T.ret ?_))
  have hr := Option.some.inj H574
  subst r
  exact E.ret () [] [] (.tmp rfl .nil) rfl rfl rfl

theorem c_ref19_Ack {s_ : Ref19Sender} {k : Int} {id : Int} {have_ : ByteArray} (a_0_0 : Option Addr) (c_0_0 : Nat) (a_0_1 : Option Addr) (c_0_1 : Nat) (a_0_2 : Option Addr) (c_0_2 : Nat) (a_0_3 : Option Addr) (c_0_3 : Nat) (a_0_4 : Option Addr) (c_0_4 : Nat) (a_0_5 : Option Addr) (c_0_5 : Nat) (a_0_6 : Option Addr) (c_0_6 : Nat) {r : Ref19Sender × Bool} (H : p_ref19_Ack s_ k id have_ = some r) : CT G 22 [.agg (bx38 s_ a_0_0 c_0_0 a_0_1 c_0_1 a_0_2 c_0_2 a_0_3 c_0_3 a_0_4 c_0_4 a_0_5 c_0_5 a_0_6 c_0_6).toArray, .int .i64 k, .int .i64 id, .string have_] [] [Im.sl tyRef09Row a_0_0 c_0_0 s_.current.rows, Im.sl tyRef09Glyph a_0_1 c_0_1 s_.current.begun, Im.sl tyRef09Row a_0_2 c_0_2 s_.acked.rows, Im.sl tyRef09Glyph a_0_3 c_0_3 s_.acked.begun, Im.sl tyRef16Snap a_0_4 c_0_4 s_.kept, Im.sl Ty.str a_0_5 c_0_5 s_.parts, Im.sl Ty.bool a_0_6 c_0_6 s_.there] (fun h : (Option Addr × Nat) × (Option Addr × Nat) × (Option Addr × Nat) × (Option Addr × Nat) => .tuple #[.agg (bx38 r.1 a_0_0 c_0_0 a_0_1 c_0_1 h.1.1 h.1.2 h.2.1.1 h.2.1.2 h.2.2.1.1 h.2.2.1.2 a_0_5 c_0_5 h.2.2.2.1 h.2.2.2.2).toArray, .bool r.2]) (fun h => []) (fun h => [Im.sl tyRef09Row a_0_0 c_0_0 r.1.current.rows, Im.sl tyRef09Glyph a_0_1 c_0_1 r.1.current.begun, Im.sl tyRef09Row h.1.1 h.1.2 r.1.acked.rows, Im.sl tyRef09Glyph h.2.1.1 h.2.1.2 r.1.acked.begun, Im.sl tyRef16Snap h.2.2.1.1 h.2.2.1.2 r.1.kept, Im.sl Ty.str a_0_5 c_0_5 r.1.parts, Im.sl Ty.bool h.2.2.2.1 h.2.2.2.2 r.1.there]) := by
  delta p_ref19_Ack at H
  refine CT.of Go.Proofs.Tryz.func22 (by kernel_rfl) rfl rfl rfl fun K => ?_
  refine T.seq (T.region ?_)
  refine L.a [] [] (Ac.box rfl rfl) rfl rfl rfl rfl rfl ?_
  intro g1
  refine L.a [] [] (Ac.alloc rfl rfl) rfl rfl rfl rfl rfl ?_
  intro g2
  refine L.q 1 rfl ?_
  refine L.nil (E.then (T.seq (T.seq ?_)))
  obtain ⟨e6, H7, H8⟩ := bnd H
  refine T.join (η := Unit × Unit) (fun h => True) (fun h => [(1, .int .i64 k), (3, .string have_), (4, .pointer (some ⟨g1, 0, none⟩)), (8, .pointer (some ⟨g2, 0, none⟩)), (24, .bool e6)]) (fun h => [Ch.box g2 38 [.int .i64 0, .int .i64 0, .int .i64 0, .int .i64 0, .int .i64 0, .int .i64 0, .int .i64 0, .int .i64 0, .string (ByteArray.mk #[]), .slice none 0 0, .int .i64 0, .int .i64 0, .slice none 0 0, .int .i64 0, .int .i64 0, .int .i64 0, .int .i64 0, .int .i64 0, .string (ByteArray.mk #[]), .slice none 0 0, .int .i64 0, .int .i64 0, .slice none 0 0, .slice none 0 0, .int .i64 0, .int .i64 0, .int .i64 0, .slice none 0 0, .slice none 0 0, .int .i64 0, .int .i64 0], Ch.box g1 38 (bx38 s_ a_0_0 c_0_0 a_0_1 c_0_1 a_0_2 c_0_2 a_0_3 c_0_3 a_0_4 c_0_4 a_0_5 c_0_5 a_0_6 c_0_6)]) (fun h => [Im.sl tyRef09Row a_0_0 c_0_0 s_.current.rows, Im.sl tyRef09Glyph a_0_1 c_0_1 s_.current.begun, Im.sl tyRef09Row a_0_2 c_0_2 s_.acked.rows, Im.sl tyRef09Glyph a_0_3 c_0_3 s_.acked.begun, Im.sl tyRef16Snap a_0_4 c_0_4 s_.kept, Im.sl Ty.str a_0_5 c_0_5 s_.parts, Im.sl Ty.bool a_0_6 c_0_6 s_.there]) ?_ ?_
  · refine T.region ?_
    refine L.q 3 rfl ?_
    refine L.cs 19 H7 rfl (fun hc H9 => ?_) (fun hc H9 => ?_)
    · refine L.q 2 rfl ?_
      refine L.y (Yl.ldb 1 rfl rfl rfl rfl) rfl rfl rfl ?_
      refine L.q 2 rfl ?_
      refine L.nil ?_
      have hr := Option.some.inj H9
      subst e6
      exact E.give ((), ()) [0, 0] [0, 1, 2, 3, 4, 5, 6] trivial ⟨rfl, rfl, rfl, rfl, rfl, trivial⟩ rfl rfl
    refine L.q 5 rfl ?_
    refine L.nil ?_
    have hr := Option.some.inj H9
    subst e6
    exact E.give ((), ()) [0, 0] [0, 1, 2, 3, 4, 5, 6] trivial ⟨rfl, rfl, rfl, rfl, rfl, trivial⟩ rfl rfl
  rintro ⟨_, ⟨⟩⟩ _
  obtain ⟨e826, H827, H828⟩ := bnd H8
  refine T.join (η := Unit × ((Option Addr × Nat))) (fun h => True) (fun h => (fun a823 c824 => [(1, .int .i64 k), (4, .pointer (some ⟨g1, 0, none⟩)), (8, .pointer (some ⟨g2, 0, none⟩))]) h.2.1 h.2.2) (fun h => (fun a823 c824 => [Ch.box g2 38 [.int .i64 0, .int .i64 0, .int .i64 0, .int .i64 0, .int .i64 0, .int .i64 0, .int .i64 0, .int .i64 0, .string (ByteArray.mk #[]), .slice none 0 0, .int .i64 0, .int .i64 0, .slice none 0 0, .int .i64 0, .int .i64 0, .int .i64 0, .int .i64 0, .int .i64 0, .string (ByteArray.mk #[]), .slice none 0 0, .int .i64 0, .int .i64 0, .slice none 0 0, .slice none 0 0, .int .i64 0, .int .i64 0, .int .i64 0, .slice none 0 0, .slice none 0 0, .int .i64 0, .int .i64 0], Ch.box g1 38 (bx38 e826 a_0_0 c_0_0 a_0_1 c_0_1 a_0_2 c_0_2 a_0_3 c_0_3 a_0_4 c_0_4 a_0_5 c_0_5 a823 c824)]) h.2.1 h.2.2) (fun h => (fun a823 c824 => [Im.sl tyRef09Row a_0_0 c_0_0 e826.current.rows, Im.sl tyRef09Glyph a_0_1 c_0_1 e826.current.begun, Im.sl tyRef09Row a_0_2 c_0_2 e826.acked.rows, Im.sl tyRef09Glyph a_0_3 c_0_3 e826.acked.begun, Im.sl tyRef16Snap a_0_4 c_0_4 e826.kept, Im.sl Ty.str a_0_5 c_0_5 e826.parts, Im.sl Ty.bool a823 c824 e826.there, Im.sl tyRef09Row a_0_0 c_0_0 s_.current.rows, Im.sl tyRef09Glyph a_0_1 c_0_1 s_.current.begun, Im.sl tyRef09Row a_0_2 c_0_2 s_.acked.rows, Im.sl tyRef09Glyph a_0_3 c_0_3 s_.acked.begun, Im.sl tyRef16Snap a_0_4 c_0_4 s_.kept, Im.sl Ty.str a_0_5 c_0_5 s_.parts, Im.sl Ty.bool a_0_6 c_0_6 s_.there]) h.2.1 h.2.2) ?_ ?_
  · refine T.bif rfl H827 (fun hc H829 => ?_) (fun hc H829 => ?_)
    · refine T.seq (T.region ?_)
      refine L.a [] [] (Ac.bs (ty := Ty.bool) (xs := []) .nil rfl rfl rfl rfl rfl rfl rfl) rfl rfl rfl rfl rfl ?_
      intro g830
      refine L.q 1 rfl ?_
      refine L.y (Yl.ldb 2 rfl rfl rfl rfl) rfl rfl rfl ?_
      obtain ⟨_, h832, H833⟩ := bnd H829
      refine L.a [0] [6] (Ac.ap (ty := Ty.bool) h832 rfl rfl rfl rfl rfl rfl rfl) rfl rfl rfl rfl rfl ?_
      rintro ⟨a834, c835⟩
      refine L.q 1 rfl ?_
      refine L.nil (E.then (T.seq (T.seq (T.region ?_))))
      refine L.q 3 rfl ?_
      refine L.nil (E.then ?_)
      obtain ⟨e1131, H1132, H1133⟩ := bnd H833
      refine T.join (η := Unit × Unit) (fun h => True) (fun h => [(1, .int .i64 k), (4, .pointer (some ⟨g1, 0, none⟩)), (8, .pointer (some ⟨g2, 0, none⟩)), (10, .slice a834 e1131.length c835)]) (fun h => [Ch.arr Ty.bool 4 a834 c835 e1131, Ch.box g2 38 [.int .i64 0, .int .i64 0, .int .i64 0, .int .i64 0, .int .i64 0, .int .i64 0, .int .i64 0, .int .i64 0, .string (ByteArray.mk #[]), .slice none 0 0, .int .i64 0, .int .i64 0, .slice none 0 0, .int .i64 0, .int .i64 0, .int .i64 0, .int .i64 0, .int .i64 0, .string (ByteArray.mk #[]), .slice none 0 0, .int .i64 0, .int .i64 0, .slice none 0 0, .slice none 0 0, .int .i64 0, .int .i64 0, .int .i64 0, .slice none 0 0, .slice none 0 0, .int .i64 0, .int .i64 0], Ch.box g1 38 (bx38 s_ a_0_0 c_0_0 a_0_1 c_0_1 a_0_2 c_0_2 a_0_3 c_0_3 a_0_4 c_0_4 a_0_5 c_0_5 a_0_6 c_0_6)]) (fun h => [Im.sl tyRef09Row a_0_0 c_0_0 s_.current.rows, Im.sl tyRef09Glyph a_0_1 c_0_1 s_.current.begun, Im.sl tyRef09Row a_0_2 c_0_2 s_.acked.rows, Im.sl tyRef09Glyph a_0_3 c_0_3 s_.acked.begun, Im.sl tyRef16Snap a_0_4 c_0_4 s_.kept, Im.sl Ty.str a_0_5 c_0_5 s_.parts, Im.sl Ty.bool a_0_6 c_0_6 s_.there]) ?_ ?_
      · refine T.block ?_
        refine T.lp (η := Unit) (fun s1034 h => [(1, .int .i64 k), (3, .string have_), (4, .pointer (some ⟨g1, 0, none⟩)), (8, .pointer (some ⟨g2, 0, none⟩)), (10, .slice a834 s1034.1.length c835), (30, .int .i64 ((([] : List Bool) ++ s_.there).length : Int)), (31, .int .i64 s1034.2)]) (fun s1034 h => [Ch.arr Ty.bool 4 a834 c835 s1034.1, Ch.box g2 38 [.int .i64 0, .int .i64 0, .int .i64 0, .int .i64 0, .int .i64 0, .int .i64 0, .int .i64 0, .int .i64 0, .string (ByteArray.mk #[]), .slice none 0 0, .int .i64 0, .int .i64 0, .slice none 0 0, .int .i64 0, .int .i64 0, .int .i64 0, .int .i64 0, .int .i64 0, .string (ByteArray.mk #[]), .slice none 0 0, .int .i64 0, .int .i64 0, .slice none 0 0, .slice none 0 0, .int .i64 0, .int .i64 0, .int .i64 0, .slice none 0 0, .slice none 0 0, .int .i64 0, .int .i64 0], Ch.box g1 38 (bx38 s_ a_0_0 c_0_0 a_0_1 c_0_1 a_0_2 c_0_2 a_0_3 c_0_3 a_0_4 c_0_4 a_0_5 c_0_5 a_0_6 c_0_6)]) (fun s1034 h => [Im.sl tyRef09Row a_0_0 c_0_0 s_.current.rows, Im.sl tyRef09Glyph a_0_1 c_0_1 s_.current.begun, Im.sl tyRef09Row a_0_2 c_0_2 s_.acked.rows, Im.sl tyRef09Glyph a_0_3 c_0_3 s_.acked.begun, Im.sl tyRef16Snap a_0_4 c_0_4 s_.kept, Im.sl Ty.str a_0_5 c_0_5 s_.parts, Im.sl Ty.bool a_0_6 c_0_6 s_.there]) () [0, 0, 0] [0, 1, 2, 3, 4, 5, 6] H1132 ⟨rfl, rfl, rfl, rfl, rfl, rfl, rfl, trivial⟩ rfl rfl ?_
        rintro k_ s1034 ⟨⟩ z1135 H1134 hag1136 hbr1137
        refine T.seq (T.region ?_)
        refine L.q 1 rfl ?_
        refine L.nil (E.then (T.seq ?_))
        refine T.bif rfl H1134 (fun hc H1139 => ?_) (fun hc H1139 => ?_)
        · refine T.skip (E.then (T.seq ?_))
          obtain ⟨e1200, H1201, H1202⟩ := bnd H1139
          refine T.join (η := Unit × Unit) (fun h => True) (fun h => [(1, .int .i64 k), (3, .string have_), (4, .pointer (some ⟨g1, 0, none⟩)), (8, .pointer (some ⟨g2, 0, none⟩)), (10, .slice a834 e1200.length c835), (30, .int .i64 ((([] : List Bool) ++ s_.there).length : Int)), (31, .int .i64 s1034.2)]) (fun h => [Ch.arr Ty.bool 4 a834 c835 e1200, Ch.box g2 38 [.int .i64 0, .int .i64 0, .int .i64 0, .int .i64 0, .int .i64 0, .int .i64 0, .int .i64 0, .int .i64 0, .string (ByteArray.mk #[]), .slice none 0 0, .int .i64 0, .int .i64 0, .slice none 0 0, .int .i64 0, .int .i64 0, .int .i64 0, .int .i64 0, .int .i64 0, .string (ByteArray.mk #[]), .slice none 0 0, .int .i64 0, .int .i64 0, .slice none 0 0, .slice none 0 0, .int .i64 0, .int .i64 0, .int .i64 0, .slice none 0 0, .slice none 0 0, .int .i64 0, .int .i64 0], Ch.box g1 38 (bx38 s_ a_0_0 c_0_0 a_0_1 c_0_1 a_0_2 c_0_2 a_0_3 c_0_3 a_0_4 c_0_4 a_0_5 c_0_5 a_0_6 c_0_6)]) (fun h => [Im.sl tyRef09Row a_0_0 c_0_0 s_.current.rows, Im.sl tyRef09Glyph a_0_1 c_0_1 s_.current.begun, Im.sl tyRef09Row a_0_2 c_0_2 s_.acked.rows, Im.sl tyRef09Glyph a_0_3 c_0_3 s_.acked.begun, Im.sl tyRef16Snap a_0_4 c_0_4 s_.kept, Im.sl Ty.str a_0_5 c_0_5 s_.parts, Im.sl Ty.bool a_0_6 c_0_6 s_.there]) ?_ ?_
          · refine T.block (T.seq (T.region ?_))
            refine L.q 2 rfl ?_
            refine L.nil (E.then (T.seq ?_))
            obtain ⟨e1216, H1217, H1218⟩ := bnd H1201
            refine T.join (η := Unit × Unit) (fun h => True) (fun h => [(1, .int .i64 k), (3, .string have_), (4, .pointer (some ⟨g1, 0, none⟩)), (8, .pointer (some ⟨g2, 0, none⟩)), (10, .slice a834 s1034.1.length c835), (11, .int .i64 s1034.2), (30, .int .i64 ((([] : List Bool) ++ s_.there).length : Int)), (31, .int .i64 s1034.2), (49, .bool e1216)]) (fun h => [Ch.box g2 38 [.int .i64 0, .int .i64 0, .int .i64 0, .int .i64 0, .int .i64 0, .int .i64 0, .int .i64 0, .int .i64 0, .string (ByteArray.mk #[]), .slice none 0 0, .int .i64 0, .int .i64 0, .slice none 0 0, .int .i64 0, .int .i64 0, .int .i64 0, .int .i64 0, .int .i64 0, .string (ByteArray.mk #[]), .slice none 0 0, .int .i64 0, .int .i64 0, .slice none 0 0, .slice none 0 0, .int .i64 0, .int .i64 0, .int .i64 0, .slice none 0 0, .slice none 0 0, .int .i64 0, .int .i64 0], Ch.box g1 38 (bx38 s_ a_0_0 c_0_0 a_0_1 c_0_1 a_0_2 c_0_2 a_0_3 c_0_3 a_0_4 c_0_4 a_0_5 c_0_5 a_0_6 c_0_6), Ch.arr Ty.bool 4 a834 c835 s1034.1]) (fun h => [Im.sl tyRef09Row a_0_0 c_0_0 s_.current.rows, Im.sl tyRef09Glyph a_0_1 c_0_1 s_.current.begun, Im.sl tyRef09Row a_0_2 c_0_2 s_.acked.rows, Im.sl tyRef09Glyph a_0_3 c_0_3 s_.acked.begun, Im.sl tyRef16Snap a_0_4 c_0_4 s_.kept, Im.sl Ty.str a_0_5 c_0_5 s_.parts, Im.sl Ty.bool a_0_6 c_0_6 s_.there]) ?_ ?_
            · refine T.region ?_
              refine L.q 6 rfl ?_
              refine L.cs 39 H1217 rfl (fun hc H1219 => ?_) (fun hc H1219 => ?_)
              · refine L.q 3 rfl ?_
                obtain ⟨b1220, h1221, H1222⟩ := bnd H1219
                refine L.y (Yl.si h1221 rfl rfl rfl rfl rfl) rfl rfl rfl ?_
                refine L.q 2 rfl ?_
                obtain ⟨_, h1223, H1224⟩ := bnd H1222
                refine L.y (Yl.shr (nb := 8) rfl h1223 rfl rfl rfl) rfl rfl rfl ?_
                refine L.q 3 rfl ?_
                refine L.nil ?_
                have hr := Option.some.inj H1224
                subst e1216
                exact E.give ((), ()) [1, 1, 0] [0, 1, 2, 3, 4, 5, 6] trivial ⟨rfl, rfl, rfl, rfl, rfl, rfl, rfl, rfl, rfl, trivial⟩ rfl rfl
              refine L.q 10 rfl ?_
              refine L.nil ?_
              have hr := Option.some.inj H1219
              subst e1216
              exact E.give ((), ()) [1, 1, 0] [0, 1, 2, 3, 4, 5, 6] trivial ⟨rfl, rfl, rfl, rfl, rfl, rfl, rfl, rfl, rfl, trivial⟩ rfl rfl
            rintro ⟨_, ⟨⟩⟩ _
            refine T.bif rfl H1218 (fun hc H1225 => ?_) (fun hc H1225 => ?_)
            · refine T.region ?_
              refine L.q 2 rfl ?_
              obtain ⟨x1226, h1227, H1228⟩ := bnd H1225
              refine L.addro 2 rfl (idx_lt h1227) fun b1229 e1230 => ?_
              obtain rfl : a834 = some ⟨b1229, 0, none⟩ := e1230
              refine L.y (Yl.ia h1227 rfl rfl rfl rfl rfl rfl) rfl rfl rfl ?_
              refine L.a [2] [] (Ac.se 0 true (idx_some h1227).2 rfl rfl rfl rfl rfl rfl (fun _ => ⟨(), rfl, [], rfl⟩)) rfl rfl rfl rfl rfl ?_
              intro _
              refine L.sl 10 (k' := (s1034.1.set s1034.2.toNat true).length) (List.length_set ..) rfl ?_
              refine L.nil (E.block ?_)
              have hr := Option.some.inj H1228
              subst e1200
              exact E.give ((), ()) [0, 0, 0] [0, 1, 2, 3, 4, 5, 6] trivial ⟨rfl, rfl, rfl, rfl, rfl, rfl, rfl, trivial⟩ rfl rfl
            refine T.skip (E.block ?_)
            have hr := Option.some.inj H1225
            subst e1200
            exact E.give ((), ()) [2, 0, 0] [0, 1, 2, 3, 4, 5, 6] trivial ⟨rfl, rfl, rfl, rfl, rfl, rfl, rfl, trivial⟩ rfl rfl
          rintro ⟨_, ⟨⟩⟩ _
          refine T.region ?_
          refine L.q 2 rfl ?_
          refine L.nil ?_
          have hr := Option.some.inj H1202
          subst z1135
          exact E.give (_, ()) [0, 0, 0] [0, 1, 2, 3, 4, 5, 6] (hag1136 _ rfl) ⟨rfl, rfl, rfl, rfl, rfl, rfl, rfl, trivial⟩ rfl rfl
        refine T.exit (E.then_exit' (E.then_exit' (E.block_here ?_)))
        have hr := Option.some.inj H1139
        subst z1135
        have hb := hbr1137 _ rfl
        subst e1131
        exact E.give ((), ()) [0, 0, 0] [0, 1, 2, 3, 4, 5, 6] trivial ⟨rfl, rfl, rfl, rfl, trivial⟩ rfl rfl
      rintro ⟨_, ⟨⟩⟩ _
      refine T.region ?_
      refine L.q 2 rfl ?_
      refine L.a [2] [] (Ac.stb rfl rfl rfl rfl rfl rfl) rfl rfl rfl rfl rfl ?_
      intro _
      refine L.nil ?_
      refine E.frz 1 rfl ?_
      have hr := Option.some.inj H1133
      subst e826
      exact E.give ((), (a834, c835)) [1, 0] [1, 2, 3, 4, 5, 6, 0, 1, 2, 3, 4, 5, 6, 7] trivial ⟨rfl, rfl, rfl, trivial⟩ rfl rfl
    refine T.skip ?_
    have hr := Option.some.inj H829
    subst e826
    exact E.give ((), (a_0_6, c_0_6)) [0, 0] [0, 1, 2, 3, 4, 5, 6, 0, 1, 2, 3, 4, 5, 6] trivial ⟨rfl, rfl, rfl, trivial⟩ rfl rfl
  rintro ⟨_, ⟨a823, c824⟩⟩ _
  refine T.seq (T.seq ?_)
  obtain ⟨e1236, H1237, H1238⟩ := bnd H828
  refine T.join (η := Unit × Unit) (fun h => True) (fun h => [(1, .int .i64 k), (4, .pointer (some ⟨g1, 0, none⟩)), (8, .pointer (some ⟨g2, 0, none⟩)), (67, .bool e1236)]) (fun h => [Ch.box g2 38 [.int .i64 0, .int .i64 0, .int .i64 0, .int .i64 0, .int .i64 0, .int .i64 0, .int .i64 0, .int .i64 0, .string (ByteArray.mk #[]), .slice none 0 0, .int .i64 0, .int .i64 0, .slice none 0 0, .int .i64 0, .int .i64 0, .int .i64 0, .int .i64 0, .int .i64 0, .string (ByteArray.mk #[]), .slice none 0 0, .int .i64 0, .int .i64 0, .slice none 0 0, .slice none 0 0, .int .i64 0, .int .i64 0, .int .i64 0, .slice none 0 0, .slice none 0 0, .int .i64 0, .int .i64 0], Ch.box g1 38 (bx38 e826 a_0_0 c_0_0 a_0_1 c_0_1 a_0_2 c_0_2 a_0_3 c_0_3 a_0_4 c_0_4 a_0_5 c_0_5 a823 c824)]) (fun h => [Im.sl tyRef09Row a_0_0 c_0_0 e826.current.rows, Im.sl tyRef09Glyph a_0_1 c_0_1 e826.current.begun, Im.sl tyRef09Row a_0_2 c_0_2 e826.acked.rows, Im.sl tyRef09Glyph a_0_3 c_0_3 e826.acked.begun, Im.sl tyRef16Snap a_0_4 c_0_4 e826.kept, Im.sl Ty.str a_0_5 c_0_5 e826.parts, Im.sl Ty.bool a823 c824 e826.there, Im.sl tyRef09Row a_0_0 c_0_0 s_.current.rows, Im.sl tyRef09Glyph a_0_1 c_0_1 s_.current.begun, Im.sl tyRef09Row a_0_2 c_0_2 s_.acked.rows, Im.sl tyRef09Glyph a_0_3 c_0_3 s_.acked.begun, Im.sl tyRef16Snap a_0_4 c_0_4 s_.kept, Im.sl Ty.str a_0_5 c_0_5 s_.parts, Im.sl Ty.bool a_0_6 c_0_6 s_.there]) ?_ ?_
  · refine T.region ?_
    refine L.q 3 rfl ?_
    refine L.y (Yl.ldb 1 rfl rfl rfl rfl) rfl rfl rfl ?_
    refine L.q 2 rfl ?_
    refine L.cs 61 H1237 rfl (fun hc H1239 => ?_) (fun hc H1239 => ?_)
    · refine L.q 6 rfl ?_
      refine L.nil ?_
      have hr := Option.some.inj H1239
      subst e1236
      exact E.give ((), ()) [0, 0] [0, 1, 2, 3, 4, 5, 6, 7, 8, 9, 10, 11, 12, 13] trivial ⟨rfl, rfl, rfl, rfl, trivial⟩ rfl rfl
    refine L.q 3 rfl ?_
    refine L.y (Yl.ldb 1 rfl rfl rfl rfl) rfl rfl rfl ?_
    refine L.q 2 rfl ?_
    refine L.nil ?_
    have hr := Option.some.inj H1239
    subst e1236
    exact E.give ((), ()) [0, 0] [0, 1, 2, 3, 4, 5, 6, 7, 8, 9, 10, 11, 12, 13] trivial ⟨rfl, rfl, rfl, rfl, trivial⟩ rfl rfl
  rintro ⟨_, ⟨⟩⟩ _
  refine T.bif rfl H1238 (fun hc H1241 => ?_) (fun hc H1241 => ?_)
  · refine T.seq (T.region ?_)
    refine L.y (Yl.ldb 1 rfl rfl rfl rfl) rfl rfl rfl ?_
    refine L.a [0] [] (Ac.stb rfl rfl rfl rfl rfl rfl) rfl rfl rfl rfl rfl ?_
    intro _
    refine L.q 1 rfl ?_
    refine L.nil (E.then (T.ret (E.then_ret ?_)))
    have hr := Option.some.inj H1241
    subst r
    exact E.ret ((a_0_2, c_0_2), (a_0_3, c_0_3), (a_0_4, c_0_4), (a823, c824)) [] [0, 1, 2, 3, 4, 5, 6] (.cell 0 rfl rfl rfl (.tmp rfl .nil)) rfl rfl rfl
  refine T.skip (E.then (T.seq (T.region ?_)))
  refine L.a [] [] (Ac.bs (ty := tyRef16Snap) (xs := []) .nil rfl rfl rfl rfl rfl rfl rfl) rfl rfl rfl rfl rfl ?_
  intro g1242
  refine L.q 1 rfl ?_
  refine L.nil (E.then (T.seq (T.region ?_)))
  refine L.q 1 rfl ?_
  refine L.nil (E.then (T.seq (T.region ?_)))
  refine L.q 1 rfl ?_
  refine L.a [] [] (Ac.alloc rfl rfl) rfl rfl rfl rfl rfl ?_
  intro g1244
  refine L.a [0] [] (Ac.stb rfl rfl rfl rfl rfl rfl) rfl rfl rfl rfl rfl ?_
  intro _
  refine L.nil (E.then (T.seq (T.seq (T.region ?_))))
  refine L.q 1 rfl ?_
  refine L.y (Yl.ldb 3 rfl rfl rfl rfl) rfl rfl rfl ?_
  refine L.q 2 rfl ?_
  refine L.nil (E.then ?_)
  obtain ⟨e1687, H1688, H1689⟩ := bnd H1241
  refine T.join (η := Unit × ((Option Addr × Nat) × (Option Addr × Nat) × (Option Addr × Nat))) (fun h => True) (fun h => (fun a1676 c1677 a1681 c1682 a1684 c1685 => [(4, .pointer (some ⟨g1, 0, none⟩)), (8, .pointer (some ⟨g2, 0, none⟩)), (12, .slice a1676 e1687.1.length c1677), (13, .bool e1687.2.1), (14, .pointer (some ⟨g1244, 0, none⟩))]) h.2.1.1 h.2.1.2 h.2.2.1.1 h.2.2.1.2 h.2.2.2.1 h.2.2.2.2) (fun h => (fun a1676 c1677 a1681 c1682 a1684 c1685 => [Ch.arr tyRef16Snap 33 a1676 c1677 e1687.1, Ch.box g1244 33 (bx33 e1687.2.2 a1681 c1682 a1684 c1685), Ch.box g2 38 [.int .i64 0, .int .i64 0, .int .i64 0, .int .i64 0, .int .i64 0, .int .i64 0, .int .i64 0, .int .i64 0, .string (ByteArray.mk #[]), .slice none 0 0, .int .i64 0, .int .i64 0, .slice none 0 0, .int .i64 0, .int .i64 0, .int .i64 0, .int .i64 0, .int .i64 0, .string (ByteArray.mk #[]), .slice none 0 0, .int .i64 0, .int .i64 0, .slice none 0 0, .slice none 0 0, .int .i64 0, .int .i64 0, .int .i64 0, .slice none 0 0, .slice none 0 0, .int .i64 0, .int .i64 0], Ch.box g1 38 (bx38 e826 a_0_0 c_0_0 a_0_1 c_0_1 a_0_2 c_0_2 a_0_3 c_0_3 a_0_4 c_0_4 a_0_5 c_0_5 a823 c824)]) h.2.1.1 h.2.1.2 h.2.2.1.1 h.2.2.1.2 h.2.2.2.1 h.2.2.2.2) (fun h => (fun a1676 c1677 a1681 c1682 a1684 c1685 => [Im.sl tyRef09Row a1681 c1682 e1687.2.2.rows, Im.sl tyRef09Glyph a1684 c1685 e1687.2.2.begun, Im.sl tyRef09Row a_0_0 c_0_0 e826.current.rows, Im.sl tyRef09Glyph a_0_1 c_0_1 e826.current.begun, Im.sl tyRef09Row a_0_2 c_0_2 e826.acked.rows, Im.sl tyRef09Glyph a_0_3 c_0_3 e826.acked.begun, Im.sl tyRef16Snap a_0_4 c_0_4 e826.kept, Im.sl Ty.str a_0_5 c_0_5 e826.parts, Im.sl Ty.bool a823 c824 e826.there, Im.sl tyRef09Row a_0_0 c_0_0 s_.current.rows, Im.sl tyRef09Glyph a_0_1 c_0_1 s_.current.begun, Im.sl tyRef09Row a_0_2 c_0_2 s_.acked.rows, Im.sl tyRef09Glyph a_0_3 c_0_3 s_.acked.begun, Im.sl tyRef16Snap a_0_4 c_0_4 s_.kept, Im.sl Ty.str a_0_5 c_0_5 s_.parts, Im.sl Ty.bool a_0_6 c_0_6 s_.there]) h.2.1.1 h.2.1.2 h.2.2.1.1 h.2.2.1.2 h.2.2.2.1 h.2.2.2.2) ?_ ?_
  · refine T.block ?_
    refine T.know [Im.sl tyRef09Row none 0 []] (fun A w _ _ f hf => by rw [List.mem_singleton.1 hf]; exact Im.sl_nil A w) ?_
    refine T.know [Im.sl tyRef09Glyph none 0 []] (fun A w _ _ f hf => by rw [List.mem_singleton.1 hf]; exact Im.sl_nil A w) ?_
    refine T.lp (η := (Option Addr × Nat) × (Option Addr × Nat) × (Option Addr × Nat)) (fun s1546 h => (fun a1534 c1535 a1537 c1538 a1541 c1542 => [(1, .int .i64 k), (4, .pointer (some ⟨g1, 0, none⟩)), (8, .pointer (some ⟨g2, 0, none⟩)), (12, .slice a1541 s1546.2.1.length c1542), (13, .bool s1546.2.2.1), (14, .pointer (some ⟨g1244, 0, none⟩)), (72, .slice a_0_4 e826.kept.length c_0_4), (73, .int .i64 (e826.kept.length : Int)), (74, .int .i64 s1546.2.2.2)]) h.1.1 h.1.2 h.2.1.1 h.2.1.2 h.2.2.1 h.2.2.2) (fun s1546 h => (fun a1534 c1535 a1537 c1538 a1541 c1542 => [Ch.arr tyRef16Snap 33 a1541 c1542 s1546.2.1, Ch.box g1244 33 (bx33 s1546.1 a1534 c1535 a1537 c1538), Ch.box g2 38 [.int .i64 0, .int .i64 0, .int .i64 0, .int .i64 0, .int .i64 0, .int .i64 0, .int .i64 0, .int .i64 0, .string (ByteArray.mk #[]), .slice none 0 0, .int .i64 0, .int .i64 0, .slice none 0 0, .int .i64 0, .int .i64 0, .int .i64 0, .int .i64 0, .int .i64 0, .string (ByteArray.mk #[]), .slice none 0 0, .int .i64 0, .int .i64 0, .slice none 0 0, .slice none 0 0, .int .i64 0, .int .i64 0, .int .i64 0, .slice none 0 0, .slice none 0 0, .int .i64 0, .int .i64 0], Ch.box g1 38 (bx38 e826 a_0_0 c_0_0 a_0_1 c_0_1 a_0_2 c_0_2 a_0_3 c_0_3 a_0_4 c_0_4 a_0_5 c_0_5 a823 c824)]) h.1.1 h.1.2 h.2.1.1 h.2.1.2 h.2.2.1 h.2.2.2) (fun s1546 h => (fun a1534 c1535 a1537 c1538 a1541 c1542 => [Im.sl tyRef09Row a1534 c1535 s1546.1.rows, Im.sl tyRef09Glyph a1537 c1538 s1546.1.begun, Im.sl tyRef09Row a_0_0 c_0_0 e826.current.rows, Im.sl tyRef09Glyph a_0_1 c_0_1 e826.current.begun, Im.sl tyRef09Row a_0_2 c_0_2 e826.acked.rows, Im.sl tyRef09Glyph a_0_3 c_0_3 e826.acked.begun, Im.sl tyRef16Snap a_0_4 c_0_4 e826.kept, Im.sl Ty.str a_0_5 c_0_5 e826.parts, Im.sl Ty.bool a823 c824 e826.there, Im.sl tyRef09Row a_0_0 c_0_0 s_.current.rows, Im.sl tyRef09Glyph a_0_1 c_0_1 s_.current.begun, Im.sl tyRef09Row a_0_2 c_0_2 s_.acked.rows, Im.sl tyRef09Glyph a_0_3 c_0_3 s_.acked.begun, Im.sl tyRef16Snap a_0_4 c_0_4 s_.kept, Im.sl Ty.str a_0_5 c_0_5 s_.parts, Im.sl Ty.bool a_0_6 c_0_6 s_.there]) h.1.1 h.1.2 h.2.1.1 h.2.1.2 h.2.2.1 h.2.2.2) ((none, 0), (none, 0), ((some ⟨g1242, 0, none⟩), 0)) [1, 0, 0, 0] [1, 0, 2, 3, 4, 5, 6, 7, 8, 9, 10, 11, 12, 13, 14, 15] H1688 ⟨rfl, rfl, rfl, rfl, rfl, rfl, rfl, rfl, rfl, trivial⟩ rfl rfl ?_
    rintro k_ s1546 ⟨⟨a1534, c1535⟩, ⟨a1537, c1538⟩, ⟨a1541, c1542⟩⟩ z1691 H1690 hag1692 hbr1693
    refine T.seq (T.region ?_)
    refine L.q 1 rfl ?_
    refine L.nil (E.then (T.seq ?_))
    refine T.bif rfl H1690 (fun hc H1695 => ?_) (fun hc H1695 => ?_)
    · refine T.skip (E.then (T.seq ?_))
      obtain ⟨e1782, H1783, H1784⟩ := bnd H1695
      refine T.join (η := Unit × ((Option Addr × Nat) × (Option Addr × Nat) × (Option Addr × Nat))) (fun h => True) (fun h => (fun a1771 c1772 a1776 c1777 a1779 c1780 => [(1, .int .i64 k), (4, .pointer (some ⟨g1, 0, none⟩)), (8, .pointer (some ⟨g2, 0, none⟩)), (12, .slice a1771 e1782.1.length c1772), (13, .bool e1782.2.1), (14, .pointer (some ⟨g1244, 0, none⟩)), (72, .slice a_0_4 e826.kept.length c_0_4), (73, .int .i64 (e826.kept.length : Int)), (74, .int .i64 s1546.2.2.2)]) h.2.1.1 h.2.1.2 h.2.2.1.1 h.2.2.1.2 h.2.2.2.1 h.2.2.2.2) (fun h => (fun a1771 c1772 a1776 c1777 a1779 c1780 => [Ch.arr tyRef16Snap 33 a1771 c1772 e1782.1, Ch.box g1244 33 (bx33 e1782.2.2 a1776 c1777 a1779 c1780), Ch.box g2 38 [.int .i64 0, .int .i64 0, .int .i64 0, .int .i64 0, .int .i64 0, .int .i64 0, .int .i64 0, .int .i64 0, .string (ByteArray.mk #[]), .slice none 0 0, .int .i64 0, .int .i64 0, .slice none 0 0, .int .i64 0, .int .i64 0, .int .i64 0, .int .i64 0, .int .i64 0, .string (ByteArray.mk #[]), .slice none 0 0, .int .i64 0, .int .i64 0, .slice none 0 0, .slice none 0 0, .int .i64 0, .int .i64 0, .int .i64 0, .slice none 0 0, .slice none 0 0, .int .i64 0, .int .i64 0], Ch.box g1 38 (bx38 e826 a_0_0 c_0_0 a_0_1 c_0_1 a_0_2 c_0_2 a_0_3 c_0_3 a_0_4 c_0_4 a_0_5 c_0_5 a823 c824)]) h.2.1.1 h.2.1.2 h.2.2.1.1 h.2.2.1.2 h.2.2.2.1 h.2.2.2.2) (fun h => (fun a1771 c1772 a1776 c1777 a1779 c1780 => [Im.sl tyRef09Row a1776 c1777 e1782.2.2.rows, Im.sl tyRef09Glyph a1779 c1780 e1782.2.2.begun, Im.sl tyRef09Row a1534 c1535 s1546.1.rows, Im.sl tyRef09Glyph a1537 c1538 s1546.1.begun, Im.sl tyRef09Row a_0_0 c_0_0 e826.current.rows, Im.sl tyRef09Glyph a_0_1 c_0_1 e826.current.begun, Im.sl tyRef09Row a_0_2 c_0_2 e826.acked.rows, Im.sl tyRef09Glyph a_0_3 c_0_3 e826.acked.begun, Im.sl tyRef16Snap a_0_4 c_0_4 e826.kept, Im.sl Ty.str a_0_5 c_0_5 e826.parts, Im.sl Ty.bool a823 c824 e826.there, Im.sl tyRef09Row a_0_0 c_0_0 s_.current.rows, Im.sl tyRef09Glyph a_0_1 c_0_1 s_.current.begun, Im.sl tyRef09Row a_0_2 c_0_2 s_.acked.rows, Im.sl tyRef09Glyph a_0_3 c_0_3 s_.acked.begun, Im.sl tyRef16Snap a_0_4 c_0_4 s_.kept, Im.sl Ty.str a_0_5 c_0_5 s_.parts, Im.sl Ty.bool a_0_6 c_0_6 s_.there]) h.2.1.1 h.2.1.2 h.2.2.1.1 h.2.2.1.2 h.2.2.2.1 h.2.2.2.2) ?_ ?_
      · refine T.block (T.seq (T.region ?_))
        obtain ⟨x1785, h1786, H1787⟩ := bnd H1783
        refine L.addr 6 rfl (idx_lt h1786) fun b1788 o1789 e1790 => ?_
        obtain rfl : a_0_4 = some ⟨b1788, o1789, none⟩ := e1790
        refine L.y (Yl.ia h1786 rfl rfl rfl rfl rfl rfl) rfl rfl rfl ?_
        refine L.el 6 rfl (idx_some h1786).2 ?_
        rintro ⟨⟨a1791, c1792⟩, ⟨a1793, c1794⟩⟩
        refine L.y (Yl.ldc 0 0 rfl rfl rfl rfl) rfl rfl rfl ?_
        refine L.a [] [] (Ac.alloc rfl rfl) rfl rfl rfl rfl rfl ?_
        intro g1798
        refine L.a [0] [] (Ac.stb rfl rfl rfl rfl rfl rfl) rfl rfl rfl rfl rfl ?_
        intro _
        refine L.nil (E.then (T.seq (T.seq (T.region ?_))))
        refine L.q 1 rfl ?_
        refine L.y (Yl.ldb 0 rfl rfl rfl rfl) rfl rfl rfl ?_
        refine L.q 2 rfl ?_
        refine L.nil (E.then ?_)
        obtain ⟨e1809, H1810, H1811⟩ := bnd H1787
        refine T.join (η := Unit × ((Option Addr × Nat) × (Option Addr × Nat))) (fun h => True) (fun h => (fun a1803 c1804 a1806 c1807 => [(1, .int .i64 k), (4, .pointer (some ⟨g1, 0, none⟩)), (8, .pointer (some ⟨g2, 0, none⟩)), (12, .slice a1541 s1546.2.1.length c1542), (13, .bool e1809.1), (14, .pointer (some ⟨g1244, 0, none⟩)), (16, .pointer (some ⟨g1798, 0, none⟩)), (72, .slice (some ⟨b1788, o1789, none⟩) e826.kept.length c_0_4), (73, .int .i64 (e826.kept.length : Int)), (74, .int .i64 s1546.2.2.2)]) h.2.1.1 h.2.1.2 h.2.2.1 h.2.2.2) (fun h => (fun a1803 c1804 a1806 c1807 => [Ch.box g1798 33 (bx33 x1785 a1791 c1792 a1793 c1794), Ch.box g1244 33 (bx33 e1809.2 a1803 c1804 a1806 c1807), Ch.box g2 38 [.int .i64 0, .int .i64 0, .int .i64 0, .int .i64 0, .int .i64 0, .int .i64 0, .int .i64 0, .int .i64 0, .string (ByteArray.mk #[]), .slice none 0 0, .int .i64 0, .int .i64 0, .slice none 0 0, .int .i64 0, .int .i64 0, .int .i64 0, .int .i64 0, .int .i64 0, .string (ByteArray.mk #[]), .slice none 0 0, .int .i64 0, .int .i64 0, .slice none 0 0, .slice none 0 0, .int .i64 0, .int .i64 0, .int .i64 0, .slice none 0 0, .slice none 0 0, .int .i64 0, .int .i64 0], Ch.box g1 38 [.int .i64 e826.c.part, .int .i64 e826.c.every, .int .i64 e826.c.most, .int .i64 e826.current.k, .int .i64 e826.current.w, .int .i64 e826.current.h, .int .i64 e826.current.x, .int .i64 e826.current.y, .string e826.current.title, .slice a_0_0 e826.current.rows.length c_0_0, .int .i64 e826.current.len, .int .i64 e826.current.chain, .slice a_0_1 e826.current.begun.length c_0_1, .int .i64 e826.acked.k, .int .i64 e826.acked.w, .int .i64 e826.acked.h, .int .i64 e826.acked.x, .int .i64 e826.acked.y, .string e826.acked.title, .slice a_0_2 e826.acked.rows.length c_0_2, .int .i64 e826.acked.len, .int .i64 e826.acked.chain, .slice a_0_3 e826.acked.begun.length c_0_3, .slice (some ⟨b1788, o1789, none⟩) e826.kept.length c_0_4, .int .i64 e826.iD, .int .i64 e826.key, .int .i64 e826.base, .slice a_0_5 e826.parts.length c_0_5, .slice a823 e826.there.length c824, .int .i64 e826.due, .int .i64 e826.next], Ch.arr tyRef16Snap 33 a1541 c1542 s1546.2.1]) h.2.1.1 h.2.1.2 h.2.2.1 h.2.2.2) (fun h => (fun a1803 c1804 a1806 c1807 => [Im.sl tyRef09Row a1803 c1804 e1809.2.rows, Im.sl tyRef09Glyph a1806 c1807 e1809.2.begun, Im.cells b1788 (o1789 + s1546.2.2.2.toNat * 10) [.int .i64 x1785.k, .int .i64 x1785.w, .int .i64 x1785.h, .int .i64 x1785.x, .int .i64 x1785.y, .string x1785.title, .slice a1791 x1785.rows.length c1792, .int .i64 x1785.len, .int .i64 x1785.chain, .slice a1793 x1785.begun.length c1794], Im.sl tyRef09Row a1791 c1792 x1785.rows, Im.sl tyRef09Glyph a1793 c1794 x1785.begun, Im.sl tyRef09Row a1534 c1535 s1546.1.rows, Im.sl tyRef09Glyph a1537 c1538 s1546.1.begun, Im.sl tyRef09Row a_0_0 c_0_0 e826.current.rows, Im.sl tyRef09Glyph a_0_1 c_0_1 e826.current.begun, Im.sl tyRef09Row a_0_2 c_0_2 e826.acked.rows, Im.sl tyRef09Glyph a_0_3 c_0_3 e826.acked.begun, Im.sl tyRef16Snap (some ⟨b1788, o1789, none⟩) c_0_4 e826.kept, Im.sl Ty.str a_0_5 c_0_5 e826.parts, Im.sl Ty.bool a823 c824 e826.there, Im.sl tyRef09Row a_0_0 c_0_0 s_.current.rows, Im.sl tyRef09Glyph a_0_1 c_0_1 s_.current.begun, Im.sl tyRef09Row a_0_2 c_0_2 s_.acked.rows, Im.sl tyRef09Glyph a_0_3 c_0_3 s_.acked.begun, Im.sl tyRef16Snap (some ⟨b1788, o1789, none⟩) c_0_4 s_.kept, Im.sl Ty.str a_0_5 c_0_5 s_.parts, Im.sl Ty.bool a_0_6 c_0_6 s_.there]) h.2.1.1 h.2.1.2 h.2.2.1 h.2.2.2) ?_ ?_
        · refine T.bif rfl H1810 (fun hc H1812 => ?_) (fun hc H1812 => ?_)
          · refine T.seq (T.region ?_)
            refine L.y (Yl.ldb 0 rfl rfl rfl rfl) rfl rfl rfl ?_
            refine L.a [2] [] (Ac.stb rfl rfl rfl rfl rfl rfl) rfl rfl rfl rfl rfl ?_
            intro _
            refine L.nil (E.then (T.region ?_))
            refine L.q 1 rfl ?_
            refine L.nil ?_
            have hr := Option.some.inj H1812
            subst e1809
            exact E.give ((), ((a1791, c1792), (a1793, c1794))) [1, 0, 1, 1, 0] [1, 2, 0, 1, 2, 3, 4, 5, 6, 7, 8, 9, 10, 11, 12, 13, 14, 15, 16, 17, 18] trivial ⟨rfl, rfl, rfl, rfl, rfl, rfl, rfl, rfl, rfl, rfl, trivial⟩ rfl rfl
          refine T.skip ?_
          have hr := Option.some.inj H1812
          subst e1809
          exact E.give ((), ((a1534, c1535), (a1537, c1538))) [0, 1, 1, 1, 0] [3, 4, 0, 1, 2, 3, 4, 5, 6, 7, 8, 9, 10, 11, 12, 13, 14, 15, 16, 17, 18] trivial ⟨rfl, rfl, rfl, rfl, rfl, rfl, rfl, rfl, rfl, rfl, trivial⟩ rfl rfl
        rintro ⟨_, ⟨⟨a1803, c1804⟩, ⟨a1806, c1807⟩⟩⟩ _
        refine T.seq (T.region ?_)
        refine L.q 1 rfl ?_
        refine L.y (Yl.ldb 0 rfl rfl rfl rfl) rfl rfl rfl ?_
        refine L.q 2 rfl ?_
        refine L.nil (E.then ?_)
        refine T.bif rfl H1811 (fun hc H1813 => ?_) (fun hc H1813 => ?_)
        · refine T.region ?_
          refine L.q 1 rfl ?_
          refine L.y (Yl.ldb 0 rfl rfl rfl rfl) rfl rfl rfl ?_
          refine L.a [] [3, 4] (Ac.bs (ty := tyRef16Snap) (xs := [x1785]) (.cons ((a1791, c1792), (a1793, c1794)) [0, 1] rfl .nil) rfl rfl rfl rfl rfl rfl rfl) rfl rfl rfl rfl rfl ?_
          intro g1814
          refine L.frz 0 rfl ?_
          obtain ⟨_, h1817, H1818⟩ := bnd H1813
          refine L.a [4] [0] (Ac.ap (ty := tyRef16Snap) h1817 rfl rfl rfl rfl rfl rfl rfl) rfl rfl rfl rfl rfl ?_
          rintro ⟨a1819, c1820⟩
          refine L.q 1 rfl ?_
          refine L.nil (E.block ?_)
          have hr := Option.some.inj H1818
          subst e1782
          exact E.give ((), ((a1819, c1820), (a1803, c1804), (a1806, c1807))) [0, 1, 1, 1] [1, 2, 6, 7, 8, 9, 10, 11, 12, 13, 14, 15, 16, 17, 18, 19, 20, 21] trivial ⟨rfl, rfl, rfl, rfl, rfl, rfl, rfl, rfl, rfl, trivial⟩ rfl rfl
        refine T.skip (E.block ?_)
        have hr := Option.some.inj H1813
        subst e1782
        exact E.give ((), ((a1541, c1542), (a1803, c1804), (a1806, c1807))) [4, 1, 1, 1] [0, 1, 5, 6, 7, 8, 9, 10, 11, 12, 13, 14, 15, 16, 17, 18, 19, 20] trivial ⟨rfl, rfl, rfl, rfl, rfl, rfl, rfl, rfl, rfl, trivial⟩ rfl rfl
      rintro ⟨_, ⟨⟨a1771, c1772⟩, ⟨a1776, c1777⟩, ⟨a1779, c1780⟩⟩⟩ _
      refine T.region ?_
      refine L.q 2 rfl ?_
      refine L.nil ?_
      have hr := Option.some.inj H1784
      subst z1691
      exact E.give (_, ((a1776, c1777), (a1779, c1780), (a1771, c1772))) [0, 0, 0, 0] [0, 1, 4, 5, 6, 7, 8, 9, 10, 11, 12, 13, 14, 15, 16, 17] (hag1692 _ rfl) ⟨rfl, rfl, rfl, rfl, rfl, rfl, rfl, rfl, rfl, trivial⟩ rfl rfl
    refine T.exit (E.then_exit' (E.then_exit' (E.block_here ?_)))
    have hr := Option.some.inj H1695
    subst z1691
    have hb := hbr1693 _ rfl
    subst e1687
    exact E.give ((), ((a1541, c1542), (a1534, c1535), (a1537, c1538))) [0, 0, 0, 0] [0, 1, 2, 3, 4, 5, 6, 7, 8, 9, 10, 11, 12, 13, 14, 15] trivial ⟨rfl, rfl, rfl, rfl, rfl, trivial⟩ rfl rfl
  rintro ⟨_, ⟨⟨a1676, c1677⟩, ⟨a1681, c1682⟩, ⟨a1684, c1685⟩⟩⟩ _
  refine T.seq (T.region ?_)
  refine L.y (Yl.ldb 1 rfl rfl rfl rfl) rfl rfl rfl ?_
  refine L.q 1 rfl ?_
  refine L.a [3] [] (Ac.stb rfl rfl rfl rfl rfl rfl) rfl rfl rfl rfl rfl ?_
  intro _
  refine L.nil (E.then (T.seq (T.seq (T.region ?_))))
  refine L.q 1 rfl ?_
  refine L.nil (E.then ?_)
  obtain ⟨e1834, H1835, H1836⟩ := bnd H1689
  refine T.join (η := Unit × ((Option Addr × Nat))) (fun h => True) (fun h => (fun a1829 c1830 => [(4, .pointer (some ⟨g1, 0, none⟩)), (8, .pointer (some ⟨g2, 0, none⟩)), (13, .bool e1687.2.1)]) h.2.1 h.2.2) (fun h => (fun a1829 c1830 => [Ch.box g1 38 (bx38 e1834 a_0_0 c_0_0 a_0_1 c_0_1 a1681 c1682 a1684 c1685 a1829 c1830 a_0_5 c_0_5 a823 c824), Ch.box g1244 33 (bx33 e1687.2.2 a1681 c1682 a1684 c1685), Ch.box g2 38 [.int .i64 0, .int .i64 0, .int .i64 0, .int .i64 0, .int .i64 0, .int .i64 0, .int .i64 0, .int .i64 0, .string (ByteArray.mk #[]), .slice none 0 0, .int .i64 0, .int .i64 0, .slice none 0 0, .int .i64 0, .int .i64 0, .int .i64 0, .int .i64 0, .int .i64 0, .string (ByteArray.mk #[]), .slice none 0 0, .int .i64 0, .int .i64 0, .slice none 0 0, .slice none 0 0, .int .i64 0, .int .i64 0, .int .i64 0, .slice none 0 0, .slice none 0 0, .int .i64 0, .int .i64 0]]) h.2.1 h.2.2) (fun h => (fun a1829 c1830 => [Im.sl tyRef09Row a_0_0 c_0_0 e1834.current.rows, Im.sl tyRef09Glyph a_0_1 c_0_1 e1834.current.begun, Im.sl tyRef09Row a1681 c1682 e1834.acked.rows, Im.sl tyRef09Glyph a1684 c1685 e1834.acked.begun, Im.sl tyRef16Snap a1829 c1830 e1834.kept, Im.sl Ty.str a_0_5 c_0_5 e1834.parts, Im.sl Ty.bool a823 c824 e1834.there, Im.sl tyRef09Row a1681 c1682 e1687.2.2.rows, Im.sl tyRef09Glyph a1684 c1685 e1687.2.2.begun, Im.sl tyRef09Row a_0_0 c_0_0 e826.current.rows, Im.sl tyRef09Glyph a_0_1 c_0_1 e826.current.begun, Im.sl tyRef09Row a_0_2 c_0_2 e826.acked.rows, Im.sl tyRef09Glyph a_0_3 c_0_3 e826.acked.begun, Im.sl tyRef16Snap a_0_4 c_0_4 e826.kept, Im.sl Ty.str a_0_5 c_0_5 e826.parts, Im.sl Ty.bool a823 c824 e826.there, Im.sl tyRef09Row a_0_0 c_0_0 s_.current.rows, Im.sl tyRef09Glyph a_0_1 c_0_1 s_.current.begun, Im.sl tyRef09Row a_0_2 c_0_2 s_.acked.rows, Im.sl tyRef09Glyph a_0_3 c_0_3 s_.acked.begun, Im.sl tyRef16Snap a_0_4 c_0_4 s_.kept, Im.sl Ty.str a_0_5 c_0_5 s_.parts, Im.sl Ty.bool a_0_6 c_0_6 s_.there]) h.2.1 h.2.2) ?_ ?_
  · refine T.bif rfl H1835 (fun hc H1837 => ?_) (fun hc H1837 => ?_)
    · refine T.region ?_
      refine L.q 2 rfl ?_
      refine L.a [0] [] (Ac.stb rfl rfl rfl rfl rfl rfl) rfl rfl rfl rfl rfl ?_
      intro _
      refine L.nil ?_
      refine E.frz 1 rfl ?_
      have hr := Option.some.inj H1837
      subst e1834
      exact E.give ((), (a1676, c1677)) [0, 0, 0] [3, 4, 1, 2, 0, 8, 9, 1, 2, 3, 4, 5, 6, 7, 8, 9, 10, 11, 12, 13, 14, 15, 16] trivial ⟨rfl, rfl, rfl, trivial⟩ rfl rfl
    refine T.skip ?_
    have hr := Option.some.inj H1837
    subst e1834
    exact E.give ((), (a_0_4, c_0_4)) [0, 1, 1] [2, 3, 0, 1, 6, 7, 8, 0, 1, 2, 3, 4, 5, 6, 7, 8, 9, 10, 11, 12, 13, 14, 15] trivial ⟨rfl, rfl, rfl, trivial⟩ rfl rfl
  rintro ⟨_, ⟨a1829, c1830⟩⟩ _
  refine T.seq (T.region ?_)
  refine L.y (Yl.ldb 0 rfl rfl rfl rfl) rfl rfl rfl ?_
  refine L.q 1 rfl ?_
  refine L.a [2] [] (Ac.stb rfl rfl rfl rfl rfl rfl) rfl rfl rfl rfl rfl ?_
  intro _
  refine L.q 1 rfl ?_
  refine L.nil (E.then (T.ret ?_))
  have hr := Option.some.inj H1836
  subst r
  exact E.ret ((a1681, c1682), (a1684, c1685), (a1829, c1830), (a823, c824)) [] [0, 1, 2, 3, 4, 5, 6] (.cell 0 rfl rfl rfl (.tmp rfl .nil)) rfl rfl rfl

theorem c_sender_Sender_mark {s_ : SenderSender} {have_ : ByteArray} (g_0 : Nat) (a_0_0 : Option Addr) (c_0_0 : Nat) (a_0_1 : Option Addr) (c_0_1 : Nat) (a_0_2 : Option Addr) (c_0_2 : Nat) (a_0_3 : Option Addr) (c_0_3 : Nat) (a_0_4 : Option Addr) (c_0_4 : Nat) (a_0_5 : Option Addr) (c_0_5 : Nat) (a_0_6 : Option Addr) (c_0_6 : Nat) {r : SenderSender} (H : p_sender_Sender_mark s_ have_ = some r) : CT G 45 [.pointer (some ⟨g_0, 0, none⟩), .string have_] [Ch.box g_0 67 (bx67 s_ a_0_0 c_0_0 a_0_1 c_0_1 a_0_2 c_0_2 a_0_3 c_0_3 a_0_4 c_0_4 a_0_5 c_0_5 a_0_6 c_0_6), Ch.aro tySnapSnap 43 a_0_4 c_0_4 s_.kept, Ch.arr Ty.bool 4 a_0_6 c_0_6 s_.message.there] [Im.sl tyRowRow a_0_0 c_0_0 s_.current.rows, Im.sl tyRowGlyph a_0_1 c_0_1 s_.current.begun, Im.sl tyRowRow a_0_2 c_0_2 s_.acked.rows, Im.sl tyRowGlyph a_0_3 c_0_3 s_.acked.begun, Im.sl Ty.str a_0_5 c_0_5 s_.message.parts] (fun h : Unit => .tuple #[]) (fun h => [Ch.box g_0 67 (bx67 r a_0_0 c_0_0 a_0_1 c_0_1 a_0_2 c_0_2 a_0_3 c_0_3 a_0_4 c_0_4 a_0_5 c_0_5 a_0_6 c_0_6), Ch.aro tySnapSnap 43 a_0_4 c_0_4 r.kept, Ch.arr Ty.bool 4 a_0_6 c_0_6 r.message.there]) (fun h => [Im.sl tyRowRow a_0_0 c_0_0 r.current.rows, Im.sl tyRowGlyph a_0_1 c_0_1 r.current.begun, Im.sl tyRowRow a_0_2 c_0_2 r.acked.rows, Im.sl tyRowGlyph a_0_3 c_0_3 r.acked.begun, Im.sl Ty.str a_0_5 c_0_5 r.message.parts]) := by
  delta p_sender_Sender_mark at H
  refine CT.of Go.Proofs.Tryz.func45 (by kernel_rfl) rfl rfl rfl fun K => ?_
  refine T.seq (T.region ?_)
  refine L.q 4 rfl ?_
  refine L.y (Yl.ldb 0 rfl rfl rfl rfl) rfl rfl rfl ?_
  refine L.q 6 rfl ?_
  refine L.nil (E.then ?_)
  obtain ⟨e184, H185, H186⟩ := bnd H
  refine T.joinE (η := Unit × Unit) (fun h => True) (fun h => []) (fun h => [Ch.aro tySnapSnap 43 a_0_4 c_0_4 e184.kept, Ch.arr Ty.bool 4 a_0_6 c_0_6 e184.message.there, Ch.box g_0 67 (bx67 e184 a_0_0 c_0_0 a_0_1 c_0_1 a_0_2 c_0_2 a_0_3 c_0_3 a_0_4 c_0_4 a_0_5 c_0_5 a_0_6 c_0_6)]) (fun h => [Im.sl tyRowRow a_0_0 c_0_0 e184.current.rows, Im.sl tyRowGlyph a_0_1 c_0_1 e184.current.begun, Im.sl tyRowRow a_0_2 c_0_2 e184.acked.rows, Im.sl tyRowGlyph a_0_3 c_0_3 e184.acked.begun, Im.sl Ty.str a_0_5 c_0_5 e184.message.parts, Im.sl tyRowRow a_0_0 c_0_0 s_.current.rows, Im.sl tyRowGlyph a_0_1 c_0_1 s_.current.begun, Im.sl tyRowRow a_0_2 c_0_2 s_.acked.rows, Im.sl tyRowGlyph a_0_3 c_0_3 s_.acked.begun, Im.sl Ty.str a_0_5 c_0_5 s_.message.parts]) ?_ ?_
  · refine T.block ?_
    refine T.lp (η := Unit) (fun s126 h => [(0, .pointer (some ⟨g_0, 0, none⟩)), (1, .string have_), (14, .int .i64 (imin (s_.message.there.length : Int) (IntKind.i64.wrap (8 * (have_.size : Int))))), (15, .int .i64 s126.2)]) (fun s126 h => [Ch.aro tySnapSnap 43 a_0_4 c_0_4 s126.1.kept, Ch.arr Ty.bool 4 a_0_6 c_0_6 s126.1.message.there, Ch.box g_0 67 (bx67 s126.1 a_0_0 c_0_0 a_0_1 c_0_1 a_0_2 c_0_2 a_0_3 c_0_3 a_0_4 c_0_4 a_0_5 c_0_5 a_0_6 c_0_6)]) (fun s126 h => [Im.sl tyRowRow a_0_0 c_0_0 s126.1.current.rows, Im.sl tyRowGlyph a_0_1 c_0_1 s126.1.current.begun, Im.sl tyRowRow a_0_2 c_0_2 s126.1.acked.rows, Im.sl tyRowGlyph a_0_3 c_0_3 s126.1.acked.begun, Im.sl Ty.str a_0_5 c_0_5 s126.1.message.parts, Im.sl tyRowRow a_0_0 c_0_0 s_.current.rows, Im.sl tyRowGlyph a_0_1 c_0_1 s_.current.begun, Im.sl tyRowRow a_0_2 c_0_2 s_.acked.rows, Im.sl tyRowGlyph a_0_3 c_0_3 s_.acked.begun, Im.sl Ty.str a_0_5 c_0_5 s_.message.parts]) () [1, 1, 0] [0, 1, 2, 3, 4, 0, 1, 2, 3, 4] H185 ⟨rfl, rfl, rfl, rfl, trivial⟩ rfl rfl ?_
    rintro k_ s126 ⟨⟩ z188 H187 hag189 hbr190
    refine T.seq (T.region ?_)
    refine L.q 1 rfl ?_
    refine L.nil (E.then (T.seq ?_))
    refine T.bif rfl H187 (fun hc H192 => ?_) (fun hc H192 => ?_)
    · refine T.skip (E.then (T.seq ?_))
      obtain ⟨e225, H226, H227⟩ := bnd H192
      refine T.join (η := Unit × Unit) (fun h => True) (fun h => [(0, .pointer (some ⟨g_0, 0, none⟩)), (1, .string have_), (14, .int .i64 (imin (s_.message.there.length : Int) (IntKind.i64.wrap (8 * (have_.size : Int))))), (15, .int .i64 s126.2)]) (fun h => [Ch.aro tySnapSnap 43 a_0_4 c_0_4 e225.kept, Ch.arr Ty.bool 4 a_0_6 c_0_6 e225.message.there, Ch.box g_0 67 (bx67 e225 a_0_0 c_0_0 a_0_1 c_0_1 a_0_2 c_0_2 a_0_3 c_0_3 a_0_4 c_0_4 a_0_5 c_0_5 a_0_6 c_0_6)]) (fun h => [Im.sl tyRowRow a_0_0 c_0_0 e225.current.rows, Im.sl tyRowGlyph a_0_1 c_0_1 e225.current.begun, Im.sl tyRowRow a_0_2 c_0_2 e225.acked.rows, Im.sl tyRowGlyph a_0_3 c_0_3 e225.acked.begun, Im.sl Ty.str a_0_5 c_0_5 e225.message.parts, Im.sl tyRowRow a_0_0 c_0_0 s126.1.current.rows, Im.sl tyRowGlyph a_0_1 c_0_1 s126.1.current.begun, Im.sl tyRowRow a_0_2 c_0_2 s126.1.acked.rows, Im.sl tyRowGlyph a_0_3 c_0_3 s126.1.acked.begun, Im.sl Ty.str a_0_5 c_0_5 s126.1.message.parts, Im.sl tyRowRow a_0_0 c_0_0 s_.current.rows, Im.sl tyRowGlyph a_0_1 c_0_1 s_.current.begun, Im.sl tyRowRow a_0_2 c_0_2 s_.acked.rows, Im.sl tyRowGlyph a_0_3 c_0_3 s_.acked.begun, Im.sl Ty.str a_0_5 c_0_5 s_.message.parts]) ?_ ?_
      · refine T.block (T.seq (T.region ?_))
        refine L.q 2 rfl ?_
        refine L.nil (E.then (T.seq (T.region ?_)))
        refine L.q 3 rfl ?_
        obtain ⟨b228, h229, H230⟩ := bnd H226
        refine L.y (Yl.si h229 rfl rfl rfl rfl rfl) rfl rfl rfl ?_
        refine L.q 2 rfl ?_
        obtain ⟨_, h231, H232⟩ := bnd H230
        refine L.y (Yl.shr (nb := 8) rfl h231 rfl rfl rfl) rfl rfl rfl ?_
        refine L.q 2 rfl ?_
        refine L.nil (E.then ?_)
        refine T.bif rfl H232 (fun hc H233 => ?_) (fun hc H233 => ?_)
        · refine T.region ?_
          refine L.q 4 rfl ?_
          refine L.y (Yl.ldb 2 rfl rfl rfl rfl) rfl rfl rfl ?_
          refine L.q 1 rfl ?_
          obtain ⟨x234, h235, H236⟩ := bnd H233
          refine L.addro 1 rfl (idx_lt h235) fun b237 e238 => ?_
          obtain rfl : a_0_6 = some ⟨b237, 0, none⟩ := e238
          refine L.y (Yl.ia h235 rfl rfl rfl rfl rfl rfl) rfl rfl rfl ?_
          refine L.a [1] [] (Ac.se 0 true (idx_some h235).2 rfl rfl rfl rfl rfl rfl (fun _ => ⟨(), rfl, [], rfl⟩)) rfl rfl rfl rfl rfl ?_
          intro _
          refine L.bx 2 (cs' := [.int .i64 s126.1.config.part, .int .i64 s126.1.config.every, .int .i64 s126.1.config.most, .int .i64 s126.1.current.k, .int .i64 s126.1.current.w, .int .i64 s126.1.current.h, .int .i64 s126.1.current.x, .int .i64 s126.1.current.y, .string s126.1.current.title, .slice a_0_0 s126.1.current.rows.length c_0_0, .int .i64 s126.1.current.len, .int .i64 s126.1.current.chain, .slice a_0_1 s126.1.current.begun.length c_0_1, .int .i64 s126.1.acked.k, .int .i64 s126.1.acked.w, .int .i64 s126.1.acked.h, .int .i64 s126.1.acked.x, .int .i64 s126.1.acked.y, .string s126.1.acked.title, .slice a_0_2 s126.1.acked.rows.length c_0_2, .int .i64 s126.1.acked.len, .int .i64 s126.1.acked.chain, .slice a_0_3 s126.1.acked.begun.length c_0_3, .slice a_0_4 s126.1.kept.length c_0_4, .int .i64 s126.1.message.id, .int .i64 s126.1.message.key, .int .i64 s126.1.message.base, .slice a_0_5 s126.1.message.parts.length c_0_5, .slice (some ⟨b237, 0, none⟩) (s126.1.message.there.set s126.2.toNat true).length c_0_6, .int .i64 s126.1.message.due, .int .i64 s126.1.next]) (by rw [List.length_set ..]) rfl ?_
          refine L.nil (E.block ?_)
          have hr := Option.some.inj H236
          subst e225
          exact E.give ((), ()) [2, 1, 0] [0, 1, 2, 3, 4, 0, 1, 2, 3, 4, 5, 6, 7, 8, 9] trivial ⟨rfl, rfl, rfl, rfl, trivial⟩ rfl rfl
        refine T.skip (E.block ?_)
        have hr := Option.some.inj H233
        subst e225
        exact E.give ((), ()) [0, 0, 0] [0, 1, 2, 3, 4, 0, 1, 2, 3, 4, 5, 6, 7, 8, 9] trivial ⟨rfl, rfl, rfl, rfl, trivial⟩ rfl rfl
      rintro ⟨_, ⟨⟩⟩ _
      refine T.region ?_
      refine L.q 2 rfl ?_
      refine L.nil ?_
      have hr := Option.some.inj H227
      subst z188
      exact E.give (_, ()) [0, 0, 0] [0, 1, 2, 3, 4, 10, 11, 12, 13, 14] (hag189 _ rfl) ⟨rfl, rfl, rfl, rfl, trivial⟩ rfl rfl
    refine T.exit (E.then_exit' (E.then_exit' (E.block_here ?_)))
    have hr := Option.some.inj H192
    subst z188
    have hb := hbr190 _ rfl
    subst e184
    exact E.give ((), ()) [0, 0, 0] [0, 1, 2, 3, 4, 5, 6, 7, 8, 9] trivial trivial rfl rfl
  rintro ⟨_, ⟨⟩⟩ _
  refine E.off ?_
  have hr := Option.some.inj H186
  subst r
  exact E.ret () [2, 0, 0] [0, 1, 2, 3, 4] .nil rfl rfl rfl

theorem c_sender_Sender_Ack_1_v2 {x_ : SnapSnap} {x1 : Int} (a_0_0 : Option Addr) (c_0_0 : Nat) (a_0_1 : Option Addr) (c_0_1 : Nat) (g_1 : Nat) {r : Bool} (H : p_sender_Sender_Ack_1_v2 x_ x1 = some r) : CT G 47 [.agg (bx43 x_ a_0_0 c_0_0 a_0_1 c_0_1).toArray, .pointer (some ⟨g_1, 0, none⟩)] [] [Im.sl tyRowRow a_0_0 c_0_0 x_.rows, Im.sl tyRowGlyph a_0_1 c_0_1 x_.begun, Im.cells g_1 0 [.int .i64 x1]] (fun h : Unit => .bool r) (fun h => []) (fun h => []) := by
  delta p_sender_Sender_Ack_1_v2 at H
  refine CT.of Go.Proofs.Tryz.func47 (by kernel_rfl) rfl rfl rfl fun K => ?_
  refine T.seq (T.region ?_)
  refine L.a [] [] (Ac.box rfl rfl) rfl rfl rfl rfl rfl ?_
  intro g1
  refine L.q 1 rfl ?_
  refine L.nil (E.then (T.seq (T.region ?_)))
  refine L.q 1 rfl ?_
  refine L.y (Yl.ldb 0 rfl rfl rfl rfl) rfl rfl rfl ?_
  refine L.y (Yl.ldc 2 0 rfl rfl rfl rfl) rfl rfl rfl ?_
  refine L.q 2 rfl ?_
  refine L.nil (E.then (T.ret ?_))
  have hr := Option.some.inj H
  subst r
  exact E.ret () [] [] (.tmp rfl .nil) rfl rfl rfl

theorem c_slices_IndexFunc_snap_Snap_Sender_Ack_1_v2 {s_ : List SnapSnap} {f_0 : Int} (a_0 : Option Addr) (c_0 : Nat) (g_1_0 : Nat) {r : Int} (H : p_slices_IndexFunc_snap_Snap_Sender_Ack_1_v2 s_ f_0 = some r) : CT G 46 [.slice a_0 s_.length c_0, .func (.func 47) #[] #[.pointer (some ⟨g_1_0, 0, none⟩)]] [] [Im.sl tySnapSnap a_0 c_0 s_, Im.cells g_1_0 0 [.int .i64 f_0]] (fun h : Unit => .int .i64 r) (fun h => []) (fun h => []) := by
  delta p_slices_IndexFunc_snap_Snap_Sender_Ack_1_v2 at H
  refine CT.of Go.Proofs.Tryz.func46 (by kernel_rfl) rfl rfl rfl fun K => ?_
  refine T.seq (T.region ?_)
  refine L.q 1 rfl ?_
  refine L.nil (E.then (T.seq (T.seq (T.region ?_))))
  refine L.q 3 rfl ?_
  refine L.nil (E.then ?_)
  obtain ⟨y114, H115, H116⟩ := bnd H
  refine T.join (η := Unit × Unit) (fun h => y114 = .inl h.1) (fun h => (fun e113 => []) h.1) (fun h => (fun e113 => []) h.1) (fun h => (fun e113 => [Im.sl tySnapSnap a_0 c_0 s_, Im.cells g_1_0 0 [.int .i64 f_0]]) h.1) ?_ ?_
  · refine T.block ?_
    refine T.lp (η := Unit) (fun s76 h => [(0, .slice a_0 s_.length c_0), (1, .func (.func 47) #[] #[.pointer (some ⟨g_1_0, 0, none⟩)]), (7, .int .i64 (s_.length : Int)), (8, .int .i64 s76)]) (fun s76 h => []) (fun s76 h => [Im.sl tySnapSnap a_0 c_0 s_, Im.cells g_1_0 0 [.int .i64 f_0]]) () [] [0, 1] H115 ⟨rfl, rfl, rfl, rfl, trivial⟩ rfl rfl ?_
    rintro k_ s76 ⟨⟩ z118 H117 hag119 hbr120
    refine T.seq (T.region ?_)
    refine L.q 1 rfl ?_
    refine L.nil (E.then (T.seq ?_))
    refine T.bif rfl H117 (fun hc H122 => ?_) (fun hc H122 => ?_)
    · refine T.skip (E.then (T.seq (T.block (T.seq (T.region ?_)))))
      refine L.q 2 rfl ?_
      refine L.nil (E.then (T.seq (T.region ?_)))
      refine L.q 3 rfl ?_
      obtain ⟨x140, h141, H142⟩ := bnd H122
      refine L.addr 0 rfl (idx_lt h141) fun b143 o144 e145 => ?_
      obtain rfl : a_0 = some ⟨b143, o144, none⟩ := e145
      refine L.y (Yl.ia h141 rfl rfl rfl rfl rfl rfl) rfl rfl rfl ?_
      refine L.el 0 rfl (idx_some h141).2 ?_
      rintro ⟨⟨a146, c147⟩, ⟨a148, c149⟩⟩
      refine L.y (Yl.ldc 0 0 rfl rfl rfl rfl) rfl rfl rfl ?_
      obtain ⟨r153, h154, H155⟩ := bnd H142
      refine L.a [] [1, 2, 4] (Ac.call (c_sender_Sender_Ack_1_v2 a146 c147 a148 c149 g_1_0 h154) rfl rfl rfl rfl) rfl rfl rfl rfl rfl ?_
      rintro ⟨⟩
      refine L.nil (E.then ?_)
      refine T.bif rfl H155 (fun hc H156 => ?_) (fun hc H156 => ?_)
      · refine T.seq (T.region ?_)
        refine L.q 2 rfl ?_
        refine L.nil (E.then (T.ret (E.block_ret (E.then_ret (E.then_ret (E.block_ret ?_))))))
        obtain ⟨w157, hz, H158⟩ := inrr_some H156
        subst z118
        have hb := hbr120 _ rfl
        subst y114
        have hw : w157 = r := Option.some.inj H116
        subst w157
        refine E.then_ret ?_
        have hr := Option.some.inj H158
        subst r
        exact E.ret () [] [] (.tmp rfl .nil) rfl rfl rfl
      refine T.skip (E.block (E.then (T.region ?_)))
      refine L.q 2 rfl ?_
      refine L.nil ?_
      have hr := Option.some.inj H156
      subst z118
      exact E.give (_, ()) [] [3, 4] (hag119 _ rfl) ⟨rfl, rfl, rfl, rfl, trivial⟩ rfl rfl
    refine T.exit (E.then_exit' (E.then_exit' (E.block_here ?_)))
    have hr := Option.some.inj H122
    subst z118
    have hb := hbr120 _ rfl
    subst y114
    exact E.give (_, ()) [] [0, 1] rfl trivial rfl rfl
  rintro ⟨e113, ⟨⟩⟩ hy
  subst hy
  refine T.seq (T.region ?_)
  refine L.q 1 rfl ?_
  refine L.nil (E.then (T.ret ?_))
  have hr := Option.some.inj H116
  subst r
  exact E.ret () [] [] (.tmp rfl .nil) rfl rfl rfl

end Go.Tw.X

import Derived.Test.YtojpockgiaihoaaDoorRwC2
set_option linter.unusedVariables false
set_option linter.unusedSimpArgs false
set_option maxRecDepth 10000
namespace Go.Tw.Rw
open Go Go.Tw
theorem c_ref09_Whole (a_0_0 : Option Addr) (c_0_0 : Nat) {r_ : Ref09Row} {r : Bool} (H : p_ref09_Whole r_ = some r) : CT G 17 [.agg #[.slice a_0_0 r_.l.length c_0_0, .bool r_.wrapped]] [] [Im.sl tyRef09Cell a_0_0 c_0_0 r_.l] (fun h : Unit => .bool r) (fun h => []) (fun h => []) := by
  delta p_ref09_Whole at H
  refine CT.of Go.Proofs.Tryd.func17 (by kernel_rfl) rfl rfl fun K => ?_
  refine T.seq ?_
  refine T.region ?_
  refine L.a [] [] (Ac.box rfl rfl) rfl rfl rfl rfl rfl ?_
  intro g1
  refine L.q 1 rfl ?_
  refine L.nil ?_
  refine E.then ?_
  refine T.seq ?_
  refine T.seq ?_
  refine T.region ?_
  refine L.q 1 rfl ?_
  refine L.y (Yl.ldb 0 rfl rfl rfl rfl) rfl rfl rfl ?_
  obtain ⟨r2, h3, H4⟩ := bnd H
  refine L.a [] [0] (Ac.call (c_ref09_mend a_0_0 c_0_0 h3) rfl rfl rfl rfl) rfl rfl rfl rfl rfl ?_
  rintro ⟨a5, c6⟩
  refine L.q 3 rfl ?_
  refine L.nil ?_
  refine E.then ?_
  obtain ⟨y241, H242, H243⟩ := bnd H4
  refine T.join (η := Unit × Unit) (fun h => y241 = .inl h.1) (fun h => (fun e240 => []) h.1) (fun h => (fun e240 => [Ch.box g1 30 [.slice a_0_0 r_.l.length c_0_0, .bool r_.wrapped]]) h.1) (fun h => (fun e240 => [Im.sl tyRef09Cell a5 c6 r2.l, Im.sl tyRef09Cell a_0_0 c_0_0 r_.l]) h.1) ?_ ?_
  · refine T.block ?_
    refine T.lp (η := Unit) (fun s163 h => [(1, .pointer (some ⟨g1, 0, none⟩)), (8, .slice a5 r2.l.length c6), (9, .int .i64 (r2.l.length : Int)), (10, .int .i64 s163)]) (fun s163 h => [Ch.box g1 30 [.slice a_0_0 r_.l.length c_0_0, .bool r_.wrapped]]) (fun s163 h => [Im.sl tyRef09Cell a5 c6 r2.l, Im.sl tyRef09Cell a_0_0 c_0_0 r_.l]) () [0] [0, 1] H242 ⟨rfl, rfl, rfl, rfl, trivial⟩ rfl rfl ?_
    rintro k s163 ⟨⟩ z245 H244 hag246 hbr247
    refine T.seq ?_
    refine T.region ?_
    refine L.q 1 rfl ?_
    refine L.nil ?_
    refine E.then ?_
    refine T.seq ?_
    refine T.bif rfl H244 (fun hc H249 => ?_) (fun hc H249 => ?_)
    · refine T.skip ?_
      refine E.then ?_
      refine T.seq ?_
      refine T.block ?_
      refine T.seq ?_
      refine T.region ?_
      refine L.q 1 rfl ?_
      obtain ⟨x287, h288, H289⟩ := bnd H249
      refine L.addr 0 rfl (idx_lt h288) fun b290 o291 e292 => ?_
      obtain rfl : a5 = some ⟨b290, o291, none⟩ := e292
      refine L.y (Yl.ia h288 rfl rfl rfl rfl rfl rfl) rfl rfl rfl ?_
      refine L.el 0 rfl (idx_some h288).2 ?_
      rintro _
      refine L.y (Yl.ldc 0 0 rfl rfl rfl rfl) rfl rfl rfl ?_
      refine L.a [] [] (Ac.alloc rfl rfl) rfl rfl rfl rfl rfl ?_
      intro g294
      refine L.q 1 rfl ?_
      refine L.a [0] [] (Ac.stb rfl rfl rfl rfl rfl rfl) rfl rfl rfl rfl rfl ?_
      intro _
      refine L.nil ?_
      refine E.then ?_
      refine T.seq ?_
      refine T.draw [] [0, 0] mo rfl ?_
      refine D.y 0 (Yl.ldb 0 rfl rfl rfl rfl) rfl rfl rfl rfl rfl rfl ?_
      refine D.q 1 rfl rfl rfl rfl rfl rfl ?_
      refine D.y 2 (Yl.ldb 1 rfl rfl rfl rfl) rfl rfl rfl rfl rfl rfl ?_
      refine D.q 3 rfl rfl rfl rfl rfl rfl ?_
      obtain ⟨x316, h317, H318⟩ := bnd H289
      refine D.addr 2 rfl (idx_lt h317) fun b319 o320 e321 => ?_
      obtain rfl : a_0_0 = some ⟨b319, o320, none⟩ := e321
      refine D.y 4 (Yl.ia h317 rfl rfl rfl rfl rfl rfl) rfl rfl rfl rfl rfl rfl ?_
      refine D.el 2 rfl (idx_some h317).2 ?_
      rintro _
      refine D.y 5 (Yl.ldc 0 0 rfl rfl rfl rfl) rfl rfl rfl rfl rfl rfl ?_
      refine D.q 6 rfl rfl rfl rfl rfl rfl ?_
      refine D.nil rfl rfl ?_
      refine E.then ?_
      refine T.bif rfl H318 (fun hc H323 => ?_) (fun hc H323 => ?_)
      · refine T.seq ?_
        refine T.region ?_
        refine L.q 1 rfl ?_
        refine L.nil ?_
        refine E.then ?_
        refine T.ret ?_
        refine E.block_ret ?_
        refine E.then_ret ?_
        refine E.then_ret ?_
        refine E.block_ret ?_
        obtain ⟨w324, hz, H325⟩ := inrr_some H323
        subst z245
        have hb := hbr247 _ rfl
        subst y241
        have hw : w324 = r := Option.some.inj H243
        subst w324
        refine E.then_ret ?_
        have hr := Option.some.inj H325
        subst r
        exact E.ret () [] [] (.tmp rfl .nil) rfl rfl rfl
      · refine T.skip ?_
        refine E.block ?_
        refine E.then ?_
        refine T.region ?_
        refine L.q 2 rfl ?_
        refine L.nil ?_
        have hr := Option.some.inj H323
        subst z245
        exact E.give (_, ()) [1] [2, 3] (hag246 _ rfl) ⟨rfl, rfl, rfl, rfl, trivial⟩ rfl rfl
    · refine T.exit ?_
      refine E.then_exit' ?_
      refine E.then_exit' ?_
      refine E.block_here ?_
      have hr := Option.some.inj H249
      subst z245
      have hb := hbr247 _ rfl
      subst y241
      exact E.give (_, ()) [0] [0, 1] rfl trivial rfl rfl
  · rintro ⟨e240, ⟨⟩⟩ hy
    subst hy
    refine T.seq ?_
    refine T.region ?_
    refine L.q 1 rfl ?_
    refine L.nil ?_
    refine E.then ?_
    refine T.ret ?_
    have hr := Option.some.inj H243
    subst r
    exact E.ret () [] [] (.tmp rfl .nil) rfl rfl rfl

theorem c_law09_RowPlays (a_2 : Option Addr) (c_2 : Nat) {w : Int} {style : Int} {acts : List Law09Act} {r : Bool} (H : p_law09_RowPlays w style acts = some r) : CT G 3 [.int .i64 w, .int .i64 style, .slice a_2 acts.length c_2] [] [Im.sl tyLaw09Act a_2 c_2 acts, Im.sl tyWideSpan (some ⟨0, 0, none⟩) 13 nones, Im.sl tyWideSpan (some ⟨1, 0, none⟩) 14 twos] (fun h : Unit => .bool r) (fun h => []) (fun h => []) := by
  delta p_law09_RowPlays at H
  refine CT.of Go.Proofs.Tryd.func3 (by kernel_rfl) rfl rfl fun K => ?_
  refine T.seq ?_
  refine T.region ?_
  refine L.q 1 rfl ?_
  refine L.nil ?_
  refine E.then ?_
  refine T.seq ?_
  refine T.seq ?_
  refine T.region ?_
  obtain ⟨r1, h2, H3⟩ := bnd H
  refine L.a [] [1, 2] (Ac.call (c_law09_awake h2) rfl rfl rfl rfl) rfl rfl rfl rfl rfl ?_
  rintro ⟨⟩
  refine L.q 1 rfl ?_
  refine L.nil ?_
  refine E.then ?_
  refine T.bif rfl H3 (fun hc H5 => ?_) (fun hc H5 => ?_)
  · refine T.seq ?_
    refine T.region ?_
    refine L.q 1 rfl ?_
    refine L.nil ?_
    refine E.then ?_
    refine T.ret ?_
    refine E.then_ret ?_
    have hr := Option.some.inj H5
    subst r
    exact E.ret () [] [] (.tmp rfl .nil) rfl rfl rfl
  · refine T.skip ?_
    refine E.then ?_
    refine T.seq ?_
    refine T.seq ?_
    obtain ⟨e9, H10, H11⟩ := bnd H5
    refine T.join (η := Unit × Unit) (fun h => True) (fun h => [(0, .int .i64 w), (1, .int .i64 style), (2, .slice a_2 acts.length c_2), (17, .bool e9)]) (fun h => []) (fun h => [Im.sl tyLaw09Act a_2 c_2 acts, Im.sl tyWideSpan (some ⟨0, 0, none⟩) 13 nones, Im.sl tyWideSpan (some ⟨1, 0, none⟩) 14 twos]) ?_ ?_
    · refine T.region ?_
      refine L.q 3 rfl ?_
      refine L.cs 14 H10 rfl (fun hc H12 => ?_) (fun hc H12 => ?_)
      · refine L.q 3 rfl ?_
        refine L.nil ?_
        have hr := Option.some.inj H12
        subst e9
        exact E.give ((), ()) [] [0, 1, 2] trivial ⟨rfl, rfl, rfl, rfl, trivial⟩ rfl rfl
      · refine L.q 3 rfl ?_
        refine L.nil ?_
        have hr := Option.some.inj H12
        subst e9
        exact E.give ((), ()) [] [0, 1, 2] trivial ⟨rfl, rfl, rfl, rfl, trivial⟩ rfl rfl
    · rintro ⟨_, ⟨⟩⟩ _
      obtain ⟨e16, H17, H18⟩ := bnd H11
      refine T.join (η := Unit × Unit) (fun h => True) (fun h => [(0, .int .i64 e16), (1, .int .i64 style), (2, .slice a_2 acts.length c_2)]) (fun h => []) (fun h => [Im.sl tyLaw09Act a_2 c_2 acts, Im.sl tyWideSpan (some ⟨0, 0, none⟩) 13 nones, Im.sl tyWideSpan (some ⟨1, 0, none⟩) 14 twos]) ?_ ?_
      · refine T.bif rfl H17 (fun hc H19 => ?_) (fun hc H19 => ?_)
        · refine T.region ?_
          refine L.q 1 rfl ?_
          refine L.nil ?_
          have hr := Option.some.inj H19
          subst e16
          exact E.give ((), ()) [] [0, 1, 2] trivial ⟨rfl, rfl, rfl, trivial⟩ rfl rfl
        · refine T.skip ?_
          have hr := Option.some.inj H19
          subst e16
          exact E.give ((), ()) [] [0, 1, 2] trivial ⟨rfl, rfl, rfl, trivial⟩ rfl rfl
      · rintro ⟨_, ⟨⟩⟩ _
        refine T.seq ?_
        refine T.region ?_
        refine L.q 2 rfl ?_
        obtain ⟨r20, h21, H22⟩ := bnd H18
        refine L.a [] [] (Ac.call (c_row_Blank h21) rfl rfl rfl rfl) rfl rfl rfl rfl rfl ?_
        rintro ⟨a23, c24⟩
        refine L.q 2 rfl ?_
        obtain ⟨r26, h27, H28⟩ := bnd H22
        refine L.a [] [] (Ac.call (c_ref09_Blank h27) rfl rfl rfl rfl) rfl rfl rfl rfl rfl ?_
        rintro ⟨a29, c30⟩
        refine L.a [] [] (Ac.alloc rfl rfl) rfl rfl rfl rfl rfl ?_
        intro g32
        refine L.a [] [] (Ac.alloc rfl rfl) rfl rfl rfl rfl rfl ?_
        intro g33
        refine L.a [1] [] (Ac.stb rfl rfl rfl rfl rfl rfl) rfl rfl rfl rfl rfl ?_
        intro _
        refine L.a [1] [] (Ac.stb rfl rfl rfl rfl rfl rfl) rfl rfl rfl rfl rfl ?_
        intro _
        refine L.nil ?_
        refine E.then ?_
        refine T.seq ?_
        refine T.seq ?_
        refine T.region ?_
        refine L.q 1 rfl ?_
        refine L.nil ?_
        refine E.then ?_
        obtain ⟨y638, H639, H640⟩ := bnd H28
        refine T.join (η := (Ref09Row × RowRow) × ((Option Addr × Nat) × (Option Addr × Nat))) (fun h => y638 = .inl h.1) (fun h => (fun e637 => (fun a630 c631 a634 c635 => [(7, .pointer (some ⟨g32, 0, none⟩)), (8, .pointer (some ⟨g33, 0, none⟩))]) h.2.1.1 h.2.1.2 h.2.2.1 h.2.2.2) h.1) (fun h => (fun e637 => (fun a630 c631 a634 c635 => [Ch.box g33 30 [.slice a630 e637.1.l.length c631, .bool e637.1.wrapped], Ch.box g32 26 [.slice a634 e637.2.cells.length c635, .bool e637.2.wrapped]]) h.2.1.1 h.2.1.2 h.2.2.1 h.2.2.2) h.1) (fun h => (fun e637 => (fun a630 c631 a634 c635 => [Im.sl tyRef09Cell a630 c631 e637.1.l, Im.sl tyRowCell a634 c635 e637.2.cells, Im.sl tyRef09Cell a29 c30 r26.l, Im.sl tyRowCell a23 c24 r20.cells, Im.sl tyLaw09Act a_2 c_2 acts, Im.sl tyWideSpan (some ⟨0, 0, none⟩) 13 nones, Im.sl tyWideSpan (some ⟨1, 0, none⟩) 14 twos]) h.2.1.1 h.2.1.2 h.2.2.1 h.2.2.2) h.1) ?_ ?_
        · refine T.block ?_
          refine T.lp (η := (Option Addr × Nat) × (Option Addr × Nat)) (fun s439 h => (fun a431 c432 a435 c436 => [(2, .slice a_2 acts.length c_2), (7, .pointer (some ⟨g32, 0, none⟩)), (8, .pointer (some ⟨g33, 0, none⟩)), (9, .int .i64 s439.2.2)]) h.1.1 h.1.2 h.2.1 h.2.2) (fun s439 h => (fun a431 c432 a435 c436 => [Ch.box g33 30 [.slice a435 s439.2.1.l.length c436, .bool s439.2.1.wrapped], Ch.box g32 26 [.slice a431 s439.1.cells.length c432, .bool s439.1.wrapped]]) h.1.1 h.1.2 h.2.1 h.2.2) (fun s439 h => (fun a431 c432 a435 c436 => [Im.sl tyRowCell a431 c432 s439.1.cells, Im.sl tyRef09Cell a435 c436 s439.2.1.l, Im.sl tyRef09Cell a29 c30 r26.l, Im.sl tyRowCell a23 c24 r20.cells, Im.sl tyLaw09Act a_2 c_2 acts, Im.sl tyWideSpan (some ⟨0, 0, none⟩) 13 nones, Im.sl tyWideSpan (some ⟨1, 0, none⟩) 14 twos]) h.1.1 h.1.2 h.2.1 h.2.2) ((a23, c24), (a29, c30)) [0, 0] [1, 0, 0, 1, 2, 3, 4] H639 ⟨rfl, rfl, rfl, rfl, trivial⟩ rfl rfl ?_
          rintro k s439 ⟨⟨a431, c432⟩, ⟨a435, c436⟩⟩ z642 H641 hag643 hbr644
          refine T.seq ?_
          refine T.seq ?_
          obtain ⟨e648, H649, H650⟩ := bnd H641
          refine T.join (η := Unit × Unit) (fun h => True) (fun h => [(2, .slice a_2 acts.length c_2), (7, .pointer (some ⟨g32, 0, none⟩)), (8, .pointer (some ⟨g33, 0, none⟩)), (9, .int .i64 s439.2.2), (31, .bool e648)]) (fun h => [Ch.box g33 30 [.slice a435 s439.2.1.l.length c436, .bool s439.2.1.wrapped], Ch.box g32 26 [.slice a431 s439.1.cells.length c432, .bool s439.1.wrapped]]) (fun h => [Im.sl tyRowCell a431 c432 s439.1.cells, Im.sl tyRef09Cell a435 c436 s439.2.1.l, Im.sl tyRef09Cell a29 c30 r26.l, Im.sl tyRowCell a23 c24 r20.cells, Im.sl tyLaw09Act a_2 c_2 acts, Im.sl tyWideSpan (some ⟨0, 0, none⟩) 13 nones, Im.sl tyWideSpan (some ⟨1, 0, none⟩) 14 twos]) ?_ ?_
          · refine T.region ?_
            refine L.q 5 rfl ?_
            refine L.cs 28 H649 rfl (fun hc H651 => ?_) (fun hc H651 => ?_)
            · refine L.q 3 rfl ?_
              refine L.nil ?_
              have hr := Option.some.inj H651
              subst e648
              exact E.give ((), ()) [0, 0] [0, 1, 2, 3, 4, 5, 6] trivial ⟨rfl, rfl, rfl, rfl, rfl, trivial⟩ rfl rfl
            · refine L.q 3 rfl ?_
              refine L.nil ?_
              have hr := Option.some.inj H651
              subst e648
              exact E.give ((), ()) [0, 0] [0, 1, 2, 3, 4, 5, 6] trivial ⟨rfl, rfl, rfl, rfl, rfl, trivial⟩ rfl rfl
          · rintro ⟨_, ⟨⟩⟩ _
            refine T.bif rfl H650 (fun hc H653 => ?_) (fun hc H653 => ?_)
            · refine T.skip ?_
              refine E.then ?_
              refine T.seq ?_
              refine T.block ?_
              refine T.seq ?_
              refine T.draw [10, 11] [0, 0] mo rfl ?_
              refine D.y 0 (Yl.ldb 1 rfl rfl rfl rfl) rfl rfl rfl rfl rfl rfl ?_
              refine D.y 1 (Yl.ldb 0 rfl rfl rfl rfl) rfl rfl rfl rfl rfl rfl ?_
              refine D.q 2 rfl rfl rfl rfl rfl rfl ?_
              refine D.q 3 rfl rfl rfl rfl rfl rfl ?_
              obtain ⟨x792, h793, H794⟩ := bnd H653
              refine D.addr 4 rfl (idx_lt h793) fun b795 o796 e797 => ?_
              obtain rfl : a_2 = some ⟨b795, o796, none⟩ := e797
              refine D.y 4 (Yl.ia h793 rfl rfl rfl rfl rfl rfl) rfl rfl rfl rfl rfl rfl ?_
              refine D.el 4 rfl (idx_some h793).2 ?_
              rintro _
              refine D.y 5 (Yl.ldc 0 0 rfl rfl rfl rfl) rfl rfl rfl rfl rfl rfl ?_
              obtain ⟨r799, h800, H801⟩ := bnd H794
              refine D.one rfl rfl rfl (Dp.a [] [1, 2, 6, 7] (Ac.call (c_law09_Do a431 c432 a435 c436 h800) rfl rfl rfl rfl) rfl rfl rfl rfl rfl rfl ?_)
              rintro ⟨⟨a802, c803⟩, ⟨a804, c805⟩⟩
              refine D.q 7 rfl rfl rfl rfl rfl rfl ?_
              refine D.q 8 rfl rfl rfl rfl rfl rfl ?_
              refine D.q 9 rfl rfl rfl rfl rfl rfl ?_
              refine D.one rfl rfl rfl (Dp.al [1] [] (Ac.stb rfl rfl rfl rfl rfl rfl) rfl rfl rfl rfl rfl rfl rfl ?_)
              intro _
              refine D.one rfl rfl rfl (Dp.al [1] [] (Ac.stb rfl rfl rfl rfl rfl rfl) rfl rfl rfl rfl rfl rfl rfl ?_)
              intro _
              refine D.nil rfl rfl ?_
              refine E.then ?_
              refine T.seq ?_
              obtain ⟨e823, H824, H825⟩ := bnd H801
              refine T.join (η := Unit × Unit) (fun h => True) (fun h => [(2, .slice (some ⟨b795, o796, none⟩) acts.length c_2), (7, .pointer (some ⟨g32, 0, none⟩)), (8, .pointer (some ⟨g33, 0, none⟩)), (9, .int .i64 s439.2.2), (52, .bool e823)]) (fun h => [Ch.box g33 30 [.slice a804 r799.2.l.length c805, .bool r799.2.wrapped], Ch.box g32 26 [.slice a802 r799.1.cells.length c803, .bool r799.1.wrapped]]) (fun h => [Im.sl tyRowCell a802 c803 r799.1.cells, Im.sl tyRef09Cell a804 c805 r799.2.l, Im.cells b795 (o796 + s439.2.2.toNat * 5) [.int .i64 x792.kind, .int .i64 x792.at_, .int .i64 x792.n, .int .i64 x792.style, .int .i32 x792.rune], Im.sl tyRowCell a431 c432 s439.1.cells, Im.sl tyRef09Cell a435 c436 s439.2.1.l, Im.sl tyRef09Cell a29 c30 r26.l, Im.sl tyRowCell a23 c24 r20.cells, Im.sl tyLaw09Act (some ⟨b795, o796, none⟩) c_2 acts, Im.sl tyWideSpan (some ⟨0, 0, none⟩) 13 nones, Im.sl tyWideSpan (some ⟨1, 0, none⟩) 14 twos]) ?_ ?_
              · refine T.region ?_
                refine L.y (Yl.ldb 1 rfl rfl rfl rfl) rfl rfl rfl ?_
                refine L.y (Yl.ldb 0 rfl rfl rfl rfl) rfl rfl rfl ?_
                obtain ⟨r826, h827, H828⟩ := bnd H824
                refine L.a [] [0, 1] (Ac.call (c_law09_Is a802 c803 a804 c805 h827) rfl rfl rfl rfl) rfl rfl rfl rfl rfl ?_
                rintro ⟨⟩
                refine L.q 2 rfl ?_
                refine L.cs 48 H828 rfl (fun hc H829 => ?_) (fun hc H829 => ?_)
                · refine L.q 4 rfl ?_
                  refine L.nil ?_
                  have hr := Option.some.inj H829
                  subst e823
                  exact E.give ((), ()) [0, 0] [0, 1, 2, 3, 4, 5, 6, 7, 8, 9] trivial ⟨rfl, rfl, rfl, rfl, rfl, trivial⟩ rfl rfl
                · refine L.y (Yl.ldb 0 rfl rfl rfl rfl) rfl rfl rfl ?_
                  obtain ⟨r830, h831, H832⟩ := bnd H829
                  refine L.a [] [1] (Ac.call (c_ref09_Whole a804 c805 h831) rfl rfl rfl rfl) rfl rfl rfl rfl rfl ?_
                  rintro ⟨⟩
                  refine L.q 2 rfl ?_
                  refine L.nil ?_
                  have hr := Option.some.inj H832
                  subst e823
                  exact E.give ((), ()) [0, 0] [0, 1, 2, 3, 4, 5, 6, 7, 8, 9] trivial ⟨rfl, rfl, rfl, rfl, rfl, trivial⟩ rfl rfl
              · rintro ⟨_, ⟨⟩⟩ _
                refine T.bif rfl H825 (fun hc H833 => ?_) (fun hc H833 => ?_)
                · refine T.seq ?_
                  refine T.region ?_
                  refine L.q 1 rfl ?_
                  refine L.nil ?_
                  refine E.then ?_
                  refine T.ret ?_
                  refine E.block_ret ?_
                  refine E.then_ret ?_
                  refine E.then_ret ?_
                  refine E.block_ret ?_
                  obtain ⟨w834, hz, H835⟩ := inrr_some H833
                  subst z642
                  have hb := hbr644 _ rfl
                  subst y638
                  have hw : w834 = r := Option.some.inj H640
                  subst w834
                  refine E.then_ret ?_
                  have hr := Option.some.inj H835
                  subst r
                  exact E.ret () [] [] (.tmp rfl .nil) rfl rfl rfl
                · refine T.skip ?_
                  refine E.block ?_
                  refine E.then ?_
                  refine T.region ?_
                  refine L.q 3 rfl ?_
                  refine L.nil ?_
                  have hr := Option.some.inj H833
                  subst z642
                  exact E.give (_, ((a802, c803), (a804, c805))) [0, 0] [0, 1, 5, 6, 7, 8, 9] (hag643 _ rfl) ⟨rfl, rfl, rfl, rfl, trivial⟩ rfl rfl
            · refine T.exit ?_
              refine E.then_exit' ?_
              refine E.then_exit' ?_
              refine E.block_here ?_
              have hr := Option.some.inj H653
              subst z642
              have hb := hbr644 _ rfl
              subst y638
              exact E.give (_, ((a435, c436), (a431, c432))) [0, 0] [1, 0, 2, 3, 4, 5, 6] rfl ⟨rfl, rfl, trivial⟩ rfl rfl
        · rintro ⟨e637, ⟨⟨a630, c631⟩, ⟨a634, c635⟩⟩⟩ hy
          subst hy
          refine T.seq ?_
          refine T.region ?_
          refine L.y (Yl.ldb 1 rfl rfl rfl rfl) rfl rfl rfl ?_
          refine L.y (Yl.ldb 0 rfl rfl rfl rfl) rfl rfl rfl ?_
          obtain ⟨r836, h837, H838⟩ := bnd H640
          refine L.a [] [1, 0] (Ac.call (c_law09_Is a634 c635 a630 c631 h837) rfl rfl rfl rfl) rfl rfl rfl rfl rfl ?_
          rintro ⟨⟩
          refine L.q 1 rfl ?_
          refine L.nil ?_
          refine E.then ?_
          refine T.ret ?_
          have hr := Option.some.inj H838
          subst r
          exact E.ret () [] [] (.tmp rfl .nil) rfl rfl rfl

theorem c_law09_Any (a_0 : Option Addr) (c_0 : Nat) {l : List RowCell} {wrapped : Bool} {r : RowRow} (H : p_law09_Any l wrapped = some r) : CT G 18 [.slice a_0 l.length c_0, .bool wrapped] [] [Im.sl tyRowCell a_0 c_0 l] (fun h : (Option Addr × Nat) => .agg #[.slice h.1 r.cells.length h.2, .bool r.wrapped]) (fun h => []) (fun h => [Im.sl tyRowCell h.1 h.2 r.cells]) := by
  delta p_law09_Any at H
  refine CT.of Go.Proofs.Tryd.func18 (by kernel_rfl) rfl rfl fun K => ?_
  refine T.seq ?_
  refine T.region ?_
  refine L.a [] [] (Ac.alloc rfl rfl) rfl rfl rfl rfl rfl ?_
  intro g1
  refine L.nil ?_
  refine E.then ?_
  refine T.seq ?_
  refine T.region ?_
  refine L.a [] [] (Ac.bs (ty := tyRowCell) (xs := []) .nil rfl rfl rfl rfl rfl rfl rfl) rfl rfl rfl rfl rfl ?_
  intro g2
  refine L.q 4 rfl ?_
  obtain ⟨_, h4, H5⟩ := bnd H
  refine L.rs 0 h4 rfl rfl rfl rfl rfl rfl rfl rfl rfl rfl rfl rfl ?_
  intro a6 c7
  obtain ⟨_, h9, H10⟩ := bnd H5
  refine L.a [0] [0] (Ac.ap (ty := tyRowCell) h9 rfl rfl rfl rfl rfl rfl rfl) rfl rfl rfl rfl rfl ?_
  rintro ⟨a11, c12⟩
  refine L.q 2 rfl ?_
  refine L.a [1] [] (Ac.stb rfl rfl rfl rfl rfl rfl) rfl rfl rfl rfl rfl ?_
  intro _
  refine L.nil ?_
  refine E.then ?_
  refine T.ret ?_
  refine E.frz 1 rfl ?_
  have hr := Option.some.inj H10
  subst r
  exact E.ret (a11, c12) [] [0] (.cell 0 rfl rfl rfl .nil) rfl rfl rfl

theorem c_law09_Told (a_0_0 : Option Addr) (c_0_0 : Nat) {r_ : RowRow} {r : Ref09Row} (H : p_law09_Told r_ = some r) : CT G 19 [.agg #[.slice a_0_0 r_.cells.length c_0_0, .bool r_.wrapped]] [] [Im.sl tyRowCell a_0_0 c_0_0 r_.cells] (fun h : (Option Addr × Nat) => .agg #[.slice h.1 r.l.length h.2, .bool r.wrapped]) (fun h => []) (fun h => [Im.sl tyRef09Cell h.1 h.2 r.l]) := by
  delta p_law09_Told at H
  refine CT.of Go.Proofs.Tryd.func19 (by kernel_rfl) rfl rfl fun K => ?_
  refine T.seq ?_
  refine T.region ?_
  refine L.a [] [] (Ac.box rfl rfl) rfl rfl rfl rfl rfl ?_
  intro g1
  refine L.a [] [] (Ac.alloc rfl rfl) rfl rfl rfl rfl rfl ?_
  intro g2
  refine L.nil ?_
  refine E.then ?_
  refine T.seq ?_
  refine T.region ?_
  refine L.q 1 rfl ?_
  refine L.y (Yl.ldb 1 rfl rfl rfl rfl) rfl rfl rfl ?_
  refine L.q 1 rfl ?_
  refine L.a [] [] (Ac.alloc rfl rfl) rfl rfl rfl rfl rfl ?_
  intro g3
  refine L.a [0] [] (Ac.stb rfl rfl rfl rfl rfl rfl) rfl rfl rfl rfl rfl ?_
  intro _
  refine L.nil ?_
  refine E.then ?_
  refine T.seq ?_
  refine T.seq ?_
  refine T.region ?_
  refine L.q 1 rfl ?_
  refine L.y (Yl.ldb 2 rfl rfl rfl rfl) rfl rfl rfl ?_
  refine L.q 2 rfl ?_
  refine L.nil ?_
  refine E.then ?_
  obtain ⟨e128, H129, H130⟩ := bnd H
  refine T.join (η := Unit × ((Option Addr × Nat))) (fun h => True) (fun h => (fun a125 c126 => [(2, .pointer (some ⟨g2, 0, none⟩)), (3, .pointer (some ⟨g3, 0, none⟩))]) h.2.1 h.2.2) (fun h => (fun a125 c126 => [Ch.arr tyRef09Cell 84 a125 c126 e128.l, Ch.box g3 30 [.slice a125 e128.l.length c126, .bool e128.wrapped], Ch.box g2 30 [.slice none 0 0, .bool false], Ch.box g1 26 [.slice a_0_0 r_.cells.length c_0_0, .bool r_.wrapped]]) h.2.1 h.2.2) (fun h => (fun a125 c126 => [Im.sl tyRowCell a_0_0 c_0_0 r_.cells]) h.2.1 h.2.2) ?_ ?_
  · refine T.block ?_
    refine T.nil0 tyRef09Cell 84 ?_
    refine T.lp (η := (Option Addr × Nat)) (fun s89 h => (fun a85 c86 => [(2, .pointer (some ⟨g2, 0, none⟩)), (3, .pointer (some ⟨g3, 0, none⟩)), (10, .slice a_0_0 r_.cells.length c_0_0), (11, .int .i64 (r_.cells.length : Int)), (12, .int .i64 s89.2)]) h.1 h.2) (fun s89 h => (fun a85 c86 => [Ch.arr tyRef09Cell 84 a85 c86 s89.1.l, Ch.box g3 30 [.slice a85 s89.1.l.length c86, .bool s89.1.wrapped], Ch.box g2 30 [.slice none 0 0, .bool false], Ch.box g1 26 [.slice a_0_0 r_.cells.length c_0_0, .bool r_.wrapped]]) h.1 h.2) (fun s89 h => (fun a85 c86 => [Im.sl tyRowCell a_0_0 c_0_0 r_.cells]) h.1 h.2) (none, 0) [0, 0, 0, 0] [0] H129 ⟨rfl, rfl, rfl, rfl, rfl, trivial⟩ rfl rfl ?_
    rintro k s89 ⟨a85, c86⟩ z132 H131 hag133 hbr134
    refine T.seq ?_
    refine T.region ?_
    refine L.q 1 rfl ?_
    refine L.nil ?_
    refine E.then ?_
    refine T.seq ?_
    refine T.bif rfl H131 (fun hc H136 => ?_) (fun hc H136 => ?_)
    · refine T.skip ?_
      refine E.then ?_
      refine T.seq ?_
      refine T.block ?_
      refine T.seq ?_
      refine T.region ?_
      obtain ⟨x153, h154, H155⟩ := bnd H136
      refine L.addr 0 rfl (idx_lt h154) fun b156 o157 e158 => ?_
      obtain rfl : a_0_0 = some ⟨b156, o157, none⟩ := e158
      refine L.y (Yl.ia h154 rfl rfl rfl rfl rfl rfl) rfl rfl rfl ?_
      refine L.el 0 rfl (idx_some h154).2 ?_
      rintro _
      refine L.y (Yl.ldc 0 0 rfl rfl rfl rfl) rfl rfl rfl ?_
      refine L.a [] [] (Ac.alloc rfl rfl) rfl rfl rfl rfl rfl ?_
      intro g160
      refine L.a [0] [] (Ac.stb rfl rfl rfl rfl rfl rfl) rfl rfl rfl rfl rfl ?_
      intro _
      refine L.nil ?_
      refine E.then ?_
      refine T.region ?_
      refine L.q 1 rfl ?_
      refine L.y (Yl.ldb 2 rfl rfl rfl rfl) rfl rfl rfl ?_
      refine L.q 1 rfl ?_
      refine L.y (Yl.ldb 0 rfl rfl rfl rfl) rfl rfl rfl ?_
      refine L.q 2 rfl ?_
      refine L.y (Yl.ldb 0 rfl rfl rfl rfl) rfl rfl rfl ?_
      refine L.q 1 rfl ?_
      refine L.y (Yl.ldb 0 rfl rfl rfl rfl) rfl rfl rfl ?_
      refine L.q 1 rfl ?_
      refine L.a [] [] (Ac.bs (ty := tyRef09Cell) (xs := [(Ref09Cell.mk (IntKind.i64.wrap x153.rune) x153.style x153.part)]) (.cons () [] rfl .nil) rfl rfl rfl rfl rfl rfl rfl) rfl rfl rfl rfl rfl ?_
      intro g161
      refine L.frz 0 rfl ?_
      obtain ⟨_, h164, H165⟩ := bnd H155
      refine L.a [1] [0] (Ac.ap (ty := tyRef09Cell) h164 rfl rfl rfl rfl rfl rfl rfl) rfl rfl rfl rfl rfl ?_
      rintro ⟨a166, c167⟩
      refine L.q 1 rfl ?_
      refine L.a [2] [] (Ac.stb rfl rfl rfl rfl rfl rfl) rfl rfl rfl rfl rfl ?_
      intro _
      refine L.nil ?_
      refine E.block ?_
      refine E.then ?_
      refine T.region ?_
      refine L.q 2 rfl ?_
      refine L.nil ?_
      have hr := Option.some.inj H165
      subst z132
      exact E.give (_, (a166, c167)) [1, 0, 1, 1] [2] (hag133 _ rfl) ⟨rfl, rfl, rfl, rfl, rfl, trivial⟩ rfl rfl
    · refine T.exit ?_
      refine E.then_exit' ?_
      refine E.then_exit' ?_
      refine E.block_here ?_
      have hr := Option.some.inj H136
      subst z132
      have hb := hbr134 _ rfl
      subst e128
      exact E.give ((), (a85, c86)) [0, 0, 0, 0] [0] trivial ⟨rfl, rfl, trivial⟩ rfl rfl
  · rintro ⟨_, ⟨a125, c126⟩⟩ _
    refine T.seq ?_
    refine T.region ?_
    refine L.y (Yl.ldb 1 rfl rfl rfl rfl) rfl rfl rfl ?_
    refine L.a [2] [] (Ac.stb rfl rfl rfl rfl rfl rfl) rfl rfl rfl rfl rfl ?_
    intro _
    refine L.nil ?_
    refine E.then ?_
    refine T.ret ?_
    refine E.frz 1 rfl ?_
    have hr := Option.some.inj H130
    subst r
    exact E.ret (a125, c126) [] [0] (.cell 0 rfl rfl rfl .nil) rfl rfl rfl

theorem c_law09_RowKeeps (a_0 : Option Addr) (c_0 : Nat) (a_2 : Option Addr) (c_2 : Nat) {l : List RowCell} {wrapped : Bool} {acts : List Law09Act} {r : Bool} (H : p_law09_RowKeeps l wrapped acts = some r) : CT G 4 [.slice a_0 l.length c_0, .bool wrapped, .slice a_2 acts.length c_2] [] [Im.sl tyRowCell a_0 c_0 l, Im.sl tyLaw09Act a_2 c_2 acts, Im.sl tyWideSpan (some ⟨0, 0, none⟩) 13 nones, Im.sl tyWideSpan (some ⟨1, 0, none⟩) 14 twos] (fun h : Unit => .bool r) (fun h => []) (fun h => []) := by
  delta p_law09_RowKeeps at H
  refine CT.of Go.Proofs.Tryd.func4 (by kernel_rfl) rfl rfl fun K => ?_
  refine T.seq ?_
  refine T.region ?_
  refine L.q 1 rfl ?_
  refine L.nil ?_
  refine E.then ?_
  refine T.seq ?_
  refine T.seq ?_
  refine T.region ?_
  obtain ⟨r1, h2, H3⟩ := bnd H
  refine L.a [] [2, 3] (Ac.call (c_law09_awake h2) rfl rfl rfl rfl) rfl rfl rfl rfl rfl ?_
  rintro ⟨⟩
  refine L.q 1 rfl ?_
  refine L.nil ?_
  refine E.then ?_
  refine T.bif rfl H3 (fun hc H5 => ?_) (fun hc H5 => ?_)
  · refine T.seq ?_
    refine T.region ?_
    refine L.q 1 rfl ?_
    refine L.nil ?_
    refine E.then ?_
    refine T.ret ?_
    refine E.then_ret ?_
    have hr := Option.some.inj H5
    subst r
    exact E.ret () [] [] (.tmp rfl .nil) rfl rfl rfl
  · refine T.skip ?_
    refine E.then ?_
    refine T.seq ?_
    refine T.region ?_
    refine L.q 2 rfl ?_
    obtain ⟨r6, h7, H8⟩ := bnd H5
    refine L.a [] [0] (Ac.call (c_law09_Any a_0 c_0 h7) rfl rfl rfl rfl) rfl rfl rfl rfl rfl ?_
    rintro ⟨a9, c10⟩
    refine L.a [] [] (Ac.alloc rfl rfl) rfl rfl rfl rfl rfl ?_
    intro g12
    refine L.a [0] [] (Ac.stb rfl rfl rfl rfl rfl rfl) rfl rfl rfl rfl rfl ?_
    intro _
    refine L.nil ?_
    refine E.then ?_
    refine T.seq ?_
    refine T.region ?_
    refine L.y (Yl.ldb 0 rfl rfl rfl rfl) rfl rfl rfl ?_
    obtain ⟨r13, h14, H15⟩ := bnd H8
    refine L.a [] [0] (Ac.call (c_law09_Told a9 c10 h14) rfl rfl rfl rfl) rfl rfl rfl rfl rfl ?_
    rintro ⟨a16, c17⟩
    refine L.a [] [] (Ac.alloc rfl rfl) rfl rfl rfl rfl rfl ?_
    intro g19
    refine L.a [0] [] (Ac.stb rfl rfl rfl rfl rfl rfl) rfl rfl rfl rfl rfl ?_
    intro _
    refine L.nil ?_
    refine E.then ?_
    refine T.seq ?_
    refine T.seq ?_
    refine T.region ?_
    refine L.q 1 rfl ?_
    refine L.nil ?_
    refine E.then ?_
    obtain ⟨y5200, H5201, H5202⟩ := bnd H15
    refine T.join (η := Unit × Unit) (fun h => y5200 = .inl h.1) (fun h => (fun e5199 => []) h.1) (fun h => (fun e5199 => [Ch.box g19 30 [.slice a16 r13.l.length c17, .bool r13.wrapped], Ch.box g12 26 [.slice a9 r6.cells.length c10, .bool r6.wrapped]]) h.1) (fun h => (fun e5199 => [Im.sl tyRef09Cell a16 c17 r13.l, Im.sl tyRowCell a9 c10 r6.cells, Im.sl tyRowCell a_0 c_0 l, Im.sl tyLaw09Act a_2 c_2 acts, Im.sl tyWideSpan (some ⟨0, 0, none⟩) 13 nones, Im.sl tyWideSpan (some ⟨1, 0, none⟩) 14 twos]) h.1) ?_ ?_
    · refine T.block ?_
      refine T.lp (η := Unit) (fun s3473 h => [(2, .slice a_2 acts.length c_2), (7, .pointer (some ⟨g12, 0, none⟩)), (8, .pointer (some ⟨g19, 0, none⟩)), (9, .int .i64 s3473)]) (fun s3473 h => [Ch.box g19 30 [.slice a16 r13.l.length c17, .bool r13.wrapped], Ch.box g12 26 [.slice a9 r6.cells.length c10, .bool r6.wrapped]]) (fun s3473 h => [Im.sl tyRef09Cell a16 c17 r13.l, Im.sl tyRowCell a9 c10 r6.cells, Im.sl tyRowCell a_0 c_0 l, Im.sl tyLaw09Act a_2 c_2 acts, Im.sl tyWideSpan (some ⟨0, 0, none⟩) 13 nones, Im.sl tyWideSpan (some ⟨1, 0, none⟩) 14 twos]) () [0, 0] [0, 1, 2, 3, 4, 5] H5201 ⟨rfl, rfl, rfl, rfl, trivial⟩ rfl rfl ?_
      rintro k s3473 ⟨⟩ z5204 H5203 hag5205 hbr5206
      refine T.seq ?_
      refine T.seq ?_
      obtain ⟨e5210, H5211, H5212⟩ := bnd H5203
      refine T.join (η := Unit × Unit) (fun h => True) (fun h => [(2, .slice a_2 acts.length c_2), (7, .pointer (some ⟨g12, 0, none⟩)), (8, .pointer (some ⟨g19, 0, none⟩)), (9, .int .i64 s3473), (27, .bool e5210)]) (fun h => [Ch.box g19 30 [.slice a16 r13.l.length c17, .bool r13.wrapped], Ch.box g12 26 [.slice a9 r6.cells.length c10, .bool r6.wrapped]]) (fun h => [Im.sl tyRef09Cell a16 c17 r13.l, Im.sl tyRowCell a9 c10 r6.cells, Im.sl tyRowCell a_0 c_0 l, Im.sl tyLaw09Act a_2 c_2 acts, Im.sl tyWideSpan (some ⟨0, 0, none⟩) 13 nones, Im.sl tyWideSpan (some ⟨1, 0, none⟩) 14 twos]) ?_ ?_
      · refine T.region ?_
        refine L.q 5 rfl ?_
        refine L.cs 24 H5211 rfl (fun hc H5213 => ?_) (fun hc H5213 => ?_)
        · refine L.q 3 rfl ?_
          refine L.nil ?_
          have hr := Option.some.inj H5213
          subst e5210
          exact E.give ((), ()) [0, 0] [0, 1, 2, 3, 4, 5] trivial ⟨rfl, rfl, rfl, rfl, rfl, trivial⟩ rfl rfl
        · refine L.q 3 rfl ?_
          refine L.nil ?_
          have hr := Option.some.inj H5213
          subst e5210
          exact E.give ((), ()) [0, 0] [0, 1, 2, 3, 4, 5] trivial ⟨rfl, rfl, rfl, rfl, rfl, trivial⟩ rfl rfl
      · rintro ⟨_, ⟨⟩⟩ _
        refine T.bif rfl H5212 (fun hc H5215 => ?_) (fun hc H5215 => ?_)
        · refine T.skip ?_
          refine E.then ?_
          refine T.seq ?_
          refine T.block ?_
          refine T.seq ?_
          obtain ⟨e6428, H6429, H6430⟩ := bnd H5215
          refine T.join (η := Unit × (Nat × Nat × (Option Addr × Nat) × (Option Addr × Nat))) (fun h => True) (fun h => (fun g6418 g6419 a6421 c6422 a6425 c6426 => [(2, .slice a_2 acts.length c_2), (7, .pointer (some ⟨g12, 0, none⟩)), (8, .pointer (some ⟨g19, 0, none⟩)), (9, .int .i64 s3473), (10, .pointer (some ⟨g6418, 0, none⟩)), (11, .pointer (some ⟨g6419, 0, none⟩))]) h.2.1 h.2.2.1 h.2.2.2.1.1 h.2.2.2.1.2 h.2.2.2.2.1 h.2.2.2.2.2) (fun h => (fun g6418 g6419 a6421 c6422 a6425 c6426 => [Ch.box g19 30 [.slice a16 r13.l.length c17, .bool r13.wrapped], Ch.box g12 26 [.slice a9 r6.cells.length c10, .bool r6.wrapped], Ch.box g6418 26 [.slice a6421 e6428.1.cells.length c6422, .bool e6428.1.wrapped], Ch.box g6419 30 [.slice a6425 e6428.2.l.length c6426, .bool e6428.2.wrapped]]) h.2.1 h.2.2.1 h.2.2.2.1.1 h.2.2.2.1.2 h.2.2.2.2.1 h.2.2.2.2.2) (fun h => (fun g6418 g6419 a6421 c6422 a6425 c6426 => [Im.sl tyRowCell a6421 c6422 e6428.1.cells, Im.sl tyRef09Cell a6425 c6426 e6428.2.l, Im.sl tyRef09Cell a16 c17 r13.l, Im.sl tyRowCell a9 c10 r6.cells, Im.sl tyRowCell a_0 c_0 l, Im.sl tyLaw09Act a_2 c_2 acts, Im.sl tyWideSpan (some ⟨0, 0, none⟩) 13 nones, Im.sl tyWideSpan (some ⟨1, 0, none⟩) 14 twos]) h.2.1 h.2.2.1 h.2.2.2.1.1 h.2.2.2.1.2 h.2.2.2.2.1 h.2.2.2.2.2) ?_ ?_
          · refine T.draw [12, 13] [0, 0] mo rfl ?_
            refine D.y 0 (Yl.ldb 1 rfl rfl rfl rfl) rfl rfl rfl rfl rfl rfl ?_
            refine D.y 1 (Yl.ldb 0 rfl rfl rfl rfl) rfl rfl rfl rfl rfl rfl ?_
            refine D.q 2 rfl rfl rfl rfl rfl rfl ?_
            refine D.q 3 rfl rfl rfl rfl rfl rfl ?_
            obtain ⟨x6517, h6518, H6519⟩ := bnd H6429
            refine D.addr 3 rfl (idx_lt h6518) fun b6520 o6521 e6522 => ?_
            obtain rfl : a_2 = some ⟨b6520, o6521, none⟩ := e6522
            refine D.y 4 (Yl.ia h6518 rfl rfl rfl rfl rfl rfl) rfl rfl rfl rfl rfl rfl ?_
            refine D.el 3 rfl (idx_some h6518).2 ?_
            rintro _
            refine D.y 5 (Yl.ldc 0 0 rfl rfl rfl rfl) rfl rfl rfl rfl rfl rfl ?_
            obtain ⟨r6524, h6525, H6539⟩ := bnd H6519
            refine D.three rfl rfl rfl ?_ ?_ ?_
            · refine Dp.a [] [2, 1, 5, 6] (Ac.call (c_law09_Do a9 c10 a16 c17 h6525) rfl rfl rfl rfl) rfl rfl rfl rfl rfl rfl ?_
              rintro ⟨⟨a6541, c6542⟩, ⟨a6543, c6544⟩⟩
              refine D.q 7 rfl rfl rfl rfl rfl rfl ?_
              refine D.q 8 rfl rfl rfl rfl rfl rfl ?_
              refine D.q 9 rfl rfl rfl rfl rfl rfl ?_
              refine D.two rfl rfl rfl ?_ ?_
              · refine Dp.a [] [] (Ac.alloc rfl rfl) rfl rfl rfl rfl rfl rfl ?_
                intro g6549
                refine D.one rfl rfl rfl (Dp.a [] [] (Ac.alloc rfl rfl) rfl rfl rfl rfl rfl rfl ?_)
                intro g6550
                refine D.one rfl rfl rfl (Dp.al [3] [] (Ac.stb rfl rfl rfl rfl rfl rfl) rfl rfl rfl rfl rfl rfl rfl ?_)
                intro _
                refine D.one rfl rfl rfl (Dp.al [3] [] (Ac.stb rfl rfl rfl rfl rfl rfl) rfl rfl rfl rfl rfl rfl rfl ?_)
                intro _
                refine D.nil rfl rfl ?_
                have hr := Option.some.inj H6539
                subst e6428
                exact E.give ((), (g6549, g6550, (a6541, c6542), (a6543, c6544))) [2, 2, 1, 0] [0, 1, 3, 4, 5, 6, 7, 8] trivial ⟨rfl, rfl, rfl, rfl, rfl, rfl, trivial⟩ rfl rfl
              · refine Dp.a [] [] (Ac.alloc rfl rfl) rfl rfl rfl rfl rfl rfl ?_
                intro g6551
                refine D.one rfl rfl rfl (Dp.a [] [] (Ac.alloc rfl rfl) rfl rfl rfl rfl rfl rfl ?_)
                intro g6552
                refine D.one rfl rfl rfl (Dp.al [2] [] (Ac.stb rfl rfl rfl rfl rfl rfl) rfl rfl rfl rfl rfl rfl rfl ?_)
                intro _
                refine D.one rfl rfl rfl (Dp.al [3] [] (Ac.stb rfl rfl rfl rfl rfl rfl) rfl rfl rfl rfl rfl rfl rfl ?_)
                intro _
                refine D.nil rfl rfl ?_
                have hr := Option.some.inj H6539
                subst e6428
                exact E.give ((), (g6552, g6551, (a6541, c6542), (a6543, c6544))) [2, 2, 1, 0] [0, 1, 3, 4, 5, 6, 7, 8] trivial ⟨rfl, rfl, rfl, rfl, rfl, rfl, trivial⟩ rfl rfl
            · refine Dp.a [] [] (Ac.alloc rfl rfl) rfl rfl rfl rfl rfl rfl ?_
              intro g6553
              refine D.two rfl rfl rfl ?_ ?_
              · refine Dp.a [] [2, 1, 5, 6] (Ac.call (c_law09_Do a9 c10 a16 c17 h6525) rfl rfl rfl rfl) rfl rfl rfl rfl rfl rfl ?_
                rintro ⟨⟨a6563, c6564⟩, ⟨a6565, c6566⟩⟩
                refine D.q 7 rfl rfl rfl rfl rfl rfl ?_
                refine D.q 8 rfl rfl rfl rfl rfl rfl ?_
                refine D.q 9 rfl rfl rfl rfl rfl rfl ?_
                refine D.one rfl rfl rfl (Dp.a [] [] (Ac.alloc rfl rfl) rfl rfl rfl rfl rfl rfl ?_)
                intro g6569
                refine D.one rfl rfl rfl (Dp.al [3] [] (Ac.stb rfl rfl rfl rfl rfl rfl) rfl rfl rfl rfl rfl rfl rfl ?_)
                intro _
                refine D.one rfl rfl rfl (Dp.al [3] [] (Ac.stb rfl rfl rfl rfl rfl rfl) rfl rfl rfl rfl rfl rfl rfl ?_)
                intro _
                refine D.nil rfl rfl ?_
                have hr := Option.some.inj H6539
                subst e6428
                exact E.give ((), (g6553, g6569, (a6563, c6564), (a6565, c6566))) [2, 2, 1, 0] [0, 1, 3, 4, 5, 6, 7, 8] trivial ⟨rfl, rfl, rfl, rfl, rfl, rfl, trivial⟩ rfl rfl
              · refine Dp.a [] [] (Ac.alloc rfl rfl) rfl rfl rfl rfl rfl rfl ?_
                intro g6570
                refine D.one rfl rfl rfl (Dp.a [] [2, 1, 5, 6] (Ac.call (c_law09_Do a9 c10 a16 c17 h6525) rfl rfl rfl rfl) rfl rfl rfl rfl rfl rfl ?_)
                rintro ⟨⟨a6572, c6573⟩, ⟨a6574, c6575⟩⟩
                refine D.q 7 rfl rfl rfl rfl rfl rfl ?_
                refine D.q 8 rfl rfl rfl rfl rfl rfl ?_
                refine D.q 9 rfl rfl rfl rfl rfl rfl ?_
                refine D.one rfl rfl rfl (Dp.al [3] [] (Ac.stb rfl rfl rfl rfl rfl rfl) rfl rfl rfl rfl rfl rfl rfl ?_)
                intro _
                refine D.one rfl rfl rfl (Dp.al [3] [] (Ac.stb rfl rfl rfl rfl rfl rfl) rfl rfl rfl rfl rfl rfl rfl ?_)
                intro _
                refine D.nil rfl rfl ?_
                have hr := Option.some.inj H6539
                subst e6428
                exact E.give ((), (g6553, g6570, (a6572, c6573), (a6574, c6575))) [2, 2, 1, 0] [0, 1, 3, 4, 5, 6, 7, 8] trivial ⟨rfl, rfl, rfl, rfl, rfl, rfl, trivial⟩ rfl rfl
            · refine Dp.a [] [] (Ac.alloc rfl rfl) rfl rfl rfl rfl rfl rfl ?_
              intro g6578
              refine D.two rfl rfl rfl ?_ ?_
              · refine Dp.a [] [2, 1, 5, 6] (Ac.call (c_law09_Do a9 c10 a16 c17 h6525) rfl rfl rfl rfl) rfl rfl rfl rfl rfl rfl ?_
                rintro ⟨⟨a6588, c6589⟩, ⟨a6590, c6591⟩⟩
                refine D.q 7 rfl rfl rfl rfl rfl rfl ?_
                refine D.q 8 rfl rfl rfl rfl rfl rfl ?_
                refine D.q 9 rfl rfl rfl rfl rfl rfl ?_
                refine D.one rfl rfl rfl (Dp.a [] [] (Ac.alloc rfl rfl) rfl rfl rfl rfl rfl rfl ?_)
                intro g6594
                refine D.one rfl rfl rfl (Dp.al [2] [] (Ac.stb rfl rfl rfl rfl rfl rfl) rfl rfl rfl rfl rfl rfl rfl ?_)
                intro _
                refine D.one rfl rfl rfl (Dp.al [3] [] (Ac.stb rfl rfl rfl rfl rfl rfl) rfl rfl rfl rfl rfl rfl rfl ?_)
                intro _
                refine D.nil rfl rfl ?_
                have hr := Option.some.inj H6539
                subst e6428
                exact E.give ((), (g6594, g6578, (a6588, c6589), (a6590, c6591))) [2, 2, 1, 0] [0, 1, 3, 4, 5, 6, 7, 8] trivial ⟨rfl, rfl, rfl, rfl, rfl, rfl, trivial⟩ rfl rfl
              · refine Dp.a [] [] (Ac.alloc rfl rfl) rfl rfl rfl rfl rfl rfl ?_
                intro g6595
                refine D.one rfl rfl rfl (Dp.a [] [2, 1, 5, 6] (Ac.call (c_law09_Do a9 c10 a16 c17 h6525) rfl rfl rfl rfl) rfl rfl rfl rfl rfl rfl ?_)
                rintro ⟨⟨a6597, c6598⟩, ⟨a6599, c6600⟩⟩
                refine D.q 7 rfl rfl rfl rfl rfl rfl ?_
                refine D.q 8 rfl rfl rfl rfl rfl rfl ?_
                refine D.q 9 rfl rfl rfl rfl rfl rfl ?_
                refine D.one rfl rfl rfl (Dp.al [2] [] (Ac.stb rfl rfl rfl rfl rfl rfl) rfl rfl rfl rfl rfl rfl rfl ?_)
                intro _
                refine D.one rfl rfl rfl (Dp.al [3] [] (Ac.stb rfl rfl rfl rfl rfl rfl) rfl rfl rfl rfl rfl rfl rfl ?_)
                intro _
                refine D.nil rfl rfl ?_
                have hr := Option.some.inj H6539
                subst e6428
                exact E.give ((), (g6595, g6578, (a6597, c6598), (a6599, c6600))) [2, 2, 1, 0] [0, 1, 3, 4, 5, 6, 7, 8] trivial ⟨rfl, rfl, rfl, rfl, rfl, rfl, trivial⟩ rfl rfl
          · rintro ⟨_, ⟨g6418, g6419, ⟨a6421, c6422⟩, ⟨a6425, c6426⟩⟩⟩ _
            refine T.seq ?_
            refine T.seq ?_
            refine T.region ?_
            refine L.q 3 rfl ?_
            refine L.nil ?_
            refine E.then ?_
            obtain ⟨e6826, H6827, H6828⟩ := bnd H6430
            refine T.join (η := Unit × Unit) (fun h => True) (fun h => [(2, .slice a_2 acts.length c_2), (7, .pointer (some ⟨g12, 0, none⟩)), (8, .pointer (some ⟨g19, 0, none⟩)), (9, .int .i64 s3473), (10, .pointer (some ⟨g6418, 0, none⟩)), (11, .pointer (some ⟨g6419, 0, none⟩))]) (fun h => [Ch.box g19 30 [.slice a16 r13.l.length c17, .bool r13.wrapped], Ch.box g12 26 [.slice a9 r6.cells.length c10, .bool r6.wrapped], Ch.box g6418 26 [.slice a6421 e6428.1.cells.length c6422, .bool e6428.1.wrapped], Ch.box g6419 30 [.slice a6425 e6428.2.l.length c6426, .bool e6428.2.wrapped]]) (fun h => [Im.sl tyRowCell a6421 c6422 e6428.1.cells, Im.sl tyRef09Cell a6425 c6426 e6428.2.l, Im.sl tyRef09Cell a16 c17 r13.l, Im.sl tyRowCell a9 c10 r6.cells, Im.sl tyRowCell a_0 c_0 l, Im.sl tyLaw09Act a_2 c_2 acts, Im.sl tyWideSpan (some ⟨0, 0, none⟩) 13 nones, Im.sl tyWideSpan (some ⟨1, 0, none⟩) 14 twos]) ?_ ?_
            · refine T.block ?_
              refine T.lp (η := Unit) (fun s6752 h => [(2, .slice a_2 acts.length c_2), (7, .pointer (some ⟨g12, 0, none⟩)), (8, .pointer (some ⟨g19, 0, none⟩)), (9, .int .i64 s3473), (10, .pointer (some ⟨g6418, 0, none⟩)), (11, .pointer (some ⟨g6419, 0, none⟩)), (12, .int .i64 s6752)]) (fun s6752 h => [Ch.box g19 30 [.slice a16 r13.l.length c17, .bool r13.wrapped], Ch.box g12 26 [.slice a9 r6.cells.length c10, .bool r6.wrapped], Ch.box g6418 26 [.slice a6421 e6428.1.cells.length c6422, .bool e6428.1.wrapped], Ch.box g6419 30 [.slice a6425 e6428.2.l.length c6426, .bool e6428.2.wrapped]]) (fun s6752 h => [Im.sl tyRowCell a6421 c6422 e6428.1.cells, Im.sl tyRef09Cell a6425 c6426 e6428.2.l, Im.sl tyRef09Cell a16 c17 r13.l, Im.sl tyRowCell a9 c10 r6.cells, Im.sl tyRowCell a_0 c_0 l, Im.sl tyLaw09Act a_2 c_2 acts, Im.sl tyWideSpan (some ⟨0, 0, none⟩) 13 nones, Im.sl tyWideSpan (some ⟨1, 0, none⟩) 14 twos]) () [0, 0, 0, 0] [0, 1, 2, 3, 4, 5, 6, 7] H6827 ⟨rfl, rfl, rfl, rfl, rfl, rfl, rfl, trivial⟩ rfl rfl ?_
              rintro k s6752 ⟨⟩ z6830 H6829 hag6831 hbr6832
              refine T.seq ?_
              refine T.seq ?_
              obtain ⟨e6836, H6837, H6838⟩ := bnd H6829
              refine T.join (η := Unit × Unit) (fun h => True) (fun h => [(2, .slice a_2 acts.length c_2), (7, .pointer (some ⟨g12, 0, none⟩)), (8, .pointer (some ⟨g19, 0, none⟩)), (9, .int .i64 s3473), (10, .pointer (some ⟨g6418, 0, none⟩)), (11, .pointer (some ⟨g6419, 0, none⟩)), (12, .int .i64 s6752), (51, .bool e6836)]) (fun h => [Ch.box g19 30 [.slice a16 r13.l.length c17, .bool r13.wrapped], Ch.box g12 26 [.slice a9 r6.cells.length c10, .bool r6.wrapped], Ch.box g6418 26 [.slice a6421 e6428.1.cells.length c6422, .bool e6428.1.wrapped], Ch.box g6419 30 [.slice a6425 e6428.2.l.length c6426, .bool e6428.2.wrapped]]) (fun h => [Im.sl tyRowCell a6421 c6422 e6428.1.cells, Im.sl tyRef09Cell a6425 c6426 e6428.2.l, Im.sl tyRef09Cell a16 c17 r13.l, Im.sl tyRowCell a9 c10 r6.cells, Im.sl tyRowCell a_0 c_0 l, Im.sl tyLaw09Act a_2 c_2 acts, Im.sl tyWideSpan (some ⟨0, 0, none⟩) 13 nones, Im.sl tyWideSpan (some ⟨1, 0, none⟩) 14 twos]) ?_ ?_
              · refine T.region ?_
                refine L.q 5 rfl ?_
                refine L.cs 46 H6837 rfl (fun hc H6839 => ?_) (fun hc H6839 => ?_)
                · refine L.q 5 rfl ?_
                  refine L.nil ?_
                  have hr := Option.some.inj H6839
                  subst e6836
                  exact E.give ((), ()) [0, 0, 0, 0] [0, 1, 2, 3, 4, 5, 6, 7] trivial ⟨rfl, rfl, rfl, rfl, rfl, rfl, rfl, rfl, trivial⟩ rfl rfl
                · refine L.q 5 rfl ?_
                  refine L.nil ?_
                  have hr := Option.some.inj H6839
                  subst e6836
                  exact E.give ((), ()) [0, 0, 0, 0] [0, 1, 2, 3, 4, 5, 6, 7] trivial ⟨rfl, rfl, rfl, rfl, rfl, rfl, rfl, rfl, trivial⟩ rfl rfl
              · rintro ⟨_, ⟨⟩⟩ _
                refine T.bif rfl H6838 (fun hc H6841 => ?_) (fun hc H6841 => ?_)
                · refine T.skip ?_
                  refine E.then ?_
                  refine T.seq ?_
                  refine T.block ?_
                  refine T.draw [] [0, 0, 0, 0] mo rfl ?_
                  refine D.y 0 (Yl.ldb 2 rfl rfl rfl rfl) rfl rfl rfl rfl rfl rfl ?_
                  refine D.y 1 (Yl.ldb 3 rfl rfl rfl rfl) rfl rfl rfl rfl rfl rfl ?_
                  refine D.q 2 rfl rfl rfl rfl rfl rfl ?_
                  refine D.q 3 rfl rfl rfl rfl rfl rfl ?_
                  obtain ⟨x6890, h6891, H6892⟩ := bnd H6841
                  refine D.addr 5 rfl (idx_lt h6891) fun b6893 o6894 e6895 => ?_
                  obtain rfl : a_2 = some ⟨b6893, o6894, none⟩ := e6895
                  refine D.y 4 (Yl.ia h6891 rfl rfl rfl rfl rfl rfl) rfl rfl rfl rfl rfl rfl ?_
                  refine D.el 5 rfl (idx_some h6891).2 ?_
                  rintro _
                  refine D.y 5 (Yl.ldc 0 0 rfl rfl rfl rfl) rfl rfl rfl rfl rfl rfl ?_
                  obtain ⟨r6897, h6898, H6899⟩ := bnd H6892
                  refine D.one rfl rfl rfl (Dp.a [] [1, 2, 7, 8] (Ac.call (c_law09_Do a6421 c6422 a6425 c6426 h6898) rfl rfl rfl rfl) rfl rfl rfl rfl rfl rfl ?_)
                  rintro ⟨⟨a6900, c6901⟩, ⟨a6902, c6903⟩⟩
                  refine D.nil rfl rfl ?_
                  refine E.block ?_
                  refine E.then ?_
                  refine T.region ?_
                  refine L.q 3 rfl ?_
                  refine L.nil ?_
                  have hr := Option.some.inj H6899
                  subst z6830
                  exact E.give (_, ()) [0, 0, 0, 0] [3, 4, 5, 6, 7, 8, 9, 10] (hag6831 _ rfl) ⟨rfl, rfl, rfl, rfl, rfl, rfl, rfl, trivial⟩ rfl rfl
                · refine T.exit ?_
                  refine E.then_exit' ?_
                  refine E.then_exit' ?_
                  refine E.block_here ?_
                  have hr := Option.some.inj H6841
                  subst z6830
                  have hb := hbr6832 _ rfl
                  subst e6826
                  exact E.give ((), ()) [0, 0, 0, 0] [0, 1, 2, 3, 4, 5, 6, 7] trivial ⟨rfl, rfl, rfl, rfl, rfl, rfl, trivial⟩ rfl rfl
            · rintro ⟨_, ⟨⟩⟩ _
              refine T.seq ?_
              obtain ⟨e6921, H6922, H6923⟩ := bnd H6828
              refine T.join (η := Unit × Unit) (fun h => True) (fun h => [(2, .slice a_2 acts.length c_2), (7, .pointer (some ⟨g12, 0, none⟩)), (8, .pointer (some ⟨g19, 0, none⟩)), (9, .int .i64 s3473), (70, .bool e6921)]) (fun h => [Ch.box g19 30 [.slice a16 r13.l.length c17, .bool r13.wrapped], Ch.box g12 26 [.slice a9 r6.cells.length c10, .bool r6.wrapped], Ch.box g6418 26 [.slice a6421 e6428.1.cells.length c6422, .bool e6428.1.wrapped], Ch.box g6419 30 [.slice a6425 e6428.2.l.length c6426, .bool e6428.2.wrapped]]) (fun h => [Im.sl tyRowCell a6421 c6422 e6428.1.cells, Im.sl tyRef09Cell a6425 c6426 e6428.2.l, Im.sl tyRef09Cell a16 c17 r13.l, Im.sl tyRowCell a9 c10 r6.cells, Im.sl tyRowCell a_0 c_0 l, Im.sl tyLaw09Act a_2 c_2 acts, Im.sl tyWideSpan (some ⟨0, 0, none⟩) 13 nones, Im.sl tyWideSpan (some ⟨1, 0, none⟩) 14 twos]) ?_ ?_
              · refine T.region ?_
                refine L.y (Yl.ldb 1 rfl rfl rfl rfl) rfl rfl rfl ?_
                refine L.y (Yl.ldb 0 rfl rfl rfl rfl) rfl rfl rfl ?_
                obtain ⟨r6924, h6925, H6926⟩ := bnd H6922
                refine L.a [] [3, 2] (Ac.call (c_law09_Is a9 c10 a16 c17 h6925) rfl rfl rfl rfl) rfl rfl rfl rfl rfl ?_
                rintro ⟨⟩
                refine L.q 2 rfl ?_
                refine L.cs 65 H6926 rfl (fun hc H6927 => ?_) (fun hc H6927 => ?_)
                · refine L.q 5 rfl ?_
                  refine L.nil ?_
                  have hr := Option.some.inj H6927
                  subst e6921
                  exact E.give ((), ()) [0, 0, 0, 0] [0, 1, 2, 3, 4, 5, 6, 7] trivial ⟨rfl, rfl, rfl, rfl, rfl, trivial⟩ rfl rfl
                · refine L.y (Yl.ldb 2 rfl rfl rfl rfl) rfl rfl rfl ?_
                  refine L.y (Yl.ldb 3 rfl rfl rfl rfl) rfl rfl rfl ?_
                  obtain ⟨r6928, h6929, H6930⟩ := bnd H6927
                  refine L.a [] [0, 1] (Ac.call (c_law09_Is a6421 c6422 a6425 c6426 h6929) rfl rfl rfl rfl) rfl rfl rfl rfl rfl ?_
                  rintro ⟨⟩
                  refine L.q 2 rfl ?_
                  refine L.nil ?_
                  have hr := Option.some.inj H6930
                  subst e6921
                  exact E.give ((), ()) [0, 0, 0, 0] [0, 1, 2, 3, 4, 5, 6, 7] trivial ⟨rfl, rfl, rfl, rfl, rfl, trivial⟩ rfl rfl
              · rintro ⟨_, ⟨⟩⟩ _
                refine T.bif rfl H6923 (fun hc H6931 => ?_) (fun hc H6931 => ?_)
                · refine T.seq ?_
                  refine T.region ?_
                  refine L.q 1 rfl ?_
                  refine L.nil ?_
                  refine E.then ?_
                  refine T.ret ?_
                  refine E.block_ret ?_
                  refine E.then_ret ?_
                  refine E.then_ret ?_
                  refine E.block_ret ?_
                  obtain ⟨w6932, hz, H6933⟩ := inrr_some H6931
                  subst z5204
                  have hb := hbr5206 _ rfl
                  subst y5200
                  have hw : w6932 = r := Option.some.inj H5202
                  subst w6932
                  refine E.then_ret ?_
                  have hr := Option.some.inj H6933
                  subst r
                  exact E.ret () [] [] (.tmp rfl .nil) rfl rfl rfl
                · refine T.skip ?_
                  refine E.block ?_
                  refine E.then ?_
                  refine T.region ?_
                  refine L.q 3 rfl ?_
                  refine L.nil ?_
                  have hr := Option.some.inj H6931
                  subst z5204
                  exact E.give (_, ()) [0, 0] [2, 3, 4, 5, 6, 7] (hag5205 _ rfl) ⟨rfl, rfl, rfl, rfl, trivial⟩ rfl rfl
        · refine T.exit ?_
          refine E.then_exit' ?_
          refine E.then_exit' ?_
          refine E.block_here ?_
          have hr := Option.some.inj H5215
          subst z5204
          have hb := hbr5206 _ rfl
          subst y5200
          exact E.give (_, ()) [0, 0] [0, 1, 2, 3, 4, 5] rfl trivial rfl rfl
    · rintro ⟨e5199, ⟨⟩⟩ hy
      subst hy
      refine T.seq ?_
      refine T.region ?_
      refine L.q 1 rfl ?_
      refine L.nil ?_
      refine E.then ?_
      refine T.ret ?_
      have hr := Option.some.inj H5202
      subst r
      exact E.ret () [] [] (.tmp rfl .nil) rfl rfl rfl

theorem c_law09_RowColumns (a_1 : Option Addr) (c_1 : Nat) {w : Int} {acts : List Law09Act} {r : Bool} (H : p_law09_RowColumns w acts = some r) : CT G 5 [.int .i64 w, .slice a_1 acts.length c_1] [] [Im.sl tyLaw09Act a_1 c_1 acts, Im.sl tyWideSpan (some ⟨0, 0, none⟩) 13 nones, Im.sl tyWideSpan (some ⟨1, 0, none⟩) 14 twos] (fun h : Unit => .bool r) (fun h => []) (fun h => []) := by
  delta p_law09_RowColumns at H
  refine CT.of Go.Proofs.Tryd.func5 (by kernel_rfl) rfl rfl fun K => ?_
  refine T.seq ?_
  refine T.region ?_
  refine L.q 1 rfl ?_
  refine L.nil ?_
  refine E.then ?_
  refine T.seq ?_
  refine T.seq ?_
  refine T.region ?_
  obtain ⟨r1, h2, H3⟩ := bnd H
  refine L.a [] [1, 2] (Ac.call (c_law09_awake h2) rfl rfl rfl rfl) rfl rfl rfl rfl rfl ?_
  rintro ⟨⟩
  refine L.q 1 rfl ?_
  refine L.nil ?_
  refine E.then ?_
  refine T.bif rfl H3 (fun hc H5 => ?_) (fun hc H5 => ?_)
  · refine T.seq ?_
    refine T.region ?_
    refine L.q 1 rfl ?_
    refine L.nil ?_
    refine E.then ?_
    refine T.ret ?_
    refine E.then_ret ?_
    have hr := Option.some.inj H5
    subst r
    exact E.ret () [] [] (.tmp rfl .nil) rfl rfl rfl
  · refine T.skip ?_
    refine E.then ?_
    refine T.seq ?_
    refine T.region ?_
    refine L.q 2 rfl ?_
    obtain ⟨r6, h7, H8⟩ := bnd H5
    refine L.a [] [] (Ac.call (c_row_Blank h7) rfl rfl rfl rfl) rfl rfl rfl rfl rfl ?_
    rintro ⟨a9, c10⟩
    refine L.a [] [] (Ac.alloc rfl rfl) rfl rfl rfl rfl rfl ?_
    intro g12
    refine L.a [0] [] (Ac.stb rfl rfl rfl rfl rfl rfl) rfl rfl rfl rfl rfl ?_
    intro _
    refine L.nil ?_
    refine E.then ?_
    refine T.seq ?_
    refine T.seq ?_
    refine T.region ?_
    refine L.q 1 rfl ?_
    refine L.nil ?_
    refine E.then ?_
    obtain ⟨e315, H316, H317⟩ := bnd H8
    refine T.join (η := Unit × ((Option Addr × Nat))) (fun h => True) (fun h => (fun a312 c313 => [(0, .int .i64 w), (5, .pointer (some ⟨g12, 0, none⟩))]) h.2.1 h.2.2) (fun h => (fun a312 c313 => [Ch.box g12 26 [.slice a312 e315.cells.length c313, .bool e315.wrapped]]) h.2.1 h.2.2) (fun h => (fun a312 c313 => [Im.sl tyRowCell a312 c313 e315.cells, Im.sl tyRowCell a9 c10 r6.cells, Im.sl tyLaw09Act a_1 c_1 acts, Im.sl tyWideSpan (some ⟨0, 0, none⟩) 13 nones, Im.sl tyWideSpan (some ⟨1, 0, none⟩) 14 twos]) h.2.1 h.2.2) ?_ ?_
    · refine T.block ?_
      refine T.lp (η := (Option Addr × Nat)) (fun s216 h => (fun a212 c213 => [(0, .int .i64 w), (1, .slice a_1 acts.length c_1), (5, .pointer (some ⟨g12, 0, none⟩)), (6, .int .i64 s216.2)]) h.1 h.2) (fun s216 h => (fun a212 c213 => [Ch.box g12 26 [.slice a212 s216.1.cells.length c213, .bool s216.1.wrapped]]) h.1 h.2) (fun s216 h => (fun a212 c213 => [Im.sl tyRowCell a212 c213 s216.1.cells, Im.sl tyRowCell a9 c10 r6.cells, Im.sl tyLaw09Act a_1 c_1 acts, Im.sl tyWideSpan (some ⟨0, 0, none⟩) 13 nones, Im.sl tyWideSpan (some ⟨1, 0, none⟩) 14 twos]) h.1 h.2) (a9, c10) [0] [0, 0, 1, 2, 3] H316 ⟨rfl, rfl, rfl, rfl, trivial⟩ rfl rfl ?_
      rintro k s216 ⟨a212, c213⟩ z319 H318 hag320 hbr321
      refine T.seq ?_
      refine T.seq ?_
      obtain ⟨e325, H326, H327⟩ := bnd H318
      refine T.join (η := Unit × Unit) (fun h => True) (fun h => [(0, .int .i64 w), (1, .slice a_1 acts.length c_1), (5, .pointer (some ⟨g12, 0, none⟩)), (6, .int .i64 s216.2), (26, .bool e325)]) (fun h => [Ch.box g12 26 [.slice a212 s216.1.cells.length c213, .bool s216.1.wrapped]]) (fun h => [Im.sl tyRowCell a212 c213 s216.1.cells, Im.sl tyRowCell a9 c10 r6.cells, Im.sl tyLaw09Act a_1 c_1 acts, Im.sl tyWideSpan (some ⟨0, 0, none⟩) 13 nones, Im.sl tyWideSpan (some ⟨1, 0, none⟩) 14 twos]) ?_ ?_
      · refine T.region ?_
        refine L.q 5 rfl ?_
        refine L.cs 23 H326 rfl (fun hc H328 => ?_) (fun hc H328 => ?_)
        · refine L.q 3 rfl ?_
          refine L.nil ?_
          have hr := Option.some.inj H328
          subst e325
          exact E.give ((), ()) [0] [0, 1, 2, 3, 4] trivial ⟨rfl, rfl, rfl, rfl, rfl, trivial⟩ rfl rfl
        · refine L.q 3 rfl ?_
          refine L.nil ?_
          have hr := Option.some.inj H328
          subst e325
          exact E.give ((), ()) [0] [0, 1, 2, 3, 4] trivial ⟨rfl, rfl, rfl, rfl, rfl, trivial⟩ rfl rfl
      · rintro ⟨_, ⟨⟩⟩ _
        refine T.bif rfl H327 (fun hc H330 => ?_) (fun hc H330 => ?_)
        · refine T.skip ?_
          refine E.then ?_
          refine T.seq ?_
          obtain ⟨e387, H388, H389⟩ := bnd H330
          refine T.join (η := Unit × ((Option Addr × Nat))) (fun h => True) (fun h => (fun a384 c385 => [(0, .int .i64 w), (1, .slice a_1 acts.length c_1), (5, .pointer (some ⟨g12, 0, none⟩)), (6, .int .i64 s216.2)]) h.2.1 h.2.2) (fun h => (fun a384 c385 => [Ch.box g12 26 [.slice a384 e387.cells.length c385, .bool e387.wrapped]]) h.2.1 h.2.2) (fun h => (fun a384 c385 => [Im.sl tyRowCell a384 c385 e387.cells, Im.sl tyRowCell a212 c213 s216.1.cells, Im.sl tyRowCell a9 c10 r6.cells, Im.sl tyLaw09Act a_1 c_1 acts, Im.sl tyWideSpan (some ⟨0, 0, none⟩) 13 nones, Im.sl tyWideSpan (some ⟨1, 0, none⟩) 14 twos]) h.2.1 h.2.2) ?_ ?_
          · refine T.block ?_
            refine T.seq ?_
            refine T.region ?_
            refine L.q 2 rfl ?_
            obtain ⟨x390, h391, H392⟩ := bnd H388
            refine L.addr 2 rfl (idx_lt h391) fun b393 o394 e395 => ?_
            obtain rfl : a_1 = some ⟨b393, o394, none⟩ := e395
            refine L.y (Yl.ia h391 rfl rfl rfl rfl rfl rfl) rfl rfl rfl ?_
            refine L.el 2 rfl (idx_some h391).2 ?_
            rintro _
            refine L.y (Yl.ldc 0 0 rfl rfl rfl rfl) rfl rfl rfl ?_
            refine L.a [] [] (Ac.alloc rfl rfl) rfl rfl rfl rfl rfl ?_
            intro g397
            refine L.a [0] [] (Ac.stb rfl rfl rfl rfl rfl rfl) rfl rfl rfl rfl rfl ?_
            intro _
            refine L.nil ?_
            refine E.then ?_
            refine T.seq ?_
            obtain ⟨e401, H402, H403⟩ := bnd H392
            refine T.join (η := Unit × Unit) (fun h => True) (fun h => [(0, .int .i64 w), (1, .slice (some ⟨b393, o394, none⟩) acts.length c_1), (5, .pointer (some ⟨g12, 0, none⟩)), (6, .int .i64 s216.2), (7, .pointer (some ⟨g397, 0, none⟩)), (40, .bool e401)]) (fun h => [Ch.box g397 35 [.int .i64 x390.kind, .int .i64 x390.at_, .int .i64 x390.n, .int .i64 x390.style, .int .i32 x390.rune], Ch.box g12 26 [.slice a212 s216.1.cells.length c213, .bool s216.1.wrapped]]) (fun h => [Im.cells b393 (o394 + s216.2.toNat * 5) [.int .i64 x390.kind, .int .i64 x390.at_, .int .i64 x390.n, .int .i64 x390.style, .int .i32 x390.rune], Im.sl tyRowCell a212 c213 s216.1.cells, Im.sl tyRowCell a9 c10 r6.cells, Im.sl tyLaw09Act (some ⟨b393, o394, none⟩) c_1 acts, Im.sl tyWideSpan (some ⟨0, 0, none⟩) 13 nones, Im.sl tyWideSpan (some ⟨1, 0, none⟩) 14 twos]) ?_ ?_
            · refine T.region ?_
              refine L.q 1 rfl ?_
              refine L.y (Yl.ldb 0 rfl rfl rfl rfl) rfl rfl rfl ?_
              refine L.q 2 rfl ?_
              refine L.cs 36 H402 rfl (fun hc H404 => ?_) (fun hc H404 => ?_)
              · refine L.q 1 rfl ?_
                refine L.y (Yl.ldb 0 rfl rfl rfl rfl) rfl rfl rfl ?_
                refine L.q 2 rfl ?_
                refine L.nil ?_
                have hr := Option.some.inj H404
                subst e401
                exact E.give ((), ()) [0, 0] [0, 1, 2, 3, 4, 5] trivial ⟨rfl, rfl, rfl, rfl, rfl, rfl, trivial⟩ rfl rfl
              · refine L.q 4 rfl ?_
                refine L.nil ?_
                have hr := Option.some.inj H404
                subst e401
                exact E.give ((), ()) [0, 0] [0, 1, 2, 3, 4, 5] trivial ⟨rfl, rfl, rfl, rfl, rfl, rfl, trivial⟩ rfl rfl
            · rintro ⟨_, ⟨⟩⟩ _
              refine T.bif rfl H403 (fun hc H405 => ?_) (fun hc H405 => ?_)
              · refine T.region ?_
                refine L.y (Yl.ldb 1 rfl rfl rfl rfl) rfl rfl rfl ?_
                refine L.q 1 rfl ?_
                refine L.y (Yl.ldb 0 rfl rfl rfl rfl) rfl rfl rfl ?_
                refine L.know [Im.sl tyRef09Cell none 0 []] (fun A w _ _ f hf => by rw [List.mem_singleton.1 hf]; exact Im.sl_nil A w) ?_
                obtain ⟨r407, h408, H409⟩ := bnd H405
                refine L.a [] [2, 0, 5, 6] (Ac.call (c_law09_Do a212 c213 none 0 h408) rfl rfl rfl rfl) rfl rfl rfl rfl rfl ?_
                rintro ⟨⟨a410, c411⟩, ⟨a412, c413⟩⟩
                refine L.q 3 rfl ?_
                refine L.a [1] [] (Ac.stb rfl rfl rfl rfl rfl rfl) rfl rfl rfl rfl rfl ?_
                intro _
                refine L.nil ?_
                refine E.block ?_
                have hr := Option.some.inj H409
                subst e387
                exact E.give ((), (a410, c411)) [0] [0, 4, 5, 6, 7, 8] trivial ⟨rfl, rfl, rfl, rfl, trivial⟩ rfl rfl
              · refine T.skip ?_
                refine E.block ?_
                have hr := Option.some.inj H405
                subst e387
                exact E.give ((), (a212, c213)) [1] [1, 1, 2, 3, 4, 5] trivial ⟨rfl, rfl, rfl, rfl, trivial⟩ rfl rfl
          · rintro ⟨_, ⟨a384, c385⟩⟩ _
            refine T.region ?_
            refine L.q 3 rfl ?_
            refine L.nil ?_
            have hr := Option.some.inj H389
            subst z319
            exact E.give (_, (a384, c385)) [0] [0, 2, 3, 4, 5] (hag320 _ rfl) ⟨rfl, rfl, rfl, rfl, trivial⟩ rfl rfl
        · refine T.exit ?_
          refine E.then_exit' ?_
          refine E.then_exit' ?_
          refine E.block_here ?_
          have hr := Option.some.inj H330
          subst z319
          have hb := hbr321 _ rfl
          subst e315
          exact E.give ((), (a212, c213)) [0] [0, 1, 2, 3, 4] trivial ⟨rfl, rfl, trivial⟩ rfl rfl
    · rintro ⟨_, ⟨a312, c313⟩⟩ _
      refine T.seq ?_
      refine T.region ?_
      refine L.q 1 rfl ?_
      refine L.a [0] [] (Ac.stb rfl rfl rfl rfl rfl rfl) rfl rfl rfl rfl rfl ?_
      intro _
      refine L.nil ?_
      refine E.then ?_
      refine T.seq ?_
      refine T.region ?_
      refine L.q 1 rfl ?_
      refine L.nil ?_
      refine E.then ?_
      refine T.seq ?_
      refine T.seq ?_
      refine T.region ?_
      refine L.y (Yl.ldb 0 rfl rfl rfl rfl) rfl rfl rfl ?_
      obtain ⟨r416, h417, H418⟩ := bnd H317
      refine L.a [] [0] (Ac.call (c_row_Row_Glyphs a312 c313 h417) rfl rfl rfl rfl) rfl rfl rfl rfl rfl ?_
      rintro ⟨a419, c420⟩
      refine L.q 2 rfl ?_
      refine L.nil ?_
      refine E.then ?_
      obtain ⟨e490, H491, H492⟩ := bnd H418
      refine T.join (η := Unit × Unit) (fun h => True) (fun h => [(0, .int .i64 w), (5, .pointer (some ⟨g12, 0, none⟩)), (8, .int .i64 e490)]) (fun h => [Ch.box g12 26 [.slice a312 e315.cells.length c313, .bool true]]) (fun h => [Im.sl tyRowCell a312 c313 e315.cells, Im.sl tyRowCell a9 c10 r6.cells, Im.sl tyLaw09Act a_1 c_1 acts, Im.sl tyWideSpan (some ⟨0, 0, none⟩) 13 nones, Im.sl tyWideSpan (some ⟨1, 0, none⟩) 14 twos]) ?_ ?_
      · refine T.block ?_
        refine T.lp (η := Unit) (fun s468 h => [(0, .int .i64 w), (5, .pointer (some ⟨g12, 0, none⟩)), (8, .int .i64 s468.2), (50, .slice a419 r416.length c420), (51, .int .i64 (r416.length : Int)), (52, .int .i64 s468.1)]) (fun s468 h => [Ch.box g12 26 [.slice a312 e315.cells.length c313, .bool true], Ch.arr tyRowGlyph 45 a419 c420 r416]) (fun s468 h => [Im.sl tyRowCell a312 c313 e315.cells, Im.sl tyRowCell a9 c10 r6.cells, Im.sl tyLaw09Act a_1 c_1 acts, Im.sl tyWideSpan (some ⟨0, 0, none⟩) 13 nones, Im.sl tyWideSpan (some ⟨1, 0, none⟩) 14 twos]) () [1, 0] [0, 1, 2, 3, 4] H491 ⟨rfl, rfl, rfl, rfl, rfl, rfl, trivial⟩ rfl rfl ?_
        rintro k s468 ⟨⟩ z494 H493 hag495 hbr496
        refine T.seq ?_
        refine T.region ?_
        refine L.q 1 rfl ?_
        refine L.nil ?_
        refine E.then ?_
        refine T.seq ?_
        refine T.bif rfl H493 (fun hc H498 => ?_) (fun hc H498 => ?_)
        · refine T.skip ?_
          refine E.then ?_
          refine T.seq ?_
          refine T.block ?_
          refine T.seq ?_
          refine T.region ?_
          obtain ⟨x508, h509, H510⟩ := bnd H498
          refine L.addro 1 rfl (idx_lt h509) fun b511 e512 => ?_
          obtain rfl : a419 = some ⟨b511, 0, none⟩ := e512
          refine L.y (Yl.ia h509 rfl rfl rfl rfl rfl rfl) rfl rfl rfl ?_
          refine L.y (Yl.lo (v := .agg #[.int .i32 x508.rune, .int .i64 x508.style]) 1 s468.1.toNat 0 (idx_some h509).2 rfl rfl rfl rfl (fun _ => rfl)) rfl rfl rfl ?_
          refine L.a [] [] (Ac.alloc rfl rfl) rfl rfl rfl rfl rfl ?_
          intro g513
          refine L.a [0] [] (Ac.stb rfl rfl rfl rfl rfl rfl) rfl rfl rfl rfl rfl ?_
          intro _
          refine L.nil ?_
          refine E.then ?_
          refine T.region ?_
          refine L.q 2 rfl ?_
          refine L.y (Yl.ldb 0 rfl rfl rfl rfl) rfl rfl rfl ?_
          obtain ⟨r514, h515, H516⟩ := bnd H510
          refine L.a [] [3, 4] (Ac.call (c_wide_Of h515) rfl rfl rfl rfl) rfl rfl rfl rfl rfl ?_
          rintro ⟨⟩
          refine L.q 2 rfl ?_
          refine L.nil ?_
          refine E.block ?_
          refine E.then ?_
          refine T.region ?_
          refine L.q 2 rfl ?_
          refine L.nil ?_
          have hr := Option.some.inj H516
          subst z494
          exact E.give (_, ()) [1, 1] [0, 1, 2, 3, 4] (hag495 _ rfl) ⟨rfl, rfl, rfl, rfl, rfl, rfl, trivial⟩ rfl rfl
        · refine T.exit ?_
          refine E.then_exit' ?_
          refine E.then_exit' ?_
          refine E.block_here ?_
          have hr := Option.some.inj H498
          subst z494
          have hb := hbr496 _ rfl
          subst e490
          exact E.give ((), ()) [0] [0, 1, 2, 3, 4] trivial ⟨rfl, rfl, rfl, trivial⟩ rfl rfl
      · rintro ⟨_, ⟨⟩⟩ _
        refine T.seq ?_
        refine T.seq ?_
        refine T.region ?_
        refine L.q 4 rfl ?_
        refine L.nil ?_
        refine E.then ?_
        refine T.bif rfl H492 (fun hc H518 => ?_) (fun hc H518 => ?_)
        · refine T.seq ?_
          refine T.region ?_
          refine L.q 1 rfl ?_
          refine L.nil ?_
          refine E.then ?_
          refine T.ret ?_
          refine E.then_ret ?_
          have hr := Option.some.inj H518
          subst r
          exact E.ret () [] [] (.tmp rfl .nil) rfl rfl rfl
        · refine T.skip ?_
          refine E.then ?_
          refine T.seq ?_
          refine T.region ?_
          refine L.y (Yl.ldb 0 rfl rfl rfl rfl) rfl rfl rfl ?_
          obtain ⟨r519, h520, H521⟩ := bnd H518
          refine L.a [] [0] (Ac.call (c_row_Row_Fill a312 c313 h520) rfl rfl rfl rfl) rfl rfl rfl rfl rfl ?_
          rintro ⟨a522, c523⟩
          refine L.a [] [] (Ac.alloc rfl rfl) rfl rfl rfl rfl rfl ?_
          intro g525
          refine L.a [0] [] (Ac.stb rfl rfl rfl rfl rfl rfl) rfl rfl rfl rfl rfl ?_
          intro _
          refine L.nil ?_
          refine E.then ?_
          refine T.seq ?_
          refine T.region ?_
          refine L.q 1 rfl ?_
          refine L.nil ?_
          refine E.then ?_
          refine T.seq ?_
          refine T.seq ?_
          refine T.region ?_
          refine L.y (Yl.ldb 0 rfl rfl rfl rfl) rfl rfl rfl ?_
          obtain ⟨r526, h527, H528⟩ := bnd H521
          refine L.a [] [0] (Ac.call (c_row_Row_Glyphs a522 c523 h527) rfl rfl rfl rfl) rfl rfl rfl rfl rfl ?_
          rintro ⟨a529, c530⟩
          refine L.q 2 rfl ?_
          refine L.nil ?_
          refine E.then ?_
          obtain ⟨e600, H601, H602⟩ := bnd H528
          refine T.join (η := Unit × Unit) (fun h => True) (fun h => [(0, .int .i64 w), (8, .int .i64 e600)]) (fun h => [Ch.box g525 26 [.slice a522 r519.cells.length c523, .bool r519.wrapped], Ch.box g12 26 [.slice a312 e315.cells.length c313, .bool true]]) (fun h => [Im.sl tyRowCell a522 c523 r519.cells, Im.sl tyRowCell a312 c313 e315.cells, Im.sl tyRowCell a9 c10 r6.cells, Im.sl tyLaw09Act a_1 c_1 acts, Im.sl tyWideSpan (some ⟨0, 0, none⟩) 13 nones, Im.sl tyWideSpan (some ⟨1, 0, none⟩) 14 twos]) ?_ ?_
          · refine T.block ?_
            refine T.lp (η := Unit) (fun s578 h => [(0, .int .i64 w), (8, .int .i64 s578.2), (69, .slice a529 r526.length c530), (70, .int .i64 (r526.length : Int)), (71, .int .i64 s578.1)]) (fun s578 h => [Ch.box g525 26 [.slice a522 r519.cells.length c523, .bool r519.wrapped], Ch.box g12 26 [.slice a312 e315.cells.length c313, .bool true], Ch.arr tyRowGlyph 45 a529 c530 r526]) (fun s578 h => [Im.sl tyRowCell a522 c523 r519.cells, Im.sl tyRowCell a312 c313 e315.cells, Im.sl tyRowCell a9 c10 r6.cells, Im.sl tyLaw09Act a_1 c_1 acts, Im.sl tyWideSpan (some ⟨0, 0, none⟩) 13 nones, Im.sl tyWideSpan (some ⟨1, 0, none⟩) 14 twos]) () [1, 1, 0] [0, 1, 2, 3, 4, 5] H601 ⟨rfl, rfl, rfl, rfl, rfl, trivial⟩ rfl rfl ?_
            rintro k s578 ⟨⟩ z604 H603 hag605 hbr606
            refine T.seq ?_
            refine T.region ?_
            refine L.q 1 rfl ?_
            refine L.nil ?_
            refine E.then ?_
            refine T.seq ?_
            refine T.bif rfl H603 (fun hc H608 => ?_) (fun hc H608 => ?_)
            · refine T.skip ?_
              refine E.then ?_
              refine T.seq ?_
              refine T.block ?_
              refine T.seq ?_
              refine T.region ?_
              obtain ⟨x618, h619, H620⟩ := bnd H608
              refine L.addro 2 rfl (idx_lt h619) fun b621 e622 => ?_
              obtain rfl : a529 = some ⟨b621, 0, none⟩ := e622
              refine L.y (Yl.ia h619 rfl rfl rfl rfl rfl rfl) rfl rfl rfl ?_
              refine L.y (Yl.lo (v := .agg #[.int .i32 x618.rune, .int .i64 x618.style]) 2 s578.1.toNat 0 (idx_some h619).2 rfl rfl rfl rfl (fun _ => rfl)) rfl rfl rfl ?_
              refine L.a [] [] (Ac.alloc rfl rfl) rfl rfl rfl rfl rfl ?_
              intro g623
              refine L.a [0] [] (Ac.stb rfl rfl rfl rfl rfl rfl) rfl rfl rfl rfl rfl ?_
              intro _
              refine L.nil ?_
              refine E.then ?_
              refine T.region ?_
              refine L.q 2 rfl ?_
              refine L.y (Yl.ldb 0 rfl rfl rfl rfl) rfl rfl rfl ?_
              obtain ⟨r624, h625, H626⟩ := bnd H620
              refine L.a [] [4, 5] (Ac.call (c_wide_Of h625) rfl rfl rfl rfl) rfl rfl rfl rfl rfl ?_
              rintro ⟨⟩
              refine L.q 2 rfl ?_
              refine L.nil ?_
              refine E.block ?_
              refine E.then ?_
              refine T.region ?_
              refine L.q 2 rfl ?_
              refine L.nil ?_
              have hr := Option.some.inj H626
              subst z604
              exact E.give (_, ()) [1, 1, 1] [0, 1, 2, 3, 4, 5] (hag605 _ rfl) ⟨rfl, rfl, rfl, rfl, rfl, trivial⟩ rfl rfl
            · refine T.exit ?_
              refine E.then_exit' ?_
              refine E.then_exit' ?_
              refine E.block_here ?_
              have hr := Option.some.inj H608
              subst z604
              have hb := hbr606 _ rfl
              subst e600
              exact E.give ((), ()) [0, 0] [0, 1, 2, 3, 4, 5] trivial ⟨rfl, rfl, trivial⟩ rfl rfl
          · rintro ⟨_, ⟨⟩⟩ _
            refine T.seq ?_
            refine T.region ?_
            refine L.q 7 rfl ?_
            refine L.nil ?_
            refine E.then ?_
            refine T.ret ?_
            have hr := Option.some.inj H602
            subst r
            exact E.ret () [] [] (.tmp rfl .nil) rfl rfl rfl

end Go.Tw.Rw

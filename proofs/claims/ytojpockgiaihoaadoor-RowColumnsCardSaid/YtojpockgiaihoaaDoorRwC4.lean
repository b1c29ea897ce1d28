import Derived.Test.YtojpockgiaihoaaDoorRwC3
set_option linter.unusedVariables false
set_option linter.unusedSimpArgs false
set_option maxRecDepth 10000
namespace Go.Tw.Rw
open Go Go.Tw
theorem c_slices_Equal_row_Cell (a_0 : Option Addr) (c_0 : Nat) (a_1 : Option Addr) (c_1 : Nat) {s1_ : List RowCell} {s2_ : List RowCell} {r : Bool} (H : p_slices_Equal_row_Cell s1_ s2_ = some r) : CT G 60 [.slice a_0 s1_.length c_0, .slice a_1 s2_.length c_1] [] [Im.sl tyRowCell a_0 c_0 s1_, Im.sl tyRowCell a_1 c_1 s2_] (fun h : Unit => .bool r) (fun h => []) (fun h => []) := by
  delta p_slices_Equal_row_Cell at H
  refine CT.of Go.Proofs.Tryd.func60 (by kernel_rfl) rfl rfl fun K => ?_
  refine T.seq ?_
  refine T.region ?_
  refine L.q 1 rfl ?_
  refine L.nil ?_
  refine E.then ?_
  refine T.seq ?_
  refine T.seq ?_
  refine T.region ?_
  refine L.q 5 rfl ?_
  refine L.nil ?_
  refine E.then ?_
  refine T.bif rfl H (fun hc H2 => ?_) (fun hc H2 => ?_)
  · refine T.seq ?_
    refine T.region ?_
    refine L.q 1 rfl ?_
    refine L.nil ?_
    refine E.then ?_
    refine T.ret ?_
    refine E.then_ret ?_
    have hr := Option.some.inj H2
    subst r
    exact E.ret () [] [] (.tmp rfl .nil) rfl rfl rfl
  · refine T.skip ?_
    refine E.then ?_
    refine T.seq ?_
    refine T.seq ?_
    refine T.region ?_
    refine L.q 3 rfl ?_
    refine L.nil ?_
    refine E.then ?_
    obtain ⟨y356, H357, H358⟩ := bnd H2
    refine T.join (η := Unit × Unit) (fun h => y356 = .inl h.1) (fun h => (fun e355 => []) h.1) (fun h => (fun e355 => []) h.1) (fun h => (fun e355 => [Im.sl tyRowCell a_0 c_0 s1_, Im.sl tyRowCell a_1 c_1 s2_]) h.1) ?_ ?_
    · refine T.block ?_
      refine T.lp (η := Unit) (fun s238 h => [(0, .slice a_0 s1_.length c_0), (1, .slice a_1 s2_.length c_1), (12, .int .i64 (s1_.length : Int)), (13, .int .i64 s238)]) (fun s238 h => []) (fun s238 h => [Im.sl tyRowCell a_0 c_0 s1_, Im.sl tyRowCell a_1 c_1 s2_]) () [] [0, 1] H357 ⟨rfl, rfl, rfl, rfl, trivial⟩ rfl rfl ?_
      rintro k s238 ⟨⟩ z360 H359 hag361 hbr362
      refine T.seq ?_
      refine T.region ?_
      refine L.q 1 rfl ?_
      refine L.nil ?_
      refine E.then ?_
      refine T.seq ?_
      refine T.bif rfl H359 (fun hc H364 => ?_) (fun hc H364 => ?_)
      · refine T.skip ?_
        refine E.then ?_
        refine T.seq ?_
        refine T.block ?_
        refine T.seq ?_
        refine T.region ?_
        refine L.q 2 rfl ?_
        refine L.nil ?_
        refine E.then ?_
        refine T.seq ?_
        refine T.draw [] [] mo rfl ?_
        refine D.q 0 rfl rfl rfl rfl rfl rfl ?_
        refine D.q 1 rfl rfl rfl rfl rfl rfl ?_
        obtain ⟨x464, h465, H466⟩ := bnd H364
        refine D.addr 0 rfl (idx_lt h465) fun b467 o468 e469 => ?_
        obtain rfl : a_0 = some ⟨b467, o468, none⟩ := e469
        refine D.y 2 (Yl.ia h465 rfl rfl rfl rfl rfl rfl) rfl rfl rfl rfl rfl rfl ?_
        refine D.el 0 rfl (idx_some h465).2 ?_
        rintro _
        refine D.y 3 (Yl.ldc 0 0 rfl rfl rfl rfl) rfl rfl rfl rfl rfl rfl ?_
        refine D.q 4 rfl rfl rfl rfl rfl rfl ?_
        refine D.q 5 rfl rfl rfl rfl rfl rfl ?_
        obtain ⟨x471, h472, H473⟩ := bnd H466
        refine D.addr 2 rfl (idx_lt h472) fun b474 o475 e476 => ?_
        obtain rfl : a_1 = some ⟨b474, o475, none⟩ := e476
        refine D.y 6 (Yl.ia h472 rfl rfl rfl rfl rfl rfl) rfl rfl rfl rfl rfl rfl ?_
        refine D.el 2 rfl (idx_some h472).2 ?_
        rintro _
        refine D.y 7 (Yl.ldc 0 0 rfl rfl rfl rfl) rfl rfl rfl rfl rfl rfl ?_
        refine D.q 8 rfl rfl rfl rfl rfl rfl ?_
        refine D.nil rfl rfl ?_
        refine E.then ?_
        refine T.bif rfl H473 (fun hc H478 => ?_) (fun hc H478 => ?_)
        · refine T.seq ?_
          refine T.region ?_
          refine L.q 1 rfl ?_
          refine L.nil ?_
          refine E.then ?_
          refine T.ret ?_
          refine E.block_ret ?_
          refine E.then_ret ?_
          refine E.then_ret ?_
          refine E.block_ret ?_
          obtain ⟨w479, hz, H480⟩ := inrr_some H478
          subst z360
          have hb := hbr362 _ rfl
          subst y356
          have hw : w479 = r := Option.some.inj H358
          subst w479
          refine E.then_ret ?_
          have hr := Option.some.inj H480
          subst r
          exact E.ret () [] [] (.tmp rfl .nil) rfl rfl rfl
        · refine T.skip ?_
          refine E.block ?_
          refine E.then ?_
          refine T.region ?_
          refine L.q 2 rfl ?_
          refine L.nil ?_
          have hr := Option.some.inj H478
          subst z360
          exact E.give (_, ()) [] [2, 3] (hag361 _ rfl) ⟨rfl, rfl, rfl, rfl, trivial⟩ rfl rfl
      · refine T.exit ?_
        refine E.then_exit' ?_
        refine E.then_exit' ?_
        refine E.block_here ?_
        have hr := Option.some.inj H364
        subst z360
        have hb := hbr362 _ rfl
        subst y356
        exact E.give (_, ()) [] [0, 1] rfl trivial rfl rfl
    · rintro ⟨e355, ⟨⟩⟩ hy
      subst hy
      refine T.seq ?_
      refine T.region ?_
      refine L.q 1 rfl ?_
      refine L.nil ?_
      refine E.then ?_
      refine T.ret ?_
      have hr := Option.some.inj H358
      subst r
      exact E.ret () [] [] (.tmp rfl .nil) rfl rfl rfl

theorem c_row_Row_Same (a_0_0 : Option Addr) (c_0_0 : Nat) (a_1_0 : Option Addr) (c_1_0 : Nat) {r_ : RowRow} {q : RowRow} {r : Bool} (H : p_row_Row_Same r_ q = some r) : CT G 27 [.agg #[.slice a_0_0 r_.cells.length c_0_0, .bool r_.wrapped], .agg #[.slice a_1_0 q.cells.length c_1_0, .bool q.wrapped]] [] [Im.sl tyRowCell a_0_0 c_0_0 r_.cells, Im.sl tyRowCell a_1_0 c_1_0 q.cells] (fun h : Unit => .bool r) (fun h => []) (fun h => []) := by
  delta p_row_Row_Same at H
  refine CT.of Go.Proofs.Tryd.func27 (by kernel_rfl) rfl rfl fun K => ?_
  refine T.seq ?_
  refine T.region ?_
  refine L.a [] [] (Ac.box rfl rfl) rfl rfl rfl rfl rfl ?_
  intro g1
  refine L.a [] [] (Ac.box rfl rfl) rfl rfl rfl rfl rfl ?_
  intro g2
  refine L.q 1 rfl ?_
  refine L.nil ?_
  refine E.then ?_
  refine T.seq ?_
  obtain ⟨e12, H13, H14⟩ := bnd H
  refine T.join (η := Unit × Unit) (fun h => True) (fun h => [(4, .bool e12)]) (fun h => [Ch.box g2 26 [.slice a_1_0 q.cells.length c_1_0, .bool q.wrapped], Ch.box g1 26 [.slice a_0_0 r_.cells.length c_0_0, .bool r_.wrapped]]) (fun h => [Im.sl tyRowCell a_0_0 c_0_0 r_.cells, Im.sl tyRowCell a_1_0 c_1_0 q.cells]) ?_ ?_
  · refine T.region ?_
    refine L.q 1 rfl ?_
    refine L.y (Yl.ldb 1 rfl rfl rfl rfl) rfl rfl rfl ?_
    refine L.q 1 rfl ?_
    refine L.y (Yl.ldb 0 rfl rfl rfl rfl) rfl rfl rfl ?_
    refine L.q 2 rfl ?_
    refine L.cs 10 H13 rfl (fun hc H15 => ?_) (fun hc H15 => ?_)
    · refine L.q 1 rfl ?_
      refine L.y (Yl.ldb 1 rfl rfl rfl rfl) rfl rfl rfl ?_
      refine L.q 1 rfl ?_
      refine L.y (Yl.ldb 0 rfl rfl rfl rfl) rfl rfl rfl ?_
      obtain ⟨r16, h17, H18⟩ := bnd H15
      refine L.a [] [0, 1] (Ac.call (c_slices_Equal_row_Cell a_0_0 c_0_0 a_1_0 c_1_0 h17) rfl rfl rfl rfl) rfl rfl rfl rfl rfl ?_
      rintro ⟨⟩
      refine L.q 2 rfl ?_
      refine L.nil ?_
      have hr := Option.some.inj H18
      subst e12
      exact E.give ((), ()) [0, 0] [0, 1] trivial ⟨rfl, trivial⟩ rfl rfl
    · refine L.q 7 rfl ?_
      refine L.nil ?_
      have hr := Option.some.inj H15
      subst e12
      exact E.give ((), ()) [0, 0] [0, 1] trivial ⟨rfl, trivial⟩ rfl rfl
  · rintro ⟨_, ⟨⟩⟩ _
    refine T.ret ?_
    have hr := Option.some.inj H14
    subst r
    exact E.ret () [] [] (.tmp rfl .nil) rfl rfl rfl

theorem c_law09_RowLength (a_0 : Option Addr) (c_0 : Nat) {l : List RowCell} {wrapped : Bool} {a : Law09Act} {r : Bool} (H : p_law09_RowLength l wrapped a = some r) : CT G 6 [.slice a_0 l.length c_0, .bool wrapped, .agg #[.int .i64 a.kind, .int .i64 a.at_, .int .i64 a.n, .int .i64 a.style, .int .i32 a.rune]] [] [Im.sl tyRowCell a_0 c_0 l, Im.sl tyWideSpan (some ⟨0, 0, none⟩) 13 nones, Im.sl tyWideSpan (some ⟨1, 0, none⟩) 14 twos] (fun h : Unit => .bool r) (fun h => []) (fun h => []) := by
  delta p_law09_RowLength at H
  refine CT.of Go.Proofs.Tryd.func6 (by kernel_rfl) rfl rfl fun K => ?_
  refine T.seq ?_
  refine T.region ?_
  refine L.a [] [] (Ac.box rfl rfl) rfl rfl rfl rfl rfl ?_
  intro g1
  refine L.q 1 rfl ?_
  refine L.nil ?_
  refine E.then ?_
  refine T.seq ?_
  refine T.seq ?_
  refine T.region ?_
  obtain ⟨r2, h3, H4⟩ := bnd H
  refine L.a [] [1, 2] (Ac.call (c_law09_awake h3) rfl rfl rfl rfl) rfl rfl rfl rfl rfl ?_
  rintro ⟨⟩
  refine L.q 1 rfl ?_
  refine L.nil ?_
  refine E.then ?_
  refine T.bif rfl H4 (fun hc H6 => ?_) (fun hc H6 => ?_)
  · refine T.seq ?_
    refine T.region ?_
    refine L.q 1 rfl ?_
    refine L.nil ?_
    refine E.then ?_
    refine T.ret ?_
    refine E.then_ret ?_
    have hr := Option.some.inj H6
    subst r
    exact E.ret () [] [] (.tmp rfl .nil) rfl rfl rfl
  · refine T.skip ?_
    refine E.then ?_
    refine T.seq ?_
    refine T.region ?_
    refine L.q 2 rfl ?_
    obtain ⟨r7, h8, H9⟩ := bnd H6
    refine L.a [] [0] (Ac.call (c_law09_Any a_0 c_0 h8) rfl rfl rfl rfl) rfl rfl rfl rfl rfl ?_
    rintro ⟨a10, c11⟩
    refine L.a [] [] (Ac.alloc rfl rfl) rfl rfl rfl rfl rfl ?_
    intro g13
    refine L.a [0] [] (Ac.stb rfl rfl rfl rfl rfl rfl) rfl rfl rfl rfl rfl ?_
    intro _
    refine L.nil ?_
    refine E.then ?_
    refine T.seq ?_
    refine T.region ?_
    refine L.q 1 rfl ?_
    refine L.y (Yl.ldb 0 rfl rfl rfl rfl) rfl rfl rfl ?_
    refine L.q 2 rfl ?_
    refine L.nil ?_
    refine E.then ?_
    refine T.seq ?_
    refine T.region ?_
    refine L.y (Yl.ldb 0 rfl rfl rfl rfl) rfl rfl rfl ?_
    refine L.q 2 rfl ?_
    refine L.y (Yl.ldb 1 rfl rfl rfl rfl) rfl rfl rfl ?_
    obtain ⟨r14, h15, H16⟩ := bnd H9
    refine L.a [] [0] (Ac.call (c_row_Row_Erase a10 c11 h15) rfl rfl rfl rfl) rfl rfl rfl rfl rfl ?_
    rintro ⟨a17, c18⟩
    refine L.a [] [] (Ac.alloc rfl rfl) rfl rfl rfl rfl rfl ?_
    intro g20
    refine L.a [0] [] (Ac.stb rfl rfl rfl rfl rfl rfl) rfl rfl rfl rfl rfl ?_
    intro _
    refine L.nil ?_
    refine E.then ?_
    refine T.seq ?_
    obtain ⟨e198, H199, H200⟩ := bnd H16
    refine T.join (η := Unit × Unit) (fun h => True) (fun h => [(6, .bool e198)]) (fun h => [Ch.box g20 26 [.slice a17 r14.cells.length c18, .bool r14.wrapped], Ch.box g13 26 [.slice a10 r7.cells.length c11, .bool r7.wrapped], Ch.box g1 35 [.int .i64 a.kind, .int .i64 a.at_, .int .i64 a.n, .int .i64 a.style, .int .i32 a.rune]]) (fun h => [Im.sl tyRowCell a17 c18 r14.cells, Im.sl tyRowCell a10 c11 r7.cells, Im.sl tyRowCell a_0 c_0 l, Im.sl tyWideSpan (some ⟨0, 0, none⟩) 13 nones, Im.sl tyWideSpan (some ⟨1, 0, none⟩) 14 twos]) ?_ ?_
    · refine T.drawa rfl [] [0, 0, 0] mo rfl ?_
      refine D.y 0 (Yl.ldb 1 rfl rfl rfl rfl) rfl rfl rfl rfl rfl rfl ?_
      refine D.q 1 rfl rfl rfl rfl rfl rfl ?_
      refine D.y 2 (Yl.ldb 2 rfl rfl rfl rfl) rfl rfl rfl rfl rfl rfl ?_
      refine D.q 3 rfl rfl rfl rfl rfl rfl ?_
      refine D.y 4 (Yl.ldb 2 rfl rfl rfl rfl) rfl rfl rfl rfl rfl rfl ?_
      refine D.q 5 rfl rfl rfl rfl rfl rfl ?_
      refine D.y 6 (Yl.ldb 2 rfl rfl rfl rfl) rfl rfl rfl rfl rfl rfl ?_
      refine D.q 10 rfl rfl rfl rfl rfl rfl ?_
      obtain ⟨r245, h246, H247⟩ := bnd H199
      refine D.one rfl rfl rfl (Dp.a [] [1, 3, 4] (Ac.call (c_row_Row_Put a10 c11 h246) rfl rfl rfl rfl) rfl rfl rfl rfl rfl rfl ?_)
      rintro ⟨a248, c249⟩
      refine D.q 8 rfl rfl rfl rfl rfl rfl ?_
      refine D.q 9 rfl rfl rfl rfl rfl rfl ?_
      refine D.q 11 rfl rfl rfl rfl rfl rfl ?_
      refine D.q 12 rfl rfl rfl rfl rfl rfl ?_
      refine D.cs 35 H247 rfl (fun hc H251 => ?_) (fun hc H251 => ?_)
      · refine D.y 13 (Yl.ldb 1 rfl rfl rfl rfl) rfl rfl rfl rfl rfl rfl ?_
        refine D.q 14 rfl rfl rfl rfl rfl rfl ?_
        refine D.y 15 (Yl.ldb 2 rfl rfl rfl rfl) rfl rfl rfl rfl rfl rfl ?_
        refine D.q 16 rfl rfl rfl rfl rfl rfl ?_
        refine D.y 17 (Yl.ldb 2 rfl rfl rfl rfl) rfl rfl rfl rfl rfl rfl ?_
        refine D.q 18 rfl rfl rfl rfl rfl rfl ?_
        refine D.y 19 (Yl.ldb 2 rfl rfl rfl rfl) rfl rfl rfl rfl rfl rfl ?_
        refine D.q 23 rfl rfl rfl rfl rfl rfl ?_
        obtain ⟨r252, h253, H254⟩ := bnd H251
        refine D.one rfl rfl rfl (Dp.a [] [2] (Ac.call (c_row_Row_Erase a10 c11 h253) rfl rfl rfl rfl) rfl rfl rfl rfl rfl rfl ?_)
        rintro ⟨a255, c256⟩
        refine D.q 21 rfl rfl rfl rfl rfl rfl ?_
        refine D.q 22 rfl rfl rfl rfl rfl rfl ?_
        refine D.q 24 rfl rfl rfl rfl rfl rfl ?_
        refine D.q 25 rfl rfl rfl rfl rfl rfl ?_
        refine D.q 26 rfl rfl rfl rfl rfl rfl ?_
        refine D.cs 49 H254 rfl (fun hc H258 => ?_) (fun hc H258 => ?_)
        · refine D.y 27 (Yl.ldb 1 rfl rfl rfl rfl) rfl rfl rfl rfl rfl rfl ?_
          refine D.q 28 rfl rfl rfl rfl rfl rfl ?_
          refine D.y 29 (Yl.ldb 2 rfl rfl rfl rfl) rfl rfl rfl rfl rfl rfl ?_
          refine D.q 30 rfl rfl rfl rfl rfl rfl ?_
          refine D.y 31 (Yl.ldb 2 rfl rfl rfl rfl) rfl rfl rfl rfl rfl rfl ?_
          refine D.q 32 rfl rfl rfl rfl rfl rfl ?_
          refine D.y 33 (Yl.ldb 2 rfl rfl rfl rfl) rfl rfl rfl rfl rfl rfl ?_
          refine D.q 37 rfl rfl rfl rfl rfl rfl ?_
          obtain ⟨r259, h260, H261⟩ := bnd H258
          refine D.one rfl rfl rfl (Dp.a [] [3] (Ac.call (c_row_Row_Insert a10 c11 h260) rfl rfl rfl rfl) rfl rfl rfl rfl rfl rfl ?_)
          rintro ⟨a262, c263⟩
          refine D.q 35 rfl rfl rfl rfl rfl rfl ?_
          refine D.q 36 rfl rfl rfl rfl rfl rfl ?_
          refine D.q 38 rfl rfl rfl rfl rfl rfl ?_
          refine D.q 39 rfl rfl rfl rfl rfl rfl ?_
          refine D.q 40 rfl rfl rfl rfl rfl rfl ?_
          refine D.cs 63 H261 rfl (fun hc H265 => ?_) (fun hc H265 => ?_)
          · refine D.y 41 (Yl.ldb 1 rfl rfl rfl rfl) rfl rfl rfl rfl rfl rfl ?_
            refine D.q 42 rfl rfl rfl rfl rfl rfl ?_
            refine D.y 43 (Yl.ldb 2 rfl rfl rfl rfl) rfl rfl rfl rfl rfl rfl ?_
            refine D.q 44 rfl rfl rfl rfl rfl rfl ?_
            refine D.y 45 (Yl.ldb 2 rfl rfl rfl rfl) rfl rfl rfl rfl rfl rfl ?_
            refine D.q 46 rfl rfl rfl rfl rfl rfl ?_
            refine D.y 47 (Yl.ldb 2 rfl rfl rfl rfl) rfl rfl rfl rfl rfl rfl ?_
            refine D.q 51 rfl rfl rfl rfl rfl rfl ?_
            obtain ⟨r266, h267, H268⟩ := bnd H265
            refine D.one rfl rfl rfl (Dp.a [] [4] (Ac.call (c_row_Row_Delete a10 c11 h267) rfl rfl rfl rfl) rfl rfl rfl rfl rfl rfl ?_)
            rintro ⟨a269, c270⟩
            refine D.q 49 rfl rfl rfl rfl rfl rfl ?_
            refine D.q 50 rfl rfl rfl rfl rfl rfl ?_
            refine D.q 52 rfl rfl rfl rfl rfl rfl ?_
            refine D.q 53 rfl rfl rfl rfl rfl rfl ?_
            refine D.q 54 rfl rfl rfl rfl rfl rfl ?_
            refine D.cs 77 H268 rfl (fun hc H272 => ?_) (fun hc H272 => ?_)
            · refine D.y 55 (Yl.ldb 1 rfl rfl rfl rfl) rfl rfl rfl rfl rfl rfl ?_
              refine D.q 56 rfl rfl rfl rfl rfl rfl ?_
              refine D.y 57 (Yl.ldb 2 rfl rfl rfl rfl) rfl rfl rfl rfl rfl rfl ?_
              refine D.q 61 rfl rfl rfl rfl rfl rfl ?_
              obtain ⟨r273, h274, H275⟩ := bnd H272
              refine D.one rfl rfl rfl (Dp.a [] [5] (Ac.call (c_row_Row_Fill a10 c11 h274) rfl rfl rfl rfl) rfl rfl rfl rfl rfl rfl ?_)
              rintro ⟨a276, c277⟩
              refine D.q 59 rfl rfl rfl rfl rfl rfl ?_
              refine D.q 60 rfl rfl rfl rfl rfl rfl ?_
              refine D.q 62 rfl rfl rfl rfl rfl rfl ?_
              refine D.q 63 rfl rfl rfl rfl rfl rfl ?_
              refine D.q 64 rfl rfl rfl rfl rfl rfl ?_
              refine D.cs 87 H275 rfl (fun hc H279 => ?_) (fun hc H279 => ?_)
              · refine D.y 65 (Yl.ldb 0 rfl rfl rfl rfl) rfl rfl rfl rfl rfl rfl ?_
                refine D.q 66 rfl rfl rfl rfl rfl rfl ?_
                refine D.q 67 rfl rfl rfl rfl rfl rfl ?_
                refine D.y 68 (Yl.ldb 2 rfl rfl rfl rfl) rfl rfl rfl rfl rfl rfl ?_
                obtain ⟨r280, h281, H282⟩ := bnd H279
                refine D.one rfl rfl rfl (Dp.a [] [] (Ac.call (c_row_Blank h281) rfl rfl rfl rfl) rfl rfl rfl rfl rfl rfl ?_)
                rintro ⟨a283, c284⟩
                obtain ⟨r286, h287, H288⟩ := bnd H282
                refine D.one rfl rfl rfl (Dp.a [] [6, 0] (Ac.call (c_row_Row_Same a17 c18 a283 c284 h287) rfl rfl rfl rfl) rfl rfl rfl rfl rfl rfl ?_)
                rintro ⟨⟩
                refine D.q 71 rfl rfl rfl rfl rfl rfl ?_
                refine D.q 72 rfl rfl rfl rfl rfl rfl ?_
                refine D.nil rfl rfl ?_
                have hr := Option.some.inj H288
                subst e198
                exact E.give ((), ()) [0, 0, 0] [6, 7, 8, 9, 10] trivial ⟨rfl, trivial⟩ rfl rfl
              · refine D.sk 65 rfl rfl rfl rfl rfl ?_
                refine D.sk 66 rfl rfl rfl rfl rfl ?_
                refine D.sk 67 rfl rfl rfl rfl rfl ?_
                refine D.sk 68 rfl rfl rfl rfl rfl ?_
                refine D.sk 69 rfl rfl rfl rfl rfl ?_
                refine D.sk 70 rfl rfl rfl rfl rfl ?_
                refine D.q 71 rfl rfl rfl rfl rfl rfl ?_
                refine D.q 72 rfl rfl rfl rfl rfl rfl ?_
                refine D.nil rfl rfl ?_
                have hr := Option.some.inj H279
                subst e198
                exact E.give ((), ()) [0, 0, 0] [5, 6, 7, 8, 9] trivial ⟨rfl, trivial⟩ rfl rfl
            · refine D.sk 55 rfl rfl rfl rfl rfl ?_
              refine D.sk 56 rfl rfl rfl rfl rfl ?_
              refine D.sk 57 rfl rfl rfl rfl rfl ?_
              refine D.sk 58 rfl rfl rfl rfl rfl ?_
              refine D.sk 59 rfl rfl rfl rfl rfl ?_
              refine D.sk 60 rfl rfl rfl rfl rfl ?_
              refine D.sk 61 rfl rfl rfl rfl rfl ?_
              refine D.sk 62 rfl rfl rfl rfl rfl ?_
              refine D.q 63 rfl rfl rfl rfl rfl rfl ?_
              refine D.q 64 rfl rfl rfl rfl rfl rfl ?_
              refine D.sk 65 rfl rfl rfl rfl rfl ?_
              refine D.sk 66 rfl rfl rfl rfl rfl ?_
              refine D.sk 67 rfl rfl rfl rfl rfl ?_
              refine D.sk 68 rfl rfl rfl rfl rfl ?_
              refine D.sk 69 rfl rfl rfl rfl rfl ?_
              refine D.sk 70 rfl rfl rfl rfl rfl ?_
              refine D.q 71 rfl rfl rfl rfl rfl rfl ?_
              refine D.q 72 rfl rfl rfl rfl rfl rfl ?_
              refine D.nil rfl rfl ?_
              have hr := Option.some.inj H272
              subst e198
              exact E.give ((), ()) [0, 0, 0] [4, 5, 6, 7, 8] trivial ⟨rfl, trivial⟩ rfl rfl
          · refine D.sk 41 rfl rfl rfl rfl rfl ?_
            refine D.sk 42 rfl rfl rfl rfl rfl ?_
            refine D.sk 43 rfl rfl rfl rfl rfl ?_
            refine D.sk 44 rfl rfl rfl rfl rfl ?_
            refine D.sk 45 rfl rfl rfl rfl rfl ?_
            refine D.sk 46 rfl rfl rfl rfl rfl ?_
            refine D.sk 47 rfl rfl rfl rfl rfl ?_
            refine D.sk 48 rfl rfl rfl rfl rfl ?_
            refine D.sk 49 rfl rfl rfl rfl rfl ?_
            refine D.sk 50 rfl rfl rfl rfl rfl ?_
            refine D.sk 51 rfl rfl rfl rfl rfl ?_
            refine D.sk 52 rfl rfl rfl rfl rfl ?_
            refine D.q 53 rfl rfl rfl rfl rfl rfl ?_
            refine D.q 54 rfl rfl rfl rfl rfl rfl ?_
            refine D.sk 55 rfl rfl rfl rfl rfl ?_
            refine D.sk 56 rfl rfl rfl rfl rfl ?_
            refine D.sk 57 rfl rfl rfl rfl rfl ?_
            refine D.sk 58 rfl rfl rfl rfl rfl ?_
            refine D.sk 59 rfl rfl rfl rfl rfl ?_
            refine D.sk 60 rfl rfl rfl rfl rfl ?_
            refine D.sk 61 rfl rfl rfl rfl rfl ?_
            refine D.sk 62 rfl rfl rfl rfl rfl ?_
            refine D.q 63 rfl rfl rfl rfl rfl rfl ?_
            refine D.q 64 rfl rfl rfl rfl rfl rfl ?_
            refine D.sk 65 rfl rfl rfl rfl rfl ?_
            refine D.sk 66 rfl rfl rfl rfl rfl ?_
            refine D.sk 67 rfl rfl rfl rfl rfl ?_
            refine D.sk 68 rfl rfl rfl rfl rfl ?_
            refine D.sk 69 rfl rfl rfl rfl rfl ?_
            refine D.sk 70 rfl rfl rfl rfl rfl ?_
            refine D.q 71 rfl rfl rfl rfl rfl rfl ?_
            refine D.q 72 rfl rfl rfl rfl rfl rfl ?_
            refine D.nil rfl rfl ?_
            have hr := Option.some.inj H265
            subst e198
            exact E.give ((), ()) [0, 0, 0] [3, 4, 5, 6, 7] trivial ⟨rfl, trivial⟩ rfl rfl
        · refine D.sk 27 rfl rfl rfl rfl rfl ?_
          refine D.sk 28 rfl rfl rfl rfl rfl ?_
          refine D.sk 29 rfl rfl rfl rfl rfl ?_
          refine D.sk 30 rfl rfl rfl rfl rfl ?_
          refine D.sk 31 rfl rfl rfl rfl rfl ?_
          refine D.sk 32 rfl rfl rfl rfl rfl ?_
          refine D.sk 33 rfl rfl rfl rfl rfl ?_
          refine D.sk 34 rfl rfl rfl rfl rfl ?_
          refine D.sk 35 rfl rfl rfl rfl rfl ?_
          refine D.sk 36 rfl rfl rfl rfl rfl ?_
          refine D.sk 37 rfl rfl rfl rfl rfl ?_
          refine D.sk 38 rfl rfl rfl rfl rfl ?_
          refine D.q 39 rfl rfl rfl rfl rfl rfl ?_
          refine D.q 40 rfl rfl rfl rfl rfl rfl ?_
          refine D.sk 41 rfl rfl rfl rfl rfl ?_
          refine D.sk 42 rfl rfl rfl rfl rfl ?_
          refine D.sk 43 rfl rfl rfl rfl rfl ?_
          refine D.sk 44 rfl rfl rfl rfl rfl ?_
          refine D.sk 45 rfl rfl rfl rfl rfl ?_
          refine D.sk 46 rfl rfl rfl rfl rfl ?_
          refine D.sk 47 rfl rfl rfl rfl rfl ?_
          refine D.sk 48 rfl rfl rfl rfl rfl ?_
          refine D.sk 49 rfl rfl rfl rfl rfl ?_
          refine D.sk 50 rfl rfl rfl rfl rfl ?_
          refine D.sk 51 rfl rfl rfl rfl rfl ?_
          refine D.sk 52 rfl rfl rfl rfl rfl ?_
          refine D.q 53 rfl rfl rfl rfl rfl rfl ?_
          refine D.q 54 rfl rfl rfl rfl rfl rfl ?_
          refine D.sk 55 rfl rfl rfl rfl rfl ?_
          refine D.sk 56 rfl rfl rfl rfl rfl ?_
          refine D.sk 57 rfl rfl rfl rfl rfl ?_
          refine D.sk 58 rfl rfl rfl rfl rfl ?_
          refine D.sk 59 rfl rfl rfl rfl rfl ?_
          refine D.sk 60 rfl rfl rfl rfl rfl ?_
          refine D.sk 61 rfl rfl rfl rfl rfl ?_
          refine D.sk 62 rfl rfl rfl rfl rfl ?_
          refine D.q 63 rfl rfl rfl rfl rfl rfl ?_
          refine D.q 64 rfl rfl rfl rfl rfl rfl ?_
          refine D.sk 65 rfl rfl rfl rfl rfl ?_
          refine D.sk 66 rfl rfl rfl rfl rfl ?_
          refine D.sk 67 rfl rfl rfl rfl rfl ?_
          refine D.sk 68 rfl rfl rfl rfl rfl ?_
          refine D.sk 69 rfl rfl rfl rfl rfl ?_
          refine D.sk 70 rfl rfl rfl rfl rfl ?_
          refine D.q 71 rfl rfl rfl rfl rfl rfl ?_
          refine D.q 72 rfl rfl rfl rfl rfl rfl ?_
          refine D.nil rfl rfl ?_
          have hr := Option.some.inj H258
          subst e198
          exact E.give ((), ()) [0, 0, 0] [2, 3, 4, 5, 6] trivial ⟨rfl, trivial⟩ rfl rfl
      · refine D.sk 13 rfl rfl rfl rfl rfl ?_
        refine D.sk 14 rfl rfl rfl rfl rfl ?_
        refine D.sk 15 rfl rfl rfl rfl rfl ?_
        refine D.sk 16 rfl rfl rfl rfl rfl ?_
        refine D.sk 17 rfl rfl rfl rfl rfl ?_
        refine D.sk 18 rfl rfl rfl rfl rfl ?_
        refine D.sk 19 rfl rfl rfl rfl rfl ?_
        refine D.sk 20 rfl rfl rfl rfl rfl ?_
        refine D.sk 21 rfl rfl rfl rfl rfl ?_
        refine D.sk 22 rfl rfl rfl rfl rfl ?_
        refine D.sk 23 rfl rfl rfl rfl rfl ?_
        refine D.sk 24 rfl rfl rfl rfl rfl ?_
        refine D.q 25 rfl rfl rfl rfl rfl rfl ?_
        refine D.q 26 rfl rfl rfl rfl rfl rfl ?_
        refine D.sk 27 rfl rfl rfl rfl rfl ?_
        refine D.sk 28 rfl rfl rfl rfl rfl ?_
        refine D.sk 29 rfl rfl rfl rfl rfl ?_
        refine D.sk 30 rfl rfl rfl rfl rfl ?_
        refine D.sk 31 rfl rfl rfl rfl rfl ?_
        refine D.sk 32 rfl rfl rfl rfl rfl ?_
        refine D.sk 33 rfl rfl rfl rfl rfl ?_
        refine D.sk 34 rfl rfl rfl rfl rfl ?_
        refine D.sk 35 rfl rfl rfl rfl rfl ?_
        refine D.sk 36 rfl rfl rfl rfl rfl ?_
        refine D.sk 37 rfl rfl rfl rfl rfl ?_
        refine D.sk 38 rfl rfl rfl rfl rfl ?_
        refine D.q 39 rfl rfl rfl rfl rfl rfl ?_
        refine D.q 40 rfl rfl rfl rfl rfl rfl ?_
        refine D.sk 41 rfl rfl rfl rfl rfl ?_
        refine D.sk 42 rfl rfl rfl rfl rfl ?_
        refine D.sk 43 rfl rfl rfl rfl rfl ?_
        refine D.sk 44 rfl rfl rfl rfl rfl ?_
        refine D.sk 45 rfl rfl rfl rfl rfl ?_
        refine D.sk 46 rfl rfl rfl rfl rfl ?_
        refine D.sk 47 rfl rfl rfl rfl rfl ?_
        refine D.sk 48 rfl rfl rfl rfl rfl ?_
        refine D.sk 49 rfl rfl rfl rfl rfl ?_
        refine D.sk 50 rfl rfl rfl rfl rfl ?_
        refine D.sk 51 rfl rfl rfl rfl rfl ?_
        refine D.sk 52 rfl rfl rfl rfl rfl ?_
        refine D.q 53 rfl rfl rfl rfl rfl rfl ?_
        refine D.q 54 rfl rfl rfl rfl rfl rfl ?_
        refine D.sk 55 rfl rfl rfl rfl rfl ?_
        refine D.sk 56 rfl rfl rfl rfl rfl ?_
        refine D.sk 57 rfl rfl rfl rfl rfl ?_
        refine D.sk 58 rfl rfl rfl rfl rfl ?_
        refine D.sk 59 rfl rfl rfl rfl rfl ?_
        refine D.sk 60 rfl rfl rfl rfl rfl ?_
        refine D.sk 61 rfl rfl rfl rfl rfl ?_
        refine D.sk 62 rfl rfl rfl rfl rfl ?_
        refine D.q 63 rfl rfl rfl rfl rfl rfl ?_
        refine D.q 64 rfl rfl rfl rfl rfl rfl ?_
        refine D.sk 65 rfl rfl rfl rfl rfl ?_
        refine D.sk 66 rfl rfl rfl rfl rfl ?_
        refine D.sk 67 rfl rfl rfl rfl rfl ?_
        refine D.sk 68 rfl rfl rfl rfl rfl ?_
        refine D.sk 69 rfl rfl rfl rfl rfl ?_
        refine D.sk 70 rfl rfl rfl rfl rfl ?_
        refine D.q 71 rfl rfl rfl rfl rfl rfl ?_
        refine D.q 72 rfl rfl rfl rfl rfl rfl ?_
        refine D.nil rfl rfl ?_
        have hr := Option.some.inj H251
        subst e198
        exact E.give ((), ()) [0, 0, 0] [1, 2, 3, 4, 5] trivial ⟨rfl, trivial⟩ rfl rfl
    · rintro ⟨_, ⟨⟩⟩ _
      refine T.ret ?_
      have hr := Option.some.inj H200
      subst r
      exact E.ret () [] [] (.tmp rfl .nil) rfl rfl rfl

end Go.Tw.Rw

import Derived.Test.YtkkapeoinhkncaaGreatDoorWk1
import Derived.Test.YtkkapeoinhkncaaGreatDoorFw2
set_option linter.unusedVariables false
set_option linter.unusedSimpArgs false
set_option maxRecDepth 10000
namespace Go.Tw.X
open Go Go.Tw
theorem c_snap_Snap_Clone {s_ : SnapSnap} (a_0_0 : Option Addr) (c_0_0 : Nat) (a_0_1 : Option Addr) (c_0_1 : Nat) {r : SnapSnap} (H : p_snap_Snap_Clone s_ = some r) : CT G 14 [.agg #[.int .i64 s_.k, .int .i64 s_.w, .int .i64 s_.h, .int .i64 s_.x, .int .i64 s_.y, .string s_.title, .slice a_0_0 s_.rows.length c_0_0, .int .i64 s_.len, .int .i64 s_.chain, .slice a_0_1 s_.begun.length c_0_1]] [] [Im.sl tyRowRow a_0_0 c_0_0 s_.rows, Im.sl tyRowGlyph a_0_1 c_0_1 s_.begun] (fun h : (Option Addr × Nat) × (Option Addr × Nat) => .agg #[.int .i64 r.k, .int .i64 r.w, .int .i64 r.h, .int .i64 r.x, .int .i64 r.y, .string r.title, .slice h.1.1 r.rows.length h.1.2, .int .i64 r.len, .int .i64 r.chain, .slice h.2.1 r.begun.length h.2.2]) (fun h => []) (fun h => [Im.sl tyRowRow h.1.1 h.1.2 r.rows, Im.sl tyRowGlyph h.2.1 h.2.2 r.begun]) := by
  delta p_snap_Snap_Clone at H
  refine CT.of Go.Proofs.Tryz.func14 (by kernel_rfl) rfl rfl rfl fun K => ?_
  refine T.seq ?_
  refine T.region ?_
  refine L.a [] [] (Ac.box rfl rfl) rfl rfl rfl rfl rfl ?_
  intro g1
  refine L.a [] [] (Ac.alloc rfl rfl) rfl rfl rfl rfl rfl ?_
  intro g2
  refine L.nil ?_
  refine E.then ?_
  refine T.seq ?_
  refine T.region ?_
  refine L.q 1 rfl ?_
  refine L.nil ?_
  refine E.then ?_
  refine T.seq ?_
  refine T.seq ?_
  refine T.region ?_
  refine L.q 1 rfl ?_
  refine L.y (Yl.ldb 1 rfl rfl rfl rfl) rfl rfl rfl ?_
  refine L.q 2 rfl ?_
  refine L.nil ?_
  refine E.then ?_
  obtain ⟨e279, H280, H281⟩ := bnd H
  refine T.join (η := Unit × ((Option Addr × Nat))) (fun h => True) (fun h => (fun a276 c277 => [(1, .pointer (some ⟨g1, 0, none⟩)), (2, .pointer (some ⟨g2, 0, none⟩)), (3, .slice a276 e279.length c277)]) h.2.1 h.2.2) (fun h => (fun a276 c277 => [Ch.arr tyRowRow 54 a276 c277 e279, Ch.box g2 25 [.int .i64 0, .int .i64 0, .int .i64 0, .int .i64 0, .int .i64 0, .string (ByteArray.mk #[]), .slice none 0 0, .int .i64 0, .int .i64 0, .slice none 0 0], Ch.box g1 25 [.int .i64 s_.k, .int .i64 s_.w, .int .i64 s_.h, .int .i64 s_.x, .int .i64 s_.y, .string s_.title, .slice a_0_0 s_.rows.length c_0_0, .int .i64 s_.len, .int .i64 s_.chain, .slice a_0_1 s_.begun.length c_0_1]]) h.2.1 h.2.2) (fun h => (fun a276 c277 => [Im.sl tyRowRow a_0_0 c_0_0 s_.rows, Im.sl tyRowGlyph a_0_1 c_0_1 s_.begun]) h.2.1 h.2.2) ?_ ?_
  · refine T.block ?_
    refine T.nil0 tyRowRow 54 ?_
    refine T.lp (η := (Option Addr × Nat)) (fun s190 h => (fun a186 c187 => [(1, .pointer (some ⟨g1, 0, none⟩)), (2, .pointer (some ⟨g2, 0, none⟩)), (3, .slice a186 s190.1.length c187), (7, .slice a_0_0 s_.rows.length c_0_0), (8, .int .i64 (s_.rows.length : Int)), (9, .int .i64 s190.2)]) h.1 h.2) (fun s190 h => (fun a186 c187 => [Ch.arr tyRowRow 54 a186 c187 s190.1, Ch.box g2 25 [.int .i64 0, .int .i64 0, .int .i64 0, .int .i64 0, .int .i64 0, .string (ByteArray.mk #[]), .slice none 0 0, .int .i64 0, .int .i64 0, .slice none 0 0], Ch.box g1 25 [.int .i64 s_.k, .int .i64 s_.w, .int .i64 s_.h, .int .i64 s_.x, .int .i64 s_.y, .string s_.title, .slice a_0_0 s_.rows.length c_0_0, .int .i64 s_.len, .int .i64 s_.chain, .slice a_0_1 s_.begun.length c_0_1]]) h.1 h.2) (fun s190 h => (fun a186 c187 => [Im.sl tyRowRow a_0_0 c_0_0 s_.rows, Im.sl tyRowGlyph a_0_1 c_0_1 s_.begun]) h.1 h.2) (none, 0) [0, 0, 0] [0, 1] H280 ⟨rfl, rfl, rfl, rfl, rfl, rfl, trivial⟩ rfl rfl ?_
    rintro k s190 ⟨a186, c187⟩ z283 H282 hag284 hbr285
    refine T.seq ?_
    refine T.region ?_
    refine L.q 1 rfl ?_
    refine L.nil ?_
    refine E.then ?_
    refine T.seq ?_
    refine T.bif rfl H282 (fun hc H287 => ?_) (fun hc H287 => ?_)
    · refine T.skip ?_
      refine E.then ?_
      refine T.seq ?_
      refine T.block ?_
      refine T.seq ?_
      refine T.region ?_
      obtain ⟨x329, h330, H331⟩ := bnd H287
      refine L.addr 0 rfl (idx_lt h330) fun b332 o333 e334 => ?_
      obtain rfl : a_0_0 = some ⟨b332, o333, none⟩ := e334
      refine L.y (Yl.ia h330 rfl rfl rfl rfl rfl rfl) rfl rfl rfl ?_
      refine L.el 0 rfl (idx_some h330).2 ?_
      rintro ⟨a335, c336⟩
      refine L.y (Yl.ldc 0 0 rfl rfl rfl rfl) rfl rfl rfl ?_
      refine L.a [] [] (Ac.alloc rfl rfl) rfl rfl rfl rfl rfl ?_
      intro g339
      refine L.a [0] [] (Ac.stb rfl rfl rfl rfl rfl rfl) rfl rfl rfl rfl rfl ?_
      intro _
      refine L.nil ?_
      refine E.then ?_
      refine T.draw [] [0, 1, 1] mo (by rfl) rfl ?_
      refine D.q 0 rfl rfl rfl rfl rfl rfl ?_
      refine D.q 1 rfl rfl rfl rfl rfl rfl ?_
      refine D.y 2 (Yl.ldb 0 rfl rfl rfl rfl) rfl rfl rfl rfl rfl rfl ?_
      refine D.q 4 rfl rfl rfl rfl rfl rfl ?_
      refine D.y 5 (Yl.ldb 0 rfl rfl rfl rfl) rfl rfl rfl rfl rfl rfl ?_
      obtain ⟨r355, h356, H357⟩ := bnd H331
      refine D.one rfl rfl rfl (Dp.a [] [1] (Ac.call (c_slices_Clone_row_Cell a335 c336 h356) rfl rfl rfl rfl) rfl rfl rfl rfl rfl rfl ?_)
      rintro ⟨a358, c359⟩
      refine D.q 6 rfl rfl rfl rfl rfl rfl ?_
      refine D.frz 0 rfl ?_
      refine D.one rfl rfl rfl (Dp.a [] [0] (Ac.bs (ty := tyRowRow) (xs := [(RowRow.mk r355 x329.wrapped)]) (.cons (a358, c359) [0] rfl .nil) rfl rfl rfl rfl rfl rfl rfl) rfl rfl rfl rfl rfl rfl ?_)
      intro g362
      refine D.frz 0 rfl ?_
      obtain ⟨_, h365, H366⟩ := bnd H357
      refine D.one rfl rfl rfl (Dp.a [0] [0] (Ac.ap (ty := tyRowRow) h365 rfl rfl rfl rfl rfl rfl rfl) rfl rfl rfl rfl rfl rfl ?_)
      rintro ⟨a367, c368⟩
      refine D.q 9 rfl rfl rfl rfl rfl rfl ?_
      refine D.nil rfl rfl ?_
      refine E.block ?_
      refine E.then ?_
      refine T.region ?_
      refine L.q 2 rfl ?_
      refine L.nil ?_
      have hr := Option.some.inj H366
      subst z283
      exact E.give (_, (a367, c368)) [3, 1, 1] [4, 5] (hag284 _ rfl) ⟨rfl, rfl, rfl, rfl, rfl, rfl, trivial⟩ rfl rfl
    · refine T.exit ?_
      refine E.then_exit' ?_
      refine E.then_exit' ?_
      refine E.block_here ?_
      have hr := Option.some.inj H287
      subst z283
      have hb := hbr285 _ rfl
      subst e279
      exact E.give ((), (a186, c187)) [0, 0, 0] [0, 1] trivial ⟨rfl, rfl, rfl, trivial⟩ rfl rfl
  · rintro ⟨_, ⟨a276, c277⟩⟩ _
    refine T.seq ?_
    refine T.region ?_
    refine L.q 2 rfl ?_
    refine L.y (Yl.ldb 2 rfl rfl rfl rfl) rfl rfl rfl ?_
    obtain ⟨r370, h371, H372⟩ := bnd H281
    refine L.a [] [1] (Ac.call (c_slices_Clone_row_Glyph a_0_1 c_0_1 h371) rfl rfl rfl rfl) rfl rfl rfl rfl rfl ?_
    rintro ⟨a373, c374⟩
    refine L.q 1 rfl ?_
    refine L.a [3] [] (Ac.stb rfl rfl rfl rfl rfl rfl) rfl rfl rfl rfl rfl ?_
    intro _
    refine L.q 1 rfl ?_
    refine L.a [0] [] (Ac.stb rfl rfl rfl rfl rfl rfl) rfl rfl rfl rfl rfl ?_
    intro _
    refine L.nil ?_
    refine E.then ?_
    refine T.seq ?_
    refine T.region ?_
    refine L.y (Yl.ldb 0 rfl rfl rfl rfl) rfl rfl rfl ?_
    refine L.a [3] [] (Ac.stb rfl rfl rfl rfl rfl rfl) rfl rfl rfl rfl rfl ?_
    intro _
    refine L.nil ?_
    refine E.then ?_
    refine T.ret ?_
    refine E.frz 3 rfl ?_
    refine E.frz 2 rfl ?_
    have hr := Option.some.inj H372
    subst r
    exact E.ret ((a276, c277), (a373, c374)) [] [1, 0] (.cell 0 rfl rfl rfl .nil) rfl rfl rfl

theorem c_law16_awake {r : Bool} (H : p_law16_awake = some r) : CT G 4 [] [] [] (fun h : Unit => .bool r) (fun h => []) (fun h => []) := by
  delta p_law16_awake at H
  refine CT.of Go.Proofs.Tryz.func4 (by kernel_rfl) rfl rfl rfl fun K => ?_
  refine T.seq ?_
  refine T.region ?_
  refine L.q 1 rfl ?_
  refine L.nil ?_
  refine E.then ?_
  refine T.seq ?_
  refine T.region ?_
  obtain ⟨r1, h2, H3⟩ := bnd H
  refine L.a [] [] (Ac.call (c_screen_New h2) rfl rfl rfl rfl) rfl rfl rfl rfl rfl ?_
  rintro ⟨g4, g5, ⟨a6, c7⟩⟩
  obtain ⟨r9, h10, H11⟩ := bnd H3
  refine L.a [] [] (Ac.call (c_book_New h10) rfl rfl rfl rfl) rfl rfl rfl rfl rfl ?_
  rintro ⟨g12, ⟨a13, c14⟩, ⟨a15, c16⟩, ⟨a17, c18⟩⟩
  refine L.q 2 rfl ?_
  refine L.nil ?_
  refine E.then ?_
  refine T.seq ?_
  refine T.seq ?_
  refine T.region ?_
  refine L.q 1 rfl ?_
  refine L.y (Yl.pn rfl rfl rfl rfl rfl rfl) rfl rfl rfl ?_
  refine L.q 2 rfl ?_
  refine L.y (Yl.pn rfl rfl rfl rfl rfl rfl) rfl rfl rfl ?_
  refine L.q 1 rfl ?_
  refine L.nil ?_
  refine E.then ?_
  refine T.cond rfl (fun h => nomatch h) (fun _ => ?_)
  refine T.skip ?_
  refine E.then ?_
  refine T.seq ?_
  refine T.region ?_
  refine L.q 2 rfl ?_
  obtain ⟨r22, h23, H24⟩ := bnd H11
  refine L.a [1, 1, 1, 0] [0, 1, 2] (Ac.call (c_snap_Of g4 g5 a6 c7 g12 a13 c14 a15 c16 a17 c18 h23) rfl rfl rfl rfl) rfl rfl rfl rfl rfl ?_
  rintro ⟨⟨a25, c26⟩, ⟨a27, c28⟩⟩
  refine L.a [] [] (Ac.alloc rfl rfl) rfl rfl rfl rfl rfl ?_
  intro g32
  refine L.a [0] [] (Ac.stb rfl rfl rfl rfl rfl rfl) rfl rfl rfl rfl rfl ?_
  intro _
  refine L.nil ?_
  refine E.then ?_
  refine T.seq ?_
  refine T.region ?_
  refine L.y (Yl.ldb 0 rfl rfl rfl rfl) rfl rfl rfl ?_
  obtain ⟨r33, h34, H35⟩ := bnd H24
  refine L.a [] [0, 1] (Ac.call (c_snap_Snap_Pack a25 c26 a27 c28 h34) rfl rfl rfl rfl) rfl rfl rfl rfl rfl ?_
  rintro ⟨⟩
  refine L.q 1 rfl ?_
  refine L.nil ?_
  refine E.then ?_
  refine T.seq ?_
  refine T.region ?_
  refine L.q 1 rfl ?_
  obtain ⟨r36, h37, H38⟩ := bnd H35
  refine L.a [] [] (Ac.call (c_snap_Parse h37) rfl rfl rfl rfl) rfl rfl rfl rfl rfl ?_
  rintro ⟨⟨a39, c40⟩, ⟨a41, c42⟩⟩
  refine L.q 3 rfl ?_
  refine L.a [] [] (Ac.alloc rfl rfl) rfl rfl rfl rfl rfl ?_
  intro g45
  refine L.a [0] [] (Ac.stb rfl rfl rfl rfl rfl rfl) rfl rfl rfl rfl rfl ?_
  intro _
  refine L.q 1 rfl ?_
  refine L.nil ?_
  refine E.then ?_
  refine T.seq ?_
  obtain ⟨e119, H120, H121⟩ := bnd H38
  refine T.join (η := Unit × Unit) (fun h => True) (fun h => [(0, .bool e119)]) (fun h => [Ch.box g45 25 [.int .i64 r36.1.k, .int .i64 r36.1.w, .int .i64 r36.1.h, .int .i64 r36.1.x, .int .i64 r36.1.y, .string r36.1.title, .slice a39 r36.1.rows.length c40, .int .i64 r36.1.len, .int .i64 r36.1.chain, .slice a41 r36.1.begun.length c42], Ch.box g32 25 [.int .i64 r22.1.k, .int .i64 r22.1.w, .int .i64 r22.1.h, .int .i64 r22.1.x, .int .i64 r22.1.y, .string r22.1.title, .slice a25 r22.1.rows.length c26, .int .i64 r22.1.len, .int .i64 r22.1.chain, .slice a27 r22.1.begun.length c28], Ch.box g4 110 [.pointer (some ⟨g5, 0, none⟩), .int .i64 r22.2.spot.x, .int .i64 r22.2.spot.y, .int .i64 r22.2.spot.style.fore, .int .i64 r22.2.spot.style.back, .bool r22.2.spot.style.bold, .bool r22.2.spot.style.under, .bool r22.2.spot.style.inverse, .int .i64 r22.2.saved.x, .int .i64 r22.2.saved.y, .int .i64 r22.2.saved.style.fore, .int .i64 r22.2.saved.style.back, .bool r22.2.saved.style.bold, .bool r22.2.saved.style.under, .bool r22.2.saved.style.inverse, .bool r22.2.waiting, .int .i64 r22.2.top, .int .i64 r22.2.bottom, .bool r22.2.wraps, .string r22.2.title], Ch.box g5 140 [.int .i64 r22.2.g.w, .slice a6 r22.2.g.l.length c7], Ch.box g12 115 [.slice a13 r9.l.length c14, .slice a15 r9.chains.length c16, .slice a17 r9.begun.length c18], Ch.arr tyRowRow 54 a6 c7 r22.2.g.l]) (fun h => [Im.sl tyRowRow a39 c40 r36.1.rows, Im.sl tyRowGlyph a41 c42 r36.1.begun, Im.sl tyRowRow a25 c26 r22.1.rows, Im.sl tyRowGlyph a27 c28 r22.1.begun, Im.sl (Ty.slice tyRowGlyph) a13 c14 r9.l, Im.sl (Ty.int .i64) a15 c16 r9.chains, Im.sl tyRowGlyph a17 c18 r9.begun]) ?_ ?_
  · refine T.draw [] [0, 0, 0, 0, 0, 0] mo (by rfl) rfl ?_
    refine D.q 0 rfl rfl rfl rfl rfl rfl ?_
    refine D.q 1 rfl rfl rfl rfl rfl rfl ?_
    refine D.q 2 rfl rfl rfl rfl rfl rfl ?_
    refine D.cs 27 H120 rfl (fun hc H140 => ?_) (fun hc H140 => ?_)
    · refine D.q 3 rfl rfl rfl rfl rfl rfl ?_
      refine D.q 4 rfl rfl rfl rfl rfl rfl ?_
      refine D.q 5 rfl rfl rfl rfl rfl rfl ?_
      refine D.q 6 rfl rfl rfl rfl rfl rfl ?_
      refine D.cs 31 H140 rfl (fun hc H141 => ?_) (fun hc H141 => ?_)
      · refine D.y 7 (Yl.ldb 1 rfl rfl rfl rfl) rfl rfl rfl rfl rfl rfl ?_
        refine D.y 8 (Yl.ldb 0 rfl rfl rfl rfl) rfl rfl rfl rfl rfl rfl ?_
        obtain ⟨r142, h143, H144⟩ := bnd H141
        refine D.one rfl rfl rfl (Dp.a [] [2, 3, 0, 1] (Ac.call (c_snap_Snap_Same a25 c26 a27 c28 a39 c40 a41 c42 h143) rfl rfl rfl rfl) rfl rfl rfl rfl rfl rfl ?_)
        rintro ⟨⟩
        refine D.q 10 rfl rfl rfl rfl rfl rfl ?_
        refine D.q 11 rfl rfl rfl rfl rfl rfl ?_
        refine D.cs 36 H144 rfl (fun hc H145 => ?_) (fun hc H145 => ?_)
        · refine D.y 12 (Yl.ldb 0 rfl rfl rfl rfl) rfl rfl rfl rfl rfl rfl ?_
          refine D.y 13 (Yl.ldb 1 rfl rfl rfl rfl) rfl rfl rfl rfl rfl rfl ?_
          obtain ⟨r146, h147, H148⟩ := bnd H145
          refine D.one rfl rfl rfl (Dp.a [] [2, 3] (Ac.call (c_snap_Snap_Clone a25 c26 a27 c28 h147) rfl rfl rfl rfl) rfl rfl rfl rfl rfl rfl ?_)
          rintro ⟨⟨a149, c150⟩, ⟨a151, c152⟩⟩
          obtain ⟨r155, h156, H157⟩ := bnd H148
          refine D.one rfl rfl rfl (Dp.a [] [2, 3, 0, 1] (Ac.call (c_snap_Snap_Same a39 c40 a41 c42 a149 c150 a151 c152 h156) rfl rfl rfl rfl) rfl rfl rfl rfl rfl rfl ?_)
          rintro ⟨⟩
          refine D.q 16 rfl rfl rfl rfl rfl rfl ?_
          refine D.q 17 rfl rfl rfl rfl rfl rfl ?_
          refine D.nil rfl rfl ?_
          have hr := Option.some.inj H157
          subst e119
          exact E.give ((), ()) [0, 0, 0, 0, 1, 0] [2, 3, 4, 5, 6, 7, 8] trivial ⟨rfl, trivial⟩ rfl rfl
        · refine D.sk 12 rfl rfl rfl rfl rfl ?_
          refine D.sk 13 rfl rfl rfl rfl rfl ?_
          refine D.sk 14 rfl rfl rfl rfl rfl ?_
          refine D.sk 15 rfl rfl rfl rfl rfl ?_
          refine D.q 16 rfl rfl rfl rfl rfl rfl ?_
          refine D.q 17 rfl rfl rfl rfl rfl rfl ?_
          refine D.nil rfl rfl ?_
          have hr := Option.some.inj H145
          subst e119
          exact E.give ((), ()) [0, 0, 0, 0, 1, 0] [0, 1, 2, 3, 4, 5, 6] trivial ⟨rfl, trivial⟩ rfl rfl
      · refine D.sk 7 rfl rfl rfl rfl rfl ?_
        refine D.sk 8 rfl rfl rfl rfl rfl ?_
        refine D.sk 9 rfl rfl rfl rfl rfl ?_
        refine D.q 10 rfl rfl rfl rfl rfl rfl ?_
        refine D.q 11 rfl rfl rfl rfl rfl rfl ?_
        refine D.sk 12 rfl rfl rfl rfl rfl ?_
        refine D.sk 13 rfl rfl rfl rfl rfl ?_
        refine D.sk 14 rfl rfl rfl rfl rfl ?_
        refine D.sk 15 rfl rfl rfl rfl rfl ?_
        refine D.q 16 rfl rfl rfl rfl rfl rfl ?_
        refine D.q 17 rfl rfl rfl rfl rfl rfl ?_
        refine D.nil rfl rfl ?_
        have hr := Option.some.inj H141
        subst e119
        exact E.give ((), ()) [0, 0, 0, 0, 1, 0] [0, 1, 2, 3, 4, 5, 6] trivial ⟨rfl, trivial⟩ rfl rfl
    · refine D.sk 3 rfl rfl rfl rfl rfl ?_
      refine D.sk 4 rfl rfl rfl rfl rfl ?_
      refine D.q 5 rfl rfl rfl rfl rfl rfl ?_
      refine D.q 6 rfl rfl rfl rfl rfl rfl ?_
      refine D.sk 7 rfl rfl rfl rfl rfl ?_
      refine D.sk 8 rfl rfl rfl rfl rfl ?_
      refine D.sk 9 rfl rfl rfl rfl rfl ?_
      refine D.q 10 rfl rfl rfl rfl rfl rfl ?_
      refine D.q 11 rfl rfl rfl rfl rfl rfl ?_
      refine D.sk 12 rfl rfl rfl rfl rfl ?_
      refine D.sk 13 rfl rfl rfl rfl rfl ?_
      refine D.sk 14 rfl rfl rfl rfl rfl ?_
      refine D.sk 15 rfl rfl rfl rfl rfl ?_
      refine D.q 16 rfl rfl rfl rfl rfl rfl ?_
      refine D.q 17 rfl rfl rfl rfl rfl rfl ?_
      refine D.nil rfl rfl ?_
      have hr := Option.some.inj H140
      subst e119
      exact E.give ((), ()) [0, 0, 0, 0, 1, 0] [0, 1, 2, 3, 4, 5, 6] trivial ⟨rfl, trivial⟩ rfl rfl
  · rintro ⟨_, ⟨⟩⟩ _
    refine T.ret ?_
    have hr := Option.some.inj H121
    subst r
    exact E.ret () [] [] (.tmp rfl .nil) rfl rfl rfl

theorem c_law01_Cut {s_ : ByteArray} {n_ : Int} {r : ByteArray} (H : p_law01_Cut s_ n_ = some r) : CT G 20 [.string s_, .int .i64 n_] [] [] (fun h : Unit => .string r) (fun h => []) (fun h => []) := by
  delta p_law01_Cut at H
  refine CT.of Go.Proofs.Tryz.func20 (by kernel_rfl) rfl rfl rfl fun K => ?_
  refine T.seq ?_
  refine T.region ?_
  refine L.q 1 rfl ?_
  refine L.nil ?_
  refine E.then ?_
  refine T.seq ?_
  refine T.seq ?_
  refine T.region ?_
  refine L.q 4 rfl ?_
  refine L.nil ?_
  refine E.then ?_
  refine T.bif rfl H (fun hc H4 => ?_) (fun hc H4 => ?_)
  · refine T.seq ?_
    refine T.region ?_
    refine L.q 2 rfl ?_
    obtain ⟨_, h5, H6⟩ := bnd H4
    refine L.y (Yl.sc h5 rfl rfl rfl rfl rfl rfl) rfl rfl rfl ?_
    refine L.q 1 rfl ?_
    refine L.nil ?_
    refine E.then ?_
    refine T.ret ?_
    refine E.then_ret ?_
    have hr := Option.some.inj H6
    subst r
    exact E.ret () [] [] (.tmp rfl .nil) rfl rfl rfl
  · refine T.skip ?_
    refine E.then ?_
    refine T.seq ?_
    refine T.region ?_
    refine L.q 2 rfl ?_
    refine L.nil ?_
    refine E.then ?_
    refine T.ret ?_
    have hr := Option.some.inj H4
    subst r
    exact E.ret () [] [] (.tmp rfl .nil) rfl rfl rfl

theorem c_law09_Any {l : List RowCell} {wrapped : Bool} (a_0 : Option Addr) (c_0 : Nat) {r : RowRow} (H : p_law09_Any l wrapped = some r) : CT G 21 [.slice a_0 l.length c_0, .bool wrapped] [] [Im.sl tyRowCell a_0 c_0 l] (fun h : (Option Addr × Nat) => .agg #[.slice h.1 r.cells.length h.2, .bool r.wrapped]) (fun h => []) (fun h => [Im.sl tyRowCell h.1 h.2 r.cells]) := by
  delta p_law09_Any at H
  refine CT.of Go.Proofs.Tryz.func21 (by kernel_rfl) rfl rfl rfl fun K => ?_
  refine T.seq ?_
  refine T.region ?_
  refine L.a [] [] (Ac.alloc rfl rfl) rfl rfl rfl rfl rfl ?_
  intro g1
  refine L.nil ?_
  refine E.then ?_
  refine T.seq ?_
  refine T.region ?_
  refine L.a [] [] (Ac.bs (ty := tyRowCell) (xs := []) .nil rfl rfl rfl rfl rfl rfl rfl) rfl rfl rfl rfl rfl ?_
  intro g2
  refine L.q 4 rfl ?_
  obtain ⟨_, h4, H5⟩ := bnd H
  refine L.rs 0 h4 rfl rfl rfl rfl rfl rfl rfl rfl rfl rfl rfl rfl ?_
  intro a6 c7
  obtain ⟨_, h9, H10⟩ := bnd H5
  refine L.a [0] [0] (Ac.ap (ty := tyRowCell) h9 rfl rfl rfl rfl rfl rfl rfl) rfl rfl rfl rfl rfl ?_
  rintro ⟨a11, c12⟩
  refine L.q 2 rfl ?_
  refine L.a [1] [] (Ac.stb rfl rfl rfl rfl rfl rfl) rfl rfl rfl rfl rfl ?_
  intro _
  refine L.nil ?_
  refine E.then ?_
  refine T.ret ?_
  refine E.frz 1 rfl ?_
  have hr := Option.some.inj H10
  subst r
  exact E.ret (a11, c12) [] [0] (.cell 0 rfl rfl rfl .nil) rfl rfl rfl

theorem c_law16_Cut {s_ : SnapSnap} (a_0_0 : Option Addr) (c_0_0 : Nat) (a_0_1 : Option Addr) (c_0_1 : Nat) {r : SnapSnap} (H : p_law16_Cut s_ = some r) : CT G 5 [.agg #[.int .i64 s_.k, .int .i64 s_.w, .int .i64 s_.h, .int .i64 s_.x, .int .i64 s_.y, .string s_.title, .slice a_0_0 s_.rows.length c_0_0, .int .i64 s_.len, .int .i64 s_.chain, .slice a_0_1 s_.begun.length c_0_1]] [] [Im.sl tyRowRow a_0_0 c_0_0 s_.rows, Im.sl tyRowGlyph a_0_1 c_0_1 s_.begun] (fun h : (Option Addr × Nat) × (Option Addr × Nat) => .agg #[.int .i64 r.k, .int .i64 r.w, .int .i64 r.h, .int .i64 r.x, .int .i64 r.y, .string r.title, .slice h.1.1 r.rows.length h.1.2, .int .i64 r.len, .int .i64 r.chain, .slice h.2.1 r.begun.length h.2.2]) (fun h => []) (fun h => [Im.sl tyRowRow h.1.1 h.1.2 r.rows, Im.sl tyRowGlyph h.2.1 h.2.2 r.begun]) := by
  delta p_law16_Cut at H
  refine CT.of Go.Proofs.Tryz.func5 (by kernel_rfl) rfl rfl rfl fun K => ?_
  refine T.seq ?_
  refine T.region ?_
  refine L.a [] [] (Ac.box rfl rfl) rfl rfl rfl rfl rfl ?_
  intro g1
  refine L.a [] [] (Ac.alloc rfl rfl) rfl rfl rfl rfl rfl ?_
  intro g2
  refine L.nil ?_
  refine E.then ?_
  refine T.seq ?_
  refine T.region ?_
  refine L.q 1 rfl ?_
  refine L.y (Yl.ldb 1 rfl rfl rfl rfl) rfl rfl rfl ?_
  obtain ⟨r3, h4, H5⟩ := bnd H
  refine L.a [] [] (Ac.call (c_law01_Cut h4) rfl rfl rfl rfl) rfl rfl rfl rfl rfl ?_
  rintro ⟨⟩
  refine L.q 1 rfl ?_
  refine L.a [1] [] (Ac.stb rfl rfl rfl rfl rfl rfl) rfl rfl rfl rfl rfl ?_
  intro _
  refine L.nil ?_
  refine E.then ?_
  refine T.seq ?_
  refine T.region ?_
  refine L.a [] [] (Ac.bs (ty := tyRowGlyph) (xs := []) .nil rfl rfl rfl rfl rfl rfl rfl) rfl rfl rfl rfl rfl ?_
  intro g6
  refine L.q 1 rfl ?_
  refine L.y (Yl.ldb 1 rfl rfl rfl rfl) rfl rfl rfl ?_
  refine L.q 1 rfl ?_
  refine L.y (Yl.ldb 1 rfl rfl rfl rfl) rfl rfl rfl ?_
  refine L.q 2 rfl ?_
  obtain ⟨_, h8, H9⟩ := bnd H5
  refine L.rs 1 h8 rfl rfl rfl rfl rfl rfl rfl rfl rfl rfl rfl rfl ?_
  intro a10 c11
  obtain ⟨_, h13, H14⟩ := bnd H9
  refine L.a [0] [0] (Ac.ap (ty := tyRowGlyph) h13 rfl rfl rfl rfl rfl rfl rfl) rfl rfl rfl rfl rfl ?_
  rintro ⟨a15, c16⟩
  refine L.q 1 rfl ?_
  refine L.a [1] [] (Ac.stb rfl rfl rfl rfl rfl rfl) rfl rfl rfl rfl rfl ?_
  intro _
  refine L.nil ?_
  refine E.then ?_
  refine T.seq ?_
  refine T.region ?_
  refine L.q 1 rfl ?_
  refine L.nil ?_
  refine E.then ?_
  refine T.seq ?_
  refine T.seq ?_
  refine T.region ?_
  refine L.q 1 rfl ?_
  refine L.nil ?_
  refine E.then ?_
  obtain ⟨e441, H442, H443⟩ := bnd H14
  refine T.join (η := Unit × ((Option Addr × Nat))) (fun h => True) (fun h => (fun a438 c439 => [(1, .pointer (some ⟨g1, 0, none⟩)), (2, .pointer (some ⟨g2, 0, none⟩)), (3, .slice a438 e441.length c439)]) h.2.1 h.2.2) (fun h => (fun a438 c439 => [Ch.arr tyRowRow 54 a438 c439 e441, Ch.box g1 25 [.int .i64 s_.k, .int .i64 s_.w, .int .i64 s_.h, .int .i64 s_.x, .int .i64 s_.y, .string r3, .slice a_0_0 s_.rows.length c_0_0, .int .i64 s_.len, .int .i64 s_.chain, .slice a15 (([] : List RowGlyph) ++ (cut s_.begun 0 (imin (s_.begun.length : Int) 30))).length c16], Ch.box g2 25 [.int .i64 0, .int .i64 0, .int .i64 0, .int .i64 0, .int .i64 0, .string (ByteArray.mk #[]), .slice none 0 0, .int .i64 0, .int .i64 0, .slice none 0 0], Ch.arr tyRowGlyph 71 a15 c16 (([] : List RowGlyph) ++ (cut s_.begun 0 (imin (s_.begun.length : Int) 30)))]) h.2.1 h.2.2) (fun h => (fun a438 c439 => [Im.sl tyRowGlyph a10 c11 (cut s_.begun 0 (imin (s_.begun.length : Int) 30)), Im.sl tyRowRow a_0_0 c_0_0 s_.rows, Im.sl tyRowGlyph a_0_1 c_0_1 s_.begun]) h.2.1 h.2.2) ?_ ?_
  · refine T.block ?_
    refine T.nil0 tyRowRow 54 ?_
    refine T.lp (η := (Option Addr × Nat)) (fun s303 h => (fun a299 c300 => [(1, .pointer (some ⟨g1, 0, none⟩)), (2, .pointer (some ⟨g2, 0, none⟩)), (3, .slice a299 s303.1.length c300), (4, .int .i64 s303.2)]) h.1 h.2) (fun s303 h => (fun a299 c300 => [Ch.arr tyRowRow 54 a299 c300 s303.1, Ch.box g1 25 [.int .i64 s_.k, .int .i64 s_.w, .int .i64 s_.h, .int .i64 s_.x, .int .i64 s_.y, .string r3, .slice a_0_0 s_.rows.length c_0_0, .int .i64 s_.len, .int .i64 s_.chain, .slice a15 (([] : List RowGlyph) ++ (cut s_.begun 0 (imin (s_.begun.length : Int) 30))).length c16], Ch.box g2 25 [.int .i64 0, .int .i64 0, .int .i64 0, .int .i64 0, .int .i64 0, .string (ByteArray.mk #[]), .slice none 0 0, .int .i64 0, .int .i64 0, .slice none 0 0], Ch.arr tyRowGlyph 71 a15 c16 (([] : List RowGlyph) ++ (cut s_.begun 0 (imin (s_.begun.length : Int) 30)))]) h.1 h.2) (fun s303 h => (fun a299 c300 => [Im.sl tyRowGlyph a10 c11 (cut s_.begun 0 (imin (s_.begun.length : Int) 30)), Im.sl tyRowRow a_0_0 c_0_0 s_.rows, Im.sl tyRowGlyph a_0_1 c_0_1 s_.begun]) h.1 h.2) (none, 0) [0, 0, 1, 0] [0, 1, 2] H442 ⟨rfl, rfl, rfl, rfl, trivial⟩ rfl rfl ?_
    rintro k s303 ⟨a299, c300⟩ z445 H444 hag446 hbr447
    refine T.seq ?_
    refine T.seq ?_
    obtain ⟨e451, H452, H453⟩ := bnd H444
    refine T.join (η := Unit × Unit) (fun h => True) (fun h => [(1, .pointer (some ⟨g1, 0, none⟩)), (2, .pointer (some ⟨g2, 0, none⟩)), (3, .slice a299 s303.1.length c300), (4, .int .i64 s303.2), (27, .bool e451)]) (fun h => [Ch.box g1 25 [.int .i64 s_.k, .int .i64 s_.w, .int .i64 s_.h, .int .i64 s_.x, .int .i64 s_.y, .string r3, .slice a_0_0 s_.rows.length c_0_0, .int .i64 s_.len, .int .i64 s_.chain, .slice a15 (([] : List RowGlyph) ++ (cut s_.begun 0 (imin (s_.begun.length : Int) 30))).length c16], Ch.box g2 25 [.int .i64 0, .int .i64 0, .int .i64 0, .int .i64 0, .int .i64 0, .string (ByteArray.mk #[]), .slice none 0 0, .int .i64 0, .int .i64 0, .slice none 0 0], Ch.arr tyRowRow 54 a299 c300 s303.1, Ch.arr tyRowGlyph 71 a15 c16 (([] : List RowGlyph) ++ (cut s_.begun 0 (imin (s_.begun.length : Int) 30)))]) (fun h => [Im.sl tyRowGlyph a10 c11 (cut s_.begun 0 (imin (s_.begun.length : Int) 30)), Im.sl tyRowRow a_0_0 c_0_0 s_.rows, Im.sl tyRowGlyph a_0_1 c_0_1 s_.begun]) ?_ ?_
    · refine T.region ?_
      refine L.q 2 rfl ?_
      refine L.y (Yl.ldb 1 rfl rfl rfl rfl) rfl rfl rfl ?_
      refine L.q 3 rfl ?_
      refine L.cs 24 H452 rfl (fun hc H454 => ?_) (fun hc H454 => ?_)
      · refine L.q 3 rfl ?_
        refine L.nil ?_
        have hr := Option.some.inj H454
        subst e451
        exact E.give ((), ()) [1, 1, 0, 0] [0, 1, 2] trivial ⟨rfl, rfl, rfl, rfl, rfl, trivial⟩ rfl rfl
      · refine L.q 3 rfl ?_
        refine L.nil ?_
        have hr := Option.some.inj H454
        subst e451
        exact E.give ((), ()) [1, 1, 0, 0] [0, 1, 2] trivial ⟨rfl, rfl, rfl, rfl, rfl, trivial⟩ rfl rfl
    · rintro ⟨_, ⟨⟩⟩ _
      refine T.bif rfl H453 (fun hc H456 => ?_) (fun hc H456 => ?_)
      · refine T.skip ?_
        refine E.then ?_
        refine T.seq ?_
        refine T.block ?_
        refine T.draw [] [0, 0, 1] mo (by rfl) rfl ?_
        refine D.q 0 rfl rfl rfl rfl rfl rfl ?_
        refine D.q 1 rfl rfl rfl rfl rfl rfl ?_
        refine D.y 2 (Yl.ldb 0 rfl rfl rfl rfl) rfl rfl rfl rfl rfl rfl ?_
        refine D.q 3 rfl rfl rfl rfl rfl rfl ?_
        obtain ⟨x550, h551, H552⟩ := bnd H456
        refine D.addr 1 rfl (idx_lt h551) fun b553 o554 e555 => ?_
        obtain rfl : a_0_0 = some ⟨b553, o554, none⟩ := e555
        refine D.y 4 (Yl.ia h551 rfl rfl rfl rfl rfl rfl) rfl rfl rfl rfl rfl rfl ?_
        refine D.el 1 rfl (idx_some h551).2 ?_
        rintro ⟨a556, c557⟩
        refine D.q 5 rfl rfl rfl rfl rfl rfl ?_
        refine D.y 6 (Yl.ldc 0 0 rfl rfl rfl rfl) rfl rfl rfl rfl rfl rfl ?_
        refine D.q 7 rfl rfl rfl rfl rfl rfl ?_
        refine D.y 8 (Yl.ldb 0 rfl rfl rfl rfl) rfl rfl rfl rfl rfl rfl ?_
        refine D.q 9 rfl rfl rfl rfl rfl rfl ?_
        obtain ⟨x560, h561, H562⟩ := bnd H552
        refine D.y 10 (Yl.ia h561 rfl rfl rfl rfl rfl rfl) rfl rfl rfl rfl rfl rfl ?_
        refine D.el 3 rfl (idx_some h561).2 ?_
        rintro ⟨a563, c564⟩
        refine D.q 11 rfl rfl rfl rfl rfl rfl ?_
        refine D.y 12 (Yl.ldc 0 1 rfl rfl rfl rfl) rfl rfl rfl rfl rfl rfl ?_
        obtain ⟨r567, h568, H569⟩ := bnd H562
        refine D.one rfl rfl rfl (Dp.a [] [3] (Ac.call (c_law09_Any a556 c557 h568) rfl rfl rfl rfl) rfl rfl rfl rfl rfl rfl ?_)
        rintro ⟨a570, c571⟩
        refine D.one rfl rfl rfl (Dp.a [] [0] (Ac.bs (ty := tyRowRow) (xs := [r567]) (.cons (a570, c571) [0] rfl .nil) rfl rfl rfl rfl rfl rfl rfl) rfl rfl rfl rfl rfl rfl ?_)
        intro g573
        refine D.frz 0 rfl ?_
        obtain ⟨_, h576, H577⟩ := bnd H569
        refine D.one rfl rfl rfl (Dp.a [0] [0] (Ac.ap (ty := tyRowRow) h576 rfl rfl rfl rfl rfl rfl rfl) rfl rfl rfl rfl rfl rfl ?_)
        rintro ⟨a578, c579⟩
        refine D.q 16 rfl rfl rfl rfl rfl rfl ?_
        refine D.nil rfl rfl ?_
        refine E.block ?_
        refine E.then ?_
        refine T.region ?_
        refine L.q 3 rfl ?_
        refine L.nil ?_
        have hr := Option.some.inj H577
        subst z445
        exact E.give (_, (a578, c579)) [3, 0, 0, 0] [6, 7, 8] (hag446 _ rfl) ⟨rfl, rfl, rfl, rfl, trivial⟩ rfl rfl
      · refine T.exit ?_
        refine E.then_exit' ?_
        refine E.then_exit' ?_
        refine E.block_here ?_
        have hr := Option.some.inj H456
        subst z445
        have hb := hbr447 _ rfl
        subst e441
        exact E.give ((), (a299, c300)) [2, 0, 0, 0] [0, 1, 2] trivial ⟨rfl, rfl, rfl, trivial⟩ rfl rfl
  · rintro ⟨_, ⟨a438, c439⟩⟩ _
    refine T.seq ?_
    refine T.region ?_
    refine L.q 2 rfl ?_
    refine L.a [1] [] (Ac.stb rfl rfl rfl rfl rfl rfl) rfl rfl rfl rfl rfl ?_
    intro _
    refine L.nil ?_
    refine E.then ?_
    refine T.seq ?_
    refine T.region ?_
    refine L.y (Yl.ldb 0 rfl rfl rfl rfl) rfl rfl rfl ?_
    refine L.a [2] [] (Ac.stb rfl rfl rfl rfl rfl rfl) rfl rfl rfl rfl rfl ?_
    intro _
    refine L.nil ?_
    refine E.then ?_
    refine T.ret ?_
    refine E.frz 2 rfl ?_
    refine E.frz 2 rfl ?_
    have hr := Option.some.inj H443
    subst r
    exact E.ret ((a438, c439), (a15, c16)) [] [1, 0] (.cell 0 rfl rfl rfl .nil) rfl rfl rfl

theorem c_law14_Told {l : List RowGlyph} (a_0 : Option Addr) (c_0 : Nat) {r : (List Ref09Glyph)} (H : p_law14_Told l = some r) : CT G 22 [.slice a_0 l.length c_0] [] [Im.sl tyRowGlyph a_0 c_0 l] (fun h : (Option Addr × Nat) => .slice h.1 r.length h.2) (fun h => [Ch.arr tyRef09Glyph 79 h.1 h.2 r]) (fun h => []) := by
  delta p_law14_Told at H
  refine CT.of Go.Proofs.Tryz.func22 (by kernel_rfl) rfl rfl rfl fun K => ?_
  refine T.seq ?_
  refine T.region ?_
  refine L.q 1 rfl ?_
  refine L.nil ?_
  refine E.then ?_
  refine T.seq ?_
  refine T.region ?_
  refine L.q 1 rfl ?_
  refine L.nil ?_
  refine E.then ?_
  refine T.seq ?_
  refine T.seq ?_
  refine T.region ?_
  refine L.q 3 rfl ?_
  refine L.nil ?_
  refine E.then ?_
  obtain ⟨e125, H126, H127⟩ := bnd H
  refine T.join (η := Unit × ((Option Addr × Nat))) (fun h => True) (fun h => (fun a122 c123 => [(3, .slice a122 e125.length c123)]) h.2.1 h.2.2) (fun h => (fun a122 c123 => [Ch.arr tyRef09Glyph 79 a122 c123 e125]) h.2.1 h.2.2) (fun h => (fun a122 c123 => [Im.sl tyRowGlyph a_0 c_0 l]) h.2.1 h.2.2) ?_ ?_
  · refine T.block ?_
    refine T.nil0 tyRef09Glyph 79 ?_
    refine T.lp (η := (Option Addr × Nat)) (fun s86 h => (fun a82 c83 => [(3, .slice a82 s86.1.length c83), (6, .slice a_0 l.length c_0), (7, .int .i64 (l.length : Int)), (8, .int .i64 s86.2)]) h.1 h.2) (fun s86 h => (fun a82 c83 => [Ch.arr tyRef09Glyph 79 a82 c83 s86.1]) h.1 h.2) (fun s86 h => (fun a82 c83 => [Im.sl tyRowGlyph a_0 c_0 l]) h.1 h.2) (none, 0) [0] [0] H126 ⟨rfl, rfl, rfl, rfl, trivial⟩ rfl rfl ?_
    rintro k s86 ⟨a82, c83⟩ z129 H128 hag130 hbr131
    refine T.seq ?_
    refine T.region ?_
    refine L.q 1 rfl ?_
    refine L.nil ?_
    refine E.then ?_
    refine T.seq ?_
    refine T.bif rfl H128 (fun hc H133 => ?_) (fun hc H133 => ?_)
    · refine T.skip ?_
      refine E.then ?_
      refine T.seq ?_
      refine T.block ?_
      refine T.seq ?_
      refine T.region ?_
      obtain ⟨x150, h151, H152⟩ := bnd H133
      refine L.addr 0 rfl (idx_lt h151) fun b153 o154 e155 => ?_
      obtain rfl : a_0 = some ⟨b153, o154, none⟩ := e155
      refine L.y (Yl.ia h151 rfl rfl rfl rfl rfl rfl) rfl rfl rfl ?_
      refine L.el 0 rfl (idx_some h151).2 ?_
      rintro _
      refine L.y (Yl.ldc 0 0 rfl rfl rfl rfl) rfl rfl rfl ?_
      refine L.a [] [] (Ac.alloc rfl rfl) rfl rfl rfl rfl rfl ?_
      intro g157
      refine L.a [0] [] (Ac.stb rfl rfl rfl rfl rfl rfl) rfl rfl rfl rfl rfl ?_
      intro _
      refine L.nil ?_
      refine E.then ?_
      refine T.region ?_
      refine L.q 2 rfl ?_
      refine L.y (Yl.ldb 0 rfl rfl rfl rfl) rfl rfl rfl ?_
      refine L.q 2 rfl ?_
      refine L.y (Yl.ldb 0 rfl rfl rfl rfl) rfl rfl rfl ?_
      refine L.q 1 rfl ?_
      refine L.a [] [] (Ac.bs (ty := tyRef09Glyph) (xs := [(Ref09Glyph.mk (IntKind.i64.wrap x150.rune) x150.style)]) (.cons () [] rfl .nil) rfl rfl rfl rfl rfl rfl rfl) rfl rfl rfl rfl rfl ?_
      intro g158
      refine L.frz 0 rfl ?_
      obtain ⟨_, h161, H162⟩ := bnd H152
      refine L.a [1] [0] (Ac.ap (ty := tyRef09Glyph) h161 rfl rfl rfl rfl rfl rfl rfl) rfl rfl rfl rfl rfl ?_
      rintro ⟨a163, c164⟩
      refine L.q 1 rfl ?_
      refine L.nil ?_
      refine E.block ?_
      refine E.then ?_
      refine T.region ?_
      refine L.q 2 rfl ?_
      refine L.nil ?_
      have hr := Option.some.inj H162
      subst z129
      exact E.give (_, (a163, c164)) [0] [2] (hag130 _ rfl) ⟨rfl, rfl, rfl, rfl, trivial⟩ rfl rfl
    · refine T.exit ?_
      refine E.then_exit' ?_
      refine E.then_exit' ?_
      refine E.block_here ?_
      have hr := Option.some.inj H133
      subst z129
      have hb := hbr131 _ rfl
      subst e125
      exact E.give ((), (a82, c83)) [0] [0] trivial ⟨rfl, trivial⟩ rfl rfl
  · rintro ⟨_, ⟨a122, c123⟩⟩ _
    refine T.seq ?_
    refine T.region ?_
    refine L.q 2 rfl ?_
    refine L.nil ?_
    refine E.then ?_
    refine T.ret ?_
    have hr := Option.some.inj H127
    subst r
    exact E.ret (a122, c123) [0] [] (.tmp rfl .nil) rfl rfl rfl

theorem c_law09_Told {r_ : RowRow} (a_0_0 : Option Addr) (c_0_0 : Nat) {r : Ref09Row} (H : p_law09_Told r_ = some r) : CT G 23 [.agg #[.slice a_0_0 r_.cells.length c_0_0, .bool r_.wrapped]] [] [Im.sl tyRowCell a_0_0 c_0_0 r_.cells] (fun h : (Option Addr × Nat) => .agg #[.slice h.1 r.l.length h.2, .bool r.wrapped]) (fun h => []) (fun h => [Im.sl tyRef09Cell h.1 h.2 r.l]) := by
  delta p_law09_Told at H
  refine CT.of Go.Proofs.Tryz.func23 (by kernel_rfl) rfl rfl rfl fun K => ?_
  refine T.seq ?_
  refine T.region ?_
  refine L.a [] [] (Ac.box rfl rfl) rfl rfl rfl rfl rfl ?_
  intro g1
  refine L.a [] [] (Ac.alloc rfl rfl) rfl rfl rfl rfl rfl ?_
  intro g2
  refine L.nil ?_
  refine E.then ?_
  refine T.seq ?_
  refine T.region ?_
  refine L.q 1 rfl ?_
  refine L.y (Yl.ldb 1 rfl rfl rfl rfl) rfl rfl rfl ?_
  refine L.q 1 rfl ?_
  refine L.a [] [] (Ac.alloc rfl rfl) rfl rfl rfl rfl rfl ?_
  intro g3
  refine L.a [0] [] (Ac.stb rfl rfl rfl rfl rfl rfl) rfl rfl rfl rfl rfl ?_
  intro _
  refine L.nil ?_
  refine E.then ?_
  refine T.seq ?_
  refine T.seq ?_
  refine T.region ?_
  refine L.q 1 rfl ?_
  refine L.y (Yl.ldb 2 rfl rfl rfl rfl) rfl rfl rfl ?_
  refine L.q 2 rfl ?_
  refine L.nil ?_
  refine E.then ?_
  obtain ⟨e128, H129, H130⟩ := bnd H
  refine T.join (η := Unit × ((Option Addr × Nat))) (fun h => True) (fun h => (fun a125 c126 => [(2, .pointer (some ⟨g2, 0, none⟩)), (3, .pointer (some ⟨g3, 0, none⟩))]) h.2.1 h.2.2) (fun h => (fun a125 c126 => [Ch.arr tyRef09Cell 81 a125 c126 e128.l, Ch.box g3 59 [.slice a125 e128.l.length c126, .bool e128.wrapped], Ch.box g2 59 [.slice none 0 0, .bool false], Ch.box g1 54 [.slice a_0_0 r_.cells.length c_0_0, .bool r_.wrapped]]) h.2.1 h.2.2) (fun h => (fun a125 c126 => [Im.sl tyRowCell a_0_0 c_0_0 r_.cells]) h.2.1 h.2.2) ?_ ?_
  · refine T.block ?_
    refine T.nil0 tyRef09Cell 81 ?_
    refine T.lp (η := (Option Addr × Nat)) (fun s89 h => (fun a85 c86 => [(2, .pointer (some ⟨g2, 0, none⟩)), (3, .pointer (some ⟨g3, 0, none⟩)), (10, .slice a_0_0 r_.cells.length c_0_0), (11, .int .i64 (r_.cells.length : Int)), (12, .int .i64 s89.2)]) h.1 h.2) (fun s89 h => (fun a85 c86 => [Ch.arr tyRef09Cell 81 a85 c86 s89.1.l, Ch.box g3 59 [.slice a85 s89.1.l.length c86, .bool s89.1.wrapped], Ch.box g2 59 [.slice none 0 0, .bool false], Ch.box g1 54 [.slice a_0_0 r_.cells.length c_0_0, .bool r_.wrapped]]) h.1 h.2) (fun s89 h => (fun a85 c86 => [Im.sl tyRowCell a_0_0 c_0_0 r_.cells]) h.1 h.2) (none, 0) [0, 0, 0, 0] [0] H129 ⟨rfl, rfl, rfl, rfl, rfl, trivial⟩ rfl rfl ?_
    rintro k s89 ⟨a85, c86⟩ z132 H131 hag133 hbr134
    refine T.seq ?_
    refine T.region ?_
    refine L.q 1 rfl ?_
    refine L.nil ?_
    refine E.then ?_
    refine T.seq ?_
    refine T.bif rfl H131 (fun hc H136 => ?_) (fun hc H136 => ?_)
    · refine T.skip ?_
      refine E.then ?_
      refine T.seq ?_
      refine T.block ?_
      refine T.seq ?_
      refine T.region ?_
      obtain ⟨x153, h154, H155⟩ := bnd H136
      refine L.addr 0 rfl (idx_lt h154) fun b156 o157 e158 => ?_
      obtain rfl : a_0_0 = some ⟨b156, o157, none⟩ := e158
      refine L.y (Yl.ia h154 rfl rfl rfl rfl rfl rfl) rfl rfl rfl ?_
      refine L.el 0 rfl (idx_some h154).2 ?_
      rintro _
      refine L.y (Yl.ldc 0 0 rfl rfl rfl rfl) rfl rfl rfl ?_
      refine L.a [] [] (Ac.alloc rfl rfl) rfl rfl rfl rfl rfl ?_
      intro g160
      refine L.a [0] [] (Ac.stb rfl rfl rfl rfl rfl rfl) rfl rfl rfl rfl rfl ?_
      intro _
      refine L.nil ?_
      refine E.then ?_
      refine T.region ?_
      refine L.q 1 rfl ?_
      refine L.y (Yl.ldb 2 rfl rfl rfl rfl) rfl rfl rfl ?_
      refine L.q 1 rfl ?_
      refine L.y (Yl.ldb 0 rfl rfl rfl rfl) rfl rfl rfl ?_
      refine L.q 2 rfl ?_
      refine L.y (Yl.ldb 0 rfl rfl rfl rfl) rfl rfl rfl ?_
      refine L.q 1 rfl ?_
      refine L.y (Yl.ldb 0 rfl rfl rfl rfl) rfl rfl rfl ?_
      refine L.q 1 rfl ?_
      refine L.a [] [] (Ac.bs (ty := tyRef09Cell) (xs := [(Ref09Cell.mk (IntKind.i64.wrap x153.rune) x153.style x153.part)]) (.cons () [] rfl .nil) rfl rfl rfl rfl rfl rfl rfl) rfl rfl rfl rfl rfl ?_
      intro g161
      refine L.frz 0 rfl ?_
      obtain ⟨_, h164, H165⟩ := bnd H155
      refine L.a [1] [0] (Ac.ap (ty := tyRef09Cell) h164 rfl rfl rfl rfl rfl rfl rfl) rfl rfl rfl rfl rfl ?_
      rintro ⟨a166, c167⟩
      refine L.q 1 rfl ?_
      refine L.a [2] [] (Ac.stb rfl rfl rfl rfl rfl rfl) rfl rfl rfl rfl rfl ?_
      intro _
      refine L.nil ?_
      refine E.block ?_
      refine E.then ?_
      refine T.region ?_
      refine L.q 2 rfl ?_
      refine L.nil ?_
      have hr := Option.some.inj H165
      subst z132
      exact E.give (_, (a166, c167)) [1, 0, 1, 1] [2] (hag133 _ rfl) ⟨rfl, rfl, rfl, rfl, rfl, trivial⟩ rfl rfl
    · refine T.exit ?_
      refine E.then_exit' ?_
      refine E.then_exit' ?_
      refine E.block_here ?_
      have hr := Option.some.inj H136
      subst z132
      have hb := hbr134 _ rfl
      subst e128
      exact E.give ((), (a85, c86)) [0, 0, 0, 0] [0] trivial ⟨rfl, rfl, trivial⟩ rfl rfl
  · rintro ⟨_, ⟨a125, c126⟩⟩ _
    refine T.seq ?_
    refine T.region ?_
    refine L.y (Yl.ldb 1 rfl rfl rfl rfl) rfl rfl rfl ?_
    refine L.a [2] [] (Ac.stb rfl rfl rfl rfl rfl rfl) rfl rfl rfl rfl rfl ?_
    intro _
    refine L.nil ?_
    refine E.then ?_
    refine T.ret ?_
    refine E.frz 1 rfl ?_
    have hr := Option.some.inj H130
    subst r
    exact E.ret (a125, c126) [] [0] (.cell 0 rfl rfl rfl .nil) rfl rfl rfl

theorem c_law16_Told {s_ : SnapSnap} (a_0_0 : Option Addr) (c_0_0 : Nat) (a_0_1 : Option Addr) (c_0_1 : Nat) {r : Ref16Snap} (H : p_law16_Told s_ = some r) : CT G 6 [.agg #[.int .i64 s_.k, .int .i64 s_.w, .int .i64 s_.h, .int .i64 s_.x, .int .i64 s_.y, .string s_.title, .slice a_0_0 s_.rows.length c_0_0, .int .i64 s_.len, .int .i64 s_.chain, .slice a_0_1 s_.begun.length c_0_1]] [] [Im.sl tyRowRow a_0_0 c_0_0 s_.rows, Im.sl tyRowGlyph a_0_1 c_0_1 s_.begun] (fun h : (Option Addr × Nat) × (Option Addr × Nat) => .agg #[.int .i64 r.k, .int .i64 r.w, .int .i64 r.h, .int .i64 r.x, .int .i64 r.y, .string r.title, .slice h.1.1 r.rows.length h.1.2, .int .i64 r.len, .int .i64 r.chain, .slice h.2.1 r.begun.length h.2.2]) (fun h => []) (fun h => [Im.sl tyRef09Row h.1.1 h.1.2 r.rows, Im.sl tyRef09Glyph h.2.1 h.2.2 r.begun]) := by
  delta p_law16_Told at H
  refine CT.of Go.Proofs.Tryz.func6 (by kernel_rfl) rfl rfl rfl fun K => ?_
  refine T.seq ?_
  refine T.region ?_
  refine L.a [] [] (Ac.box rfl rfl) rfl rfl rfl rfl rfl ?_
  intro g1
  refine L.a [] [] (Ac.alloc rfl rfl) rfl rfl rfl rfl rfl ?_
  intro g2
  refine L.nil ?_
  refine E.then ?_
  refine T.seq ?_
  obtain ⟨e83, H84, H85⟩ := bnd H
  refine T.join (η := Unit × (Nat × (Option Addr × Nat) × (Option Addr × Nat))) (fun h => True) (fun h => (fun g76 a77 c78 a80 c81 => [(1, .pointer (some ⟨g1, 0, none⟩)), (2, .pointer (some ⟨g2, 0, none⟩)), (3, .pointer (some ⟨g76, 0, none⟩))]) h.2.1 h.2.2.1.1 h.2.2.1.2 h.2.2.2.1 h.2.2.2.2) (fun h => (fun g76 a77 c78 a80 c81 => [Ch.arr tyRef09Row 59 a77 c78 e83.rows, Ch.arr tyRef09Glyph 79 a80 c81 e83.begun, Ch.box g2 32 [.int .i64 0, .int .i64 0, .int .i64 0, .int .i64 0, .int .i64 0, .string (ByteArray.mk #[]), .slice none 0 0, .int .i64 0, .int .i64 0, .slice none 0 0], Ch.box g1 25 [.int .i64 s_.k, .int .i64 s_.w, .int .i64 s_.h, .int .i64 s_.x, .int .i64 s_.y, .string s_.title, .slice a_0_0 s_.rows.length c_0_0, .int .i64 s_.len, .int .i64 s_.chain, .slice a_0_1 s_.begun.length c_0_1], Ch.box g76 32 [.int .i64 e83.k, .int .i64 e83.w, .int .i64 e83.h, .int .i64 e83.x, .int .i64 e83.y, .string e83.title, .slice a77 e83.rows.length c78, .int .i64 e83.len, .int .i64 e83.chain, .slice a80 e83.begun.length c81]]) h.2.1 h.2.2.1.1 h.2.2.1.2 h.2.2.2.1 h.2.2.2.2) (fun h => (fun g76 a77 c78 a80 c81 => [Im.sl tyRowRow a_0_0 c_0_0 s_.rows, Im.sl tyRowGlyph a_0_1 c_0_1 s_.begun]) h.2.1 h.2.2.1.1 h.2.2.1.2 h.2.2.2.1 h.2.2.2.2) ?_ ?_
  · refine T.draw [21] [0, 0] mo (by rfl) rfl ?_
    refine D.q 0 rfl rfl rfl rfl rfl rfl ?_
    refine D.y 1 (Yl.ldb 1 rfl rfl rfl rfl) rfl rfl rfl rfl rfl rfl ?_
    refine D.q 2 rfl rfl rfl rfl rfl rfl ?_
    refine D.y 3 (Yl.ldb 1 rfl rfl rfl rfl) rfl rfl rfl rfl rfl rfl ?_
    refine D.q 4 rfl rfl rfl rfl rfl rfl ?_
    refine D.y 5 (Yl.ldb 1 rfl rfl rfl rfl) rfl rfl rfl rfl rfl rfl ?_
    refine D.q 6 rfl rfl rfl rfl rfl rfl ?_
    refine D.y 7 (Yl.ldb 1 rfl rfl rfl rfl) rfl rfl rfl rfl rfl rfl ?_
    refine D.q 8 rfl rfl rfl rfl rfl rfl ?_
    refine D.y 9 (Yl.ldb 1 rfl rfl rfl rfl) rfl rfl rfl rfl rfl rfl ?_
    refine D.q 10 rfl rfl rfl rfl rfl rfl ?_
    refine D.y 11 (Yl.ldb 1 rfl rfl rfl rfl) rfl rfl rfl rfl rfl rfl ?_
    refine D.q 12 rfl rfl rfl rfl rfl rfl ?_
    refine D.y 13 (Yl.ldb 1 rfl rfl rfl rfl) rfl rfl rfl rfl rfl rfl ?_
    refine D.q 14 rfl rfl rfl rfl rfl rfl ?_
    refine D.y 15 (Yl.ldb 1 rfl rfl rfl rfl) rfl rfl rfl rfl rfl rfl ?_
    refine D.q 16 rfl rfl rfl rfl rfl rfl ?_
    refine D.y 17 (Yl.ldb 1 rfl rfl rfl rfl) rfl rfl rfl rfl rfl rfl ?_
    obtain ⟨r104, h105, H112⟩ := bnd H84
    refine D.two rfl rfl rfl ?_ ?_
    · refine Dp.a [] [1] (Ac.call (c_law14_Told a_0_1 c_0_1 h105) rfl rfl rfl rfl) rfl rfl rfl rfl rfl rfl ?_
      rintro ⟨a114, c115⟩
      refine D.q 19 rfl rfl rfl rfl rfl rfl ?_
      refine D.one rfl rfl rfl (Dp.a [] [] (Ac.alloc rfl rfl) rfl rfl rfl rfl rfl rfl ?_)
      intro g117
      refine D.one rfl rfl rfl (Dp.al [2] [] (Ac.stb rfl rfl rfl rfl rfl rfl) rfl rfl rfl rfl rfl rfl rfl ?_)
      intro _
      refine D.nil rfl rfl ?_
      refine E.nil0 tyRef09Row 59 ?_
      have hr := Option.some.inj H112
      subst e83
      exact E.give ((), (g117, (none, 0), (a114, c115))) [0, 3, 1, 1, 0] [0, 1] trivial ⟨rfl, rfl, rfl, trivial⟩ rfl rfl
    · refine Dp.a [] [] (Ac.alloc rfl rfl) rfl rfl rfl rfl rfl rfl ?_
      intro g119
      refine D.one rfl rfl rfl (Dp.a [] [1] (Ac.call (c_law14_Told a_0_1 c_0_1 h105) rfl rfl rfl rfl) rfl rfl rfl rfl rfl rfl ?_)
      rintro ⟨a121, c122⟩
      refine D.q 19 rfl rfl rfl rfl rfl rfl ?_
      refine D.one rfl rfl rfl (Dp.al [3] [] (Ac.stb rfl rfl rfl rfl rfl rfl) rfl rfl rfl rfl rfl rfl rfl ?_)
      intro _
      refine D.nil rfl rfl ?_
      refine E.nil0 tyRef09Row 59 ?_
      have hr := Option.some.inj H112
      subst e83
      exact E.give ((), (g119, (none, 0), (a121, c122))) [0, 3, 1, 1, 0] [0, 1] trivial ⟨rfl, rfl, rfl, trivial⟩ rfl rfl
  · rintro ⟨_, ⟨g76, ⟨a77, c78⟩, ⟨a80, c81⟩⟩⟩ _
    refine T.seq ?_
    refine T.seq ?_
    refine T.region ?_
    refine L.q 1 rfl ?_
    refine L.y (Yl.ldb 3 rfl rfl rfl rfl) rfl rfl rfl ?_
    refine L.q 2 rfl ?_
    refine L.nil ?_
    refine E.then ?_
    obtain ⟨e389, H390, H391⟩ := bnd H85
    refine T.join (η := Unit × ((Option Addr × Nat))) (fun h => True) (fun h => (fun a385 c386 => [(2, .pointer (some ⟨g2, 0, none⟩)), (3, .pointer (some ⟨g76, 0, none⟩))]) h.2.1 h.2.2) (fun h => (fun a385 c386 => [Ch.arr tyRef09Row 59 a385 c386 e389.rows, Ch.arr tyRef09Glyph 79 a80 c81 e389.begun, Ch.box g2 32 [.int .i64 0, .int .i64 0, .int .i64 0, .int .i64 0, .int .i64 0, .string (ByteArray.mk #[]), .slice none 0 0, .int .i64 0, .int .i64 0, .slice none 0 0], Ch.box g1 25 [.int .i64 s_.k, .int .i64 s_.w, .int .i64 s_.h, .int .i64 s_.x, .int .i64 s_.y, .string s_.title, .slice a_0_0 s_.rows.length c_0_0, .int .i64 s_.len, .int .i64 s_.chain, .slice a_0_1 s_.begun.length c_0_1], Ch.box g76 32 [.int .i64 e389.k, .int .i64 e389.w, .int .i64 e389.h, .int .i64 e389.x, .int .i64 e389.y, .string e389.title, .slice a385 e389.rows.length c386, .int .i64 e389.len, .int .i64 e389.chain, .slice a80 e389.begun.length c81]]) h.2.1 h.2.2) (fun h => (fun a385 c386 => [Im.sl tyRowRow a_0_0 c_0_0 s_.rows, Im.sl tyRowGlyph a_0_1 c_0_1 s_.begun]) h.2.1 h.2.2) ?_ ?_
    · refine T.block ?_
      refine T.lp (η := (Option Addr × Nat)) (fun s303 h => (fun a298 c299 => [(2, .pointer (some ⟨g2, 0, none⟩)), (3, .pointer (some ⟨g76, 0, none⟩)), (27, .slice a_0_0 s_.rows.length c_0_0), (28, .int .i64 (s_.rows.length : Int)), (29, .int .i64 s303.2)]) h.1 h.2) (fun s303 h => (fun a298 c299 => [Ch.arr tyRef09Row 59 a298 c299 s303.1.rows, Ch.arr tyRef09Glyph 79 a80 c81 s303.1.begun, Ch.box g2 32 [.int .i64 0, .int .i64 0, .int .i64 0, .int .i64 0, .int .i64 0, .string (ByteArray.mk #[]), .slice none 0 0, .int .i64 0, .int .i64 0, .slice none 0 0], Ch.box g1 25 [.int .i64 s_.k, .int .i64 s_.w, .int .i64 s_.h, .int .i64 s_.x, .int .i64 s_.y, .string s_.title, .slice a_0_0 s_.rows.length c_0_0, .int .i64 s_.len, .int .i64 s_.chain, .slice a_0_1 s_.begun.length c_0_1], Ch.box g76 32 [.int .i64 s303.1.k, .int .i64 s303.1.w, .int .i64 s303.1.h, .int .i64 s303.1.x, .int .i64 s303.1.y, .string s303.1.title, .slice a298 s303.1.rows.length c299, .int .i64 s303.1.len, .int .i64 s303.1.chain, .slice a80 s303.1.begun.length c81]]) h.1 h.2) (fun s303 h => (fun a298 c299 => [Im.sl tyRowRow a_0_0 c_0_0 s_.rows, Im.sl tyRowGlyph a_0_1 c_0_1 s_.begun]) h.1 h.2) (a77, c78) [0, 0, 0, 0, 0] [0, 1] H390 ⟨rfl, rfl, rfl, rfl, rfl, trivial⟩ rfl rfl ?_
      rintro k s303 ⟨a298, c299⟩ z393 H392 hag394 hbr395
      refine T.seq ?_
      refine T.region ?_
      refine L.q 1 rfl ?_
      refine L.nil ?_
      refine E.then ?_
      refine T.seq ?_
      refine T.bif rfl H392 (fun hc H397 => ?_) (fun hc H397 => ?_)
      · refine T.skip ?_
        refine E.then ?_
        refine T.seq ?_
        refine T.block ?_
        refine T.seq ?_
        refine T.region ?_
        obtain ⟨x437, h438, H439⟩ := bnd H397
        refine L.addr 0 rfl (idx_lt h438) fun b440 o441 e442 => ?_
        obtain rfl : a_0_0 = some ⟨b440, o441, none⟩ := e442
        refine L.y (Yl.ia h438 rfl rfl rfl rfl rfl rfl) rfl rfl rfl ?_
        refine L.el 0 rfl (idx_some h438).2 ?_
        rintro ⟨a443, c444⟩
        refine L.y (Yl.ldc 0 0 rfl rfl rfl rfl) rfl rfl rfl ?_
        refine L.a [] [] (Ac.alloc rfl rfl) rfl rfl rfl rfl rfl ?_
        intro g447
        refine L.a [0] [] (Ac.stb rfl rfl rfl rfl rfl rfl) rfl rfl rfl rfl rfl ?_
        intro _
        refine L.nil ?_
        refine E.then ?_
        refine T.draw [7] [0, 1, 1, 1, 1] mo (by rfl) rfl ?_
        refine D.q 0 rfl rfl rfl rfl rfl rfl ?_
        refine D.y 1 (Yl.ldb 4 rfl rfl rfl rfl) rfl rfl rfl rfl rfl rfl ?_
        refine D.y 2 (Yl.ldb 0 rfl rfl rfl rfl) rfl rfl rfl rfl rfl rfl ?_
        obtain ⟨r462, h463, H464⟩ := bnd H439
        refine D.one rfl rfl rfl (Dp.a [] [1] (Ac.call (c_law09_Told a443 c444 h463) rfl rfl rfl rfl) rfl rfl rfl rfl rfl rfl ?_)
        rintro ⟨a465, c466⟩
        refine D.one rfl rfl rfl (Dp.a [] [0] (Ac.bs (ty := tyRef09Row) (xs := [r462]) (.cons (a465, c466) [0] rfl .nil) rfl rfl rfl rfl rfl rfl rfl) rfl rfl rfl rfl rfl rfl ?_)
        intro g468
        refine D.frz 0 rfl ?_
        obtain ⟨_, h471, H472⟩ := bnd H464
        refine D.one rfl rfl rfl (Dp.a [0] [0] (Ac.ap (ty := tyRef09Row) h471 rfl rfl rfl rfl rfl rfl rfl) rfl rfl rfl rfl rfl rfl ?_)
        rintro ⟨a473, c474⟩
        refine D.q 6 rfl rfl rfl rfl rfl rfl ?_
        refine D.one rfl rfl rfl (Dp.al [4] [] (Ac.stb rfl rfl rfl rfl rfl rfl) rfl rfl rfl rfl rfl rfl rfl ?_)
        intro _
        refine D.nil rfl rfl ?_
        refine E.block ?_
        refine E.then ?_
        refine T.region ?_
        refine L.q 2 rfl ?_
        refine L.nil ?_
        have hr := Option.some.inj H472
        subst z393
        exact E.give (_, (a473, c474)) [5, 2, 2, 2, 0] [4, 5] (hag394 _ rfl) ⟨rfl, rfl, rfl, rfl, rfl, trivial⟩ rfl rfl
      · refine T.exit ?_
        refine E.then_exit' ?_
        refine E.then_exit' ?_
        refine E.block_here ?_
        have hr := Option.some.inj H397
        subst z393
        have hb := hbr395 _ rfl
        subst e389
        exact E.give ((), (a298, c299)) [0, 0, 0, 0, 0] [0, 1] trivial ⟨rfl, rfl, trivial⟩ rfl rfl
    · rintro ⟨_, ⟨a385, c386⟩⟩ _
      refine T.seq ?_
      refine T.region ?_
      refine L.y (Yl.ldb 4 rfl rfl rfl rfl) rfl rfl rfl ?_
      refine L.a [2] [] (Ac.stb rfl rfl rfl rfl rfl rfl) rfl rfl rfl rfl rfl ?_
      intro _
      refine L.nil ?_
      refine E.then ?_
      refine T.ret ?_
      refine E.frz 1 rfl ?_
      refine E.frz 1 rfl ?_
      have hr := Option.some.inj H391
      subst r
      exact E.ret ((a385, c386), (a80, c81)) [] [1, 0] (.cell 0 rfl rfl rfl .nil) rfl rfl rfl

theorem c_ref16_Empty {s_ : Ref16Snap} (a_0_0 : Option Addr) (c_0_0 : Nat) (a_0_1 : Option Addr) (c_0_1 : Nat) {r : Bool} (H : p_ref16_Empty s_ = some r) : CT G 38 [.agg #[.int .i64 s_.k, .int .i64 s_.w, .int .i64 s_.h, .int .i64 s_.x, .int .i64 s_.y, .string s_.title, .slice a_0_0 s_.rows.length c_0_0, .int .i64 s_.len, .int .i64 s_.chain, .slice a_0_1 s_.begun.length c_0_1]] [] [Im.sl tyRef09Row a_0_0 c_0_0 s_.rows, Im.sl tyRef09Glyph a_0_1 c_0_1 s_.begun] (fun h : Unit => .bool r) (fun h => []) (fun h => []) := by
  delta p_ref16_Empty at H
  refine CT.of Go.Proofs.Tryz.func38 (by kernel_rfl) rfl rfl rfl fun K => ?_
  refine T.seq ?_
  refine T.region ?_
  refine L.a [] [] (Ac.box rfl rfl) rfl rfl rfl rfl rfl ?_
  intro g1
  refine L.q 1 rfl ?_
  refine L.nil ?_
  refine E.then ?_
  refine T.seq ?_
  obtain ⟨e21, H22, H23⟩ := bnd H
  refine T.join (η := Unit × Unit) (fun h => True) (fun h => [(2, .bool e21)]) (fun h => [Ch.box g1 32 [.int .i64 s_.k, .int .i64 s_.w, .int .i64 s_.h, .int .i64 s_.x, .int .i64 s_.y, .string s_.title, .slice a_0_0 s_.rows.length c_0_0, .int .i64 s_.len, .int .i64 s_.chain, .slice a_0_1 s_.begun.length c_0_1]]) (fun h => [Im.sl tyRef09Row a_0_0 c_0_0 s_.rows, Im.sl tyRef09Glyph a_0_1 c_0_1 s_.begun]) ?_ ?_
  · refine T.region ?_
    refine L.q 1 rfl ?_
    refine L.y (Yl.ldb 0 rfl rfl rfl rfl) rfl rfl rfl ?_
    refine L.q 2 rfl ?_
    refine L.cs 6 H22 rfl (fun hc H24 => ?_) (fun hc H24 => ?_)
    · refine L.q 1 rfl ?_
      refine L.y (Yl.ldb 0 rfl rfl rfl rfl) rfl rfl rfl ?_
      refine L.q 3 rfl ?_
      refine L.cs 11 H24 rfl (fun hc H25 => ?_) (fun hc H25 => ?_)
      · refine L.q 1 rfl ?_
        refine L.y (Yl.ldb 0 rfl rfl rfl rfl) rfl rfl rfl ?_
        refine L.q 3 rfl ?_
        refine L.cs 16 H25 rfl (fun hc H26 => ?_) (fun hc H26 => ?_)
        · refine L.q 1 rfl ?_
          refine L.y (Yl.ldb 0 rfl rfl rfl rfl) rfl rfl rfl ?_
          refine L.q 3 rfl ?_
          refine L.cs 21 H26 rfl (fun hc H27 => ?_) (fun hc H27 => ?_)
          · refine L.q 1 rfl ?_
            refine L.y (Yl.ldb 0 rfl rfl rfl rfl) rfl rfl rfl ?_
            refine L.q 3 rfl ?_
            refine L.cs 26 H27 rfl (fun hc H28 => ?_) (fun hc H28 => ?_)
            · refine L.q 1 rfl ?_
              refine L.y (Yl.ldb 0 rfl rfl rfl rfl) rfl rfl rfl ?_
              refine L.q 3 rfl ?_
              refine L.cs 31 H28 rfl (fun hc H29 => ?_) (fun hc H29 => ?_)
              · refine L.q 1 rfl ?_
                refine L.y (Yl.ldb 0 rfl rfl rfl rfl) rfl rfl rfl ?_
                refine L.q 4 rfl ?_
                refine L.cs 37 H29 rfl (fun hc H30 => ?_) (fun hc H30 => ?_)
                · refine L.q 1 rfl ?_
                  refine L.y (Yl.ldb 0 rfl rfl rfl rfl) rfl rfl rfl ?_
                  refine L.q 3 rfl ?_
                  refine L.cs 42 H30 rfl (fun hc H31 => ?_) (fun hc H31 => ?_)
                  · refine L.q 1 rfl ?_
                    refine L.y (Yl.ldb 0 rfl rfl rfl rfl) rfl rfl rfl ?_
                    refine L.q 3 rfl ?_
                    refine L.cs 47 H31 rfl (fun hc H32 => ?_) (fun hc H32 => ?_)
                    · refine L.q 1 rfl ?_
                      refine L.y (Yl.ldb 0 rfl rfl rfl rfl) rfl rfl rfl ?_
                      refine L.q 4 rfl ?_
                      refine L.nil ?_
                      have hr := Option.some.inj H32
                      subst e21
                      exact E.give ((), ()) [0] [0, 1] trivial ⟨rfl, trivial⟩ rfl rfl
                    · refine L.q 6 rfl ?_
                      refine L.nil ?_
                      have hr := Option.some.inj H32
                      subst e21
                      exact E.give ((), ()) [0] [0, 1] trivial ⟨rfl, trivial⟩ rfl rfl
                  · refine L.q 11 rfl ?_
                    refine L.nil ?_
                    have hr := Option.some.inj H31
                    subst e21
                    exact E.give ((), ()) [0] [0, 1] trivial ⟨rfl, trivial⟩ rfl rfl
                · refine L.q 16 rfl ?_
                  refine L.nil ?_
                  have hr := Option.some.inj H30
                  subst e21
                  exact E.give ((), ()) [0] [0, 1] trivial ⟨rfl, trivial⟩ rfl rfl
              · refine L.q 22 rfl ?_
                refine L.nil ?_
                have hr := Option.some.inj H29
                subst e21
                exact E.give ((), ()) [0] [0, 1] trivial ⟨rfl, trivial⟩ rfl rfl
            · refine L.q 27 rfl ?_
              refine L.nil ?_
              have hr := Option.some.inj H28
              subst e21
              exact E.give ((), ()) [0] [0, 1] trivial ⟨rfl, trivial⟩ rfl rfl
          · refine L.q 32 rfl ?_
            refine L.nil ?_
            have hr := Option.some.inj H27
            subst e21
            exact E.give ((), ()) [0] [0, 1] trivial ⟨rfl, trivial⟩ rfl rfl
        · refine L.q 37 rfl ?_
          refine L.nil ?_
          have hr := Option.some.inj H26
          subst e21
          exact E.give ((), ()) [0] [0, 1] trivial ⟨rfl, trivial⟩ rfl rfl
      · refine L.q 42 rfl ?_
        refine L.nil ?_
        have hr := Option.some.inj H25
        subst e21
        exact E.give ((), ()) [0] [0, 1] trivial ⟨rfl, trivial⟩ rfl rfl
    · refine L.q 47 rfl ?_
      refine L.nil ?_
      have hr := Option.some.inj H24
      subst e21
      exact E.give ((), ()) [0] [0, 1] trivial ⟨rfl, trivial⟩ rfl rfl
  · rintro ⟨_, ⟨⟩⟩ _
    refine T.ret ?_
    have hr := Option.some.inj H23
    subst r
    exact E.ret () [] [] (.tmp rfl .nil) rfl rfl rfl

theorem c_ref16_May {s_ : Ref16Snap} (a_0_0 : Option Addr) (c_0_0 : Nat) (a_0_1 : Option Addr) (c_0_1 : Nat) {r : Bool} (H : p_ref16_May s_ = some r) : CT G 9 [.agg #[.int .i64 s_.k, .int .i64 s_.w, .int .i64 s_.h, .int .i64 s_.x, .int .i64 s_.y, .string s_.title, .slice a_0_0 s_.rows.length c_0_0, .int .i64 s_.len, .int .i64 s_.chain, .slice a_0_1 s_.begun.length c_0_1]] [] [Im.sl tyRef09Row a_0_0 c_0_0 s_.rows, Im.sl tyRef09Glyph a_0_1 c_0_1 s_.begun] (fun h : Unit => .bool r) (fun h => []) (fun h => []) := by
  delta p_ref16_May at H
  refine CT.of Go.Proofs.Tryz.func9 (by kernel_rfl) rfl rfl rfl fun K => ?_
  refine T.seq ?_
  refine T.region ?_
  refine L.a [] [] (Ac.box rfl rfl) rfl rfl rfl rfl rfl ?_
  intro g1
  refine L.q 1 rfl ?_
  refine L.nil ?_
  refine E.then ?_
  refine T.seq ?_
  refine T.seq ?_
  refine T.region ?_
  refine L.y (Yl.ldb 0 rfl rfl rfl rfl) rfl rfl rfl ?_
  obtain ⟨r2, h3, H4⟩ := bnd H
  refine L.a [] [0, 1] (Ac.call (c_ref16_Empty a_0_0 c_0_0 a_0_1 c_0_1 h3) rfl rfl rfl rfl) rfl rfl rfl rfl rfl ?_
  rintro ⟨⟩
  refine L.nil ?_
  refine E.then ?_
  refine T.bif rfl H4 (fun hc H6 => ?_) (fun hc H6 => ?_)
  · refine T.seq ?_
    refine T.region ?_
    refine L.q 1 rfl ?_
    refine L.nil ?_
    refine E.then ?_
    refine T.ret ?_
    refine E.then_ret ?_
    have hr := Option.some.inj H6
    subst r
    exact E.ret () [] [] (.tmp rfl .nil) rfl rfl rfl
  · refine T.skip ?_
    refine E.then ?_
    refine T.seq ?_
    refine T.seq ?_
    obtain ⟨e28, H29, H30⟩ := bnd H6
    refine T.join (η := Unit × Unit) (fun h => True) (fun h => [(1, .pointer (some ⟨g1, 0, none⟩)), (70, .bool e28)]) (fun h => [Ch.box g1 32 [.int .i64 s_.k, .int .i64 s_.w, .int .i64 s_.h, .int .i64 s_.x, .int .i64 s_.y, .string s_.title, .slice a_0_0 s_.rows.length c_0_0, .int .i64 s_.len, .int .i64 s_.chain, .slice a_0_1 s_.begun.length c_0_1]]) (fun h => [Im.sl tyRef09Row a_0_0 c_0_0 s_.rows, Im.sl tyRef09Glyph a_0_1 c_0_1 s_.begun]) ?_ ?_
    · refine T.region ?_
      refine L.q 1 rfl ?_
      refine L.y (Yl.ldb 0 rfl rfl rfl rfl) rfl rfl rfl ?_
      refine L.q 2 rfl ?_
      refine L.cs 14 H29 rfl (fun hc H31 => ?_) (fun hc H31 => ?_)
      · refine L.q 56 rfl ?_
        refine L.nil ?_
        have hr := Option.some.inj H31
        subst e28
        exact E.give ((), ()) [0] [0, 1] trivial ⟨rfl, rfl, trivial⟩ rfl rfl
      · refine L.q 1 rfl ?_
        refine L.y (Yl.ldb 0 rfl rfl rfl rfl) rfl rfl rfl ?_
        refine L.q 3 rfl ?_
        refine L.cs 19 H31 rfl (fun hc H32 => ?_) (fun hc H32 => ?_)
        · refine L.q 51 rfl ?_
          refine L.nil ?_
          have hr := Option.some.inj H32
          subst e28
          exact E.give ((), ()) [0] [0, 1] trivial ⟨rfl, rfl, trivial⟩ rfl rfl
        · refine L.q 1 rfl ?_
          refine L.y (Yl.ldb 0 rfl rfl rfl rfl) rfl rfl rfl ?_
          refine L.q 3 rfl ?_
          refine L.cs 24 H32 rfl (fun hc H33 => ?_) (fun hc H33 => ?_)
          · refine L.q 46 rfl ?_
            refine L.nil ?_
            have hr := Option.some.inj H33
            subst e28
            exact E.give ((), ()) [0] [0, 1] trivial ⟨rfl, rfl, trivial⟩ rfl rfl
          · refine L.q 1 rfl ?_
            refine L.y (Yl.ldb 0 rfl rfl rfl rfl) rfl rfl rfl ?_
            refine L.q 3 rfl ?_
            refine L.cs 29 H33 rfl (fun hc H34 => ?_) (fun hc H34 => ?_)
            · refine L.q 41 rfl ?_
              refine L.nil ?_
              have hr := Option.some.inj H34
              subst e28
              exact E.give ((), ()) [0] [0, 1] trivial ⟨rfl, rfl, trivial⟩ rfl rfl
            · refine L.q 1 rfl ?_
              refine L.y (Yl.ldb 0 rfl rfl rfl rfl) rfl rfl rfl ?_
              refine L.q 3 rfl ?_
              refine L.cs 34 H34 rfl (fun hc H35 => ?_) (fun hc H35 => ?_)
              · refine L.q 36 rfl ?_
                refine L.nil ?_
                have hr := Option.some.inj H35
                subst e28
                exact E.give ((), ()) [0] [0, 1] trivial ⟨rfl, rfl, trivial⟩ rfl rfl
              · refine L.q 1 rfl ?_
                refine L.y (Yl.ldb 0 rfl rfl rfl rfl) rfl rfl rfl ?_
                refine L.q 3 rfl ?_
                refine L.cs 39 H35 rfl (fun hc H36 => ?_) (fun hc H36 => ?_)
                · refine L.q 31 rfl ?_
                  refine L.nil ?_
                  have hr := Option.some.inj H36
                  subst e28
                  exact E.give ((), ()) [0] [0, 1] trivial ⟨rfl, rfl, trivial⟩ rfl rfl
                · refine L.q 1 rfl ?_
                  refine L.y (Yl.ldb 0 rfl rfl rfl rfl) rfl rfl rfl ?_
                  refine L.q 3 rfl ?_
                  refine L.cs 44 H36 rfl (fun hc H37 => ?_) (fun hc H37 => ?_)
                  · refine L.q 26 rfl ?_
                    refine L.nil ?_
                    have hr := Option.some.inj H37
                    subst e28
                    exact E.give ((), ()) [0] [0, 1] trivial ⟨rfl, rfl, trivial⟩ rfl rfl
                  · refine L.q 1 rfl ?_
                    refine L.y (Yl.ldb 0 rfl rfl rfl rfl) rfl rfl rfl ?_
                    refine L.q 1 rfl ?_
                    refine L.y (Yl.ldb 0 rfl rfl rfl rfl) rfl rfl rfl ?_
                    refine L.q 3 rfl ?_
                    refine L.cs 51 H37 rfl (fun hc H38 => ?_) (fun hc H38 => ?_)
                    · refine L.q 19 rfl ?_
                      refine L.nil ?_
                      have hr := Option.some.inj H38
                      subst e28
                      exact E.give ((), ()) [0] [0, 1] trivial ⟨rfl, rfl, trivial⟩ rfl rfl
                    · refine L.q 1 rfl ?_
                      refine L.y (Yl.ldb 0 rfl rfl rfl rfl) rfl rfl rfl ?_
                      refine L.q 3 rfl ?_
                      refine L.cs 56 H38 rfl (fun hc H39 => ?_) (fun hc H39 => ?_)
                      · refine L.q 14 rfl ?_
                        refine L.nil ?_
                        have hr := Option.some.inj H39
                        subst e28
                        exact E.give ((), ()) [0] [0, 1] trivial ⟨rfl, rfl, trivial⟩ rfl rfl
                      · refine L.q 1 rfl ?_
                        refine L.y (Yl.ldb 0 rfl rfl rfl rfl) rfl rfl rfl ?_
                        refine L.q 1 rfl ?_
                        refine L.y (Yl.ldb 0 rfl rfl rfl rfl) rfl rfl rfl ?_
                        refine L.q 3 rfl ?_
                        refine L.cs 63 H39 rfl (fun hc H40 => ?_) (fun hc H40 => ?_)
                        · refine L.q 7 rfl ?_
                          refine L.nil ?_
                          have hr := Option.some.inj H40
                          subst e28
                          exact E.give ((), ()) [0] [0, 1] trivial ⟨rfl, rfl, trivial⟩ rfl rfl
                        · refine L.q 1 rfl ?_
                          refine L.y (Yl.ldb 0 rfl rfl rfl rfl) rfl rfl rfl ?_
                          refine L.q 2 rfl ?_
                          refine L.y (Yl.ldb 0 rfl rfl rfl rfl) rfl rfl rfl ?_
                          refine L.q 2 rfl ?_
                          refine L.nil ?_
                          have hr := Option.some.inj H40
                          subst e28
                          exact E.give ((), ()) [0] [0, 1] trivial ⟨rfl, rfl, trivial⟩ rfl rfl
    · rintro ⟨_, ⟨⟩⟩ _
      refine T.bif rfl H30 (fun hc H42 => ?_) (fun hc H42 => ?_)
      · refine T.seq ?_
        refine T.region ?_
        refine L.q 1 rfl ?_
        refine L.nil ?_
        refine E.then ?_
        refine T.ret ?_
        refine E.then_ret ?_
        have hr := Option.some.inj H42
        subst r
        exact E.ret () [] [] (.tmp rfl .nil) rfl rfl rfl
      · refine T.skip ?_
        refine E.then ?_
        refine T.seq ?_
        refine T.seq ?_
        obtain ⟨e54, H55, H56⟩ := bnd H42
        refine T.join (η := Unit × Unit) (fun h => True) (fun h => [(1, .pointer (some ⟨g1, 0, none⟩)), (100, .bool e54)]) (fun h => [Ch.box g1 32 [.int .i64 s_.k, .int .i64 s_.w, .int .i64 s_.h, .int .i64 s_.x, .int .i64 s_.y, .string s_.title, .slice a_0_0 s_.rows.length c_0_0, .int .i64 s_.len, .int .i64 s_.chain, .slice a_0_1 s_.begun.length c_0_1]]) (fun h => [Im.sl tyRef09Row a_0_0 c_0_0 s_.rows, Im.sl tyRef09Glyph a_0_1 c_0_1 s_.begun]) ?_ ?_
        · refine T.region ?_
          refine L.q 1 rfl ?_
          refine L.y (Yl.ldb 0 rfl rfl rfl rfl) rfl rfl rfl ?_
          refine L.q 3 rfl ?_
          refine L.cs 75 H55 rfl (fun hc H57 => ?_) (fun hc H57 => ?_)
          · refine L.q 25 rfl ?_
            refine L.nil ?_
            have hr := Option.some.inj H57
            subst e54
            exact E.give ((), ()) [0] [0, 1] trivial ⟨rfl, rfl, trivial⟩ rfl rfl
          · refine L.q 1 rfl ?_
            refine L.y (Yl.ldb 0 rfl rfl rfl rfl) rfl rfl rfl ?_
            refine L.q 3 rfl ?_
            refine L.cs 80 H57 rfl (fun hc H58 => ?_) (fun hc H58 => ?_)
            · refine L.q 20 rfl ?_
              refine L.nil ?_
              have hr := Option.some.inj H58
              subst e54
              exact E.give ((), ()) [0] [0, 1] trivial ⟨rfl, rfl, trivial⟩ rfl rfl
            · refine L.q 1 rfl ?_
              refine L.y (Yl.ldb 0 rfl rfl rfl rfl) rfl rfl rfl ?_
              refine L.q 3 rfl ?_
              refine L.cs 85 H58 rfl (fun hc H59 => ?_) (fun hc H59 => ?_)
              · refine L.q 15 rfl ?_
                refine L.nil ?_
                have hr := Option.some.inj H59
                subst e54
                exact E.give ((), ()) [0] [0, 1] trivial ⟨rfl, rfl, trivial⟩ rfl rfl
              · refine L.q 1 rfl ?_
                refine L.y (Yl.ldb 0 rfl rfl rfl rfl) rfl rfl rfl ?_
                refine L.q 3 rfl ?_
                refine L.cs 90 H59 rfl (fun hc H60 => ?_) (fun hc H60 => ?_)
                · refine L.q 10 rfl ?_
                  refine L.nil ?_
                  have hr := Option.some.inj H60
                  subst e54
                  exact E.give ((), ()) [0] [0, 1] trivial ⟨rfl, rfl, trivial⟩ rfl rfl
                · refine L.q 1 rfl ?_
                  refine L.y (Yl.ldb 0 rfl rfl rfl rfl) rfl rfl rfl ?_
                  refine L.q 3 rfl ?_
                  refine L.cs 95 H60 rfl (fun hc H61 => ?_) (fun hc H61 => ?_)
                  · refine L.q 5 rfl ?_
                    refine L.nil ?_
                    have hr := Option.some.inj H61
                    subst e54
                    exact E.give ((), ()) [0] [0, 1] trivial ⟨rfl, rfl, trivial⟩ rfl rfl
                  · refine L.q 1 rfl ?_
                    refine L.y (Yl.ldb 0 rfl rfl rfl rfl) rfl rfl rfl ?_
                    refine L.q 3 rfl ?_
                    refine L.nil ?_
                    have hr := Option.some.inj H61
                    subst e54
                    exact E.give ((), ()) [0] [0, 1] trivial ⟨rfl, rfl, trivial⟩ rfl rfl
        · rintro ⟨_, ⟨⟩⟩ _
          refine T.bif rfl H56 (fun hc H63 => ?_) (fun hc H63 => ?_)
          · refine T.seq ?_
            refine T.region ?_
            refine L.q 1 rfl ?_
            refine L.nil ?_
            refine E.then ?_
            refine T.ret ?_
            refine E.then_ret ?_
            have hr := Option.some.inj H63
            subst r
            exact E.ret () [] [] (.tmp rfl .nil) rfl rfl rfl
          · refine T.skip ?_
            refine E.then ?_
            refine T.seq ?_
            refine T.seq ?_
            refine T.region ?_
            refine L.q 1 rfl ?_
            refine L.y (Yl.ldb 0 rfl rfl rfl rfl) rfl rfl rfl ?_
            refine L.q 2 rfl ?_
            refine L.nil ?_
            refine E.then ?_
            obtain ⟨y207, H208, H209⟩ := bnd H63
            refine T.join (η := Unit × Unit) (fun h => y207 = .inl h.1) (fun h => (fun e206 => [(1, .pointer (some ⟨g1, 0, none⟩))]) h.1) (fun h => (fun e206 => [Ch.box g1 32 [.int .i64 s_.k, .int .i64 s_.w, .int .i64 s_.h, .int .i64 s_.x, .int .i64 s_.y, .string s_.title, .slice a_0_0 s_.rows.length c_0_0, .int .i64 s_.len, .int .i64 s_.chain, .slice a_0_1 s_.begun.length c_0_1]]) h.1) (fun h => (fun e206 => [Im.sl tyRef09Row a_0_0 c_0_0 s_.rows, Im.sl tyRef09Glyph a_0_1 c_0_1 s_.begun]) h.1) ?_ ?_
            · refine T.block ?_
              refine T.lp (η := Unit) (fun s159 h => [(1, .pointer (some ⟨g1, 0, none⟩)), (102, .slice a_0_1 s_.begun.length c_0_1), (103, .int .i64 (s_.begun.length : Int)), (104, .int .i64 s159)]) (fun s159 h => [Ch.box g1 32 [.int .i64 s_.k, .int .i64 s_.w, .int .i64 s_.h, .int .i64 s_.x, .int .i64 s_.y, .string s_.title, .slice a_0_0 s_.rows.length c_0_0, .int .i64 s_.len, .int .i64 s_.chain, .slice a_0_1 s_.begun.length c_0_1]]) (fun s159 h => [Im.sl tyRef09Row a_0_0 c_0_0 s_.rows, Im.sl tyRef09Glyph a_0_1 c_0_1 s_.begun]) () [0] [0, 1] H208 ⟨rfl, rfl, rfl, rfl, trivial⟩ rfl rfl ?_
              rintro k s159 ⟨⟩ z211 H210 hag212 hbr213
              refine T.seq ?_
              refine T.region ?_
              refine L.q 1 rfl ?_
              refine L.nil ?_
              refine E.then ?_
              refine T.seq ?_
              refine T.bif rfl H210 (fun hc H215 => ?_) (fun hc H215 => ?_)
              · refine T.skip ?_
                refine E.then ?_
                refine T.seq ?_
                refine T.block ?_
                refine T.seq ?_
                refine T.region ?_
                obtain ⟨x238, h239, H240⟩ := bnd H215
                refine L.addr 1 rfl (idx_lt h239) fun b241 o242 e243 => ?_
                obtain rfl : a_0_1 = some ⟨b241, o242, none⟩ := e243
                refine L.y (Yl.ia h239 rfl rfl rfl rfl rfl rfl) rfl rfl rfl ?_
                refine L.el 1 rfl (idx_some h239).2 ?_
                rintro _
                refine L.y (Yl.ldc 0 0 rfl rfl rfl rfl) rfl rfl rfl ?_
                refine L.a [] [] (Ac.alloc rfl rfl) rfl rfl rfl rfl rfl ?_
                intro g245
                refine L.a [0] [] (Ac.stb rfl rfl rfl rfl rfl rfl) rfl rfl rfl rfl rfl ?_
                intro _
                refine L.nil ?_
                refine E.then ?_
                refine T.seq ?_
                obtain ⟨e253, H254, H255⟩ := bnd H240
                refine T.join (η := Unit × Unit) (fun h => True) (fun h => [(1, .pointer (some ⟨g1, 0, none⟩)), (102, .slice (some ⟨b241, o242, none⟩) s_.begun.length c_0_1), (103, .int .i64 (s_.begun.length : Int)), (104, .int .i64 s159), (125, .bool e253)]) (fun h => [Ch.box g245 79 [.int .i64 x238.rune, .int .i64 x238.style], Ch.box g1 32 [.int .i64 s_.k, .int .i64 s_.w, .int .i64 s_.h, .int .i64 s_.x, .int .i64 s_.y, .string s_.title, .slice a_0_0 s_.rows.length c_0_0, .int .i64 s_.len, .int .i64 s_.chain, .slice (some ⟨b241, o242, none⟩) s_.begun.length c_0_1]]) (fun h => [Im.cells b241 (o242 + s159.toNat * 2) [.int .i64 x238.rune, .int .i64 x238.style], Im.sl tyRef09Row a_0_0 c_0_0 s_.rows, Im.sl tyRef09Glyph (some ⟨b241, o242, none⟩) c_0_1 s_.begun]) ?_ ?_
                · refine T.region ?_
                  refine L.q 1 rfl ?_
                  refine L.y (Yl.ldb 0 rfl rfl rfl rfl) rfl rfl rfl ?_
                  refine L.q 2 rfl ?_
                  refine L.cs 111 H254 rfl (fun hc H256 => ?_) (fun hc H256 => ?_)
                  · refine L.q 14 rfl ?_
                    refine L.nil ?_
                    have hr := Option.some.inj H256
                    subst e253
                    exact E.give ((), ()) [0, 0] [0, 1, 2] trivial ⟨rfl, rfl, rfl, rfl, rfl, trivial⟩ rfl rfl
                  · refine L.q 1 rfl ?_
                    refine L.y (Yl.ldb 0 rfl rfl rfl rfl) rfl rfl rfl ?_
                    refine L.q 3 rfl ?_
                    refine L.cs 116 H256 rfl (fun hc H257 => ?_) (fun hc H257 => ?_)
                    · refine L.q 9 rfl ?_
                      refine L.nil ?_
                      have hr := Option.some.inj H257
                      subst e253
                      exact E.give ((), ()) [0, 0] [0, 1, 2] trivial ⟨rfl, rfl, rfl, rfl, rfl, trivial⟩ rfl rfl
                    · refine L.q 1 rfl ?_
                      refine L.y (Yl.ldb 0 rfl rfl rfl rfl) rfl rfl rfl ?_
                      refine L.q 3 rfl ?_
                      refine L.cs 121 H257 rfl (fun hc H258 => ?_) (fun hc H258 => ?_)
                      · refine L.q 4 rfl ?_
                        refine L.nil ?_
                        have hr := Option.some.inj H258
                        subst e253
                        exact E.give ((), ()) [0, 0] [0, 1, 2] trivial ⟨rfl, rfl, rfl, rfl, rfl, trivial⟩ rfl rfl
                      · refine L.q 1 rfl ?_
                        refine L.y (Yl.ldb 0 rfl rfl rfl rfl) rfl rfl rfl ?_
                        refine L.q 2 rfl ?_
                        refine L.nil ?_
                        have hr := Option.some.inj H258
                        subst e253
                        exact E.give ((), ()) [0, 0] [0, 1, 2] trivial ⟨rfl, rfl, rfl, rfl, rfl, trivial⟩ rfl rfl
                · rintro ⟨_, ⟨⟩⟩ _
                  refine T.bif rfl H255 (fun hc H259 => ?_) (fun hc H259 => ?_)
                  · refine T.seq ?_
                    refine T.region ?_
                    refine L.q 1 rfl ?_
                    refine L.nil ?_
                    refine E.then ?_
                    refine T.ret ?_
                    refine E.block_ret ?_
                    refine E.then_ret ?_
                    refine E.then_ret ?_
                    refine E.block_ret ?_
                    obtain ⟨w260, hz, H261⟩ := inrr_some H259
                    subst z211
                    have hb := hbr213 _ rfl
                    subst y207
                    have hw : w260 = r := Option.some.inj H209
                    subst w260
                    refine E.then_ret ?_
                    have hr := Option.some.inj H261
                    subst r
                    exact E.ret () [] [] (.tmp rfl .nil) rfl rfl rfl
                  · refine T.skip ?_
                    refine E.block ?_
                    refine E.then ?_
                    refine T.region ?_
                    refine L.q 2 rfl ?_
                    refine L.nil ?_
                    have hr := Option.some.inj H259
                    subst z211
                    exact E.give (_, ()) [1] [1, 2] (hag212 _ rfl) ⟨rfl, rfl, rfl, rfl, trivial⟩ rfl rfl
              · refine T.exit ?_
                refine E.then_exit' ?_
                refine E.then_exit' ?_
                refine E.block_here ?_
                have hr := Option.some.inj H215
                subst z211
                have hb := hbr213 _ rfl
                subst y207
                exact E.give (_, ()) [0] [0, 1] rfl ⟨rfl, trivial⟩ rfl rfl
            · rintro ⟨e206, ⟨⟩⟩ hy
              subst hy
              refine T.seq ?_
              refine T.seq ?_
              refine T.region ?_
              refine L.q 1 rfl ?_
              refine L.y (Yl.ldb 0 rfl rfl rfl rfl) rfl rfl rfl ?_
              refine L.q 2 rfl ?_
              refine L.nil ?_
              refine E.then ?_
              obtain ⟨y1827, H1828, H1829⟩ := bnd H209
              refine T.join (η := Unit × Unit) (fun h => y1827 = .inl h.1) (fun h => (fun e1826 => []) h.1) (fun h => (fun e1826 => [Ch.box g1 32 [.int .i64 s_.k, .int .i64 s_.w, .int .i64 s_.h, .int .i64 s_.x, .int .i64 s_.y, .string s_.title, .slice a_0_0 s_.rows.length c_0_0, .int .i64 s_.len, .int .i64 s_.chain, .slice a_0_1 s_.begun.length c_0_1]]) h.1) (fun h => (fun e1826 => [Im.sl tyRef09Row a_0_0 c_0_0 s_.rows, Im.sl tyRef09Glyph a_0_1 c_0_1 s_.begun]) h.1) ?_ ?_
              · refine T.block ?_
                refine T.lp (η := Unit) (fun s1305 h => [(1, .pointer (some ⟨g1, 0, none⟩)), (128, .slice a_0_0 s_.rows.length c_0_0), (129, .int .i64 (s_.rows.length : Int)), (130, .int .i64 s1305)]) (fun s1305 h => [Ch.box g1 32 [.int .i64 s_.k, .int .i64 s_.w, .int .i64 s_.h, .int .i64 s_.x, .int .i64 s_.y, .string s_.title, .slice a_0_0 s_.rows.length c_0_0, .int .i64 s_.len, .int .i64 s_.chain, .slice a_0_1 s_.begun.length c_0_1]]) (fun s1305 h => [Im.sl tyRef09Row a_0_0 c_0_0 s_.rows, Im.sl tyRef09Glyph a_0_1 c_0_1 s_.begun]) () [0] [0, 1] H1828 ⟨rfl, rfl, rfl, rfl, trivial⟩ rfl rfl ?_
                rintro k s1305 ⟨⟩ z1831 H1830 hag1832 hbr1833
                refine T.seq ?_
                refine T.region ?_
                refine L.q 1 rfl ?_
                refine L.nil ?_
                refine E.then ?_
                refine T.seq ?_
                refine T.bif rfl H1830 (fun hc H1835 => ?_) (fun hc H1835 => ?_)
                · refine T.skip ?_
                  refine E.then ?_
                  refine T.seq ?_
                  refine T.block ?_
                  refine T.seq ?_
                  refine T.region ?_
                  obtain ⟨x2095, h2096, H2097⟩ := bnd H1835
                  refine L.addr 0 rfl (idx_lt h2096) fun b2098 o2099 e2100 => ?_
                  obtain rfl : a_0_0 = some ⟨b2098, o2099, none⟩ := e2100
                  refine L.y (Yl.ia h2096 rfl rfl rfl rfl rfl rfl) rfl rfl rfl ?_
                  refine L.el 0 rfl (idx_some h2096).2 ?_
                  rintro ⟨a2101, c2102⟩
                  refine L.y (Yl.ldc 0 0 rfl rfl rfl rfl) rfl rfl rfl ?_
                  refine L.a [] [] (Ac.alloc rfl rfl) rfl rfl rfl rfl rfl ?_
                  intro g2105
                  refine L.a [0] [] (Ac.stb rfl rfl rfl rfl rfl rfl) rfl rfl rfl rfl rfl ?_
                  intro _
                  refine L.nil ?_
                  refine E.then ?_
                  refine T.seq ?_
                  refine T.seq ?_
                  refine T.region ?_
                  refine L.q 1 rfl ?_
                  refine L.y (Yl.ldb 0 rfl rfl rfl rfl) rfl rfl rfl ?_
                  refine L.q 2 rfl ?_
                  refine L.y (Yl.ldb 1 rfl rfl rfl rfl) rfl rfl rfl ?_
                  refine L.q 1 rfl ?_
                  refine L.nil ?_
                  refine E.then ?_
                  refine T.bif rfl H2097 (fun hc H2107 => ?_) (fun hc H2107 => ?_)
                  · refine T.seq ?_
                    refine T.region ?_
                    refine L.q 1 rfl ?_
                    refine L.nil ?_
                    refine E.then ?_
                    refine T.ret ?_
                    refine E.then_ret ?_
                    refine E.block_ret ?_
                    refine E.then_ret ?_
                    refine E.then_ret ?_
                    refine E.block_ret ?_
                    obtain ⟨w2108, hz, H2109⟩ := inrr_some H2107
                    subst z1831
                    have hb := hbr1833 _ rfl
                    subst y1827
                    have hw : w2108 = r := Option.some.inj H1829
                    subst w2108
                    refine E.then_ret ?_
                    have hr := Option.some.inj H2109
                    subst r
                    exact E.ret () [] [] (.tmp rfl .nil) rfl rfl rfl
                  · refine T.skip ?_
                    refine E.then ?_
                    refine T.seq ?_
                    refine T.region ?_
                    refine L.q 1 rfl ?_
                    refine L.y (Yl.ldb 0 rfl rfl rfl rfl) rfl rfl rfl ?_
                    refine L.q 2 rfl ?_
                    refine L.nil ?_
                    refine E.then ?_
                    obtain ⟨y2289, H2290, H2291⟩ := bnd H2107
                    refine T.joinE (η := Unit × Unit) (fun h => y2289 = .inl h.1) (fun h => (fun e2288 => [(1, .pointer (some ⟨g1, 0, none⟩)), (128, .slice (some ⟨b2098, o2099, none⟩) s_.rows.length c_0_0), (129, .int .i64 (s_.rows.length : Int)), (130, .int .i64 s1305)]) h.1) (fun h => (fun e2288 => [Ch.box g2105 59 [.slice a2101 x2095.l.length c2102, .bool x2095.wrapped], Ch.box g1 32 [.int .i64 s_.k, .int .i64 s_.w, .int .i64 s_.h, .int .i64 s_.x, .int .i64 s_.y, .string s_.title, .slice (some ⟨b2098, o2099, none⟩) s_.rows.length c_0_0, .int .i64 s_.len, .int .i64 s_.chain, .slice a_0_1 s_.begun.length c_0_1]]) h.1) (fun h => (fun e2288 => [Im.cells b2098 (o2099 + s1305.toNat * 2) [.slice a2101 x2095.l.length c2102, .bool x2095.wrapped], Im.sl tyRef09Cell a2101 c2102 x2095.l, Im.sl tyRef09Row (some ⟨b2098, o2099, none⟩) c_0_0 s_.rows, Im.sl tyRef09Glyph a_0_1 c_0_1 s_.begun]) h.1) ?_ ?_
                    · refine T.block ?_
                      refine T.lp (η := Unit) (fun s2229 h => [(1, .pointer (some ⟨g1, 0, none⟩)), (128, .slice (some ⟨b2098, o2099, none⟩) s_.rows.length c_0_0), (129, .int .i64 (s_.rows.length : Int)), (130, .int .i64 s1305), (141, .slice a2101 x2095.l.length c2102), (142, .int .i64 (x2095.l.length : Int)), (143, .int .i64 s2229)]) (fun s2229 h => [Ch.box g2105 59 [.slice a2101 x2095.l.length c2102, .bool x2095.wrapped], Ch.box g1 32 [.int .i64 s_.k, .int .i64 s_.w, .int .i64 s_.h, .int .i64 s_.x, .int .i64 s_.y, .string s_.title, .slice (some ⟨b2098, o2099, none⟩) s_.rows.length c_0_0, .int .i64 s_.len, .int .i64 s_.chain, .slice a_0_1 s_.begun.length c_0_1]]) (fun s2229 h => [Im.cells b2098 (o2099 + s1305.toNat * 2) [.slice a2101 x2095.l.length c2102, .bool x2095.wrapped], Im.sl tyRef09Cell a2101 c2102 x2095.l, Im.sl tyRef09Row (some ⟨b2098, o2099, none⟩) c_0_0 s_.rows, Im.sl tyRef09Glyph a_0_1 c_0_1 s_.begun]) () [0, 0] [0, 1, 2, 3] H2290 ⟨rfl, rfl, rfl, rfl, rfl, rfl, rfl, trivial⟩ rfl rfl ?_
                      rintro k s2229 ⟨⟩ z2293 H2292 hag2294 hbr2295
                      refine T.seq ?_
                      refine T.region ?_
                      refine L.q 1 rfl ?_
                      refine L.nil ?_
                      refine E.then ?_
                      refine T.seq ?_
                      refine T.bif rfl H2292 (fun hc H2297 => ?_) (fun hc H2297 => ?_)
                      · refine T.skip ?_
                        refine E.then ?_
                        refine T.seq ?_
                        refine T.block ?_
                        refine T.seq ?_
                        refine T.region ?_
                        obtain ⟨x2326, h2327, H2328⟩ := bnd H2297
                        refine L.addr 1 rfl (idx_lt h2327) fun b2329 o2330 e2331 => ?_
                        obtain rfl : a2101 = some ⟨b2329, o2330, none⟩ := e2331
                        refine L.y (Yl.ia h2327 rfl rfl rfl rfl rfl rfl) rfl rfl rfl ?_
                        refine L.el 1 rfl (idx_some h2327).2 ?_
                        rintro _
                        refine L.y (Yl.ldc 0 0 rfl rfl rfl rfl) rfl rfl rfl ?_
                        refine L.a [] [] (Ac.alloc rfl rfl) rfl rfl rfl rfl rfl ?_
                        intro g2333
                        refine L.a [0] [] (Ac.stb rfl rfl rfl rfl rfl rfl) rfl rfl rfl rfl rfl ?_
                        intro _
                        refine L.nil ?_
                        refine E.then ?_
                        refine T.seq ?_
                        obtain ⟨e2345, H2346, H2347⟩ := bnd H2328
                        refine T.join (η := Unit × Unit) (fun h => True) (fun h => [(1, .pointer (some ⟨g1, 0, none⟩)), (128, .slice (some ⟨b2098, o2099, none⟩) s_.rows.length c_0_0), (129, .int .i64 (s_.rows.length : Int)), (130, .int .i64 s1305), (141, .slice (some ⟨b2329, o2330, none⟩) x2095.l.length c2102), (142, .int .i64 (x2095.l.length : Int)), (143, .int .i64 s2229), (174, .bool e2345)]) (fun h => [Ch.box g2333 81 [.int .i64 x2326.rune, .int .i64 x2326.style, .int .i64 x2326.part], Ch.box g2105 59 [.slice (some ⟨b2329, o2330, none⟩) x2095.l.length c2102, .bool x2095.wrapped], Ch.box g1 32 [.int .i64 s_.k, .int .i64 s_.w, .int .i64 s_.h, .int .i64 s_.x, .int .i64 s_.y, .string s_.title, .slice (some ⟨b2098, o2099, none⟩) s_.rows.length c_0_0, .int .i64 s_.len, .int .i64 s_.chain, .slice a_0_1 s_.begun.length c_0_1]]) (fun h => [Im.cells b2329 (o2330 + s2229.toNat * 3) [.int .i64 x2326.rune, .int .i64 x2326.style, .int .i64 x2326.part], Im.cells b2098 (o2099 + s1305.toNat * 2) [.slice (some ⟨b2329, o2330, none⟩) x2095.l.length c2102, .bool x2095.wrapped], Im.sl tyRef09Cell (some ⟨b2329, o2330, none⟩) c2102 x2095.l, Im.sl tyRef09Row (some ⟨b2098, o2099, none⟩) c_0_0 s_.rows, Im.sl tyRef09Glyph a_0_1 c_0_1 s_.begun]) ?_ ?_
                        · refine T.region ?_
                          refine L.q 1 rfl ?_
                          refine L.y (Yl.ldb 0 rfl rfl rfl rfl) rfl rfl rfl ?_
                          refine L.q 2 rfl ?_
                          refine L.cs 150 H2346 rfl (fun hc H2348 => ?_) (fun hc H2348 => ?_)
                          · refine L.q 24 rfl ?_
                            refine L.nil ?_
                            have hr := Option.some.inj H2348
                            subst e2345
                            exact E.give ((), ()) [0, 0, 0] [0, 1, 2, 3, 4] trivial ⟨rfl, rfl, rfl, rfl, rfl, rfl, rfl, rfl, trivial⟩ rfl rfl
                          · refine L.q 1 rfl ?_
                            refine L.y (Yl.ldb 0 rfl rfl rfl rfl) rfl rfl rfl ?_
                            refine L.q 3 rfl ?_
                            refine L.cs 155 H2348 rfl (fun hc H2349 => ?_) (fun hc H2349 => ?_)
                            · refine L.q 19 rfl ?_
                              refine L.nil ?_
                              have hr := Option.some.inj H2349
                              subst e2345
                              exact E.give ((), ()) [0, 0, 0] [0, 1, 2, 3, 4] trivial ⟨rfl, rfl, rfl, rfl, rfl, rfl, rfl, rfl, trivial⟩ rfl rfl
                            · refine L.q 1 rfl ?_
                              refine L.y (Yl.ldb 0 rfl rfl rfl rfl) rfl rfl rfl ?_
                              refine L.q 3 rfl ?_
                              refine L.cs 160 H2349 rfl (fun hc H2350 => ?_) (fun hc H2350 => ?_)
                              · refine L.q 14 rfl ?_
                                refine L.nil ?_
                                have hr := Option.some.inj H2350
                                subst e2345
                                exact E.give ((), ()) [0, 0, 0] [0, 1, 2, 3, 4] trivial ⟨rfl, rfl, rfl, rfl, rfl, rfl, rfl, rfl, trivial⟩ rfl rfl
                              · refine L.q 1 rfl ?_
                                refine L.y (Yl.ldb 0 rfl rfl rfl rfl) rfl rfl rfl ?_
                                refine L.q 3 rfl ?_
                                refine L.cs 165 H2350 rfl (fun hc H2351 => ?_) (fun hc H2351 => ?_)
                                · refine L.q 9 rfl ?_
                                  refine L.nil ?_
                                  have hr := Option.some.inj H2351
                                  subst e2345
                                  exact E.give ((), ()) [0, 0, 0] [0, 1, 2, 3, 4] trivial ⟨rfl, rfl, rfl, rfl, rfl, rfl, rfl, rfl, trivial⟩ rfl rfl
                                · refine L.q 1 rfl ?_
                                  refine L.y (Yl.ldb 0 rfl rfl rfl rfl) rfl rfl rfl ?_
                                  refine L.q 3 rfl ?_
                                  refine L.cs 170 H2351 rfl (fun hc H2352 => ?_) (fun hc H2352 => ?_)
                                  · refine L.q 4 rfl ?_
                                    refine L.nil ?_
                                    have hr := Option.some.inj H2352
                                    subst e2345
                                    exact E.give ((), ()) [0, 0, 0] [0, 1, 2, 3, 4] trivial ⟨rfl, rfl, rfl, rfl, rfl, rfl, rfl, rfl, trivial⟩ rfl rfl
                                  · refine L.q 1 rfl ?_
                                    refine L.y (Yl.ldb 0 rfl rfl rfl rfl) rfl rfl rfl ?_
                                    refine L.q 2 rfl ?_
                                    refine L.nil ?_
                                    have hr := Option.some.inj H2352
                                    subst e2345
                                    exact E.give ((), ()) [0, 0, 0] [0, 1, 2, 3, 4] trivial ⟨rfl, rfl, rfl, rfl, rfl, rfl, rfl, rfl, trivial⟩ rfl rfl
                        · rintro ⟨_, ⟨⟩⟩ _
                          refine T.bif rfl H2347 (fun hc H2353 => ?_) (fun hc H2353 => ?_)
                          · refine T.seq ?_
                            refine T.region ?_
                            refine L.q 1 rfl ?_
                            refine L.nil ?_
                            refine E.then ?_
                            refine T.ret ?_
                            refine E.block_ret ?_
                            refine E.then_ret ?_
                            refine E.then_ret ?_
                            refine E.block_ret ?_
                            obtain ⟨w2354, hz, H2355⟩ := inrr_some H2353
                            subst z2293
                            have hb := hbr2295 _ rfl
                            subst y2289
                            have hw : w2354 = z1831 := Option.some.inj H2291
                            subst w2354
                            refine E.then_ret ?_
                            refine E.block_ret ?_
                            refine E.then_ret ?_
                            refine E.then_ret ?_
                            refine E.block_ret ?_
                            obtain ⟨w2356, hz, H2357⟩ := inrr_some H2355
                            subst z1831
                            have hb := hbr1833 _ rfl
                            subst y1827
                            have hw : w2356 = r := Option.some.inj H1829
                            subst w2356
                            refine E.then_ret ?_
                            have hr := Option.some.inj H2357
                            subst r
                            exact E.ret () [] [] (.tmp rfl .nil) rfl rfl rfl
                          · refine T.skip ?_
                            refine E.block ?_
                            refine E.then ?_
                            refine T.region ?_
                            refine L.q 2 rfl ?_
                            refine L.nil ?_
                            have hr := Option.some.inj H2353
                            subst z2293
                            exact E.give (_, ()) [1, 1] [1, 2, 3, 4] (hag2294 _ rfl) ⟨rfl, rfl, rfl, rfl, rfl, rfl, rfl, trivial⟩ rfl rfl
                      · refine T.exit ?_
                        refine E.then_exit' ?_
                        refine E.then_exit' ?_
                        refine E.block_here ?_
                        have hr := Option.some.inj H2297
                        subst z2293
                        have hb := hbr2295 _ rfl
                        subst y2289
                        exact E.give (_, ()) [0, 0] [0, 1, 2, 3] rfl ⟨rfl, rfl, rfl, rfl, trivial⟩ rfl rfl
                    · rintro ⟨e2288, ⟨⟩⟩ hy
                      subst hy
                      refine E.block ?_
                      refine E.then ?_
                      refine T.region ?_
                      refine L.q 2 rfl ?_
                      refine L.nil ?_
                      have hr := Option.some.inj H2291
                      subst z1831
                      exact E.give (_, ()) [1] [2, 3] (hag1832 _ rfl) ⟨rfl, rfl, rfl, rfl, trivial⟩ rfl rfl
                · refine T.exit ?_
                  refine E.then_exit' ?_
                  refine E.then_exit' ?_
                  refine E.block_here ?_
                  have hr := Option.some.inj H1835
                  subst z1831
                  have hb := hbr1833 _ rfl
                  subst y1827
                  exact E.give (_, ()) [0] [0, 1] rfl trivial rfl rfl
              · rintro ⟨e1826, ⟨⟩⟩ hy
                subst hy
                refine T.seq ?_
                refine T.region ?_
                refine L.q 1 rfl ?_
                refine L.nil ?_
                refine E.then ?_
                refine T.ret ?_
                have hr := Option.some.inj H1829
                subst r
                exact E.ret () [] [] (.tmp rfl .nil) rfl rfl rfl

end Go.Tw.X

set_option linter.unusedVariables false
set_option linter.unusedSimpArgs false
set_option maxRecDepth 10000
namespace Go.Tw.X
open Go Go.Tw
theorem c_ref01_Num {n_ : Int} {r : ByteArray} (H : p_ref01_Num n_ = some r) : CT G 39 [.int .i64 n_] [] [] (fun h : Unit => .string r) (fun h => []) (fun h => []) := by
  delta p_ref01_Num at H
  refine CT.of Go.Proofs.Tryz.func39 (by kernel_rfl) rfl rfl rfl fun K => ?_
  refine T.seq ?_
  refine T.region ?_
  refine L.q 1 rfl ?_
  refine L.nil ?_
  refine E.then ?_
  refine T.seq ?_
  refine T.region ?_
  refine L.q 4 rfl ?_
  refine L.nil ?_
  refine E.then ?_
  refine T.seq ?_
  refine T.region ?_
  refine L.a [] [] (Ac.bs (ty := (Ty.int .u8)) (xs := []) .nil rfl rfl rfl rfl rfl rfl rfl) rfl rfl rfl rfl rfl ?_
  intro g1
  refine L.q 1 rfl ?_
  refine L.nil ?_
  refine E.then ?_
  refine T.seq ?_
  obtain ⟨e54, H55, H56⟩ := bnd H
  refine T.join (η := Unit × ((Option Addr × Nat))) (fun h => True) (fun h => (fun a51 c52 => [(0, .int .i64 e54.1), (3, .slice a51 e54.2.length c52)]) h.2.1 h.2.2) (fun h => (fun a51 c52 => [Ch.arr (Ty.int .u8) 5 a51 c52 e54.2]) h.2.1 h.2.2) (fun h => (fun a51 c52 => []) h.2.1 h.2.2) ?_ ?_
  · refine T.block ?_
    refine T.lp (η := (Option Addr × Nat)) (fun s38 h => (fun a35 c36 => [(0, .int .i64 s38.1), (3, .slice a35 s38.2.length c36)]) h.1 h.2) (fun s38 h => (fun a35 c36 => [Ch.arr (Ty.int .u8) 5 a35 c36 s38.2]) h.1 h.2) (fun s38 h => (fun a35 c36 => []) h.1 h.2) ((some ⟨g1, 0, none⟩), 0) [0] [] H55 ⟨rfl, rfl, trivial⟩ rfl rfl ?_
    rintro k s38 ⟨a35, c36⟩ z58 H57 hag59 hbr60
    refine T.seq ?_
    refine T.seq ?_
    refine T.region ?_
    refine L.q 2 rfl ?_
    refine L.nil ?_
    refine E.then ?_
    refine T.bif rfl H57 (fun hc H62 => ?_) (fun hc H62 => ?_)
    · refine T.skip ?_
      refine E.then ?_
      refine T.block ?_
      refine T.seq ?_
      refine T.region ?_
      refine L.q 5 rfl ?_
      refine L.a [] [] (Ac.bs (ty := (Ty.int .u8)) (xs := [(IntKind.u8.wrap (IntKind.i64.wrap (128 + (s38.1.tmod 128))))]) (.cons () [] rfl .nil) rfl rfl rfl rfl rfl rfl rfl) rfl rfl rfl rfl rfl ?_
      intro g63
      refine L.frz 0 rfl ?_
      obtain ⟨_, h66, H67⟩ := bnd H62
      refine L.a [0] [0] (Ac.ap (ty := (Ty.int .u8)) h66 rfl rfl rfl rfl rfl rfl rfl) rfl rfl rfl rfl rfl ?_
      rintro ⟨a68, c69⟩
      refine L.q 1 rfl ?_
      refine L.nil ?_
      refine E.then ?_
      refine T.region ?_
      refine L.q 3 rfl ?_
      refine L.nil ?_
      refine E.block ?_
      have hr := Option.some.inj H67
      subst z58
      exact E.give (_, (a68, c69)) [0] [] (hag59 _ rfl) ⟨rfl, rfl, trivial⟩ rfl rfl
    · refine T.exit ?_
      refine E.then_exit' ?_
      refine E.then_exit' ?_
      refine E.block_here ?_
      have hr := Option.some.inj H62
      subst z58
      have hb := hbr60 _ rfl
      subst e54
      exact E.give ((), (a35, c36)) [0] [] trivial ⟨rfl, rfl, trivial⟩ rfl rfl
  · rintro ⟨_, ⟨a51, c52⟩⟩ _
    refine T.seq ?_
    refine T.region ?_
    refine L.q 3 rfl ?_
    refine L.a [] [] (Ac.bs (ty := (Ty.int .u8)) (xs := [(IntKind.u8.wrap e54.1)]) (.cons () [] rfl .nil) rfl rfl rfl rfl rfl rfl rfl) rfl rfl rfl rfl rfl ?_
    intro g71
    refine L.frz 0 rfl ?_
    obtain ⟨_, h74, H75⟩ := bnd H56
    refine L.a [0] [0] (Ac.ap (ty := (Ty.int .u8)) h74 rfl rfl rfl rfl rfl rfl rfl) rfl rfl rfl rfl rfl ?_
    rintro ⟨a76, c77⟩
    refine L.y (Yl.bs 0 rfl rfl rfl rfl rfl rfl rfl rfl rfl) rfl rfl rfl ?_
    refine L.q 1 rfl ?_
    refine L.nil ?_
    refine E.then ?_
    refine T.ret ?_
    have hr := Option.some.inj H75
    subst r
    exact E.ret () [] [] (.tmp rfl .nil) rfl rfl rfl

theorem c_ref01_Text {s_ : ByteArray} {r : ByteArray} (H : p_ref01_Text s_ = some r) : CT G 40 [.string s_] [] [] (fun h : Unit => .string r) (fun h => []) (fun h => []) := by
  delta p_ref01_Text at H
  refine CT.of Go.Proofs.Tryz.func40 (by kernel_rfl) rfl rfl rfl fun K => ?_
  refine T.seq ?_
  refine T.region ?_
  refine L.q 1 rfl ?_
  refine L.nil ?_
  refine E.then ?_
  refine T.seq ?_
  refine T.region ?_
  refine L.q 2 rfl ?_
  obtain ⟨r1, h2, H3⟩ := bnd H
  refine L.a [] [] (Ac.call (c_ref01_Num h2) rfl rfl rfl rfl) rfl rfl rfl rfl rfl ?_
  rintro ⟨⟩
  refine L.q 1 rfl ?_
  obtain ⟨_, h4, H5⟩ := bnd H3
  refine L.y (Yl.sa h4 rfl rfl rfl) rfl rfl rfl ?_
  refine L.q 1 rfl ?_
  refine L.nil ?_
  refine E.then ?_
  refine T.ret ?_
  have hr := Option.some.inj H5
  subst r
  exact E.ret () [] [] (.tmp rfl .nil) rfl rfl rfl

theorem c_ref12_Pack {l : List Ref09Glyph} (a_0 : Option Addr) (c_0 : Nat) {r : ByteArray} (H : p_ref12_Pack l = some r) : CT G 41 [.slice a_0 l.length c_0] [] [Im.sl tyRef09Glyph a_0 c_0 l] (fun h : Unit => .string r) (fun h => []) (fun h => []) := by
  delta p_ref12_Pack at H
  refine CT.of Go.Proofs.Tryz.func41 (by kernel_rfl) rfl rfl rfl fun K => ?_
  refine T.seq ?_
  refine T.region ?_
  refine L.q 1 rfl ?_
  refine L.nil ?_
  refine E.then ?_
  refine T.seq ?_
  refine T.region ?_
  refine L.q 2 rfl ?_
  obtain ⟨r1, h2, H3⟩ := bnd H
  refine L.a [] [] (Ac.call (c_ref01_Num h2) rfl rfl rfl rfl) rfl rfl rfl rfl rfl ?_
  rintro ⟨⟩
  refine L.q 1 rfl ?_
  refine L.nil ?_
  refine E.then ?_
  refine T.seq ?_
  refine T.seq ?_
  refine T.region ?_
  refine L.q 3 rfl ?_
  refine L.nil ?_
  refine E.then ?_
  obtain ⟨e186, H187, H188⟩ := bnd H3
  refine T.join (η := Unit × Unit) (fun h => True) (fun h => [(3, .string e186)]) (fun h => []) (fun h => [Im.sl tyRef09Glyph a_0 c_0 l]) ?_ ?_
  · refine T.block ?_
    refine T.lp (η := Unit) (fun s126 h => [(3, .string s126.2), (9, .slice a_0 l.length c_0), (10, .int .i64 (l.length : Int)), (11, .int .i64 s126.1)]) (fun s126 h => []) (fun s126 h => [Im.sl tyRef09Glyph a_0 c_0 l]) () [] [0] H187 ⟨rfl, rfl, rfl, rfl, trivial⟩ rfl rfl ?_
    rintro k s126 ⟨⟩ z190 H189 hag191 hbr192
    refine T.seq ?_
    refine T.region ?_
    refine L.q 1 rfl ?_
    refine L.nil ?_
    refine E.then ?_
    refine T.seq ?_
    refine T.bif rfl H189 (fun hc H194 => ?_) (fun hc H194 => ?_)
    · refine T.skip ?_
      refine E.then ?_
      refine T.seq ?_
      refine T.block ?_
      refine T.seq ?_
      refine T.region ?_
      obtain ⟨x223, h224, H225⟩ := bnd H194
      refine L.addr 0 rfl (idx_lt h224) fun b226 o227 e228 => ?_
      obtain rfl : a_0 = some ⟨b226, o227, none⟩ := e228
      refine L.y (Yl.ia h224 rfl rfl rfl rfl rfl rfl) rfl rfl rfl ?_
      refine L.el 0 rfl (idx_some h224).2 ?_
      rintro _
      refine L.y (Yl.ldc 0 0 rfl rfl rfl rfl) rfl rfl rfl ?_
      refine L.a [] [] (Ac.alloc rfl rfl) rfl rfl rfl rfl rfl ?_
      intro g230
      refine L.a [0] [] (Ac.stb rfl rfl rfl rfl rfl rfl) rfl rfl rfl rfl rfl ?_
      intro _
      refine L.nil ?_
      refine E.then ?_
      refine T.draw [] [0] mo (by rfl) rfl ?_
      refine D.q 0 rfl rfl rfl rfl rfl rfl ?_
      refine D.q 1 rfl rfl rfl rfl rfl rfl ?_
      refine D.y 2 (Yl.ldb 0 rfl rfl rfl rfl) rfl rfl rfl rfl rfl rfl ?_
      refine D.q 4 rfl rfl rfl rfl rfl rfl ?_
      refine D.y 5 (Yl.ldb 0 rfl rfl rfl rfl) rfl rfl rfl rfl rfl rfl ?_
      obtain ⟨r241, h242, H243⟩ := bnd H225
      refine D.one rfl rfl rfl (Dp.a [] [] (Ac.call (c_ref01_Num h242) rfl rfl rfl rfl) rfl rfl rfl rfl rfl rfl ?_)
      rintro ⟨⟩
      obtain ⟨r244, h245, H246⟩ := bnd H243
      refine D.one rfl rfl rfl (Dp.a [] [] (Ac.call (c_ref01_Num h245) rfl rfl rfl rfl) rfl rfl rfl rfl rfl rfl ?_)
      rintro ⟨⟩
      obtain ⟨_, h247, H248⟩ := bnd H246
      refine D.y 7 (Yl.sa h247 rfl rfl rfl) rfl rfl rfl rfl rfl rfl ?_
      obtain ⟨_, h249, H250⟩ := bnd H248
      refine D.y 8 (Yl.sa h249 rfl rfl rfl) rfl rfl rfl rfl rfl rfl ?_
      refine D.q 9 rfl rfl rfl rfl rfl rfl ?_
      refine D.nil rfl rfl ?_
      refine E.block ?_
      refine E.then ?_
      refine T.region ?_
      refine L.q 2 rfl ?_
      refine L.nil ?_
      have hr := Option.some.inj H250
      subst z190
      exact E.give (_, ()) [] [1] (hag191 _ rfl) ⟨rfl, rfl, rfl, rfl, trivial⟩ rfl rfl
    · refine T.exit ?_
      refine E.then_exit' ?_
      refine E.then_exit' ?_
      refine E.block_here ?_
      have hr := Option.some.inj H194
      subst z190
      have hb := hbr192 _ rfl
      subst e186
      exact E.give ((), ()) [] [0] trivial ⟨rfl, trivial⟩ rfl rfl
  · rintro ⟨_, ⟨⟩⟩ _
    refine T.seq ?_
    refine T.region ?_
    refine L.q 2 rfl ?_
    refine L.nil ?_
    refine E.then ?_
    refine T.ret ?_
    have hr := Option.some.inj H188
    subst r
    exact E.ret () [] [] (.tmp rfl .nil) rfl rfl rfl

theorem c_ref16_PackRow {r_ : Ref09Row} (a_0_0 : Option Addr) (c_0_0 : Nat) {r : ByteArray} (H : p_ref16_PackRow r_ = some r) : CT G 42 [.agg #[.slice a_0_0 r_.l.length c_0_0, .bool r_.wrapped]] [] [Im.sl tyRef09Cell a_0_0 c_0_0 r_.l] (fun h : Unit => .string r) (fun h => []) (fun h => []) := by
  delta p_ref16_PackRow at H
  refine CT.of Go.Proofs.Tryz.func42 (by kernel_rfl) rfl rfl rfl fun K => ?_
  refine T.seq ?_
  refine T.region ?_
  refine L.a [] [] (Ac.box rfl rfl) rfl rfl rfl rfl rfl ?_
  intro g1
  refine L.q 1 rfl ?_
  refine L.nil ?_
  refine E.then ?_
  refine T.seq ?_
  refine T.region ?_
  refine L.q 1 rfl ?_
  refine L.nil ?_
  refine E.then ?_
  refine T.seq ?_
  refine T.seq ?_
  refine T.region ?_
  refine L.q 1 rfl ?_
  refine L.y (Yl.ldb 0 rfl rfl rfl rfl) rfl rfl rfl ?_
  refine L.nil ?_
  refine E.then ?_
  obtain ⟨e5, H6, H7⟩ := bnd H
  refine T.join (η := Unit × Unit) (fun h => True) (fun h => [(1, .pointer (some ⟨g1, 0, none⟩)), (3, .string e5)]) (fun h => [Ch.box g1 59 [.slice a_0_0 r_.l.length c_0_0, .bool r_.wrapped]]) (fun h => [Im.sl tyRef09Cell a_0_0 c_0_0 r_.l]) ?_ ?_
  · refine T.bif rfl H6 (fun hc H8 => ?_) (fun hc H8 => ?_)
    · refine T.region ?_
      refine L.q 1 rfl ?_
      refine L.nil ?_
      have hr := Option.some.inj H8
      subst e5
      exact E.give ((), ()) [0] [0] trivial ⟨rfl, rfl, trivial⟩ rfl rfl
    · refine T.skip ?_
      have hr := Option.some.inj H8
      subst e5
      exact E.give ((), ()) [0] [0] trivial ⟨rfl, rfl, trivial⟩ rfl rfl
  · rintro ⟨_, ⟨⟩⟩ _
    refine T.seq ?_
    refine T.region ?_
    refine L.q 1 rfl ?_
    refine L.nil ?_
    refine E.then ?_
    refine T.seq ?_
    refine T.seq ?_
    refine T.region ?_
    refine L.q 1 rfl ?_
    refine L.y (Yl.ldb 0 rfl rfl rfl rfl) rfl rfl rfl ?_
    refine L.q 2 rfl ?_
    refine L.nil ?_
    refine E.then ?_
    obtain ⟨e1157, H1158, H1159⟩ := bnd H7
    refine T.join (η := Unit × Unit) (fun h => True) (fun h => [(3, .string e1157)]) (fun h => [Ch.box g1 59 [.slice a_0_0 r_.l.length c_0_0, .bool r_.wrapped]]) (fun h => [Im.sl tyRef09Cell a_0_0 c_0_0 r_.l]) ?_ ?_
    · refine T.block ?_
      refine T.lp (η := Unit) (fun s776 h => [(1, .pointer (some ⟨g1, 0, none⟩)), (3, .string s776.2.1), (4, .int .i64 s776.2.2), (10, .slice a_0_0 r_.l.length c_0_0), (11, .int .i64 (r_.l.length : Int)), (12, .int .i64 s776.1)]) (fun s776 h => [Ch.box g1 59 [.slice a_0_0 r_.l.length c_0_0, .bool r_.wrapped]]) (fun s776 h => [Im.sl tyRef09Cell a_0_0 c_0_0 r_.l]) () [0] [0] H1158 ⟨rfl, rfl, rfl, rfl, rfl, rfl, trivial⟩ rfl rfl ?_
      rintro k s776 ⟨⟩ z1161 H1160 hag1162 hbr1163
      refine T.seq ?_
      refine T.region ?_
      refine L.q 1 rfl ?_
      refine L.nil ?_
      refine E.then ?_
      refine T.seq ?_
      refine T.bif rfl H1160 (fun hc H1165 => ?_) (fun hc H1165 => ?_)
      · refine T.skip ?_
        refine E.then ?_
        refine T.seq ?_
        obtain ⟨e1416, H1417, H1418⟩ := bnd H1165
        refine T.join (η := Unit × Unit) (fun h => True) (fun h => [(1, .pointer (some ⟨g1, 0, none⟩)), (3, .string e1416.1), (4, .int .i64 e1416.2), (10, .slice a_0_0 r_.l.length c_0_0), (11, .int .i64 (r_.l.length : Int)), (12, .int .i64 s776.1)]) (fun h => [Ch.box g1 59 [.slice a_0_0 r_.l.length c_0_0, .bool r_.wrapped]]) (fun h => [Im.sl tyRef09Cell a_0_0 c_0_0 r_.l]) ?_ ?_
        · refine T.block ?_
          refine T.seq ?_
          refine T.region ?_
          refine L.q 1 rfl ?_
          obtain ⟨x1419, h1420, H1421⟩ := bnd H1417
          refine L.addr 0 rfl (idx_lt h1420) fun b1422 o1423 e1424 => ?_
          obtain rfl : a_0_0 = some ⟨b1422, o1423, none⟩ := e1424
          refine L.y (Yl.ia h1420 rfl rfl rfl rfl rfl rfl) rfl rfl rfl ?_
          refine L.el 0 rfl (idx_some h1420).2 ?_
          rintro _
          refine L.y (Yl.ldc 0 0 rfl rfl rfl rfl) rfl rfl rfl ?_
          refine L.a [] [] (Ac.alloc rfl rfl) rfl rfl rfl rfl rfl ?_
          intro g1426
          refine L.q 1 rfl ?_
          refine L.a [0] [] (Ac.stb rfl rfl rfl rfl rfl rfl) rfl rfl rfl rfl rfl ?_
          intro _
          refine L.nil ?_
          refine E.then ?_
          refine T.seq ?_
          refine T.region ?_
          refine L.q 3 rfl ?_
          refine L.nil ?_
          refine E.then ?_
          refine T.seq ?_
          refine T.seq ?_
          obtain ⟨e1448, H1449, H1450⟩ := bnd H1421
          refine T.join (η := Unit × Unit) (fun h => True) (fun h => [(1, .pointer (some ⟨g1, 0, none⟩)), (3, .string s776.2.1), (4, .int .i64 (IntKind.i64.wrap (s776.2.2 + 1))), (6, .pointer (some ⟨g1426, 0, none⟩)), (10, .slice (some ⟨b1422, o1423, none⟩) r_.l.length c_0_0), (11, .int .i64 (r_.l.length : Int)), (12, .int .i64 s776.1), (34, .bool e1448)]) (fun h => [Ch.box g1426 81 [.int .i64 x1419.rune, .int .i64 x1419.style, .int .i64 x1419.part], Ch.box g1 59 [.slice (some ⟨b1422, o1423, none⟩) r_.l.length c_0_0, .bool r_.wrapped]]) (fun h => [Im.cells b1422 (o1423 + s776.1.toNat * 3) [.int .i64 x1419.rune, .int .i64 x1419.style, .int .i64 x1419.part], Im.sl tyRef09Cell (some ⟨b1422, o1423, none⟩) c_0_0 r_.l]) ?_ ?_
          · refine T.draw [] [0, 0] mo (by rfl) rfl ?_
            refine D.q 0 rfl rfl rfl rfl rfl rfl ?_
            refine D.q 1 rfl rfl rfl rfl rfl rfl ?_
            refine D.q 2 rfl rfl rfl rfl rfl rfl ?_
            refine D.y 3 (Yl.ldb 1 rfl rfl rfl rfl) rfl rfl rfl rfl rfl rfl ?_
            refine D.q 4 rfl rfl rfl rfl rfl rfl ?_
            refine D.q 5 rfl rfl rfl rfl rfl rfl ?_
            refine D.q 6 rfl rfl rfl rfl rfl rfl ?_
            refine D.cs 25 H1449 rfl (fun hc H1456 => ?_) (fun hc H1456 => ?_)
            · refine D.q 7 rfl rfl rfl rfl rfl rfl ?_
              refine D.y 8 (Yl.ldb 1 rfl rfl rfl rfl) rfl rfl rfl rfl rfl rfl ?_
              refine D.q 9 rfl rfl rfl rfl rfl rfl ?_
              refine D.q 10 rfl rfl rfl rfl rfl rfl ?_
              obtain ⟨x1457, h1458, H1459⟩ := bnd H1456
              refine D.y 11 (Yl.ia h1458 rfl rfl rfl rfl rfl rfl) rfl rfl rfl rfl rfl rfl ?_
              refine D.el 1 rfl (idx_some h1458).2 ?_
              rintro _
              refine D.y 12 (Yl.ldc 0 0 rfl rfl rfl rfl) rfl rfl rfl rfl rfl rfl ?_
              refine D.y 13 (Yl.ldb 0 rfl rfl rfl rfl) rfl rfl rfl rfl rfl rfl ?_
              refine D.q 14 rfl rfl rfl rfl rfl rfl ?_
              refine D.q 15 rfl rfl rfl rfl rfl rfl ?_
              refine D.nil rfl rfl ?_
              have hr := Option.some.inj H1459
              subst e1448
              exact E.give ((), ()) [0, 0] [1, 2] trivial ⟨rfl, rfl, rfl, rfl, rfl, rfl, rfl, rfl, trivial⟩ rfl rfl
            · refine D.sk 7 rfl rfl rfl rfl rfl ?_
              refine D.sk 8 rfl rfl rfl rfl rfl ?_
              refine D.sk 9 rfl rfl rfl rfl rfl ?_
              refine D.sk 10 rfl rfl rfl rfl rfl ?_
              refine D.sk 11 rfl rfl rfl rfl rfl ?_
              refine D.sk 12 rfl rfl rfl rfl rfl ?_
              refine D.sk 13 rfl rfl rfl rfl rfl ?_
              refine D.sk 14 rfl rfl rfl rfl rfl ?_
              refine D.q 15 rfl rfl rfl rfl rfl rfl ?_
              refine D.nil rfl rfl ?_
              have hr := Option.some.inj H1456
              subst e1448
              exact E.give ((), ()) [0, 0] [0, 1] trivial ⟨rfl, rfl, rfl, rfl, rfl, rfl, rfl, rfl, trivial⟩ rfl rfl
          · rintro ⟨_, ⟨⟩⟩ _
            refine T.bif rfl H1450 (fun hc H1462 => ?_) (fun hc H1462 => ?_)
            · refine T.exit ?_
              refine E.then_exit' ?_
              refine E.block_here ?_
              have hr := Option.some.inj H1462
              subst e1416
              exact E.give ((), ()) [1] [1] trivial ⟨rfl, rfl, rfl, rfl, rfl, rfl, trivial⟩ rfl rfl
            · refine T.skip ?_
              refine E.then ?_
              refine T.seq ?_
              refine T.draw [] [0, 0] mo (by rfl) rfl ?_
              refine D.q 0 rfl rfl rfl rfl rfl rfl ?_
              refine D.q 1 rfl rfl rfl rfl rfl rfl ?_
              refine D.q 3 rfl rfl rfl rfl rfl rfl ?_
              refine D.y 4 (Yl.ldb 0 rfl rfl rfl rfl) rfl rfl rfl rfl rfl rfl ?_
              refine D.q 7 rfl rfl rfl rfl rfl rfl ?_
              refine D.y 8 (Yl.ldb 0 rfl rfl rfl rfl) rfl rfl rfl rfl rfl rfl ?_
              refine D.q 11 rfl rfl rfl rfl rfl rfl ?_
              refine D.y 12 (Yl.ldb 0 rfl rfl rfl rfl) rfl rfl rfl rfl rfl rfl ?_
              obtain ⟨r1523, h1524, H1525⟩ := bnd H1462
              refine D.one rfl rfl rfl (Dp.a [] [] (Ac.call (c_ref01_Num h1524) rfl rfl rfl rfl) rfl rfl rfl rfl rfl rfl ?_)
              rintro ⟨⟩
              obtain ⟨r1526, h1527, H1528⟩ := bnd H1525
              refine D.one rfl rfl rfl (Dp.a [] [] (Ac.call (c_ref01_Num h1527) rfl rfl rfl rfl) rfl rfl rfl rfl rfl rfl ?_)
              rintro ⟨⟩
              obtain ⟨_, h1529, H1530⟩ := bnd H1528
              refine D.y 6 (Yl.sa h1529 rfl rfl rfl) rfl rfl rfl rfl rfl rfl ?_
              obtain ⟨r1531, h1532, H1533⟩ := bnd H1530
              refine D.one rfl rfl rfl (Dp.a [] [] (Ac.call (c_ref01_Num h1532) rfl rfl rfl rfl) rfl rfl rfl rfl rfl rfl ?_)
              rintro ⟨⟩
              obtain ⟨_, h1534, H1535⟩ := bnd H1533
              refine D.y 10 (Yl.sa h1534 rfl rfl rfl) rfl rfl rfl rfl rfl rfl ?_
              obtain ⟨r1536, h1537, H1538⟩ := bnd H1535
              refine D.one rfl rfl rfl (Dp.a [] [] (Ac.call (c_ref01_Num h1537) rfl rfl rfl rfl) rfl rfl rfl rfl rfl rfl ?_)
              rintro ⟨⟩
              obtain ⟨_, h1539, H1540⟩ := bnd H1538
              refine D.y 14 (Yl.sa h1539 rfl rfl rfl) rfl rfl rfl rfl rfl rfl ?_
              obtain ⟨_, h1541, H1542⟩ := bnd H1540
              refine D.y 15 (Yl.sa h1541 rfl rfl rfl) rfl rfl rfl rfl rfl rfl ?_
              refine D.q 16 rfl rfl rfl rfl rfl rfl ?_
              refine D.nil rfl rfl ?_
              refine E.then ?_
              refine T.region ?_
              refine L.q 1 rfl ?_
              refine L.nil ?_
              refine E.block ?_
              have hr := Option.some.inj H1542
              subst e1416
              exact E.give ((), ()) [1] [1] trivial ⟨rfl, rfl, rfl, rfl, rfl, rfl, trivial⟩ rfl rfl
        · rintro ⟨_, ⟨⟩⟩ _
          refine T.region ?_
          refine L.q 2 rfl ?_
          refine L.nil ?_
          have hr := Option.some.inj H1418
          subst z1161
          exact E.give (_, ()) [0] [0] (hag1162 _ rfl) ⟨rfl, rfl, rfl, rfl, rfl, rfl, trivial⟩ rfl rfl
      · refine T.exit ?_
        refine E.then_exit' ?_
        refine E.then_exit' ?_
        refine E.block_here ?_
        have hr := Option.some.inj H1165
        subst z1161
        have hb := hbr1163 _ rfl
        subst e1157
        exact E.give ((), ()) [0] [0] trivial ⟨rfl, trivial⟩ rfl rfl
    · rintro ⟨_, ⟨⟩⟩ _
      refine T.seq ?_
      refine T.region ?_
      refine L.q 2 rfl ?_
      refine L.nil ?_
      refine E.then ?_
      refine T.ret ?_
      have hr := Option.some.inj H1159
      subst r
      exact E.ret () [] [] (.tmp rfl .nil) rfl rfl rfl

theorem c_ref16_Pack {s_ : Ref16Snap} (a_0_0 : Option Addr) (c_0_0 : Nat) (a_0_1 : Option Addr) (c_0_1 : Nat) {r : ByteArray} (H : p_ref16_Pack s_ = some r) : CT G 10 [.agg #[.int .i64 s_.k, .int .i64 s_.w, .int .i64 s_.h, .int .i64 s_.x, .int .i64 s_.y, .string s_.title, .slice a_0_0 s_.rows.length c_0_0, .int .i64 s_.len, .int .i64 s_.chain, .slice a_0_1 s_.begun.length c_0_1]] [] [Im.sl tyRef09Row a_0_0 c_0_0 s_.rows, Im.sl tyRef09Glyph a_0_1 c_0_1 s_.begun] (fun h : Unit => .string r) (fun h => []) (fun h => []) := by
  delta p_ref16_Pack at H
  refine CT.of Go.Proofs.Tryz.func10 (by kernel_rfl) rfl rfl rfl fun K => ?_
  refine T.seq ?_
  refine T.region ?_
  refine L.a [] [] (Ac.box rfl rfl) rfl rfl rfl rfl rfl ?_
  intro g1
  refine L.q 1 rfl ?_
  refine L.nil ?_
  refine E.then ?_
  refine T.seq ?_
  refine T.seq ?_
  obtain ⟨e17, H18, H19⟩ := bnd H
  refine T.join (η := Unit × Unit) (fun h => True) (fun h => [(1, .pointer (some ⟨g1, 0, none⟩)), (14, .bool e17)]) (fun h => [Ch.box g1 32 [.int .i64 s_.k, .int .i64 s_.w, .int .i64 s_.h, .int .i64 s_.x, .int .i64 s_.y, .string s_.title, .slice a_0_0 s_.rows.length c_0_0, .int .i64 s_.len, .int .i64 s_.chain, .slice a_0_1 s_.begun.length c_0_1]]) (fun h => [Im.sl tyRef09Row a_0_0 c_0_0 s_.rows, Im.sl tyRef09Glyph a_0_1 c_0_1 s_.begun]) ?_ ?_
  · refine T.region ?_
    refine L.y (Yl.ldb 0 rfl rfl rfl rfl) rfl rfl rfl ?_
    obtain ⟨r20, h21, H22⟩ := bnd H18
    refine L.a [] [0, 1] (Ac.call (c_ref16_Empty a_0_0 c_0_0 a_0_1 c_0_1 h21) rfl rfl rfl rfl) rfl rfl rfl rfl rfl ?_
    rintro ⟨⟩
    refine L.q 1 rfl ?_
    refine L.cs 10 H22 rfl (fun hc H23 => ?_) (fun hc H23 => ?_)
    · refine L.q 4 rfl ?_
      refine L.nil ?_
      have hr := Option.some.inj H23
      subst e17
      exact E.give ((), ()) [0] [0, 1] trivial ⟨rfl, rfl, trivial⟩ rfl rfl
    · refine L.y (Yl.ldb 0 rfl rfl rfl rfl) rfl rfl rfl ?_
      obtain ⟨r24, h25, H26⟩ := bnd H23
      refine L.a [] [0, 1] (Ac.call (c_ref16_May a_0_0 c_0_0 a_0_1 c_0_1 h25) rfl rfl rfl rfl) rfl rfl rfl rfl rfl ?_
      rintro ⟨⟩
      refine L.q 2 rfl ?_
      refine L.nil ?_
      have hr := Option.some.inj H26
      subst e17
      exact E.give ((), ()) [0] [0, 1] trivial ⟨rfl, rfl, trivial⟩ rfl rfl
  · rintro ⟨_, ⟨⟩⟩ _
    refine T.bif rfl H19 (fun hc H28 => ?_) (fun hc H28 => ?_)
    · refine T.seq ?_
      refine T.region ?_
      refine L.q 1 rfl ?_
      refine L.nil ?_
      refine E.then ?_
      refine T.ret ?_
      refine E.then_ret ?_
      have hr := Option.some.inj H28
      subst r
      exact E.ret () [] [] (.tmp rfl .nil) rfl rfl rfl
    · refine T.skip ?_
      refine E.then ?_
      refine T.seq ?_
      refine T.region ?_
      refine L.q 1 rfl ?_
      refine L.nil ?_
      refine E.then ?_
      refine T.seq ?_
      refine T.seq ?_
      refine T.region ?_
      refine L.q 1 rfl ?_
      refine L.y (Yl.ldb 0 rfl rfl rfl rfl) rfl rfl rfl ?_
      refine L.q 1 rfl ?_
      refine L.y (Yl.ldb 0 rfl rfl rfl rfl) rfl rfl rfl ?_
      refine L.q 1 rfl ?_
      refine L.y (Yl.ldb 0 rfl rfl rfl rfl) rfl rfl rfl ?_
      refine L.q 1 rfl ?_
      refine L.y (Yl.ldb 0 rfl rfl rfl rfl) rfl rfl rfl ?_
      refine L.q 1 rfl ?_
      refine L.y (Yl.ldb 0 rfl rfl rfl rfl) rfl rfl rfl ?_
      refine L.a [] [] (Ac.bs (ty := (Ty.int .i64)) (xs := [s_.k, s_.w, s_.h, s_.x, s_.y]) (.cons () [] rfl (.cons () [] rfl (.cons () [] rfl (.cons () [] rfl (.cons () [] rfl .nil))))) rfl rfl rfl rfl rfl rfl rfl) rfl rfl rfl rfl rfl ?_
      intro g29
      refine L.q 2 rfl ?_
      refine L.nil ?_
      refine E.then ?_
      obtain ⟨e93, H94, H95⟩ := bnd H28
      refine T.join (η := Unit × Unit) (fun h => True) (fun h => [(1, .pointer (some ⟨g1, 0, none⟩)), (3, .string e93)]) (fun h => [Ch.box g1 32 [.int .i64 s_.k, .int .i64 s_.w, .int .i64 s_.h, .int .i64 s_.x, .int .i64 s_.y, .string s_.title, .slice a_0_0 s_.rows.length c_0_0, .int .i64 s_.len, .int .i64 s_.chain, .slice a_0_1 s_.begun.length c_0_1]]) (fun h => [Im.sl tyRef09Row a_0_0 c_0_0 s_.rows, Im.sl tyRef09Glyph a_0_1 c_0_1 s_.begun]) ?_ ?_
      · refine T.block ?_
        refine T.lp (η := Unit) (fun s73 h => [(1, .pointer (some ⟨g1, 0, none⟩)), (3, .string s73.2), (25, .slice (some ⟨g29, 0, none⟩) [s_.k, s_.w, s_.h, s_.x, s_.y].length 5), (26, .int .i64 ([s_.k, s_.w, s_.h, s_.x, s_.y].length : Int)), (27, .int .i64 s73.1)]) (fun s73 h => [Ch.box g1 32 [.int .i64 s_.k, .int .i64 s_.w, .int .i64 s_.h, .int .i64 s_.x, .int .i64 s_.y, .string s_.title, .slice a_0_0 s_.rows.length c_0_0, .int .i64 s_.len, .int .i64 s_.chain, .slice a_0_1 s_.begun.length c_0_1], Ch.arr (Ty.int .i64) 3 (some ⟨g29, 0, none⟩) 5 [s_.k, s_.w, s_.h, s_.x, s_.y]]) (fun s73 h => [Im.sl tyRef09Row a_0_0 c_0_0 s_.rows, Im.sl tyRef09Glyph a_0_1 c_0_1 s_.begun]) () [1, 0] [0, 1] H94 ⟨rfl, rfl, rfl, rfl, rfl, trivial⟩ rfl rfl ?_
        rintro k s73 ⟨⟩ z97 H96 hag98 hbr99
        refine T.seq ?_
        refine T.region ?_
        refine L.q 1 rfl ?_
        refine L.nil ?_
        refine E.then ?_
        refine T.seq ?_
        refine T.bif rfl H96 (fun hc H101 => ?_) (fun hc H101 => ?_)
        · refine T.skip ?_
          refine E.then ?_
          refine T.seq ?_
          refine T.block ?_
          refine T.seq ?_
          refine T.region ?_
          obtain ⟨x110, h111, H112⟩ := bnd H101
          refine L.y (Yl.ia h111 rfl rfl rfl rfl rfl rfl) rfl rfl rfl ?_
          refine L.y (Yl.lo (v := .int .i64 x110) 1 s73.1.toNat 0 (idx_some h111).2 rfl rfl rfl rfl (fun _ => rfl)) rfl rfl rfl ?_
          refine L.q 1 rfl ?_
          refine L.nil ?_
          refine E.then ?_
          refine T.region ?_
          refine L.q 2 rfl ?_
          obtain ⟨r113, h114, H115⟩ := bnd H112
          refine L.a [] [] (Ac.call (c_ref01_Num h114) rfl rfl rfl rfl) rfl rfl rfl rfl rfl ?_
          rintro ⟨⟩
          obtain ⟨_, h116, H117⟩ := bnd H115
          refine L.y (Yl.sa h116 rfl rfl rfl) rfl rfl rfl ?_
          refine L.q 1 rfl ?_
          refine L.nil ?_
          refine E.block ?_
          refine E.then ?_
          refine T.region ?_
          refine L.q 2 rfl ?_
          refine L.nil ?_
          have hr := Option.some.inj H117
          subst z97
          exact E.give (_, ()) [0, 0] [0, 1] (hag98 _ rfl) ⟨rfl, rfl, rfl, rfl, rfl, trivial⟩ rfl rfl
        · refine T.exit ?_
          refine E.then_exit' ?_
          refine E.then_exit' ?_
          refine E.block_here ?_
          have hr := Option.some.inj H101
          subst z97
          have hb := hbr99 _ rfl
          subst e93
          exact E.give ((), ()) [0] [0, 1] trivial ⟨rfl, rfl, trivial⟩ rfl rfl
      · rintro ⟨_, ⟨⟩⟩ _
        refine T.seq ?_
        refine T.draw [] [0] mo (by rfl) rfl ?_
        refine D.q 0 rfl rfl rfl rfl rfl rfl ?_
        refine D.q 1 rfl rfl rfl rfl rfl rfl ?_
        refine D.y 2 (Yl.ldb 0 rfl rfl rfl rfl) rfl rfl rfl rfl rfl rfl ?_
        refine D.q 4 rfl rfl rfl rfl rfl rfl ?_
        refine D.y 5 (Yl.ldb 0 rfl rfl rfl rfl) rfl rfl rfl rfl rfl rfl ?_
        refine D.q 8 rfl rfl rfl rfl rfl rfl ?_
        refine D.y 9 (Yl.ldb 0 rfl rfl rfl rfl) rfl rfl rfl rfl rfl rfl ?_
        refine D.q 12 rfl rfl rfl rfl rfl rfl ?_
        refine D.y 13 (Yl.ldb 0 rfl rfl rfl rfl) rfl rfl rfl rfl rfl rfl ?_
        obtain ⟨r178, h179, H180⟩ := bnd H95
        refine D.one rfl rfl rfl (Dp.a [] [] (Ac.call (c_ref01_Text h179) rfl rfl rfl rfl) rfl rfl rfl rfl rfl rfl ?_)
        rintro ⟨⟩
        obtain ⟨r181, h182, H183⟩ := bnd H180
        refine D.one rfl rfl rfl (Dp.a [] [] (Ac.call (c_ref01_Num h182) rfl rfl rfl rfl) rfl rfl rfl rfl rfl rfl ?_)
        rintro ⟨⟩
        obtain ⟨_, h184, H185⟩ := bnd H183
        refine D.y 7 (Yl.sa h184 rfl rfl rfl) rfl rfl rfl rfl rfl rfl ?_
        obtain ⟨r186, h187, H188⟩ := bnd H185
        refine D.one rfl rfl rfl (Dp.a [] [] (Ac.call (c_ref01_Num h187) rfl rfl rfl rfl) rfl rfl rfl rfl rfl rfl ?_)
        rintro ⟨⟩
        obtain ⟨_, h189, H190⟩ := bnd H188
        refine D.y 11 (Yl.sa h189 rfl rfl rfl) rfl rfl rfl rfl rfl rfl ?_
        obtain ⟨r191, h192, H193⟩ := bnd H190
        refine D.one rfl rfl rfl (Dp.a [] [1] (Ac.call (c_ref12_Pack a_0_1 c_0_1 h192) rfl rfl rfl rfl) rfl rfl rfl rfl rfl rfl ?_)
        rintro ⟨⟩
        obtain ⟨_, h194, H195⟩ := bnd H193
        refine D.y 15 (Yl.sa h194 rfl rfl rfl) rfl rfl rfl rfl rfl rfl ?_
        obtain ⟨_, h196, H197⟩ := bnd H195
        refine D.y 16 (Yl.sa h196 rfl rfl rfl) rfl rfl rfl rfl rfl rfl ?_
        refine D.q 17 rfl rfl rfl rfl rfl rfl ?_
        refine D.nil rfl rfl ?_
        refine E.then ?_
        refine T.seq ?_
        refine T.seq ?_
        refine T.region ?_
        refine L.q 1 rfl ?_
        refine L.y (Yl.ldb 0 rfl rfl rfl rfl) rfl rfl rfl ?_
        refine L.q 2 rfl ?_
        refine L.nil ?_
        refine E.then ?_
        obtain ⟨e308, H309, H310⟩ := bnd H197
        refine T.join (η := Unit × Unit) (fun h => True) (fun h => [(3, .string e308)]) (fun h => [Ch.box g1 32 [.int .i64 s_.k, .int .i64 s_.w, .int .i64 s_.h, .int .i64 s_.x, .int .i64 s_.y, .string s_.title, .slice a_0_0 s_.rows.length c_0_0, .int .i64 s_.len, .int .i64 s_.chain, .slice a_0_1 s_.begun.length c_0_1]]) (fun h => [Im.sl tyRef09Row a_0_0 c_0_0 s_.rows, Im.sl tyRef09Glyph a_0_1 c_0_1 s_.begun]) ?_ ?_
        · refine T.block ?_
          refine T.lp (η := Unit) (fun s272 h => [(3, .string s272.1), (54, .slice a_0_0 s_.rows.length c_0_0), (55, .int .i64 (s_.rows.length : Int)), (56, .int .i64 s272.2)]) (fun s272 h => [Ch.box g1 32 [.int .i64 s_.k, .int .i64 s_.w, .int .i64 s_.h, .int .i64 s_.x, .int .i64 s_.y, .string s_.title, .slice a_0_0 s_.rows.length c_0_0, .int .i64 s_.len, .int .i64 s_.chain, .slice a_0_1 s_.begun.length c_0_1]]) (fun s272 h => [Im.sl tyRef09Row a_0_0 c_0_0 s_.rows, Im.sl tyRef09Glyph a_0_1 c_0_1 s_.begun]) () [0] [0, 1] H309 ⟨rfl, rfl, rfl, rfl, trivial⟩ rfl rfl ?_
          rintro k s272 ⟨⟩ z312 H311 hag313 hbr314
          refine T.seq ?_
          refine T.region ?_
          refine L.q 1 rfl ?_
          refine L.nil ?_
          refine E.then ?_
          refine T.seq ?_
          refine T.bif rfl H311 (fun hc H316 => ?_) (fun hc H316 => ?_)
          · refine T.skip ?_
            refine E.then ?_
            refine T.seq ?_
            refine T.block ?_
            refine T.seq ?_
            refine T.region ?_
            obtain ⟨x333, h334, H335⟩ := bnd H316
            refine L.addr 0 rfl (idx_lt h334) fun b336 o337 e338 => ?_
            obtain rfl : a_0_0 = some ⟨b336, o337, none⟩ := e338
            refine L.y (Yl.ia h334 rfl rfl rfl rfl rfl rfl) rfl rfl rfl ?_
            refine L.el 0 rfl (idx_some h334).2 ?_
            rintro ⟨a339, c340⟩
            refine L.y (Yl.ldc 0 0 rfl rfl rfl rfl) rfl rfl rfl ?_
            refine L.a [] [] (Ac.alloc rfl rfl) rfl rfl rfl rfl rfl ?_
            intro g343
            refine L.a [0] [] (Ac.stb rfl rfl rfl rfl rfl rfl) rfl rfl rfl rfl rfl ?_
            intro _
            refine L.nil ?_
            refine E.then ?_
            refine T.region ?_
            refine L.q 1 rfl ?_
            refine L.y (Yl.ldb 0 rfl rfl rfl rfl) rfl rfl rfl ?_
            obtain ⟨r344, h345, H346⟩ := bnd H335
            refine L.a [] [1] (Ac.call (c_ref16_PackRow a339 c340 h345) rfl rfl rfl rfl) rfl rfl rfl rfl rfl ?_
            rintro ⟨⟩
            obtain ⟨_, h347, H348⟩ := bnd H346
            refine L.y (Yl.sa h347 rfl rfl rfl) rfl rfl rfl ?_
            refine L.q 1 rfl ?_
            refine L.nil ?_
            refine E.block ?_
            refine E.then ?_
            refine T.region ?_
            refine L.q 2 rfl ?_
            refine L.nil ?_
            have hr := Option.some.inj H348
            subst z312
            exact E.give (_, ()) [1] [2, 3] (hag313 _ rfl) ⟨rfl, rfl, rfl, rfl, trivial⟩ rfl rfl
          · refine T.exit ?_
            refine E.then_exit' ?_
            refine E.then_exit' ?_
            refine E.block_here ?_
            have hr := Option.some.inj H316
            subst z312
            have hb := hbr314 _ rfl
            subst e308
            exact E.give ((), ()) [0] [0, 1] trivial ⟨rfl, trivial⟩ rfl rfl
        · rintro ⟨_, ⟨⟩⟩ _
          refine T.seq ?_
          refine T.region ?_
          refine L.q 2 rfl ?_
          refine L.nil ?_
          refine E.then ?_
          refine T.ret ?_
          have hr := Option.some.inj H310
          subst r
          exact E.ret () [] [] (.tmp rfl .nil) rfl rfl rfl

theorem c_sum_step {x_ : Int} {b : Int} {r : Int} (H : p_sum_step x_ b = some r) : CT G 75 [.int .u32 x_, .int .u8 b] [] [Im.sl (Ty.int .u32) (some ⟨0, 0, none⟩) 16 t_sum_half] (fun h : Unit => .int .u32 r) (fun h => []) (fun h => []) := by
  delta p_sum_step at H
  refine CT.of Go.Proofs.Tryz.func75 (by kernel_rfl) rfl rfl rfl fun K => ?_
  refine T.seq ?_
  refine T.region ?_
  refine L.q 1 rfl ?_
  refine L.nil ?_
  refine E.then ?_
  refine T.seq ?_
  refine T.region ?_
  refine L.q 5 rfl ?_
  refine L.nil ?_
  refine E.then ?_
  refine T.seq ?_
  refine T.region ?_
  refine L.q 4 rfl ?_
  obtain ⟨x1, h2, H3⟩ := bnd H
  refine L.y (Yl.xg h2 rfl rfl rfl rfl rfl rfl rfl) rfl rfl rfl ?_
  refine L.el 0 rfl (idx_some h2).2 ?_
  rintro _
  refine L.y (Yl.ldc 0 0 rfl rfl rfl rfl) rfl rfl rfl ?_
  refine L.q 2 rfl ?_
  refine L.nil ?_
  refine E.then ?_
  refine T.seq ?_
  refine T.region ?_
  refine L.q 4 rfl ?_
  obtain ⟨x5, h6, H7⟩ := bnd H3
  refine L.y (Yl.xg h6 rfl rfl rfl rfl rfl rfl rfl) rfl rfl rfl ?_
  refine L.el 1 rfl (idx_some h6).2 ?_
  rintro _
  refine L.y (Yl.ldc 0 0 rfl rfl rfl rfl) rfl rfl rfl ?_
  refine L.q 2 rfl ?_
  refine L.nil ?_
  refine E.then ?_
  refine T.ret ?_
  have hr := Option.some.inj H7
  subst r
  exact E.ret () [] [] (.tmp rfl .nil) rfl rfl rfl

theorem c_sum_Of {l : List ByteArray} (a_0 : Option Addr) (c_0 : Nat) {r : Int} (H : p_sum_Of l = some r) : CT G 43 [.slice a_0 l.length c_0] [] [Im.sl Ty.str a_0 c_0 l, Im.sl (Ty.int .u32) (some ⟨0, 0, none⟩) 16 t_sum_half] (fun h : Unit => .int .u32 r) (fun h => []) (fun h => []) := by
  delta p_sum_Of at H
  refine CT.of Go.Proofs.Tryz.func43 (by kernel_rfl) rfl rfl rfl fun K => ?_
  refine T.seq ?_
  refine T.region ?_
  refine L.q 1 rfl ?_
  refine L.nil ?_
  refine E.then ?_
  refine T.seq ?_
  refine T.region ?_
  refine L.q 1 rfl ?_
  refine L.nil ?_
  refine E.then ?_
  refine T.seq ?_
  refine T.seq ?_
  refine T.region ?_
  refine L.q 3 rfl ?_
  refine L.nil ?_
  refine E.then ?_
  obtain ⟨e483, H484, H485⟩ := bnd H
  refine T.join (η := Unit × Unit) (fun h => True) (fun h => [(3, .int .u32 e483)]) (fun h => []) (fun h => [Im.sl Ty.str a_0 c_0 l, Im.sl (Ty.int .u32) (some ⟨0, 0, none⟩) 16 t_sum_half]) ?_ ?_
  · refine T.block ?_
    refine T.lp (η := Unit) (fun s323 h => [(3, .int .u32 s323.1), (7, .slice a_0 l.length c_0), (8, .int .i64 (l.length : Int)), (9, .int .i64 s323.2)]) (fun s323 h => []) (fun s323 h => [Im.sl Ty.str a_0 c_0 l, Im.sl (Ty.int .u32) (some ⟨0, 0, none⟩) 16 t_sum_half]) () [] [0, 1] H484 ⟨rfl, rfl, rfl, rfl, trivial⟩ rfl rfl ?_
    rintro k s323 ⟨⟩ z487 H486 hag488 hbr489
    refine T.seq ?_
    refine T.region ?_
    refine L.q 1 rfl ?_
    refine L.nil ?_
    refine E.then ?_
    refine T.seq ?_
    refine T.bif rfl H486 (fun hc H491 => ?_) (fun hc H491 => ?_)
    · refine T.skip ?_
      refine E.then ?_
      refine T.seq ?_
      refine T.block ?_
      refine T.seq ?_
      refine T.region ?_
      obtain ⟨x570, h571, H572⟩ := bnd H491
      refine L.addr 0 rfl (idx_lt h571) fun b573 o574 e575 => ?_
      obtain rfl : a_0 = some ⟨b573, o574, none⟩ := e575
      refine L.y (Yl.ia h571 rfl rfl rfl rfl rfl rfl) rfl rfl rfl ?_
      refine L.el 0 rfl (idx_some h571).2 ?_
      rintro _
      refine L.y (Yl.ldc 0 0 rfl rfl rfl rfl) rfl rfl rfl ?_
      refine L.q 1 rfl ?_
      refine L.nil ?_
      refine E.then ?_
      refine T.seq ?_
      refine T.region ?_
      refine L.q 3 rfl ?_
      refine L.nil ?_
      refine E.then ?_
      obtain ⟨e627, H628, H629⟩ := bnd H572
      refine T.joinE (η := Unit × Unit) (fun h => True) (fun h => [(3, .int .u32 e627), (7, .slice (some ⟨b573, o574, none⟩) l.length c_0), (8, .int .i64 (l.length : Int)), (9, .int .i64 s323.2)]) (fun h => []) (fun h => [Im.cells b573 (o574 + s323.2.toNat * 1) [.string x570], Im.sl Ty.str (some ⟨b573, o574, none⟩) c_0 l, Im.sl (Ty.int .u32) (some ⟨0, 0, none⟩) 16 t_sum_half]) ?_ ?_
      · refine T.block ?_
        refine T.lp (η := Unit) (fun s611 h => [(3, .int .u32 s611.2), (5, .string x570), (7, .slice (some ⟨b573, o574, none⟩) l.length c_0), (8, .int .i64 (l.length : Int)), (9, .int .i64 s323.2), (14, .int .i64 (x570.size : Int)), (15, .int .i64 s611.1)]) (fun s611 h => []) (fun s611 h => [Im.cells b573 (o574 + s323.2.toNat * 1) [.string x570], Im.sl Ty.str (some ⟨b573, o574, none⟩) c_0 l, Im.sl (Ty.int .u32) (some ⟨0, 0, none⟩) 16 t_sum_half]) () [] [0, 1, 2] H628 ⟨rfl, rfl, rfl, rfl, rfl, rfl, rfl, trivial⟩ rfl rfl ?_
        rintro k s611 ⟨⟩ z631 H630 hag632 hbr633
        refine T.seq ?_
        refine T.region ?_
        refine L.q 1 rfl ?_
        refine L.nil ?_
        refine E.then ?_
        refine T.seq ?_
        refine T.bif rfl H630 (fun hc H635 => ?_) (fun hc H635 => ?_)
        · refine T.skip ?_
          refine E.then ?_
          refine T.seq ?_
          refine T.block ?_
          refine T.seq ?_
          refine T.region ?_
          refine L.q 2 rfl ?_
          refine L.nil ?_
          refine E.then ?_
          refine T.region ?_
          refine L.q 3 rfl ?_
          obtain ⟨b642, h643, H644⟩ := bnd H635
          refine L.y (Yl.si h643 rfl rfl rfl rfl rfl) rfl rfl rfl ?_
          obtain ⟨r645, h646, H647⟩ := bnd H644
          refine L.a [] [2] (Ac.call (c_sum_step h646) rfl rfl rfl rfl) rfl rfl rfl rfl rfl ?_
          rintro ⟨⟩
          refine L.q 1 rfl ?_
          refine L.nil ?_
          refine E.block ?_
          refine E.then ?_
          refine T.region ?_
          refine L.q 2 rfl ?_
          refine L.nil ?_
          have hr := Option.some.inj H647
          subst z631
          exact E.give (_, ()) [] [0, 1, 2] (hag632 _ rfl) ⟨rfl, rfl, rfl, rfl, rfl, rfl, rfl, trivial⟩ rfl rfl
        · refine T.exit ?_
          refine E.then_exit' ?_
          refine E.then_exit' ?_
          refine E.block_here ?_
          have hr := Option.some.inj H635
          subst z631
          have hb := hbr633 _ rfl
          subst e627
          exact E.give ((), ()) [] [0, 1, 2] trivial ⟨rfl, rfl, rfl, rfl, trivial⟩ rfl rfl
      · rintro ⟨_, ⟨⟩⟩ _
        refine E.block ?_
        refine E.then ?_
        refine T.region ?_
        refine L.q 2 rfl ?_
        refine L.nil ?_
        have hr := Option.some.inj H629
        subst z487
        exact E.give (_, ()) [] [1, 2] (hag488 _ rfl) ⟨rfl, rfl, rfl, rfl, trivial⟩ rfl rfl
    · refine T.exit ?_
      refine E.then_exit' ?_
      refine E.then_exit' ?_
      refine E.block_here ?_
      have hr := Option.some.inj H491
      subst z487
      have hb := hbr489 _ rfl
      subst e483
      exact E.give ((), ()) [] [0, 1] trivial ⟨rfl, trivial⟩ rfl rfl
  · rintro ⟨_, ⟨⟩⟩ _
    refine T.seq ?_
    refine T.region ?_
    refine L.q 1 rfl ?_
    refine L.y (Yl.com (c := 4294967295) rfl rfl rfl) rfl rfl rfl ?_
    refine L.q 1 rfl ?_
    refine L.nil ?_
    refine E.then ?_
    refine T.ret ?_
    have hr := Option.some.inj H485
    subst r
    exact E.ret () [] [] (.tmp rfl .nil) rfl rfl rfl

theorem c_snap_Snap_Sum {s_ : SnapSnap} (a_0_0 : Option Addr) (c_0_0 : Nat) (a_0_1 : Option Addr) (c_0_1 : Nat) {r : Int} (H : p_snap_Snap_Sum s_ = some r) : CT G 11 [.agg #[.int .i64 s_.k, .int .i64 s_.w, .int .i64 s_.h, .int .i64 s_.x, .int .i64 s_.y, .string s_.title, .slice a_0_0 s_.rows.length c_0_0, .int .i64 s_.len, .int .i64 s_.chain, .slice a_0_1 s_.begun.length c_0_1]] [] [Im.sl tyRowRow a_0_0 c_0_0 s_.rows, Im.sl tyRowGlyph a_0_1 c_0_1 s_.begun, Im.sl (Ty.int .u32) (some ⟨0, 0, none⟩) 16 t_sum_half] (fun h : Unit => .int .i64 r) (fun h => []) (fun h => []) := by
  delta p_snap_Snap_Sum at H
  refine CT.of Go.Proofs.Tryz.func11 (by kernel_rfl) rfl rfl rfl fun K => ?_
  refine T.seq ?_
  refine T.region ?_
  refine L.a [] [] (Ac.box rfl rfl) rfl rfl rfl rfl rfl ?_
  intro g1
  refine L.q 1 rfl ?_
  refine L.nil ?_
  refine E.then ?_
  refine T.seq ?_
  refine T.region ?_
  refine L.y (Yl.ldb 0 rfl rfl rfl rfl) rfl rfl rfl ?_
  obtain ⟨r2, h3, H4⟩ := bnd H
  refine L.a [] [0, 1] (Ac.call (c_snap_Snap_Pack a_0_0 c_0_0 a_0_1 c_0_1 h3) rfl rfl rfl rfl) rfl rfl rfl rfl rfl ?_
  rintro ⟨⟩
  refine L.a [] [] (Ac.bs (ty := Ty.str) (xs := [r2]) (.cons () [] rfl .nil) rfl rfl rfl rfl rfl rfl rfl) rfl rfl rfl rfl rfl ?_
  intro g5
  obtain ⟨r7, h8, H9⟩ := bnd H4
  refine L.br (Ac.call (c_sum_Of (some ⟨g5, 0, none⟩) 1 h8) rfl rfl rfl rfl) (Bw.ch 0 rfl (Bw.im 2 rfl (Bw.nil))) rfl rfl rfl ?_
  intro _
  refine L.q 2 rfl ?_
  refine L.nil ?_
  refine E.then ?_
  refine T.ret ?_
  have hr := Option.some.inj H9
  subst r
  exact E.ret () [] [] (.tmp rfl .nil) rfl rfl rfl

theorem c_ref02_Of {s_ : ByteArray} {r : Int} (H : p_ref02_Of s_ = some r) : CT G 44 [.string s_] [] [] (fun h : Unit => .int .i64 r) (fun h => []) (fun h => []) := by
  delta p_ref02_Of at H
  refine CT.of Go.Proofs.Tryz.func44 (by kernel_rfl) rfl rfl rfl fun K => ?_
  refine T.seq ?_
  refine T.region ?_
  refine L.q 1 rfl ?_
  refine L.nil ?_
  refine E.then ?_
  refine T.seq ?_
  refine T.region ?_
  refine L.q 1 rfl ?_
  refine L.nil ?_
  refine E.then ?_
  refine T.seq ?_
  refine T.seq ?_
  refine T.region ?_
  refine L.q 1 rfl ?_
  refine L.nil ?_
  refine E.then ?_
  obtain ⟨e339, H340, H341⟩ := bnd H
  refine T.join (η := Unit × Unit) (fun h => True) (fun h => [(3, .int .i64 e339)]) (fun h => []) (fun h => []) ?_ ?_
  · refine T.block ?_
    refine T.lp (η := Unit) (fun s227 h => [(0, .string s_), (3, .int .i64 s227.1), (4, .int .i64 s227.2)]) (fun s227 h => []) (fun s227 h => []) () [] [] H340 ⟨rfl, rfl, rfl, trivial⟩ rfl rfl ?_
    rintro k s227 ⟨⟩ z343 H342 hag344 hbr345
    refine T.seq ?_
    refine T.seq ?_
    refine T.region ?_
    refine L.q 4 rfl ?_
    refine L.nil ?_
    refine E.then ?_
    refine T.bif rfl H342 (fun hc H347 => ?_) (fun hc H347 => ?_)
    · refine T.skip ?_
      refine E.then ?_
      refine T.seq ?_
      refine T.block ?_
      refine T.seq ?_
      refine T.region ?_
      refine L.q 3 rfl ?_
      obtain ⟨b402, h403, H404⟩ := bnd H347
      refine L.y (Yl.si h403 rfl rfl rfl rfl rfl) rfl rfl rfl ?_
      refine L.q 3 rfl ?_
      refine L.nil ?_
      refine E.then ?_
      refine T.seq ?_
      refine T.region ?_
      refine L.q 1 rfl ?_
      refine L.nil ?_
      refine E.then ?_
      obtain ⟨e440, H441, H442⟩ := bnd H404
      refine T.joinE (η := Unit × Unit) (fun h => True) (fun h => [(0, .string s_), (3, .int .i64 e440), (4, .int .i64 s227.2)]) (fun h => []) (fun h => []) ?_ ?_
      · refine T.block ?_
        refine T.lp (η := Unit) (fun s429 h => [(0, .string s_), (3, .int .i64 s429.1), (4, .int .i64 s227.2), (5, .int .i64 s429.2)]) (fun s429 h => []) (fun s429 h => []) () [] [] H441 ⟨rfl, rfl, rfl, rfl, trivial⟩ rfl rfl ?_
        rintro k s429 ⟨⟩ z444 H443 hag445 hbr446
        refine T.seq ?_
        refine T.seq ?_
        refine T.region ?_
        refine L.q 2 rfl ?_
        refine L.nil ?_
        refine E.then ?_
        refine T.bif rfl H443 (fun hc H448 => ?_) (fun hc H448 => ?_)
        · refine T.skip ?_
          refine E.then ?_
          refine T.seq ?_
          obtain ⟨e452, H453, H454⟩ := bnd H448
          refine T.join (η := Unit × Unit) (fun h => True) (fun h => [(0, .string s_), (3, .int .i64 e452), (4, .int .i64 s227.2), (5, .int .i64 s429.2)]) (fun h => []) (fun h => []) ?_ ?_
          · refine T.block ?_
            refine T.seq ?_
            refine T.region ?_
            refine L.q 3 rfl ?_
            refine L.nil ?_
            refine E.then ?_
            refine T.bif rfl H453 (fun hc H455 => ?_) (fun hc H455 => ?_)
            · refine T.region ?_
              refine L.q 4 rfl ?_
              refine L.nil ?_
              refine E.block ?_
              have hr := Option.some.inj H455
              subst e452
              exact E.give ((), ()) [] [] trivial ⟨rfl, rfl, rfl, rfl, trivial⟩ rfl rfl
            · refine T.region ?_
              refine L.q 3 rfl ?_
              refine L.nil ?_
              refine E.block ?_
              have hr := Option.some.inj H455
              subst e452
              exact E.give ((), ()) [] [] trivial ⟨rfl, rfl, rfl, rfl, trivial⟩ rfl rfl
          · rintro ⟨_, ⟨⟩⟩ _
            refine T.region ?_
            refine L.q 3 rfl ?_
            refine L.nil ?_
            have hr := Option.some.inj H454
            subst z444
            exact E.give (_, ()) [] [] (hag445 _ rfl) ⟨rfl, rfl, rfl, rfl, trivial⟩ rfl rfl
        · refine T.exit ?_
          refine E.then_exit' ?_
          refine E.then_exit' ?_
          refine E.block_here ?_
          have hr := Option.some.inj H448
          subst z444
          have hb := hbr446 _ rfl
          subst e440
          exact E.give ((), ()) [] [] trivial ⟨rfl, rfl, rfl, trivial⟩ rfl rfl
      · rintro ⟨_, ⟨⟩⟩ _
        refine E.block ?_
        refine E.then ?_
        refine T.region ?_
        refine L.q 3 rfl ?_
        refine L.nil ?_
        have hr := Option.some.inj H442
        subst z343
        exact E.give (_, ()) [] [] (hag344 _ rfl) ⟨rfl, rfl, rfl, trivial⟩ rfl rfl
    · refine T.exit ?_
      refine E.then_exit' ?_
      refine E.then_exit' ?_
      refine E.block_here ?_
      have hr := Option.some.inj H347
      subst z343
      have hb := hbr345 _ rfl
      subst e339
      exact E.give ((), ()) [] [] trivial ⟨rfl, trivial⟩ rfl rfl
  · rintro ⟨_, ⟨⟩⟩ _
    refine T.seq ?_
    refine T.region ?_
    refine L.q 3 rfl ?_
    refine L.nil ?_
    refine E.then ?_
    refine T.ret ?_
    have hr := Option.some.inj H341
    subst r
    exact E.ret () [] [] (.tmp rfl .nil) rfl rfl rfl

theorem c_ref16_Sum {s_ : Ref16Snap} (a_0_0 : Option Addr) (c_0_0 : Nat) (a_0_1 : Option Addr) (c_0_1 : Nat) {r : Int} (H : p_ref16_Sum s_ = some r) : CT G 12 [.agg #[.int .i64 s_.k, .int .i64 s_.w, .int .i64 s_.h, .int .i64 s_.x, .int .i64 s_.y, .string s_.title, .slice a_0_0 s_.rows.length c_0_0, .int .i64 s_.len, .int .i64 s_.chain, .slice a_0_1 s_.begun.length c_0_1]] [] [Im.sl tyRef09Row a_0_0 c_0_0 s_.rows, Im.sl tyRef09Glyph a_0_1 c_0_1 s_.begun] (fun h : Unit => .int .i64 r) (fun h => []) (fun h => []) := by
  delta p_ref16_Sum at H
  refine CT.of Go.Proofs.Tryz.func12 (by kernel_rfl) rfl rfl rfl fun K => ?_
  refine T.seq ?_
  refine T.region ?_
  refine L.a [] [] (Ac.box rfl rfl) rfl rfl rfl rfl rfl ?_
  intro g1
  refine L.q 1 rfl ?_
  refine L.nil ?_
  refine E.then ?_
  refine T.seq ?_
  refine T.region ?_
  refine L.y (Yl.ldb 0 rfl rfl rfl rfl) rfl rfl rfl ?_
  obtain ⟨r2, h3, H4⟩ := bnd H
  refine L.a [] [0, 1] (Ac.call (c_ref16_Pack a_0_0 c_0_0 a_0_1 c_0_1 h3) rfl rfl rfl rfl) rfl rfl rfl rfl rfl ?_
  rintro ⟨⟩
  obtain ⟨r5, h6, H7⟩ := bnd H4
  refine L.a [] [] (Ac.call (c_ref02_Of h6) rfl rfl rfl rfl) rfl rfl rfl rfl rfl ?_
  rintro ⟨⟩
  refine L.q 1 rfl ?_
  refine L.nil ?_
  refine E.then ?_
  refine T.ret ?_
  have hr := Option.some.inj H7
  subst r
  exact E.ret () [] [] (.tmp rfl .nil) rfl rfl rfl

theorem c_law09_Is {r_ : RowRow} {x_ : Ref09Row} (a_0_0 : Option Addr) (c_0_0 : Nat) (a_1_0 : Option Addr) (c_1_0 : Nat) {r : Bool} (H : p_law09_Is r_ x_ = some r) : CT G 76 [.agg #[.slice a_0_0 r_.cells.length c_0_0, .bool r_.wrapped], .agg #[.slice a_1_0 x_.l.length c_1_0, .bool x_.wrapped]] [] [Im.sl tyRowCell a_0_0 c_0_0 r_.cells, Im.sl tyRef09Cell a_1_0 c_1_0 x_.l] (fun h : Unit => .bool r) (fun h => []) (fun h => []) := by
  delta p_law09_Is at H
  refine CT.of Go.Proofs.Tryz.func76 (by kernel_rfl) rfl rfl rfl fun K => ?_
  refine T.seq ?_
  refine T.region ?_
  refine L.a [] [] (Ac.box rfl rfl) rfl rfl rfl rfl rfl ?_
  intro g1
  refine L.a [] [] (Ac.box rfl rfl) rfl rfl rfl rfl rfl ?_
  intro g2
  refine L.q 1 rfl ?_
  refine L.nil ?_
  refine E.then ?_
  refine T.seq ?_
  refine T.seq ?_
  obtain ⟨e6, H7, H8⟩ := bnd H
  refine T.join (η := Unit × Unit) (fun h => True) (fun h => [(2, .pointer (some ⟨g1, 0, none⟩)), (3, .pointer (some ⟨g2, 0, none⟩)), (20, .bool e6)]) (fun h => [Ch.box g2 59 [.slice a_1_0 x_.l.length c_1_0, .bool x_.wrapped], Ch.box g1 54 [.slice a_0_0 r_.cells.length c_0_0, .bool r_.wrapped]]) (fun h => [Im.sl tyRowCell a_0_0 c_0_0 r_.cells, Im.sl tyRef09Cell a_1_0 c_1_0 x_.l]) ?_ ?_
  · refine T.region ?_
    refine L.q 1 rfl ?_
    refine L.y (Yl.ldb 1 rfl rfl rfl rfl) rfl rfl rfl ?_
    refine L.q 2 rfl ?_
    refine L.y (Yl.ldb 0 rfl rfl rfl rfl) rfl rfl rfl ?_
    refine L.q 3 rfl ?_
    refine L.cs 14 H7 rfl (fun hc H9 => ?_) (fun hc H9 => ?_)
    · refine L.q 6 rfl ?_
      refine L.nil ?_
      have hr := Option.some.inj H9
      subst e6
      exact E.give ((), ()) [0, 0] [0, 1] trivial ⟨rfl, rfl, rfl, trivial⟩ rfl rfl
    · refine L.q 1 rfl ?_
      refine L.y (Yl.ldb 1 rfl rfl rfl rfl) rfl rfl rfl ?_
      refine L.q 1 rfl ?_
      refine L.y (Yl.ldb 0 rfl rfl rfl rfl) rfl rfl rfl ?_
      refine L.q 2 rfl ?_
      refine L.nil ?_
      have hr := Option.some.inj H9
      subst e6
      exact E.give ((), ()) [0, 0] [0, 1] trivial ⟨rfl, rfl, rfl, trivial⟩ rfl rfl
  · rintro ⟨_, ⟨⟩⟩ _
    refine T.bif rfl H8 (fun hc H11 => ?_) (fun hc H11 => ?_)
    · refine T.seq ?_
      refine T.region ?_
      refine L.q 1 rfl ?_
      refine L.nil ?_
      refine E.then ?_
      refine T.ret ?_
      refine E.then_ret ?_
      have hr := Option.some.inj H11
      subst r
      exact E.ret () [] [] (.tmp rfl .nil) rfl rfl rfl
    · refine T.skip ?_
      refine E.then ?_
      refine T.seq ?_
      refine T.seq ?_
      refine T.region ?_
      refine L.q 1 rfl ?_
      refine L.y (Yl.ldb 1 rfl rfl rfl rfl) rfl rfl rfl ?_
      refine L.q 2 rfl ?_
      refine L.nil ?_
      refine E.then ?_
      obtain ⟨y713, H714, H715⟩ := bnd H11
      refine T.join (η := Unit × Unit) (fun h => y713 = .inl h.1) (fun h => (fun e712 => []) h.1) (fun h => (fun e712 => [Ch.box g2 59 [.slice a_1_0 x_.l.length c_1_0, .bool x_.wrapped], Ch.box g1 54 [.slice a_0_0 r_.cells.length c_0_0, .bool r_.wrapped]]) h.1) (fun h => (fun e712 => [Im.sl tyRowCell a_0_0 c_0_0 r_.cells, Im.sl tyRef09Cell a_1_0 c_1_0 x_.l]) h.1) ?_ ?_
      · refine T.block ?_
        refine T.lp (η := Unit) (fun s479 h => [(3, .pointer (some ⟨g2, 0, none⟩)), (22, .slice a_0_0 r_.cells.length c_0_0), (23, .int .i64 (r_.cells.length : Int)), (24, .int .i64 s479)]) (fun s479 h => [Ch.box g2 59 [.slice a_1_0 x_.l.length c_1_0, .bool x_.wrapped], Ch.box g1 54 [.slice a_0_0 r_.cells.length c_0_0, .bool r_.wrapped]]) (fun s479 h => [Im.sl tyRowCell a_0_0 c_0_0 r_.cells, Im.sl tyRef09Cell a_1_0 c_1_0 x_.l]) () [0, 0] [0, 1] H714 ⟨rfl, rfl, rfl, rfl, trivial⟩ rfl rfl ?_
        rintro k s479 ⟨⟩ z717 H716 hag718 hbr719
        refine T.seq ?_
        refine T.region ?_
        refine L.q 1 rfl ?_
        refine L.nil ?_
        refine E.then ?_
        refine T.seq ?_
        refine T.bif rfl H716 (fun hc H721 => ?_) (fun hc H721 => ?_)
        · refine T.skip ?_
          refine E.then ?_
          refine T.seq ?_
          refine T.block ?_
          refine T.seq ?_
          refine T.region ?_
          refine L.q 1 rfl ?_
          obtain ⟨x837, h838, H839⟩ := bnd H721
          refine L.addr 0 rfl (idx_lt h838) fun b840 o841 e842 => ?_
          obtain rfl : a_0_0 = some ⟨b840, o841, none⟩ := e842
          refine L.y (Yl.ia h838 rfl rfl rfl rfl rfl rfl) rfl rfl rfl ?_
          refine L.el 0 rfl (idx_some h838).2 ?_
          rintro _
          refine L.y (Yl.ldc 0 0 rfl rfl rfl rfl) rfl rfl rfl ?_
          refine L.a [] [] (Ac.alloc rfl rfl) rfl rfl rfl rfl rfl ?_
          intro g844
          refine L.q 1 rfl ?_
          refine L.a [0] [] (Ac.stb rfl rfl rfl rfl rfl rfl) rfl rfl rfl rfl rfl ?_
          intro _
          refine L.nil ?_
          refine E.then ?_
          refine T.seq ?_
          obtain ⟨e914, H915, H916⟩ := bnd H839
          refine T.join (η := Unit × Unit) (fun h => True) (fun h => [(3, .pointer (some ⟨g2, 0, none⟩)), (22, .slice (some ⟨b840, o841, none⟩) r_.cells.length c_0_0), (23, .int .i64 (r_.cells.length : Int)), (24, .int .i64 s479), (60, .bool e914)]) (fun h => [Ch.box g844 76 [.int .i32 x837.rune, .int .i64 x837.style, .int .i64 x837.part], Ch.box g2 59 [.slice a_1_0 x_.l.length c_1_0, .bool x_.wrapped], Ch.box g1 54 [.slice (some ⟨b840, o841, none⟩) r_.cells.length c_0_0, .bool r_.wrapped]]) (fun h => [Im.cells b840 (o841 + s479.toNat * 3) [.int .i32 x837.rune, .int .i64 x837.style, .int .i64 x837.part], Im.sl tyRowCell (some ⟨b840, o841, none⟩) c_0_0 r_.cells, Im.sl tyRef09Cell a_1_0 c_1_0 x_.l]) ?_ ?_
          · refine T.draw [] [0, 0, 0] mo (by rfl) rfl ?_
            refine D.q 0 rfl rfl rfl rfl rfl rfl ?_
            refine D.y 1 (Yl.ldb 0 rfl rfl rfl rfl) rfl rfl rfl rfl rfl rfl ?_
            refine D.q 2 rfl rfl rfl rfl rfl rfl ?_
            refine D.q 3 rfl rfl rfl rfl rfl rfl ?_
            refine D.y 4 (Yl.ldb 1 rfl rfl rfl rfl) rfl rfl rfl rfl rfl rfl ?_
            refine D.q 5 rfl rfl rfl rfl rfl rfl ?_
            obtain ⟨x934, h935, H936⟩ := bnd H915
            refine D.addr 2 rfl (idx_lt h935) fun b937 o938 e939 => ?_
            obtain rfl : a_1_0 = some ⟨b937, o938, none⟩ := e939
            refine D.y 6 (Yl.ia h935 rfl rfl rfl rfl rfl rfl) rfl rfl rfl rfl rfl rfl ?_
            refine D.el 2 rfl (idx_some h935).2 ?_
            rintro _
            refine D.q 7 rfl rfl rfl rfl rfl rfl ?_
            refine D.y 8 (Yl.ldc 0 0 rfl rfl rfl rfl) rfl rfl rfl rfl rfl rfl ?_
            refine D.q 9 rfl rfl rfl rfl rfl rfl ?_
            refine D.q 10 rfl rfl rfl rfl rfl rfl ?_
            refine D.cs 39 H936 rfl (fun hc H941 => ?_) (fun hc H941 => ?_)
            · refine D.sk 11 rfl rfl rfl rfl rfl ?_
              refine D.sk 12 rfl rfl rfl rfl rfl ?_
              refine D.sk 13 rfl rfl rfl rfl rfl ?_
              refine D.sk 14 rfl rfl rfl rfl rfl ?_
              refine D.sk 15 rfl rfl rfl rfl rfl ?_
              refine D.sk 16 rfl rfl rfl rfl rfl ?_
              refine D.sk 17 rfl rfl rfl rfl rfl ?_
              refine D.sk 18 rfl rfl rfl rfl rfl ?_
              refine D.sk 19 rfl rfl rfl rfl rfl ?_
              refine D.q 20 rfl rfl rfl rfl rfl rfl ?_
              refine D.q 21 rfl rfl rfl rfl rfl rfl ?_
              refine D.sk 22 rfl rfl rfl rfl rfl ?_
              refine D.sk 23 rfl rfl rfl rfl rfl ?_
              refine D.sk 24 rfl rfl rfl rfl rfl ?_
              refine D.sk 25 rfl rfl rfl rfl rfl ?_
              refine D.sk 26 rfl rfl rfl rfl rfl ?_
              refine D.sk 27 rfl rfl rfl rfl rfl ?_
              refine D.sk 28 rfl rfl rfl rfl rfl ?_
              refine D.sk 29 rfl rfl rfl rfl rfl ?_
              refine D.sk 30 rfl rfl rfl rfl rfl ?_
              refine D.q 31 rfl rfl rfl rfl rfl rfl ?_
              refine D.nil rfl rfl ?_
              have hr := Option.some.inj H941
              subst e914
              exact E.give ((), ()) [0, 0, 0] [1, 2, 3] trivial ⟨rfl, rfl, rfl, rfl, rfl, trivial⟩ rfl rfl
            · refine D.q 11 rfl rfl rfl rfl rfl rfl ?_
              refine D.y 12 (Yl.ldb 0 rfl rfl rfl rfl) rfl rfl rfl rfl rfl rfl ?_
              refine D.q 13 rfl rfl rfl rfl rfl rfl ?_
              refine D.y 14 (Yl.ldb 1 rfl rfl rfl rfl) rfl rfl rfl rfl rfl rfl ?_
              refine D.q 15 rfl rfl rfl rfl rfl rfl ?_
              obtain ⟨x942, h943, H944⟩ := bnd H941
              refine D.y 16 (Yl.ia h943 rfl rfl rfl rfl rfl rfl) rfl rfl rfl rfl rfl rfl ?_
              refine D.el 3 rfl (idx_some h943).2 ?_
              rintro _
              refine D.q 17 rfl rfl rfl rfl rfl rfl ?_
              refine D.y 18 (Yl.ldc 0 1 rfl rfl rfl rfl) rfl rfl rfl rfl rfl rfl ?_
              refine D.q 19 rfl rfl rfl rfl rfl rfl ?_
              refine D.q 20 rfl rfl rfl rfl rfl rfl ?_
              refine D.q 21 rfl rfl rfl rfl rfl rfl ?_
              refine D.cs 50 H944 rfl (fun hc H946 => ?_) (fun hc H946 => ?_)
              · refine D.sk 22 rfl rfl rfl rfl rfl ?_
                refine D.sk 23 rfl rfl rfl rfl rfl ?_
                refine D.sk 24 rfl rfl rfl rfl rfl ?_
                refine D.sk 25 rfl rfl rfl rfl rfl ?_
                refine D.sk 26 rfl rfl rfl rfl rfl ?_
                refine D.sk 27 rfl rfl rfl rfl rfl ?_
                refine D.sk 28 rfl rfl rfl rfl rfl ?_
                refine D.sk 29 rfl rfl rfl rfl rfl ?_
                refine D.sk 30 rfl rfl rfl rfl rfl ?_
                refine D.q 31 rfl rfl rfl rfl rfl rfl ?_
                refine D.nil rfl rfl ?_
                have hr := Option.some.inj H946
                subst e914
                exact E.give ((), ()) [0, 0, 0] [2, 3, 4] trivial ⟨rfl, rfl, rfl, rfl, rfl, trivial⟩ rfl rfl
              · refine D.q 22 rfl rfl rfl rfl rfl rfl ?_
                refine D.y 23 (Yl.ldb 0 rfl rfl rfl rfl) rfl rfl rfl rfl rfl rfl ?_
                refine D.q 24 rfl rfl rfl rfl rfl rfl ?_
                refine D.y 25 (Yl.ldb 1 rfl rfl rfl rfl) rfl rfl rfl rfl rfl rfl ?_
                refine D.q 26 rfl rfl rfl rfl rfl rfl ?_
                obtain ⟨x947, h948, H949⟩ := bnd H946
                refine D.y 27 (Yl.ia h948 rfl rfl rfl rfl rfl rfl) rfl rfl rfl rfl rfl rfl ?_
                refine D.el 4 rfl (idx_some h948).2 ?_
                rintro _
                refine D.q 28 rfl rfl rfl rfl rfl rfl ?_
                refine D.y 29 (Yl.ldc 0 2 rfl rfl rfl rfl) rfl rfl rfl rfl rfl rfl ?_
                refine D.q 30 rfl rfl rfl rfl rfl rfl ?_
                refine D.q 31 rfl rfl rfl rfl rfl rfl ?_
                refine D.nil rfl rfl ?_
                have hr := Option.some.inj H949
                subst e914
                exact E.give ((), ()) [0, 0, 0] [3, 4, 5] trivial ⟨rfl, rfl, rfl, rfl, rfl, trivial⟩ rfl rfl
          · rintro ⟨_, ⟨⟩⟩ _
            refine T.bif rfl H916 (fun hc H951 => ?_) (fun hc H951 => ?_)
            · refine T.seq ?_
              refine T.region ?_
              refine L.q 1 rfl ?_
              refine L.nil ?_
              refine E.then ?_
              refine T.ret ?_
              refine E.block_ret ?_
              refine E.then_ret ?_
              refine E.then_ret ?_
              refine E.block_ret ?_
              obtain ⟨w952, hz, H953⟩ := inrr_some H951
              subst z717
              have hb := hbr719 _ rfl
              subst y713
              have hw : w952 = r := Option.some.inj H715
              subst w952
              refine E.then_ret ?_
              have hr := Option.some.inj H953
              subst r
              exact E.ret () [] [] (.tmp rfl .nil) rfl rfl rfl
            · refine T.skip ?_
              refine E.block ?_
              refine E.then ?_
              refine T.region ?_
              refine L.q 2 rfl ?_
              refine L.nil ?_
              have hr := Option.some.inj H951
              subst z717
              exact E.give (_, ()) [1, 1] [1, 2] (hag718 _ rfl) ⟨rfl, rfl, rfl, rfl, trivial⟩ rfl rfl
        · refine T.exit ?_
          refine E.then_exit' ?_
          refine E.then_exit' ?_
          refine E.block_here ?_
          have hr := Option.some.inj H721
          subst z717
          have hb := hbr719 _ rfl
          subst y713
          exact E.give (_, ()) [0, 0] [0, 1] rfl trivial rfl rfl
      · rintro ⟨e712, ⟨⟩⟩ hy
        subst hy
        refine T.seq ?_
        refine T.region ?_
        refine L.q 1 rfl ?_
        refine L.nil ?_
        refine E.then ?_
        refine T.ret ?_
        have hr := Option.some.inj H715
        subst r
        exact E.ret () [] [] (.tmp rfl .nil) rfl rfl rfl

end Go.Tw.X

set_option linter.unusedVariables false
set_option linter.unusedSimpArgs false
set_option maxRecDepth 10000
namespace Go.Tw.X
open Go Go.Tw
theorem c_law10_Rows {l : List RowRow} {x_ : List Ref09Row} (a_0 : Option Addr) (c_0 : Nat) (a_1 : Option Addr) (c_1 : Nat) {r : Bool} (H : p_law10_Rows l x_ = some r) : CT G 45 [.slice a_0 l.length c_0, .slice a_1 x_.length c_1] [] [Im.sl tyRowRow a_0 c_0 l, Im.sl tyRef09Row a_1 c_1 x_] (fun h : Unit => .bool r) (fun h => []) (fun h => []) := by
  delta p_law10_Rows at H
  refine CT.of Go.Proofs.Tryz.func45 (by kernel_rfl) rfl rfl rfl fun K => ?_
  refine T.seq ?_
  refine T.region ?_
  refine L.q 1 rfl ?_
  refine L.nil ?_
  refine E.then ?_
  refine T.seq ?_
  refine T.seq ?_
  refine T.region ?_
  refine L.q 5 rfl ?_
  refine L.nil ?_
  refine E.then ?_
  refine T.bif rfl H (fun hc H2 => ?_) (fun hc H2 => ?_)
  · refine T.seq ?_
    refine T.region ?_
    refine L.q 1 rfl ?_
    refine L.nil ?_
    refine E.then ?_
    refine T.ret ?_
    refine E.then_ret ?_
    have hr := Option.some.inj H2
    subst r
    exact E.ret () [] [] (.tmp rfl .nil) rfl rfl rfl
  · refine T.skip ?_
    refine E.then ?_
    refine T.seq ?_
    refine T.seq ?_
    refine T.region ?_
    refine L.q 3 rfl ?_
    refine L.nil ?_
    refine E.then ?_
    obtain ⟨y572, H573, H574⟩ := bnd H2
    refine T.join (η := Unit × Unit) (fun h => y572 = .inl h.1) (fun h => (fun e571 => []) h.1) (fun h => (fun e571 => []) h.1) (fun h => (fun e571 => [Im.sl tyRowRow a_0 c_0 l, Im.sl tyRef09Row a_1 c_1 x_]) h.1) ?_ ?_
    · refine T.block ?_
      refine T.lp (η := Unit) (fun s382 h => [(0, .slice a_0 l.length c_0), (1, .slice a_1 x_.length c_1), (12, .int .i64 (x_.length : Int)), (13, .int .i64 s382)]) (fun s382 h => []) (fun s382 h => [Im.sl tyRowRow a_0 c_0 l, Im.sl tyRef09Row a_1 c_1 x_]) () [] [0, 1] H573 ⟨rfl, rfl, rfl, rfl, trivial⟩ rfl rfl ?_
      rintro k s382 ⟨⟩ z576 H575 hag577 hbr578
      refine T.seq ?_
      refine T.region ?_
      refine L.q 1 rfl ?_
      refine L.nil ?_
      refine E.then ?_
      refine T.seq ?_
      refine T.bif rfl H575 (fun hc H580 => ?_) (fun hc H580 => ?_)
      · refine T.skip ?_
        refine E.then ?_
        refine T.seq ?_
        refine T.block ?_
        refine T.seq ?_
        refine T.region ?_
        refine L.q 2 rfl ?_
        refine L.nil ?_
        refine E.then ?_
        refine T.seq ?_
        refine T.draw [] [] mo (by rfl) rfl ?_
        refine D.q 0 rfl rfl rfl rfl rfl rfl ?_
        refine D.q 1 rfl rfl rfl rfl rfl rfl ?_
        obtain ⟨x743, h744, H745⟩ := bnd H580
        refine D.addr 0 rfl (idx_lt h744) fun b746 o747 e748 => ?_
        obtain rfl : a_0 = some ⟨b746, o747, none⟩ := e748
        refine D.y 2 (Yl.ia h744 rfl rfl rfl rfl rfl rfl) rfl rfl rfl rfl rfl rfl ?_
        refine D.el 0 rfl (idx_some h744).2 ?_
        rintro ⟨a749, c750⟩
        refine D.y 3 (Yl.ldc 0 0 rfl rfl rfl rfl) rfl rfl rfl rfl rfl rfl ?_
        refine D.q 4 rfl rfl rfl rfl rfl rfl ?_
        refine D.q 5 rfl rfl rfl rfl rfl rfl ?_
        obtain ⟨x753, h754, H755⟩ := bnd H745
        refine D.addr 3 rfl (idx_lt h754) fun b756 o757 e758 => ?_
        obtain rfl : a_1 = some ⟨b756, o757, none⟩ := e758
        refine D.y 6 (Yl.ia h754 rfl rfl rfl rfl rfl rfl) rfl rfl rfl rfl rfl rfl ?_
        refine D.el 3 rfl (idx_some h754).2 ?_
        rintro ⟨a759, c760⟩
        refine D.y 7 (Yl.ldc 0 0 rfl rfl rfl rfl) rfl rfl rfl rfl rfl rfl ?_
        obtain ⟨r763, h764, H765⟩ := bnd H755
        refine D.one rfl rfl rfl (Dp.a [] [3, 1] (Ac.call (c_law09_Is a749 c750 a759 c760 h764) rfl rfl rfl rfl) rfl rfl rfl rfl rfl rfl ?_)
        rintro ⟨⟩
        refine D.q 9 rfl rfl rfl rfl rfl rfl ?_
        refine D.nil rfl rfl ?_
        refine E.then ?_
        refine T.bif rfl H765 (fun hc H766 => ?_) (fun hc H766 => ?_)
        · refine T.seq ?_
          refine T.region ?_
          refine L.q 1 rfl ?_
          refine L.nil ?_
          refine E.then ?_
          refine T.ret ?_
          refine E.block_ret ?_
          refine E.then_ret ?_
          refine E.then_ret ?_
          refine E.block_ret ?_
          obtain ⟨w767, hz, H768⟩ := inrr_some H766
          subst z576
          have hb := hbr578 _ rfl
          subst y572
          have hw : w767 = r := Option.some.inj H574
          subst w767
          refine E.then_ret ?_
          have hr := Option.some.inj H768
          subst r
          exact E.ret () [] [] (.tmp rfl .nil) rfl rfl rfl
        · refine T.skip ?_
          refine E.block ?_
          refine E.then ?_
          refine T.region ?_
          refine L.q 2 rfl ?_
          refine L.nil ?_
          have hr := Option.some.inj H766
          subst z576
          exact E.give (_, ()) [] [4, 5] (hag577 _ rfl) ⟨rfl, rfl, rfl, rfl, trivial⟩ rfl rfl
      · refine T.exit ?_
        refine E.then_exit' ?_
        refine E.then_exit' ?_
        refine E.block_here ?_
        have hr := Option.some.inj H580
        subst z576
        have hb := hbr578 _ rfl
        subst y572
        exact E.give (_, ()) [] [0, 1] rfl trivial rfl rfl
    · rintro ⟨e571, ⟨⟩⟩ hy
      subst hy
      refine T.seq ?_
      refine T.region ?_
      refine L.q 1 rfl ?_
      refine L.nil ?_
      refine E.then ?_
      refine T.ret ?_
      have hr := Option.some.inj H574
      subst r
      exact E.ret () [] [] (.tmp rfl .nil) rfl rfl rfl

theorem c_law09_Glyphs {l : List RowGlyph} {x_ : List Ref09Glyph} (a_0 : Option Addr) (c_0 : Nat) (a_1 : Option Addr) (c_1 : Nat) {r : Bool} (H : p_law09_Glyphs l x_ = some r) : CT G 46 [.slice a_0 l.length c_0, .slice a_1 x_.length c_1] [] [Im.sl tyRowGlyph a_0 c_0 l, Im.sl tyRef09Glyph a_1 c_1 x_] (fun h : Unit => .bool r) (fun h => []) (fun h => []) := by
  delta p_law09_Glyphs at H
  refine CT.of Go.Proofs.Tryz.func46 (by kernel_rfl) rfl rfl rfl fun K => ?_
  refine T.seq ?_
  refine T.region ?_
  refine L.q 1 rfl ?_
  refine L.nil ?_
  refine E.then ?_
  refine T.seq ?_
  refine T.seq ?_
  refine T.region ?_
  refine L.q 5 rfl ?_
  refine L.nil ?_
  refine E.then ?_
  refine T.bif rfl H (fun hc H2 => ?_) (fun hc H2 => ?_)
  · refine T.seq ?_
    refine T.region ?_
    refine L.q 1 rfl ?_
    refine L.nil ?_
    refine E.then ?_
    refine T.ret ?_
    refine E.then_ret ?_
    have hr := Option.some.inj H2
    subst r
    exact E.ret () [] [] (.tmp rfl .nil) rfl rfl rfl
  · refine T.skip ?_
    refine E.then ?_
    refine T.seq ?_
    refine T.seq ?_
    refine T.region ?_
    refine L.q 3 rfl ?_
    refine L.nil ?_
    refine E.then ?_
    obtain ⟨y524, H525, H526⟩ := bnd H2
    refine T.join (η := Unit × Unit) (fun h => y524 = .inl h.1) (fun h => (fun e523 => []) h.1) (fun h => (fun e523 => []) h.1) (fun h => (fun e523 => [Im.sl tyRowGlyph a_0 c_0 l, Im.sl tyRef09Glyph a_1 c_1 x_]) h.1) ?_ ?_
    · refine T.block ?_
      refine T.lp (η := Unit) (fun s350 h => [(1, .slice a_1 x_.length c_1), (12, .slice a_0 l.length c_0), (13, .int .i64 (l.length : Int)), (14, .int .i64 s350)]) (fun s350 h => []) (fun s350 h => [Im.sl tyRowGlyph a_0 c_0 l, Im.sl tyRef09Glyph a_1 c_1 x_]) () [] [0, 1] H525 ⟨rfl, rfl, rfl, rfl, trivial⟩ rfl rfl ?_
      rintro k s350 ⟨⟩ z528 H527 hag529 hbr530
      refine T.seq ?_
      refine T.region ?_
      refine L.q 1 rfl ?_
      refine L.nil ?_
      refine E.then ?_
      refine T.seq ?_
      refine T.bif rfl H527 (fun hc H532 => ?_) (fun hc H532 => ?_)
      · refine T.skip ?_
        refine E.then ?_
        refine T.seq ?_
        refine T.block ?_
        refine T.seq ?_
        refine T.region ?_
        refine L.q 1 rfl ?_
        obtain ⟨x618, h619, H620⟩ := bnd H532
        refine L.addr 0 rfl (idx_lt h619) fun b621 o622 e623 => ?_
        obtain rfl : a_0 = some ⟨b621, o622, none⟩ := e623
        refine L.y (Yl.ia h619 rfl rfl rfl rfl rfl rfl) rfl rfl rfl ?_
        refine L.el 0 rfl (idx_some h619).2 ?_
        rintro _
        refine L.y (Yl.ldc 0 0 rfl rfl rfl rfl) rfl rfl rfl ?_
        refine L.a [] [] (Ac.alloc rfl rfl) rfl rfl rfl rfl rfl ?_
        intro g625
        refine L.q 1 rfl ?_
        refine L.a [0] [] (Ac.stb rfl rfl rfl rfl rfl rfl) rfl rfl rfl rfl rfl ?_
        intro _
        refine L.nil ?_
        refine E.then ?_
        refine T.seq ?_
        obtain ⟨e675, H676, H677⟩ := bnd H620
        refine T.join (η := Unit × Unit) (fun h => True) (fun h => [(1, .slice a_1 x_.length c_1), (12, .slice (some ⟨b621, o622, none⟩) l.length c_0), (13, .int .i64 (l.length : Int)), (14, .int .i64 s350), (37, .bool e675)]) (fun h => [Ch.box g625 71 [.int .i32 x618.rune, .int .i64 x618.style]]) (fun h => [Im.cells b621 (o622 + s350.toNat * 2) [.int .i32 x618.rune, .int .i64 x618.style], Im.sl tyRowGlyph (some ⟨b621, o622, none⟩) c_0 l, Im.sl tyRef09Glyph a_1 c_1 x_]) ?_ ?_
        · refine T.draw [] [0] mo (by rfl) rfl ?_
          refine D.q 0 rfl rfl rfl rfl rfl rfl ?_
          refine D.y 1 (Yl.ldb 0 rfl rfl rfl rfl) rfl rfl rfl rfl rfl rfl ?_
          refine D.q 2 rfl rfl rfl rfl rfl rfl ?_
          refine D.q 3 rfl rfl rfl rfl rfl rfl ?_
          refine D.q 4 rfl rfl rfl rfl rfl rfl ?_
          obtain ⟨x690, h691, H692⟩ := bnd H676
          refine D.addr 2 rfl (idx_lt h691) fun b693 o694 e695 => ?_
          obtain rfl : a_1 = some ⟨b693, o694, none⟩ := e695
          refine D.y 5 (Yl.ia h691 rfl rfl rfl rfl rfl rfl) rfl rfl rfl rfl rfl rfl ?_
          refine D.el 2 rfl (idx_some h691).2 ?_
          rintro _
          refine D.q 6 rfl rfl rfl rfl rfl rfl ?_
          refine D.y 7 (Yl.ldc 0 0 rfl rfl rfl rfl) rfl rfl rfl rfl rfl rfl ?_
          refine D.q 8 rfl rfl rfl rfl rfl rfl ?_
          refine D.q 9 rfl rfl rfl rfl rfl rfl ?_
          refine D.cs 28 H692 rfl (fun hc H697 => ?_) (fun hc H697 => ?_)
          · refine D.sk 10 rfl rfl rfl rfl rfl ?_
            refine D.sk 11 rfl rfl rfl rfl rfl ?_
            refine D.sk 12 rfl rfl rfl rfl rfl ?_
            refine D.sk 13 rfl rfl rfl rfl rfl ?_
            refine D.sk 14 rfl rfl rfl rfl rfl ?_
            refine D.sk 15 rfl rfl rfl rfl rfl ?_
            refine D.sk 16 rfl rfl rfl rfl rfl ?_
            refine D.sk 17 rfl rfl rfl rfl rfl ?_
            refine D.q 18 rfl rfl rfl rfl rfl rfl ?_
            refine D.nil rfl rfl ?_
            have hr := Option.some.inj H697
            subst e675
            exact E.give ((), ()) [0] [1, 2, 3] trivial ⟨rfl, rfl, rfl, rfl, rfl, trivial⟩ rfl rfl
          · refine D.q 10 rfl rfl rfl rfl rfl rfl ?_
            refine D.y 11 (Yl.ldb 0 rfl rfl rfl rfl) rfl rfl rfl rfl rfl rfl ?_
            refine D.q 12 rfl rfl rfl rfl rfl rfl ?_
            refine D.q 13 rfl rfl rfl rfl rfl rfl ?_
            obtain ⟨x698, h699, H700⟩ := bnd H697
            refine D.y 14 (Yl.ia h699 rfl rfl rfl rfl rfl rfl) rfl rfl rfl rfl rfl rfl ?_
            refine D.el 3 rfl (idx_some h699).2 ?_
            rintro _
            refine D.q 15 rfl rfl rfl rfl rfl rfl ?_
            refine D.y 16 (Yl.ldc 0 1 rfl rfl rfl rfl) rfl rfl rfl rfl rfl rfl ?_
            refine D.q 17 rfl rfl rfl rfl rfl rfl ?_
            refine D.q 18 rfl rfl rfl rfl rfl rfl ?_
            refine D.nil rfl rfl ?_
            have hr := Option.some.inj H700
            subst e675
            exact E.give ((), ()) [0] [2, 3, 4] trivial ⟨rfl, rfl, rfl, rfl, rfl, trivial⟩ rfl rfl
        · rintro ⟨_, ⟨⟩⟩ _
          refine T.bif rfl H677 (fun hc H702 => ?_) (fun hc H702 => ?_)
          · refine T.seq ?_
            refine T.region ?_
            refine L.q 1 rfl ?_
            refine L.nil ?_
            refine E.then ?_
            refine T.ret ?_
            refine E.block_ret ?_
            refine E.then_ret ?_
            refine E.then_ret ?_
            refine E.block_ret ?_
            obtain ⟨w703, hz, H704⟩ := inrr_some H702
            subst z528
            have hb := hbr530 _ rfl
            subst y524
            have hw : w703 = r := Option.some.inj H526
            subst w703
            refine E.then_ret ?_
            have hr := Option.some.inj H704
            subst r
            exact E.ret () [] [] (.tmp rfl .nil) rfl rfl rfl
          · refine T.skip ?_
            refine E.block ?_
            refine E.then ?_
            refine T.region ?_
            refine L.q 2 rfl ?_
            refine L.nil ?_
            have hr := Option.some.inj H702
            subst z528
            exact E.give (_, ()) [] [1, 2] (hag529 _ rfl) ⟨rfl, rfl, rfl, rfl, trivial⟩ rfl rfl
      · refine T.exit ?_
        refine E.then_exit' ?_
        refine E.then_exit' ?_
        refine E.block_here ?_
        have hr := Option.some.inj H532
        subst z528
        have hb := hbr530 _ rfl
        subst y524
        exact E.give (_, ()) [] [0, 1] rfl trivial rfl rfl
    · rintro ⟨e523, ⟨⟩⟩ hy
      subst hy
      refine T.seq ?_
      refine T.region ?_
      refine L.q 1 rfl ?_
      refine L.nil ?_
      refine E.then ?_
      refine T.ret ?_
      have hr := Option.some.inj H526
      subst r
      exact E.ret () [] [] (.tmp rfl .nil) rfl rfl rfl

theorem c_law16_Is {s_ : SnapSnap} {x_ : Ref16Snap} (a_0_0 : Option Addr) (c_0_0 : Nat) (a_0_1 : Option Addr) (c_0_1 : Nat) (a_1_0 : Option Addr) (c_1_0 : Nat) (a_1_1 : Option Addr) (c_1_1 : Nat) {r : Bool} (H : p_law16_Is s_ x_ = some r) : CT G 13 [.agg #[.int .i64 s_.k, .int .i64 s_.w, .int .i64 s_.h, .int .i64 s_.x, .int .i64 s_.y, .string s_.title, .slice a_0_0 s_.rows.length c_0_0, .int .i64 s_.len, .int .i64 s_.chain, .slice a_0_1 s_.begun.length c_0_1], .agg #[.int .i64 x_.k, .int .i64 x_.w, .int .i64 x_.h, .int .i64 x_.x, .int .i64 x_.y, .string x_.title, .slice a_1_0 x_.rows.length c_1_0, .int .i64 x_.len, .int .i64 x_.chain, .slice a_1_1 x_.begun.length c_1_1]] [] [Im.sl tyRowRow a_0_0 c_0_0 s_.rows, Im.sl tyRowGlyph a_0_1 c_0_1 s_.begun, Im.sl tyRef09Row a_1_0 c_1_0 x_.rows, Im.sl tyRef09Glyph a_1_1 c_1_1 x_.begun] (fun h : Unit => .bool r) (fun h => []) (fun h => []) := by
  delta p_law16_Is at H
  refine CT.of Go.Proofs.Tryz.func13 (by kernel_rfl) rfl rfl rfl fun K => ?_
  refine T.seq ?_
  refine T.region ?_
  refine L.a [] [] (Ac.box rfl rfl) rfl rfl rfl rfl rfl ?_
  intro g1
  refine L.a [] [] (Ac.box rfl rfl) rfl rfl rfl rfl rfl ?_
  intro g2
  refine L.q 1 rfl ?_
  refine L.nil ?_
  refine E.then ?_
  refine T.seq ?_
  obtain ⟨e34, H35, H36⟩ := bnd H
  refine T.join (η := Unit × Unit) (fun h => True) (fun h => [(4, .bool e34)]) (fun h => [Ch.box g2 32 [.int .i64 x_.k, .int .i64 x_.w, .int .i64 x_.h, .int .i64 x_.x, .int .i64 x_.y, .string x_.title, .slice a_1_0 x_.rows.length c_1_0, .int .i64 x_.len, .int .i64 x_.chain, .slice a_1_1 x_.begun.length c_1_1], Ch.box g1 25 [.int .i64 s_.k, .int .i64 s_.w, .int .i64 s_.h, .int .i64 s_.x, .int .i64 s_.y, .string s_.title, .slice a_0_0 s_.rows.length c_0_0, .int .i64 s_.len, .int .i64 s_.chain, .slice a_0_1 s_.begun.length c_0_1]]) (fun h => [Im.sl tyRowRow a_0_0 c_0_0 s_.rows, Im.sl tyRowGlyph a_0_1 c_0_1 s_.begun, Im.sl tyRef09Row a_1_0 c_1_0 x_.rows, Im.sl tyRef09Glyph a_1_1 c_1_1 x_.begun]) ?_ ?_
  · refine T.rega rfl ?_
    refine L.q 1 rfl ?_
    refine L.y (Yl.ldb 1 rfl rfl rfl rfl) rfl rfl rfl ?_
    refine L.q 1 rfl ?_
    refine L.y (Yl.ldb 0 rfl rfl rfl rfl) rfl rfl rfl ?_
    refine L.q 2 rfl ?_
    refine L.cs 10 H35 rfl (fun hc H37 => ?_) (fun hc H37 => ?_)
    · refine L.q 1 rfl ?_
      refine L.y (Yl.ldb 1 rfl rfl rfl rfl) rfl rfl rfl ?_
      refine L.q 1 rfl ?_
      refine L.y (Yl.ldb 0 rfl rfl rfl rfl) rfl rfl rfl ?_
      refine L.q 3 rfl ?_
      refine L.cs 17 H37 rfl (fun hc H38 => ?_) (fun hc H38 => ?_)
      · refine L.q 1 rfl ?_
        refine L.y (Yl.ldb 1 rfl rfl rfl rfl) rfl rfl rfl ?_
        refine L.q 1 rfl ?_
        refine L.y (Yl.ldb 0 rfl rfl rfl rfl) rfl rfl rfl ?_
        refine L.q 3 rfl ?_
        refine L.cs 24 H38 rfl (fun hc H39 => ?_) (fun hc H39 => ?_)
        · refine L.q 1 rfl ?_
          refine L.y (Yl.ldb 1 rfl rfl rfl rfl) rfl rfl rfl ?_
          refine L.q 1 rfl ?_
          refine L.y (Yl.ldb 0 rfl rfl rfl rfl) rfl rfl rfl ?_
          refine L.q 3 rfl ?_
          refine L.cs 31 H39 rfl (fun hc H40 => ?_) (fun hc H40 => ?_)
          · refine L.q 1 rfl ?_
            refine L.y (Yl.ldb 1 rfl rfl rfl rfl) rfl rfl rfl ?_
            refine L.q 1 rfl ?_
            refine L.y (Yl.ldb 0 rfl rfl rfl rfl) rfl rfl rfl ?_
            refine L.q 3 rfl ?_
            refine L.cs 38 H40 rfl (fun hc H41 => ?_) (fun hc H41 => ?_)
            · refine L.q 1 rfl ?_
              refine L.y (Yl.ldb 1 rfl rfl rfl rfl) rfl rfl rfl ?_
              refine L.q 1 rfl ?_
              refine L.y (Yl.ldb 0 rfl rfl rfl rfl) rfl rfl rfl ?_
              refine L.q 3 rfl ?_
              refine L.cs 45 H41 rfl (fun hc H42 => ?_) (fun hc H42 => ?_)
              · refine L.q 1 rfl ?_
                refine L.y (Yl.ldb 1 rfl rfl rfl rfl) rfl rfl rfl ?_
                refine L.q 1 rfl ?_
                refine L.y (Yl.ldb 0 rfl rfl rfl rfl) rfl rfl rfl ?_
                refine L.q 3 rfl ?_
                refine L.cs 52 H42 rfl (fun hc H43 => ?_) (fun hc H43 => ?_)
                · refine L.q 1 rfl ?_
                  refine L.y (Yl.ldb 1 rfl rfl rfl rfl) rfl rfl rfl ?_
                  refine L.q 1 rfl ?_
                  refine L.y (Yl.ldb 0 rfl rfl rfl rfl) rfl rfl rfl ?_
                  refine L.q 3 rfl ?_
                  refine L.cs 59 H43 rfl (fun hc H44 => ?_) (fun hc H44 => ?_)
                  · refine L.q 1 rfl ?_
                    refine L.y (Yl.ldb 1 rfl rfl rfl rfl) rfl rfl rfl ?_
                    refine L.q 1 rfl ?_
                    refine L.y (Yl.ldb 0 rfl rfl rfl rfl) rfl rfl rfl ?_
                    obtain ⟨r45, h46, H47⟩ := bnd H44
                    refine L.a [] [0, 2] (Ac.call (c_law10_Rows a_0_0 c_0_0 a_1_0 c_1_0 h46) rfl rfl rfl rfl) rfl rfl rfl rfl rfl ?_
                    rintro ⟨⟩
                    refine L.q 2 rfl ?_
                    refine L.cs 66 H47 rfl (fun hc H48 => ?_) (fun hc H48 => ?_)
                    · refine L.q 1 rfl ?_
                      refine L.y (Yl.ldb 1 rfl rfl rfl rfl) rfl rfl rfl ?_
                      refine L.q 1 rfl ?_
                      refine L.y (Yl.ldb 0 rfl rfl rfl rfl) rfl rfl rfl ?_
                      obtain ⟨r49, h50, H51⟩ := bnd H48
                      refine L.a [] [1, 3] (Ac.call (c_law09_Glyphs a_0_1 c_0_1 a_1_1 c_1_1 h50) rfl rfl rfl rfl) rfl rfl rfl rfl rfl ?_
                      rintro ⟨⟩
                      refine L.q 2 rfl ?_
                      refine L.nil ?_
                      have hr := Option.some.inj H51
                      subst e34
                      exact E.give ((), ()) [0, 0] [0, 1, 2, 3] trivial ⟨rfl, trivial⟩ rfl rfl
                    · refine L.q 7 rfl ?_
                      refine L.nil ?_
                      have hr := Option.some.inj H48
                      subst e34
                      exact E.give ((), ()) [0, 0] [0, 1, 2, 3] trivial ⟨rfl, trivial⟩ rfl rfl
                  · refine L.q 14 rfl ?_
                    refine L.nil ?_
                    have hr := Option.some.inj H44
                    subst e34
                    exact E.give ((), ()) [0, 0] [0, 1, 2, 3] trivial ⟨rfl, trivial⟩ rfl rfl
                · refine L.q 21 rfl ?_
                  refine L.nil ?_
                  have hr := Option.some.inj H43
                  subst e34
                  exact E.give ((), ()) [0, 0] [0, 1, 2, 3] trivial ⟨rfl, trivial⟩ rfl rfl
              · refine L.q 28 rfl ?_
                refine L.nil ?_
                have hr := Option.some.inj H42
                subst e34
                exact E.give ((), ()) [0, 0] [0, 1, 2, 3] trivial ⟨rfl, trivial⟩ rfl rfl
            · refine L.q 35 rfl ?_
              refine L.nil ?_
              have hr := Option.some.inj H41
              subst e34
              exact E.give ((), ()) [0, 0] [0, 1, 2, 3] trivial ⟨rfl, trivial⟩ rfl rfl
          · refine L.q 42 rfl ?_
            refine L.nil ?_
            have hr := Option.some.inj H40
            subst e34
            exact E.give ((), ()) [0, 0] [0, 1, 2, 3] trivial ⟨rfl, trivial⟩ rfl rfl
        · refine L.q 49 rfl ?_
          refine L.nil ?_
          have hr := Option.some.inj H39
          subst e34
          exact E.give ((), ()) [0, 0] [0, 1, 2, 3] trivial ⟨rfl, trivial⟩ rfl rfl
      · refine L.q 56 rfl ?_
        refine L.nil ?_
        have hr := Option.some.inj H38
        subst e34
        exact E.give ((), ()) [0, 0] [0, 1, 2, 3] trivial ⟨rfl, trivial⟩ rfl rfl
    · refine L.q 63 rfl ?_
      refine L.nil ?_
      have hr := Option.some.inj H37
      subst e34
      exact E.give ((), ()) [0, 0] [0, 1, 2, 3] trivial ⟨rfl, trivial⟩ rfl rfl
  · rintro ⟨_, ⟨⟩⟩ _
    refine T.ret ?_
    have hr := Option.some.inj H36
    subst r
    exact E.ret () [] [] (.tmp rfl .nil) rfl rfl rfl

theorem c_law16_SnapBack {s_ : SnapSnap} (a_0_0 : Option Addr) (c_0_0 : Nat) (a_0_1 : Option Addr) (c_0_1 : Nat) {r : Bool} (H : p_law16_SnapBack s_ = some r) : CT G 3 [.agg #[.int .i64 s_.k, .int .i64 s_.w, .int .i64 s_.h, .int .i64 s_.x, .int .i64 s_.y, .string s_.title, .slice a_0_0 s_.rows.length c_0_0, .int .i64 s_.len, .int .i64 s_.chain, .slice a_0_1 s_.begun.length c_0_1]] [] [Im.sl tyRowRow a_0_0 c_0_0 s_.rows, Im.sl tyRowGlyph a_0_1 c_0_1 s_.begun, Im.sl (Ty.int .u32) (some ⟨0, 0, none⟩) 16 t_sum_half] (fun h : Unit => .bool r) (fun h => []) (fun h => []) := by
  delta p_law16_SnapBack at H
  refine CT.of Go.Proofs.Tryz.func3 (by kernel_rfl) rfl rfl rfl fun K => ?_
  refine T.seq ?_
  refine T.region ?_
  refine L.a [] [] (Ac.box rfl rfl) rfl rfl rfl rfl rfl ?_
  intro g1
  refine L.q 1 rfl ?_
  refine L.nil ?_
  refine E.then ?_
  refine T.seq ?_
  refine T.seq ?_
  refine T.region ?_
  obtain ⟨r2, h3, H4⟩ := bnd H
  refine L.a [] [] (Ac.call (c_law16_awake h3) rfl rfl rfl rfl) rfl rfl rfl rfl rfl ?_
  rintro ⟨⟩
  refine L.q 1 rfl ?_
  refine L.nil ?_
  refine E.then ?_
  refine T.bif rfl H4 (fun hc H6 => ?_) (fun hc H6 => ?_)
  · refine T.seq ?_
    refine T.region ?_
    refine L.q 1 rfl ?_
    refine L.nil ?_
    refine E.then ?_
    refine T.ret ?_
    refine E.then_ret ?_
    have hr := Option.some.inj H6
    subst r
    exact E.ret () [] [] (.tmp rfl .nil) rfl rfl rfl
  · refine T.skip ?_
    refine E.then ?_
    refine T.seq ?_
    refine T.region ?_
    refine L.y (Yl.ldb 0 rfl rfl rfl rfl) rfl rfl rfl ?_
    obtain ⟨r7, h8, H9⟩ := bnd H6
    refine L.a [] [0, 1] (Ac.call (c_law16_Cut a_0_0 c_0_0 a_0_1 c_0_1 h8) rfl rfl rfl rfl) rfl rfl rfl rfl rfl ?_
    rintro ⟨⟨a10, c11⟩, ⟨a12, c13⟩⟩
    refine L.a [0] [] (Ac.stb rfl rfl rfl rfl rfl rfl) rfl rfl rfl rfl rfl ?_
    intro _
    refine L.nil ?_
    refine E.then ?_
    refine T.seq ?_
    refine T.region ?_
    refine L.y (Yl.ldb 0 rfl rfl rfl rfl) rfl rfl rfl ?_
    obtain ⟨r16, h17, H18⟩ := bnd H9
    refine L.a [] [0, 1] (Ac.call (c_law16_Told a10 c11 a12 c13 h17) rfl rfl rfl rfl) rfl rfl rfl rfl rfl ?_
    rintro ⟨⟨a19, c20⟩, ⟨a21, c22⟩⟩
    refine L.a [] [] (Ac.alloc rfl rfl) rfl rfl rfl rfl rfl ?_
    intro g25
    refine L.a [0] [] (Ac.stb rfl rfl rfl rfl rfl rfl) rfl rfl rfl rfl rfl ?_
    intro _
    refine L.nil ?_
    refine E.then ?_
    refine T.seq ?_
    refine T.region ?_
    refine L.y (Yl.ldb 1 rfl rfl rfl rfl) rfl rfl rfl ?_
    obtain ⟨r26, h27, H28⟩ := bnd H18
    refine L.a [] [2, 3] (Ac.call (c_snap_Snap_Pack a10 c11 a12 c13 h27) rfl rfl rfl rfl) rfl rfl rfl rfl rfl ?_
    rintro ⟨⟩
    refine L.q 1 rfl ?_
    refine L.nil ?_
    refine E.then ?_
    refine T.seq ?_
    refine T.seq ?_
    obtain ⟨e378, H379, H380⟩ := bnd H28
    refine T.join (η := Unit × Unit) (fun h => True) (fun h => [(3, .pointer (some ⟨g25, 0, none⟩)), (4, .string r26), (57, .bool e378)]) (fun h => [Ch.box g25 32 [.int .i64 r16.k, .int .i64 r16.w, .int .i64 r16.h, .int .i64 r16.x, .int .i64 r16.y, .string r16.title, .slice a19 r16.rows.length c20, .int .i64 r16.len, .int .i64 r16.chain, .slice a21 r16.begun.length c22], Ch.box g1 25 [.int .i64 r7.k, .int .i64 r7.w, .int .i64 r7.h, .int .i64 r7.x, .int .i64 r7.y, .string r7.title, .slice a10 r7.rows.length c11, .int .i64 r7.len, .int .i64 r7.chain, .slice a12 r7.begun.length c13]]) (fun h => [Im.sl tyRef09Row a19 c20 r16.rows, Im.sl tyRef09Glyph a21 c22 r16.begun, Im.sl tyRowRow a10 c11 r7.rows, Im.sl tyRowGlyph a12 c13 r7.begun, Im.sl tyRowRow a_0_0 c_0_0 s_.rows, Im.sl tyRowGlyph a_0_1 c_0_1 s_.begun, Im.sl (Ty.int .u32) (some ⟨0, 0, none⟩) 16 t_sum_half]) ?_ ?_
    · refine T.draw [] [0, 0] mo (by rfl) rfl ?_
      refine D.y 0 (Yl.ldb 1 rfl rfl rfl rfl) rfl rfl rfl rfl rfl rfl ?_
      refine D.y 3 (Yl.ldb 0 rfl rfl rfl rfl) rfl rfl rfl rfl rfl rfl ?_
      obtain ⟨r468, h469, H470⟩ := bnd H379
      refine D.one rfl rfl rfl (Dp.a [] [2, 3] (Ac.call (c_snap_Snap_Check a10 c11 a12 c13 h469) rfl rfl rfl rfl) rfl rfl rfl rfl rfl rfl ?_)
      rintro ⟨⟩
      refine D.q 2 rfl rfl rfl rfl rfl rfl ?_
      obtain ⟨r471, h472, H473⟩ := bnd H470
      refine D.one rfl rfl rfl (Dp.a [] [0, 1] (Ac.call (c_ref16_May a19 c20 a21 c22 h472) rfl rfl rfl rfl) rfl rfl rfl rfl rfl rfl ?_)
      rintro ⟨⟩
      refine D.q 5 rfl rfl rfl rfl rfl rfl ?_
      refine D.q 6 rfl rfl rfl rfl rfl rfl ?_
      refine D.cs 21 H473 rfl (fun hc H474 => ?_) (fun hc H474 => ?_)
      · refine D.sk 7 rfl rfl rfl rfl rfl ?_
        refine D.sk 8 rfl rfl rfl rfl rfl ?_
        refine D.sk 9 rfl rfl rfl rfl rfl ?_
        refine D.sk 10 rfl rfl rfl rfl rfl ?_
        refine D.sk 11 rfl rfl rfl rfl rfl ?_
        refine D.sk 12 rfl rfl rfl rfl rfl ?_
        refine D.sk 13 rfl rfl rfl rfl rfl ?_
        refine D.sk 14 rfl rfl rfl rfl rfl ?_
        refine D.q 15 rfl rfl rfl rfl rfl rfl ?_
        refine D.q 16 rfl rfl rfl rfl rfl rfl ?_
        refine D.sk 17 rfl rfl rfl rfl rfl ?_
        refine D.sk 18 rfl rfl rfl rfl rfl ?_
        refine D.sk 19 rfl rfl rfl rfl rfl ?_
        refine D.sk 20 rfl rfl rfl rfl rfl ?_
        refine D.q 21 rfl rfl rfl rfl rfl rfl ?_
        refine D.q 22 rfl rfl rfl rfl rfl rfl ?_
        refine D.sk 23 rfl rfl rfl rfl rfl ?_
        refine D.sk 24 rfl rfl rfl rfl rfl ?_
        refine D.sk 25 rfl rfl rfl rfl rfl ?_
        refine D.sk 26 rfl rfl rfl rfl rfl ?_
        refine D.sk 27 rfl rfl rfl rfl rfl ?_
        refine D.q 28 rfl rfl rfl rfl rfl rfl ?_
        refine D.q 29 rfl rfl rfl rfl rfl rfl ?_
        refine D.sk 30 rfl rfl rfl rfl rfl ?_
        refine D.sk 31 rfl rfl rfl rfl rfl ?_
        refine D.sk 32 rfl rfl rfl rfl rfl ?_
        refine D.sk 33 rfl rfl rfl rfl rfl ?_
        refine D.sk 34 rfl rfl rfl rfl rfl ?_
        refine D.q 35 rfl rfl rfl rfl rfl rfl ?_
        refine D.q 36 rfl rfl rfl rfl rfl rfl ?_
        refine D.sk 37 rfl rfl rfl rfl rfl ?_
        refine D.sk 38 rfl rfl rfl rfl rfl ?_
        refine D.sk 39 rfl rfl rfl rfl rfl ?_
        refine D.sk 40 rfl rfl rfl rfl rfl ?_
        refine D.sk 41 rfl rfl rfl rfl rfl ?_
        refine D.q 42 rfl rfl rfl rfl rfl rfl ?_
        refine D.nil rfl rfl ?_
        have hr := Option.some.inj H474
        subst e378
        exact E.give ((), ()) [0, 0] [0, 1, 2, 3, 4, 5, 6] trivial ⟨rfl, rfl, rfl, trivial⟩ rfl rfl
      · refine D.y 7 (Yl.ldb 1 rfl rfl rfl rfl) rfl rfl rfl rfl rfl rfl ?_
        obtain ⟨r475, h476, H477⟩ := bnd H474
        refine D.one rfl rfl rfl (Dp.a [] [2, 3] (Ac.call (c_snap_Snap_Check a10 c11 a12 c13 h476) rfl rfl rfl rfl) rfl rfl rfl rfl rfl rfl ?_)
        rintro ⟨⟩
        refine D.q 9 rfl rfl rfl rfl rfl rfl ?_
        refine D.q 10 rfl rfl rfl rfl rfl rfl ?_
        refine D.cs 25 H477 rfl (fun hc H478 => ?_) (fun hc H478 => ?_)
        · refine D.y 11 (Yl.ldb 1 rfl rfl rfl rfl) rfl rfl rfl rfl rfl rfl ?_
          obtain ⟨r479, h480, H481⟩ := bnd H478
          refine D.one rfl rfl rfl (Dp.a [] [2, 3] (Ac.call (c_snap_Snap_Check a10 c11 a12 c13 h480) rfl rfl rfl rfl) rfl rfl rfl rfl rfl rfl ?_)
          rintro ⟨⟩
          refine D.q 13 rfl rfl rfl rfl rfl rfl ?_
          refine D.q 14 rfl rfl rfl rfl rfl rfl ?_
          refine D.q 15 rfl rfl rfl rfl rfl rfl ?_
          refine D.q 16 rfl rfl rfl rfl rfl rfl ?_
          refine D.cs 31 H481 rfl (fun hc H482 => ?_) (fun hc H482 => ?_)
          · refine D.sk 17 rfl rfl rfl rfl rfl ?_
            refine D.sk 18 rfl rfl rfl rfl rfl ?_
            refine D.sk 19 rfl rfl rfl rfl rfl ?_
            refine D.sk 20 rfl rfl rfl rfl rfl ?_
            refine D.q 21 rfl rfl rfl rfl rfl rfl ?_
            refine D.q 22 rfl rfl rfl rfl rfl rfl ?_
            refine D.sk 23 rfl rfl rfl rfl rfl ?_
            refine D.sk 24 rfl rfl rfl rfl rfl ?_
            refine D.sk 25 rfl rfl rfl rfl rfl ?_
            refine D.sk 26 rfl rfl rfl rfl rfl ?_
            refine D.sk 27 rfl rfl rfl rfl rfl ?_
            refine D.q 28 rfl rfl rfl rfl rfl rfl ?_
            refine D.q 29 rfl rfl rfl rfl rfl rfl ?_
            refine D.sk 30 rfl rfl rfl rfl rfl ?_
            refine D.sk 31 rfl rfl rfl rfl rfl ?_
            refine D.sk 32 rfl rfl rfl rfl rfl ?_
            refine D.sk 33 rfl rfl rfl rfl rfl ?_
            refine D.sk 34 rfl rfl rfl rfl rfl ?_
            refine D.q 35 rfl rfl rfl rfl rfl rfl ?_
            refine D.q 36 rfl rfl rfl rfl rfl rfl ?_
            refine D.sk 37 rfl rfl rfl rfl rfl ?_
            refine D.sk 38 rfl rfl rfl rfl rfl ?_
            refine D.sk 39 rfl rfl rfl rfl rfl ?_
            refine D.sk 40 rfl rfl rfl rfl rfl ?_
            refine D.sk 41 rfl rfl rfl rfl rfl ?_
            refine D.q 42 rfl rfl rfl rfl rfl rfl ?_
            refine D.nil rfl rfl ?_
            have hr := Option.some.inj H482
            subst e378
            exact E.give ((), ()) [0, 0] [0, 1, 2, 3, 4, 5, 6] trivial ⟨rfl, rfl, rfl, trivial⟩ rfl rfl
          · refine D.q 17 rfl rfl rfl rfl rfl rfl ?_
            refine D.y 18 (Yl.ldb 0 rfl rfl rfl rfl) rfl rfl rfl rfl rfl rfl ?_
            obtain ⟨r483, h484, H485⟩ := bnd H482
            refine D.one rfl rfl rfl (Dp.a [] [0, 1] (Ac.call (c_ref16_Pack a19 c20 a21 c22 h484) rfl rfl rfl rfl) rfl rfl rfl rfl rfl rfl ?_)
            rintro ⟨⟩
            refine D.q 20 rfl rfl rfl rfl rfl rfl ?_
            refine D.q 21 rfl rfl rfl rfl rfl rfl ?_
            refine D.q 22 rfl rfl rfl rfl rfl rfl ?_
            refine D.cs 37 H485 rfl (fun hc H486 => ?_) (fun hc H486 => ?_)
            · refine D.sk 23 rfl rfl rfl rfl rfl ?_
              refine D.sk 24 rfl rfl rfl rfl rfl ?_
              refine D.sk 25 rfl rfl rfl rfl rfl ?_
              refine D.sk 26 rfl rfl rfl rfl rfl ?_
              refine D.sk 27 rfl rfl rfl rfl rfl ?_
              refine D.q 28 rfl rfl rfl rfl rfl rfl ?_
              refine D.q 29 rfl rfl rfl rfl rfl rfl ?_
              refine D.sk 30 rfl rfl rfl rfl rfl ?_
              refine D.sk 31 rfl rfl rfl rfl rfl ?_
              refine D.sk 32 rfl rfl rfl rfl rfl ?_
              refine D.sk 33 rfl rfl rfl rfl rfl ?_
              refine D.sk 34 rfl rfl rfl rfl rfl ?_
              refine D.q 35 rfl rfl rfl rfl rfl rfl ?_
              refine D.q 36 rfl rfl rfl rfl rfl rfl ?_
              refine D.sk 37 rfl rfl rfl rfl rfl ?_
              refine D.sk 38 rfl rfl rfl rfl rfl ?_
              refine D.sk 39 rfl rfl rfl rfl rfl ?_
              refine D.sk 40 rfl rfl rfl rfl rfl ?_
              refine D.sk 41 rfl rfl rfl rfl rfl ?_
              refine D.q 42 rfl rfl rfl rfl rfl rfl ?_
              refine D.nil rfl rfl ?_
              have hr := Option.some.inj H486
              subst e378
              exact E.give ((), ()) [0, 0] [0, 1, 2, 3, 4, 5, 6] trivial ⟨rfl, rfl, rfl, trivial⟩ rfl rfl
            · refine D.y 23 (Yl.ldb 1 rfl rfl rfl rfl) rfl rfl rfl rfl rfl rfl ?_
              refine D.y 25 (Yl.ldb 0 rfl rfl rfl rfl) rfl rfl rfl rfl rfl rfl ?_
              obtain ⟨r487, h488, H489⟩ := bnd H486
              refine D.one rfl rfl rfl (Dp.a [] [2, 3, 6] (Ac.call (c_snap_Snap_Sum a10 c11 a12 c13 h488) rfl rfl rfl rfl) rfl rfl rfl rfl rfl rfl ?_)
              rintro ⟨⟩
              obtain ⟨r490, h491, H492⟩ := bnd H489
              refine D.one rfl rfl rfl (Dp.a [] [0, 1] (Ac.call (c_ref16_Sum a19 c20 a21 c22 h491) rfl rfl rfl rfl) rfl rfl rfl rfl rfl rfl ?_)
              rintro ⟨⟩
              refine D.q 27 rfl rfl rfl rfl rfl rfl ?_
              refine D.q 28 rfl rfl rfl rfl rfl rfl ?_
              refine D.q 29 rfl rfl rfl rfl rfl rfl ?_
              refine D.cs 44 H492 rfl (fun hc H493 => ?_) (fun hc H493 => ?_)
              · refine D.sk 30 rfl rfl rfl rfl rfl ?_
                refine D.sk 31 rfl rfl rfl rfl rfl ?_
                refine D.sk 32 rfl rfl rfl rfl rfl ?_
                refine D.sk 33 rfl rfl rfl rfl rfl ?_
                refine D.sk 34 rfl rfl rfl rfl rfl ?_
                refine D.q 35 rfl rfl rfl rfl rfl rfl ?_
                refine D.q 36 rfl rfl rfl rfl rfl rfl ?_
                refine D.sk 37 rfl rfl rfl rfl rfl ?_
                refine D.sk 38 rfl rfl rfl rfl rfl ?_
                refine D.sk 39 rfl rfl rfl rfl rfl ?_
                refine D.sk 40 rfl rfl rfl rfl rfl ?_
                refine D.sk 41 rfl rfl rfl rfl rfl ?_
                refine D.q 42 rfl rfl rfl rfl rfl rfl ?_
                refine D.nil rfl rfl ?_
                have hr := Option.some.inj H493
                subst e378
                exact E.give ((), ()) [0, 0] [0, 1, 2, 3, 4, 5, 6] trivial ⟨rfl, rfl, rfl, trivial⟩ rfl rfl
              · refine D.y 30 (Yl.ldb 1 rfl rfl rfl rfl) rfl rfl rfl rfl rfl rfl ?_
                refine D.y 32 (Yl.ldb 0 rfl rfl rfl rfl) rfl rfl rfl rfl rfl rfl ?_
                obtain ⟨r494, h495, H496⟩ := bnd H493
                refine D.one rfl rfl rfl (Dp.a [] [2, 3] (Ac.call (c_snap_Snap_Clone a10 c11 a12 c13 h495) rfl rfl rfl rfl) rfl rfl rfl rfl rfl rfl ?_)
                rintro ⟨⟨a497, c498⟩, ⟨a499, c500⟩⟩
                obtain ⟨r503, h504, H505⟩ := bnd H496
                refine D.one rfl rfl rfl (Dp.a [] [0, 1, 2, 3] (Ac.call (c_law16_Is a497 c498 a499 c500 a19 c20 a21 c22 h504) rfl rfl rfl rfl) rfl rfl rfl rfl rfl rfl ?_)
                rintro ⟨⟩
                refine D.q 34 rfl rfl rfl rfl rfl rfl ?_
                refine D.q 35 rfl rfl rfl rfl rfl rfl ?_
                refine D.q 36 rfl rfl rfl rfl rfl rfl ?_
                refine D.cs 51 H505 rfl (fun hc H506 => ?_) (fun hc H506 => ?_)
                · refine D.sk 37 rfl rfl rfl rfl rfl ?_
                  refine D.sk 38 rfl rfl rfl rfl rfl ?_
                  refine D.sk 39 rfl rfl rfl rfl rfl ?_
                  refine D.sk 40 rfl rfl rfl rfl rfl ?_
                  refine D.sk 41 rfl rfl rfl rfl rfl ?_
                  refine D.q 42 rfl rfl rfl rfl rfl rfl ?_
                  refine D.nil rfl rfl ?_
                  have hr := Option.some.inj H506
                  subst e378
                  exact E.give ((), ()) [0, 0] [2, 3, 4, 5, 6, 7, 8] trivial ⟨rfl, rfl, rfl, trivial⟩ rfl rfl
                · refine D.y 37 (Yl.ldb 1 rfl rfl rfl rfl) rfl rfl rfl rfl rfl rfl ?_
                  refine D.y 38 (Yl.ldb 1 rfl rfl rfl rfl) rfl rfl rfl rfl rfl rfl ?_
                  obtain ⟨r507, h508, H509⟩ := bnd H506
                  refine D.one rfl rfl rfl (Dp.a [] [4, 5] (Ac.call (c_snap_Snap_Clone a10 c11 a12 c13 h508) rfl rfl rfl rfl) rfl rfl rfl rfl rfl rfl ?_)
                  rintro ⟨⟨a510, c511⟩, ⟨a512, c513⟩⟩
                  obtain ⟨r516, h517, H518⟩ := bnd H509
                  refine D.one rfl rfl rfl (Dp.a [] [6, 7, 0, 1] (Ac.call (c_snap_Snap_Same a10 c11 a12 c13 a510 c511 a512 c513 h517) rfl rfl rfl rfl) rfl rfl rfl rfl rfl rfl ?_)
                  rintro ⟨⟩
                  refine D.q 41 rfl rfl rfl rfl rfl rfl ?_
                  refine D.q 42 rfl rfl rfl rfl rfl rfl ?_
                  refine D.nil rfl rfl ?_
                  have hr := Option.some.inj H518
                  subst e378
                  exact E.give ((), ()) [0, 0] [4, 5, 6, 7, 8, 9, 10] trivial ⟨rfl, rfl, rfl, trivial⟩ rfl rfl
        · refine D.sk 11 rfl rfl rfl rfl rfl ?_
          refine D.sk 12 rfl rfl rfl rfl rfl ?_
          refine D.sk 13 rfl rfl rfl rfl rfl ?_
          refine D.q 14 rfl rfl rfl rfl rfl rfl ?_
          refine D.q 15 rfl rfl rfl rfl rfl rfl ?_
          refine D.q 16 rfl rfl rfl rfl rfl rfl ?_
          refine D.q 17 rfl rfl rfl rfl rfl rfl ?_
          refine D.y 18 (Yl.ldb 0 rfl rfl rfl rfl) rfl rfl rfl rfl rfl rfl ?_
          obtain ⟨r519, h520, H521⟩ := bnd H478
          refine D.one rfl rfl rfl (Dp.a [] [0, 1] (Ac.call (c_ref16_Pack a19 c20 a21 c22 h520) rfl rfl rfl rfl) rfl rfl rfl rfl rfl rfl ?_)
          rintro ⟨⟩
          refine D.q 20 rfl rfl rfl rfl rfl rfl ?_
          refine D.q 21 rfl rfl rfl rfl rfl rfl ?_
          refine D.q 22 rfl rfl rfl rfl rfl rfl ?_
          refine D.cs 37 H521 rfl (fun hc H522 => ?_) (fun hc H522 => ?_)
          · refine D.sk 23 rfl rfl rfl rfl rfl ?_
            refine D.sk 24 rfl rfl rfl rfl rfl ?_
            refine D.sk 25 rfl rfl rfl rfl rfl ?_
            refine D.sk 26 rfl rfl rfl rfl rfl ?_
            refine D.sk 27 rfl rfl rfl rfl rfl ?_
            refine D.q 28 rfl rfl rfl rfl rfl rfl ?_
            refine D.q 29 rfl rfl rfl rfl rfl rfl ?_
            refine D.sk 30 rfl rfl rfl rfl rfl ?_
            refine D.sk 31 rfl rfl rfl rfl rfl ?_
            refine D.sk 32 rfl rfl rfl rfl rfl ?_
            refine D.sk 33 rfl rfl rfl rfl rfl ?_
            refine D.sk 34 rfl rfl rfl rfl rfl ?_
            refine D.q 35 rfl rfl rfl rfl rfl rfl ?_
            refine D.q 36 rfl rfl rfl rfl rfl rfl ?_
            refine D.sk 37 rfl rfl rfl rfl rfl ?_
            refine D.sk 38 rfl rfl rfl rfl rfl ?_
            refine D.sk 39 rfl rfl rfl rfl rfl ?_
            refine D.sk 40 rfl rfl rfl rfl rfl ?_
            refine D.sk 41 rfl rfl rfl rfl rfl ?_
            refine D.q 42 rfl rfl rfl rfl rfl rfl ?_
            refine D.nil rfl rfl ?_
            have hr := Option.some.inj H522
            subst e378
            exact E.give ((), ()) [0, 0] [0, 1, 2, 3, 4, 5, 6] trivial ⟨rfl, rfl, rfl, trivial⟩ rfl rfl
          · refine D.y 23 (Yl.ldb 1 rfl rfl rfl rfl) rfl rfl rfl rfl rfl rfl ?_
            refine D.y 25 (Yl.ldb 0 rfl rfl rfl rfl) rfl rfl rfl rfl rfl rfl ?_
            obtain ⟨r523, h524, H525⟩ := bnd H522
            refine D.one rfl rfl rfl (Dp.a [] [2, 3, 6] (Ac.call (c_snap_Snap_Sum a10 c11 a12 c13 h524) rfl rfl rfl rfl) rfl rfl rfl rfl rfl rfl ?_)
            rintro ⟨⟩
            obtain ⟨r526, h527, H528⟩ := bnd H525
            refine D.one rfl rfl rfl (Dp.a [] [0, 1] (Ac.call (c_ref16_Sum a19 c20 a21 c22 h527) rfl rfl rfl rfl) rfl rfl rfl rfl rfl rfl ?_)
            rintro ⟨⟩
            refine D.q 27 rfl rfl rfl rfl rfl rfl ?_
            refine D.q 28 rfl rfl rfl rfl rfl rfl ?_
            refine D.q 29 rfl rfl rfl rfl rfl rfl ?_
            refine D.cs 44 H528 rfl (fun hc H529 => ?_) (fun hc H529 => ?_)
            · refine D.sk 30 rfl rfl rfl rfl rfl ?_
              refine D.sk 31 rfl rfl rfl rfl rfl ?_
              refine D.sk 32 rfl rfl rfl rfl rfl ?_
              refine D.sk 33 rfl rfl rfl rfl rfl ?_
              refine D.sk 34 rfl rfl rfl rfl rfl ?_
              refine D.q 35 rfl rfl rfl rfl rfl rfl ?_
              refine D.q 36 rfl rfl rfl rfl rfl rfl ?_
              refine D.sk 37 rfl rfl rfl rfl rfl ?_
              refine D.sk 38 rfl rfl rfl rfl rfl ?_
              refine D.sk 39 rfl rfl rfl rfl rfl ?_
              refine D.sk 40 rfl rfl rfl rfl rfl ?_
              refine D.sk 41 rfl rfl rfl rfl rfl ?_
              refine D.q 42 rfl rfl rfl rfl rfl rfl ?_
              refine D.nil rfl rfl ?_
              have hr := Option.some.inj H529
              subst e378
              exact E.give ((), ()) [0, 0] [0, 1, 2, 3, 4, 5, 6] trivial ⟨rfl, rfl, rfl, trivial⟩ rfl rfl
            · refine D.y 30 (Yl.ldb 1 rfl rfl rfl rfl) rfl rfl rfl rfl rfl rfl ?_
              refine D.y 32 (Yl.ldb 0 rfl rfl rfl rfl) rfl rfl rfl rfl rfl rfl ?_
              obtain ⟨r530, h531, H532⟩ := bnd H529
              refine D.one rfl rfl rfl (Dp.a [] [2, 3] (Ac.call (c_snap_Snap_Clone a10 c11 a12 c13 h531) rfl rfl rfl rfl) rfl rfl rfl rfl rfl rfl ?_)
              rintro ⟨⟨a533, c534⟩, ⟨a535, c536⟩⟩
              obtain ⟨r539, h540, H541⟩ := bnd H532
              refine D.one rfl rfl rfl (Dp.a [] [0, 1, 2, 3] (Ac.call (c_law16_Is a533 c534 a535 c536 a19 c20 a21 c22 h540) rfl rfl rfl rfl) rfl rfl rfl rfl rfl rfl ?_)
              rintro ⟨⟩
              refine D.q 34 rfl rfl rfl rfl rfl rfl ?_
              refine D.q 35 rfl rfl rfl rfl rfl rfl ?_
              refine D.q 36 rfl rfl rfl rfl rfl rfl ?_
              refine D.cs 51 H541 rfl (fun hc H542 => ?_) (fun hc H542 => ?_)
              · refine D.sk 37 rfl rfl rfl rfl rfl ?_
                refine D.sk 38 rfl rfl rfl rfl rfl ?_
                refine D.sk 39 rfl rfl rfl rfl rfl ?_
                refine D.sk 40 rfl rfl rfl rfl rfl ?_
                refine D.sk 41 rfl rfl rfl rfl rfl ?_
                refine D.q 42 rfl rfl rfl rfl rfl rfl ?_
                refine D.nil rfl rfl ?_
                have hr := Option.some.inj H542
                subst e378
                exact E.give ((), ()) [0, 0] [2, 3, 4, 5, 6, 7, 8] trivial ⟨rfl, rfl, rfl, trivial⟩ rfl rfl
              · refine D.y 37 (Yl.ldb 1 rfl rfl rfl rfl) rfl rfl rfl rfl rfl rfl ?_
                refine D.y 38 (Yl.ldb 1 rfl rfl rfl rfl) rfl rfl rfl rfl rfl rfl ?_
                obtain ⟨r543, h544, H545⟩ := bnd H542
                refine D.one rfl rfl rfl (Dp.a [] [4, 5] (Ac.call (c_snap_Snap_Clone a10 c11 a12 c13 h544) rfl rfl rfl rfl) rfl rfl rfl rfl rfl rfl ?_)
                rintro ⟨⟨a546, c547⟩, ⟨a548, c549⟩⟩
                obtain ⟨r552, h553, H554⟩ := bnd H545
                refine D.one rfl rfl rfl (Dp.a [] [6, 7, 0, 1] (Ac.call (c_snap_Snap_Same a10 c11 a12 c13 a546 c547 a548 c549 h553) rfl rfl rfl rfl) rfl rfl rfl rfl rfl rfl ?_)
                rintro ⟨⟩
                refine D.q 41 rfl rfl rfl rfl rfl rfl ?_
                refine D.q 42 rfl rfl rfl rfl rfl rfl ?_
                refine D.nil rfl rfl ?_
                have hr := Option.some.inj H554
                subst e378
                exact E.give ((), ()) [0, 0] [4, 5, 6, 7, 8, 9, 10] trivial ⟨rfl, rfl, rfl, trivial⟩ rfl rfl
    · rintro ⟨_, ⟨⟩⟩ _
      refine T.bif rfl H380 (fun hc H556 => ?_) (fun hc H556 => ?_)
      · refine T.seq ?_
        refine T.region ?_
        refine L.q 1 rfl ?_
        refine L.nil ?_
        refine E.then ?_
        refine T.ret ?_
        refine E.then_ret ?_
        have hr := Option.some.inj H556
        subst r
        exact E.ret () [] [] (.tmp rfl .nil) rfl rfl rfl
      · refine T.skip ?_
        refine E.then ?_
        refine T.seq ?_
        refine T.seq ?_
        refine T.region ?_
        refine L.y (Yl.ldb 0 rfl rfl rfl rfl) rfl rfl rfl ?_
        obtain ⟨r557, h558, H559⟩ := bnd H556
        refine L.a [] [0, 1] (Ac.call (c_ref16_May a19 c20 a21 c22 h558) rfl rfl rfl rfl) rfl rfl rfl rfl rfl ?_
        rintro ⟨⟩
        refine L.q 1 rfl ?_
        refine L.nil ?_
        refine E.then ?_
        refine T.bif rfl H559 (fun hc H561 => ?_) (fun hc H561 => ?_)
        · refine T.seq ?_
          refine T.region ?_
          refine L.q 3 rfl ?_
          refine L.nil ?_
          refine E.then ?_
          refine T.ret ?_
          refine E.then_ret ?_
          have hr := Option.some.inj H561
          subst r
          exact E.ret () [] [] (.tmp rfl .nil) rfl rfl rfl
        · refine T.skip ?_
          refine E.then ?_
          refine T.seq ?_
          refine T.region ?_
          refine L.q 1 rfl ?_
          obtain ⟨r562, h563, H564⟩ := bnd H561
          refine L.a [] [] (Ac.call (c_snap_Parse h563) rfl rfl rfl rfl) rfl rfl rfl rfl rfl ?_
          rintro ⟨⟨a565, c566⟩, ⟨a567, c568⟩⟩
          refine L.q 3 rfl ?_
          refine L.a [] [] (Ac.alloc rfl rfl) rfl rfl rfl rfl rfl ?_
          intro g571
          refine L.a [0] [] (Ac.stb rfl rfl rfl rfl rfl rfl) rfl rfl rfl rfl rfl ?_
          intro _
          refine L.q 1 rfl ?_
          refine L.nil ?_
          refine E.then ?_
          refine T.seq ?_
          obtain ⟨e581, H582, H583⟩ := bnd H564
          refine T.join (η := Unit × Unit) (fun h => True) (fun h => [(2, .bool e581)]) (fun h => [Ch.box g571 25 [.int .i64 r562.1.k, .int .i64 r562.1.w, .int .i64 r562.1.h, .int .i64 r562.1.x, .int .i64 r562.1.y, .string r562.1.title, .slice a565 r562.1.rows.length c566, .int .i64 r562.1.len, .int .i64 r562.1.chain, .slice a567 r562.1.begun.length c568], Ch.box g25 32 [.int .i64 r16.k, .int .i64 r16.w, .int .i64 r16.h, .int .i64 r16.x, .int .i64 r16.y, .string r16.title, .slice a19 r16.rows.length c20, .int .i64 r16.len, .int .i64 r16.chain, .slice a21 r16.begun.length c22], Ch.box g1 25 [.int .i64 r7.k, .int .i64 r7.w, .int .i64 r7.h, .int .i64 r7.x, .int .i64 r7.y, .string r7.title, .slice a10 r7.rows.length c11, .int .i64 r7.len, .int .i64 r7.chain, .slice a12 r7.begun.length c13]]) (fun h => [Im.sl tyRowRow a565 c566 r562.1.rows, Im.sl tyRowGlyph a567 c568 r562.1.begun, Im.sl tyRef09Row a19 c20 r16.rows, Im.sl tyRef09Glyph a21 c22 r16.begun, Im.sl tyRowRow a10 c11 r7.rows, Im.sl tyRowGlyph a12 c13 r7.begun, Im.sl tyRowRow a_0_0 c_0_0 s_.rows, Im.sl tyRowGlyph a_0_1 c_0_1 s_.begun, Im.sl (Ty.int .u32) (some ⟨0, 0, none⟩) 16 t_sum_half]) ?_ ?_
          · refine T.region ?_
            refine L.q 3 rfl ?_
            refine L.cs 70 H582 rfl (fun hc H584 => ?_) (fun hc H584 => ?_)
            · refine L.y (Yl.ldb 0 rfl rfl rfl rfl) rfl rfl rfl ?_
              refine L.y (Yl.ldb 1 rfl rfl rfl rfl) rfl rfl rfl ?_
              obtain ⟨r585, h586, H587⟩ := bnd H584
              refine L.a [] [0, 1, 2, 3] (Ac.call (c_law16_Is a565 c566 a567 c568 a19 c20 a21 c22 h586) rfl rfl rfl rfl) rfl rfl rfl rfl rfl ?_
              rintro ⟨⟩
              refine L.q 2 rfl ?_
              refine L.nil ?_
              have hr := Option.some.inj H587
              subst e581
              exact E.give ((), ()) [0, 0, 0] [0, 1, 2, 3, 4, 5, 6, 7, 8] trivial ⟨rfl, trivial⟩ rfl rfl
            · refine L.q 5 rfl ?_
              refine L.nil ?_
              have hr := Option.some.inj H584
              subst e581
              exact E.give ((), ()) [0, 0, 0] [0, 1, 2, 3, 4, 5, 6, 7, 8] trivial ⟨rfl, trivial⟩ rfl rfl
          · rintro ⟨_, ⟨⟩⟩ _
            refine T.ret ?_
            have hr := Option.some.inj H583
            subst r
            exact E.ret () [] [] (.tmp rfl .nil) rfl rfl rfl

end Go.Tw.X

set_option linter.unusedVariables false
set_option linter.unusedSimpArgs false
set_option maxRecDepth 10000
namespace Go.Tw.X
open Go Go.Tw
theorem opn_to {P : Program} {α β : Type} {t : TypeId} {ty : Ty α} {ty' : Ty β} {wf : α → Prop} {wf' : β → Prop} (h : Opn P t ty wf) (g : α → β) (gh : ty.Hid → ty'.Hid) (h1 : ∀ y hh, ty'.cs (g y) (gh hh) = ty.cs y hh) (h2 : ∀ y hh, ty'.im (g y) (gh hh) = ty.im y hh) (h3 : ∀ y, wf y → wf' (g y)) : Opn P t ty' wf' := Opn.to g gh h h1 h2 h3
theorem opn3 : Opn Go.Proofs.Tryz.prog 3 (Ty.int .i64) (inK .i64) := Opn.int (by kernel_rfl)
theorem opn9 : Opn Go.Proofs.Tryz.prog 9 Ty.str (fun s : ByteArray => s.size ≤ maxLen) := Opn.str (by kernel_rfl)
theorem opn21 : Opn Go.Proofs.Tryz.prog 21 (Ty.int .i32) (inK .i32) := Opn.int (by kernel_rfl)
theorem opn76 : Opn Go.Proofs.Tryz.prog 76 tyRowCell wfRowCell := opn_to (β := RowCell) (ty' := tyRowCell) (wf' := wfRowCell) (Opn.struct (fs := [(21, 0), (3, 1), (3, 2)]) (by kernel_rfl) (by kernel_rfl) (.cons opn21 (by kernel_rfl) (.cons opn3 (by kernel_rfl) (.cons opn3 (by kernel_rfl) .nil)))) (fun y => ⟨y.1, y.2.1, y.2.2.1⟩) (fun h => ()) (fun _ _ => rfl) (fun _ _ => rfl) (fun y h => h)
theorem opn52 : Opn Go.Proofs.Tryz.prog 52 (Ty.slice tyRowCell) (fun xs : List RowCell => ∀ x ∈ xs, wfRowCell x) := Opn.slice (by kernel_rfl) opn76 (by kernel_rfl) (by decide)
theorem opn4 : Opn Go.Proofs.Tryz.prog 4 Ty.bool (fun _ => True) := Opn.bool (by kernel_rfl)
theorem opn54 : Opn Go.Proofs.Tryz.prog 54 tyRowRow wfRowRow := opn_to (β := RowRow) (ty' := tyRowRow) (wf' := wfRowRow) (Opn.struct (fs := [(52, 0), (4, 1)]) (by kernel_rfl) (by kernel_rfl) (.cons opn52 (by kernel_rfl) (.cons opn4 (by kernel_rfl) .nil))) (fun y => ⟨y.1, y.2.1⟩) (fun h => h.1) (fun _ _ => rfl) (fun _ _ => rfl) (fun y h => h)
theorem opn22 : Opn Go.Proofs.Tryz.prog 22 (Ty.slice tyRowRow) (fun xs : List RowRow => ∀ x ∈ xs, wfRowRow x) := Opn.slice (by kernel_rfl) opn54 (by kernel_rfl) (by decide)
theorem opn71 : Opn Go.Proofs.Tryz.prog 71 tyRowGlyph wfRowGlyph := opn_to (β := RowGlyph) (ty' := tyRowGlyph) (wf' := wfRowGlyph) (Opn.struct (fs := [(21, 0), (3, 1)]) (by kernel_rfl) (by kernel_rfl) (.cons opn21 (by kernel_rfl) (.cons opn3 (by kernel_rfl) .nil))) (fun y => ⟨y.1, y.2.1⟩) (fun h => ()) (fun _ _ => rfl) (fun _ _ => rfl) (fun y h => h)
theorem opn23 : Opn Go.Proofs.Tryz.prog 23 (Ty.slice tyRowGlyph) (fun xs : List RowGlyph => ∀ x ∈ xs, wfRowGlyph x) := Opn.slice (by kernel_rfl) opn71 (by kernel_rfl) (by decide)
theorem opn25 : Opn Go.Proofs.Tryz.prog 25 tySnapSnap wfSnapSnap := opn_to (β := SnapSnap) (ty' := tySnapSnap) (wf' := wfSnapSnap) (Opn.struct (fs := [(3, 0), (3, 1), (3, 2), (3, 3), (3, 4), (9, 5), (22, 6), (3, 7), (3, 8), (23, 9)]) (by kernel_rfl) (by kernel_rfl) (.cons opn3 (by kernel_rfl) (.cons opn3 (by kernel_rfl) (.cons opn3 (by kernel_rfl) (.cons opn3 (by kernel_rfl) (.cons opn3 (by kernel_rfl) (.cons opn9 (by kernel_rfl) (.cons opn22 (by kernel_rfl) (.cons opn3 (by kernel_rfl) (.cons opn3 (by kernel_rfl) (.cons opn23 (by kernel_rfl) .nil))))))))))) (fun y => ⟨y.1, y.2.1, y.2.2.1, y.2.2.2.1, y.2.2.2.2.1, y.2.2.2.2.2.1, y.2.2.2.2.2.2.1, y.2.2.2.2.2.2.2.1, y.2.2.2.2.2.2.2.2.1, y.2.2.2.2.2.2.2.2.2.1⟩) (fun h => (h.2.2.2.2.2.2.1, h.2.2.2.2.2.2.2.2.2.1)) (fun _ _ => rfl) (fun _ _ => rfl) (fun y h => h)
end Go.Tw.X

import Derived.Test.YtojpockgiaihoaaDoorWk2
import Derived.Test.YtojpockgiaihoaaDoorFw2
import Derived.Test.YtojpockgiaihoaaDoorWk1
set_option linter.unusedVariables false
set_option linter.unusedSimpArgs false
set_option maxRecDepth 10000
namespace Go.Tw.X
open Go Go.Tw
theorem c_law10_GridPlays {w : Int} {h_ : Int} {acts : List Law10Act} (a_2 : Option Addr) (c_2 : Nat) {r : Bool} (H : p_law10_GridPlays w h_ acts = some r) : CT G 7 [.int .i64 w, .int .i64 h_, .slice a_2 acts.length c_2] [] [Im.sl tyLaw10Act a_2 c_2 acts, Im.sl tyWideSpan (some ⟨0, 0, none⟩) 13 t_wide_nones, Im.sl tyWideSpan (some ⟨1, 0, none⟩) 14 t_wide_twos] (fun h : Unit => .bool r) (fun h => []) (fun h => []) := by
  delta p_law10_GridPlays at H
  refine CT.of Go.Proofs.Tryd.func7 (by kernel_rfl) rfl rfl rfl fun K => ?_
  refine T.seq ?_
  refine T.region ?_
  refine L.q 1 rfl ?_
  refine L.nil ?_
  refine E.then ?_
  refine T.seq ?_
  refine T.seq ?_
  refine T.region ?_
  obtain ⟨r1, h2, H3⟩ := bnd H
  refine L.a [] [1, 2] (Ac.call (c_law10_awake h2) rfl rfl rfl rfl) rfl rfl rfl rfl rfl ?_
  rintro ⟨⟩
  refine L.q 1 rfl ?_
  refine L.nil ?_
  refine E.then ?_
  refine T.bif rfl H3 (fun hc H5 => ?_) (fun hc H5 => ?_)
  · refine T.seq ?_
    refine T.region ?_
    refine L.q 1 rfl ?_
    refine L.nil ?_
    refine E.then ?_
    refine T.ret ?_
    refine E.then_ret ?_
    have hr := Option.some.inj H5
    subst r
    exact E.ret () [] [] (.tmp rfl .nil) rfl rfl rfl
  · refine T.skip ?_
    refine E.then ?_
    refine T.seq ?_
    refine T.region ?_
    refine L.q 1 rfl ?_
    obtain ⟨r6, h7, H8⟩ := bnd H5
    refine L.a [] [] (Ac.call (c_law10_small h7) rfl rfl rfl rfl) rfl rfl rfl rfl rfl ?_
    rintro ⟨⟩
    refine L.q 1 rfl ?_
    obtain ⟨r9, h10, H11⟩ := bnd H8
    refine L.a [] [] (Ac.call (c_law10_small h10) rfl rfl rfl rfl) rfl rfl rfl rfl rfl ?_
    rintro ⟨⟩
    obtain ⟨r12, h13, H14⟩ := bnd H11
    refine L.a [] [] (Ac.call (c_grid_New h13) rfl rfl rfl rfl) rfl rfl rfl rfl rfl ?_
    rintro ⟨g15, ⟨a16, c17⟩⟩
    refine L.q 1 rfl ?_
    obtain ⟨r19, h20, H21⟩ := bnd H14
    refine L.a [] [] (Ac.call (c_law10_small h20) rfl rfl rfl rfl) rfl rfl rfl rfl rfl ?_
    rintro ⟨⟩
    refine L.q 1 rfl ?_
    obtain ⟨r22, h23, H24⟩ := bnd H21
    refine L.a [] [] (Ac.call (c_law10_small h23) rfl rfl rfl rfl) rfl rfl rfl rfl rfl ?_
    rintro ⟨⟩
    obtain ⟨r25, h26, H27⟩ := bnd H24
    refine L.a [] [] (Ac.call (c_ref10_New h26) rfl rfl rfl rfl) rfl rfl rfl rfl rfl ?_
    rintro ⟨a28, c29⟩
    refine L.a [] [] (Ac.alloc rfl rfl) rfl rfl rfl rfl rfl ?_
    intro g31
    refine L.q 1 rfl ?_
    refine L.a [0] [] (Ac.stb rfl rfl rfl rfl rfl rfl) rfl rfl rfl rfl rfl ?_
    intro _
    refine L.nil ?_
    refine E.then ?_
    refine T.seq ?_
    refine T.seq ?_
    refine T.region ?_
    refine L.q 1 rfl ?_
    refine L.y (Yl.pn rfl rfl rfl rfl rfl rfl) rfl rfl rfl ?_
    refine L.nil ?_
    refine E.then ?_
    refine T.cond rfl (fun h => nomatch h) (fun _ => ?_)
    refine T.skip ?_
    refine E.then ?_
    refine T.seq ?_
    refine T.region ?_
    refine L.q 1 rfl ?_
    refine L.nil ?_
    refine E.then ?_
    refine T.seq ?_
    refine T.seq ?_
    refine T.region ?_
    refine L.q 1 rfl ?_
    refine L.nil ?_
    refine E.then ?_
    obtain ⟨y612, H613, H614⟩ := bnd H27
    refine T.join (η := (Ref10Grid × GridGrid) × ((Option Addr × Nat) × (Option Addr × Nat))) (fun h => y612 = .inl h.1) (fun h => (fun e611 => (fun a604 c605 a608 c609 => [(7, .pointer (some ⟨g15, 0, none⟩)), (8, .pointer (some ⟨g31, 0, none⟩))]) h.2.1.1 h.2.1.2 h.2.2.1 h.2.2.2) h.1) (fun h => (fun e611 => (fun a604 c605 a608 c609 => [Ch.arr tyRowRow 26 a608 c609 e611.2.l, Ch.box g31 59 [.int .i64 e611.1.w, .slice a604 e611.1.l.length c605], Ch.box g15 104 [.int .i64 e611.2.w, .slice a608 e611.2.l.length c609]]) h.2.1.1 h.2.1.2 h.2.2.1 h.2.2.2) h.1) (fun h => (fun e611 => (fun a604 c605 a608 c609 => [Im.sl tyRef09Row a604 c605 e611.1.l, Im.sl tyRef09Row a28 c29 r25.l, Im.sl tyLaw10Act a_2 c_2 acts, Im.sl tyWideSpan (some ⟨0, 0, none⟩) 13 t_wide_nones, Im.sl tyWideSpan (some ⟨1, 0, none⟩) 14 t_wide_twos]) h.2.1.1 h.2.1.2 h.2.2.1 h.2.2.2) h.1) ?_ ?_
    · refine T.block ?_
      refine T.lp (η := (Option Addr × Nat) × (Option Addr × Nat)) (fun s421 h => (fun a413 c414 a417 c418 => [(2, .slice a_2 acts.length c_2), (7, .pointer (some ⟨g15, 0, none⟩)), (8, .pointer (some ⟨g31, 0, none⟩)), (10, .int .i64 s421.2.2)]) h.1.1 h.1.2 h.2.1 h.2.2) (fun s421 h => (fun a413 c414 a417 c418 => [Ch.arr tyRowRow 26 a413 c414 s421.1.l, Ch.box g31 59 [.int .i64 s421.2.1.w, .slice a417 s421.2.1.l.length c418], Ch.box g15 104 [.int .i64 s421.1.w, .slice a413 s421.1.l.length c414]]) h.1.1 h.1.2 h.2.1 h.2.2) (fun s421 h => (fun a413 c414 a417 c418 => [Im.sl tyRef09Row a417 c418 s421.2.1.l, Im.sl tyRef09Row a28 c29 r25.l, Im.sl tyLaw10Act a_2 c_2 acts, Im.sl tyWideSpan (some ⟨0, 0, none⟩) 13 t_wide_nones, Im.sl tyWideSpan (some ⟨1, 0, none⟩) 14 t_wide_twos]) h.1.1 h.1.2 h.2.1 h.2.2) ((a16, c17), (a28, c29)) [2, 0, 0] [0, 0, 1, 2, 3] H613 ⟨rfl, rfl, rfl, rfl, trivial⟩ rfl rfl ?_
      rintro k s421 ⟨⟨a413, c414⟩, ⟨a417, c418⟩⟩ z616 H615 hag617 hbr618
      refine T.seq ?_
      refine T.seq ?_
      obtain ⟨e622, H623, H624⟩ := bnd H615
      refine T.join (η := Unit × Unit) (fun h => True) (fun h => [(2, .slice a_2 acts.length c_2), (7, .pointer (some ⟨g15, 0, none⟩)), (8, .pointer (some ⟨g31, 0, none⟩)), (10, .int .i64 s421.2.2), (32, .bool e622)]) (fun h => [Ch.box g31 59 [.int .i64 s421.2.1.w, .slice a417 s421.2.1.l.length c418], Ch.box g15 104 [.int .i64 s421.1.w, .slice a413 s421.1.l.length c414], Ch.arr tyRowRow 26 a413 c414 s421.1.l]) (fun h => [Im.sl tyRef09Row a417 c418 s421.2.1.l, Im.sl tyRef09Row a28 c29 r25.l, Im.sl tyLaw10Act a_2 c_2 acts, Im.sl tyWideSpan (some ⟨0, 0, none⟩) 13 t_wide_nones, Im.sl tyWideSpan (some ⟨1, 0, none⟩) 14 t_wide_twos]) ?_ ?_
      · refine T.region ?_
        refine L.q 5 rfl ?_
        refine L.cs 29 H623 rfl (fun hc H625 => ?_) (fun hc H625 => ?_)
        · refine L.q 3 rfl ?_
          refine L.nil ?_
          have hr := Option.some.inj H625
          subst e622
          exact E.give ((), ()) [1, 1, 0] [0, 1, 2, 3, 4] trivial ⟨rfl, rfl, rfl, rfl, rfl, trivial⟩ rfl rfl
        · refine L.q 3 rfl ?_
          refine L.nil ?_
          have hr := Option.some.inj H625
          subst e622
          exact E.give ((), ()) [1, 1, 0] [0, 1, 2, 3, 4] trivial ⟨rfl, rfl, rfl, rfl, rfl, trivial⟩ rfl rfl
      · rintro ⟨_, ⟨⟩⟩ _
        refine T.bif rfl H624 (fun hc H627 => ?_) (fun hc H627 => ?_)
        · refine T.skip ?_
          refine E.then ?_
          refine T.seq ?_
          refine T.block ?_
          refine T.seq ?_
          refine T.draw [10] [0] mo (by rfl) rfl ?_
          refine D.q 0 rfl rfl rfl rfl rfl rfl ?_
          refine D.y 1 (Yl.ldb 0 rfl rfl rfl rfl) rfl rfl rfl rfl rfl rfl ?_
          refine D.q 2 rfl rfl rfl rfl rfl rfl ?_
          refine D.q 3 rfl rfl rfl rfl rfl rfl ?_
          obtain ⟨x762, h763, H764⟩ := bnd H627
          refine D.addr 2 rfl (idx_lt h763) fun b765 o766 e767 => ?_
          obtain rfl : a_2 = some ⟨b765, o766, none⟩ := e767
          refine D.y 4 (Yl.ia h763 rfl rfl rfl rfl rfl rfl) rfl rfl rfl rfl rfl rfl ?_
          refine D.el 2 rfl (idx_some h763).2 ?_
          rintro _
          refine D.y 5 (Yl.ldc 0 0 rfl rfl rfl rfl) rfl rfl rfl rfl rfl rfl ?_
          obtain ⟨r769, h770, H771⟩ := bnd H764
          refine D.one rfl rfl rfl (Dp.a [0, 0] [1, 4, 5] (Ac.call (c_law10_do g15 a413 c414 a417 c418 h770) rfl rfl rfl rfl) rfl rfl rfl rfl rfl rfl ?_)
          rintro ⟨⟨a772, c773⟩, ⟨a774, c775⟩⟩
          refine D.q 7 rfl rfl rfl rfl rfl rfl ?_
          refine D.q 8 rfl rfl rfl rfl rfl rfl ?_
          refine D.q 9 rfl rfl rfl rfl rfl rfl ?_
          refine D.one rfl rfl rfl (Dp.al [0] [] (Ac.stb rfl rfl rfl rfl rfl rfl) rfl rfl rfl rfl rfl rfl rfl ?_)
          intro _
          refine D.q 11 rfl rfl rfl rfl rfl rfl ?_
          refine D.nil rfl rfl ?_
          refine E.then ?_
          refine T.seq ?_
          obtain ⟨e791, H792, H793⟩ := bnd H771
          refine T.join (η := Unit × Unit) (fun h => True) (fun h => [(2, .slice (some ⟨b765, o766, none⟩) acts.length c_2), (7, .pointer (some ⟨g15, 0, none⟩)), (8, .pointer (some ⟨g31, 0, none⟩)), (10, .int .i64 s421.2.2), (52, .bool e791.1)]) (fun h => [Ch.arr tyRowRow 26 a774 c775 e791.2.l, Ch.box g31 59 [.int .i64 r769.1.w, .slice a772 r769.1.l.length c773], Ch.box g15 104 [.int .i64 e791.2.w, .slice a774 e791.2.l.length c775]]) (fun h => [Im.sl tyRef09Row a772 c773 r769.1.l, Im.cells b765 (o766 + s421.2.2.toNat * 13) [.int .i64 x762.kind, .int .i64 x762.y, .int .i64 x762.top, .int .i64 x762.bottom, .int .i64 x762.n, .int .i64 x762.style, .int .i64 x762.w, .int .i64 x762.h, .int .i64 x762.row.kind, .int .i64 x762.row.at_, .int .i64 x762.row.n, .int .i64 x762.row.style, .int .i32 x762.row.rune], Im.sl tyRef09Row a417 c418 s421.2.1.l, Im.sl tyRef09Row a28 c29 r25.l, Im.sl tyLaw10Act (some ⟨b765, o766, none⟩) c_2 acts, Im.sl tyWideSpan (some ⟨0, 0, none⟩) 13 t_wide_nones, Im.sl tyWideSpan (some ⟨1, 0, none⟩) 14 t_wide_twos]) ?_ ?_
          · refine T.region ?_
            refine L.q 3 rfl ?_
            refine L.cs 47 H792 rfl (fun hc H794 => ?_) (fun hc H794 => ?_)
            · refine L.q 5 rfl ?_
              refine L.nil ?_
              have hr := Option.some.inj H794
              subst e791
              exact E.give ((), ()) [2, 0, 0] [0, 1, 2, 3, 4, 5, 6] trivial ⟨rfl, rfl, rfl, rfl, rfl, trivial⟩ rfl rfl
            · refine L.q 1 rfl ?_
              refine L.y (Yl.ldb 0 rfl rfl rfl rfl) rfl rfl rfl ?_
              obtain ⟨r795, h796, H797⟩ := bnd H794
              refine L.a [1, 1] [0] (Ac.call (c_law10_Is g15 a774 c775 a772 c773 h796) rfl rfl rfl rfl) rfl rfl rfl rfl rfl ?_
              rintro ⟨⟩
              refine L.q 2 rfl ?_
              refine L.nil ?_
              have hr := Option.some.inj H797
              subst e791
              exact E.give ((), ()) [1, 1, 0] [0, 1, 2, 3, 4, 5, 6] trivial ⟨rfl, rfl, rfl, rfl, rfl, trivial⟩ rfl rfl
          · rintro ⟨_, ⟨⟩⟩ _
            refine T.bif rfl H793 (fun hc H799 => ?_) (fun hc H799 => ?_)
            · refine T.seq ?_
              refine T.region ?_
              refine L.q 1 rfl ?_
              refine L.nil ?_
              refine E.then ?_
              refine T.ret ?_
              refine E.block_ret ?_
              refine E.then_ret ?_
              refine E.then_ret ?_
              refine E.block_ret ?_
              obtain ⟨w800, hz, H801⟩ := inrr_some H799
              subst z616
              have hb := hbr618 _ rfl
              subst y612
              have hw : w800 = r := Option.some.inj H614
              subst w800
              refine E.then_ret ?_
              have hr := Option.some.inj H801
              subst r
              exact E.ret () [] [] (.tmp rfl .nil) rfl rfl rfl
            · refine T.skip ?_
              refine E.block ?_
              refine E.then ?_
              refine T.region ?_
              refine L.q 3 rfl ?_
              refine L.nil ?_
              have hr := Option.some.inj H799
              subst z616
              exact E.give (_, ((a774, c775), (a772, c773))) [0, 0, 0] [0, 3, 4, 5, 6] (hag617 _ rfl) ⟨rfl, rfl, rfl, rfl, trivial⟩ rfl rfl
        · refine T.exit ?_
          refine E.then_exit' ?_
          refine E.then_exit' ?_
          refine E.block_here ?_
          have hr := Option.some.inj H627
          subst z616
          have hb := hbr618 _ rfl
          subst y612
          exact E.give (_, ((a417, c418), (a413, c414))) [2, 0, 0] [0, 1, 2, 3, 4] rfl ⟨rfl, rfl, trivial⟩ rfl rfl
    · rintro ⟨e611, ⟨⟨a604, c605⟩, ⟨a608, c609⟩⟩⟩ hy
      subst hy
      refine T.seq ?_
      refine T.region ?_
      refine L.q 1 rfl ?_
      refine L.y (Yl.ldb 1 rfl rfl rfl rfl) rfl rfl rfl ?_
      obtain ⟨r802, h803, H804⟩ := bnd H614
      refine L.a [2, 0] [0] (Ac.call (c_law10_Is g15 a608 c609 a604 c605 h803) rfl rfl rfl rfl) rfl rfl rfl rfl rfl ?_
      rintro ⟨⟩
      refine L.q 1 rfl ?_
      refine L.nil ?_
      refine E.then ?_
      refine T.ret ?_
      have hr := Option.some.inj H804
      subst r
      exact E.ret () [] [] (.tmp rfl .nil) rfl rfl rfl

theorem c_law10_GridRows {w : Int} {h_ : Int} {acts : List Law10Act} (a_2 : Option Addr) (c_2 : Nat) {r : Bool} (H : p_law10_GridRows w h_ acts = some r) : CT G 8 [.int .i64 w, .int .i64 h_, .slice a_2 acts.length c_2] [] [Im.sl tyLaw10Act a_2 c_2 acts, Im.sl tyWideSpan (some ⟨0, 0, none⟩) 13 t_wide_nones, Im.sl tyWideSpan (some ⟨1, 0, none⟩) 14 t_wide_twos] (fun h : Unit => .bool r) (fun h => []) (fun h => []) := by
  delta p_law10_GridRows at H
  refine CT.of Go.Proofs.Tryd.func8 (by kernel_rfl) rfl rfl rfl fun K => ?_
  refine T.seq ?_
  refine T.region ?_
  refine L.q 1 rfl ?_
  refine L.nil ?_
  refine E.then ?_
  refine T.seq ?_
  refine T.seq ?_
  refine T.region ?_
  obtain ⟨r1, h2, H3⟩ := bnd H
  refine L.a [] [1, 2] (Ac.call (c_law10_awake h2) rfl rfl rfl rfl) rfl rfl rfl rfl rfl ?_
  rintro ⟨⟩
  refine L.q 1 rfl ?_
  refine L.nil ?_
  refine E.then ?_
  refine T.bif rfl H3 (fun hc H5 => ?_) (fun hc H5 => ?_)
  · refine T.seq ?_
    refine T.region ?_
    refine L.q 1 rfl ?_
    refine L.nil ?_
    refine E.then ?_
    refine T.ret ?_
    refine E.then_ret ?_
    have hr := Option.some.inj H5
    subst r
    exact E.ret () [] [] (.tmp rfl .nil) rfl rfl rfl
  · refine T.skip ?_
    refine E.then ?_
    refine T.seq ?_
    refine T.region ?_
    refine L.q 1 rfl ?_
    obtain ⟨r6, h7, H8⟩ := bnd H5
    refine L.a [] [] (Ac.call (c_law10_small h7) rfl rfl rfl rfl) rfl rfl rfl rfl rfl ?_
    rintro ⟨⟩
    refine L.q 1 rfl ?_
    obtain ⟨r9, h10, H11⟩ := bnd H8
    refine L.a [] [] (Ac.call (c_law10_small h10) rfl rfl rfl rfl) rfl rfl rfl rfl rfl ?_
    rintro ⟨⟩
    obtain ⟨r12, h13, H14⟩ := bnd H11
    refine L.a [] [] (Ac.call (c_grid_New h13) rfl rfl rfl rfl) rfl rfl rfl rfl rfl ?_
    rintro ⟨g15, ⟨a16, c17⟩⟩
    refine L.q 1 rfl ?_
    obtain ⟨r19, h20, H21⟩ := bnd H14
    refine L.a [] [] (Ac.call (c_law10_small h20) rfl rfl rfl rfl) rfl rfl rfl rfl rfl ?_
    rintro ⟨⟩
    refine L.q 1 rfl ?_
    obtain ⟨r22, h23, H24⟩ := bnd H21
    refine L.a [] [] (Ac.call (c_law10_small h23) rfl rfl rfl rfl) rfl rfl rfl rfl rfl ?_
    rintro ⟨⟩
    obtain ⟨r25, h26, H27⟩ := bnd H24
    refine L.a [] [] (Ac.call (c_ref10_New h26) rfl rfl rfl rfl) rfl rfl rfl rfl rfl ?_
    rintro ⟨a28, c29⟩
    refine L.a [] [] (Ac.alloc rfl rfl) rfl rfl rfl rfl rfl ?_
    intro g31
    refine L.q 1 rfl ?_
    refine L.a [0] [] (Ac.stb rfl rfl rfl rfl rfl rfl) rfl rfl rfl rfl rfl ?_
    intro _
    refine L.nil ?_
    refine E.then ?_
    refine T.seq ?_
    refine T.seq ?_
    refine T.region ?_
    refine L.q 1 rfl ?_
    refine L.y (Yl.pn rfl rfl rfl rfl rfl rfl) rfl rfl rfl ?_
    refine L.nil ?_
    refine E.then ?_
    refine T.cond rfl (fun h => nomatch h) (fun _ => ?_)
    refine T.skip ?_
    refine E.then ?_
    refine T.seq ?_
    refine T.seq ?_
    refine T.region ?_
    refine L.q 1 rfl ?_
    refine L.nil ?_
    refine E.then ?_
    obtain ⟨y1224, H1225, H1226⟩ := bnd H27
    refine T.join (η := (Ref10Grid × GridGrid) × ((Option Addr × Nat) × (Option Addr × Nat))) (fun h => y1224 = .inl h.1) (fun h => (fun e1223 => (fun a1216 c1217 a1220 c1221 => []) h.2.1.1 h.2.1.2 h.2.2.1 h.2.2.2) h.1) (fun h => (fun e1223 => (fun a1216 c1217 a1220 c1221 => [Ch.arr tyRowRow 26 a1220 c1221 e1223.2.l, Ch.box g31 59 [.int .i64 e1223.1.w, .slice a1216 e1223.1.l.length c1217], Ch.box g15 104 [.int .i64 e1223.2.w, .slice a1220 e1223.2.l.length c1221]]) h.2.1.1 h.2.1.2 h.2.2.1 h.2.2.2) h.1) (fun h => (fun e1223 => (fun a1216 c1217 a1220 c1221 => [Im.sl tyRef09Row a1216 c1217 e1223.1.l, Im.sl tyRef09Row a28 c29 r25.l, Im.sl tyLaw10Act a_2 c_2 acts, Im.sl tyWideSpan (some ⟨0, 0, none⟩) 13 t_wide_nones, Im.sl tyWideSpan (some ⟨1, 0, none⟩) 14 t_wide_twos]) h.2.1.1 h.2.1.2 h.2.2.1 h.2.2.2) h.1) ?_ ?_
    · refine T.block ?_
      refine T.lp (η := (Option Addr × Nat) × (Option Addr × Nat)) (fun s829 h => (fun a821 c822 a825 c826 => [(2, .slice a_2 acts.length c_2), (7, .pointer (some ⟨g15, 0, none⟩)), (8, .pointer (some ⟨g31, 0, none⟩)), (9, .int .i64 s829.2.2)]) h.1.1 h.1.2 h.2.1 h.2.2) (fun s829 h => (fun a821 c822 a825 c826 => [Ch.arr tyRowRow 26 a821 c822 s829.1.l, Ch.box g31 59 [.int .i64 s829.2.1.w, .slice a825 s829.2.1.l.length c826], Ch.box g15 104 [.int .i64 s829.1.w, .slice a821 s829.1.l.length c822]]) h.1.1 h.1.2 h.2.1 h.2.2) (fun s829 h => (fun a821 c822 a825 c826 => [Im.sl tyRef09Row a825 c826 s829.2.1.l, Im.sl tyRef09Row a28 c29 r25.l, Im.sl tyLaw10Act a_2 c_2 acts, Im.sl tyWideSpan (some ⟨0, 0, none⟩) 13 t_wide_nones, Im.sl tyWideSpan (some ⟨1, 0, none⟩) 14 t_wide_twos]) h.1.1 h.1.2 h.2.1 h.2.2) ((a16, c17), (a28, c29)) [2, 0, 0] [0, 0, 1, 2, 3] H1225 ⟨rfl, rfl, rfl, rfl, trivial⟩ rfl rfl ?_
      rintro k s829 ⟨⟨a821, c822⟩, ⟨a825, c826⟩⟩ z1228 H1227 hag1229 hbr1230
      refine T.seq ?_
      refine T.seq ?_
      obtain ⟨e1234, H1235, H1236⟩ := bnd H1227
      refine T.join (η := Unit × Unit) (fun h => True) (fun h => [(2, .slice a_2 acts.length c_2), (7, .pointer (some ⟨g15, 0, none⟩)), (8, .pointer (some ⟨g31, 0, none⟩)), (9, .int .i64 s829.2.2), (36, .bool e1234)]) (fun h => [Ch.box g31 59 [.int .i64 s829.2.1.w, .slice a825 s829.2.1.l.length c826], Ch.box g15 104 [.int .i64 s829.1.w, .slice a821 s829.1.l.length c822], Ch.arr tyRowRow 26 a821 c822 s829.1.l]) (fun h => [Im.sl tyRef09Row a825 c826 s829.2.1.l, Im.sl tyRef09Row a28 c29 r25.l, Im.sl tyLaw10Act a_2 c_2 acts, Im.sl tyWideSpan (some ⟨0, 0, none⟩) 13 t_wide_nones, Im.sl tyWideSpan (some ⟨1, 0, none⟩) 14 t_wide_twos]) ?_ ?_
      · refine T.region ?_
        refine L.q 5 rfl ?_
        refine L.cs 33 H1235 rfl (fun hc H1237 => ?_) (fun hc H1237 => ?_)
        · refine L.q 3 rfl ?_
          refine L.nil ?_
          have hr := Option.some.inj H1237
          subst e1234
          exact E.give ((), ()) [1, 1, 0] [0, 1, 2, 3, 4] trivial ⟨rfl, rfl, rfl, rfl, rfl, trivial⟩ rfl rfl
        · refine L.q 3 rfl ?_
          refine L.nil ?_
          have hr := Option.some.inj H1237
          subst e1234
          exact E.give ((), ()) [1, 1, 0] [0, 1, 2, 3, 4] trivial ⟨rfl, rfl, rfl, rfl, rfl, trivial⟩ rfl rfl
      · rintro ⟨_, ⟨⟩⟩ _
        refine T.bif rfl H1236 (fun hc H1239 => ?_) (fun hc H1239 => ?_)
        · refine T.skip ?_
          refine E.then ?_
          refine T.seq ?_
          refine T.block ?_
          refine T.seq ?_
          refine T.draw [10] [0] mo (by rfl) rfl ?_
          refine D.q 0 rfl rfl rfl rfl rfl rfl ?_
          refine D.y 1 (Yl.ldb 0 rfl rfl rfl rfl) rfl rfl rfl rfl rfl rfl ?_
          refine D.q 2 rfl rfl rfl rfl rfl rfl ?_
          refine D.q 3 rfl rfl rfl rfl rfl rfl ?_
          obtain ⟨x1476, h1477, H1478⟩ := bnd H1239
          refine D.addr 2 rfl (idx_lt h1477) fun b1479 o1480 e1481 => ?_
          obtain rfl : a_2 = some ⟨b1479, o1480, none⟩ := e1481
          refine D.y 4 (Yl.ia h1477 rfl rfl rfl rfl rfl rfl) rfl rfl rfl rfl rfl rfl ?_
          refine D.el 2 rfl (idx_some h1477).2 ?_
          rintro _
          refine D.y 5 (Yl.ldc 0 0 rfl rfl rfl rfl) rfl rfl rfl rfl rfl rfl ?_
          obtain ⟨r1483, h1484, H1485⟩ := bnd H1478
          refine D.one rfl rfl rfl (Dp.a [0, 0] [1, 4, 5] (Ac.call (c_law10_do g15 a821 c822 a825 c826 h1484) rfl rfl rfl rfl) rfl rfl rfl rfl rfl rfl ?_)
          rintro ⟨⟨a1486, c1487⟩, ⟨a1488, c1489⟩⟩
          refine D.q 7 rfl rfl rfl rfl rfl rfl ?_
          refine D.q 8 rfl rfl rfl rfl rfl rfl ?_
          refine D.q 9 rfl rfl rfl rfl rfl rfl ?_
          refine D.one rfl rfl rfl (Dp.al [0] [] (Ac.stb rfl rfl rfl rfl rfl rfl) rfl rfl rfl rfl rfl rfl rfl ?_)
          intro _
          refine D.nil rfl rfl ?_
          refine E.then ?_
          refine T.seq ?_
          refine T.region ?_
          refine L.q 1 rfl ?_
          obtain ⟨r1492, h1493, H1494⟩ := bnd H1485
          refine L.a [1, 1] [] (Ac.call (c_grid_Grid_Size g15 a1488 c1489 h1493) rfl rfl rfl rfl) rfl rfl rfl rfl rfl ?_
          rintro ⟨⟩
          refine L.q 5 rfl ?_
          refine L.nil ?_
          refine E.then ?_
          refine T.seq ?_
          refine T.region ?_
          refine L.q 1 rfl ?_
          obtain ⟨r1495, h1496, H1497⟩ := bnd H1494
          refine L.a [0, 0] [] (Ac.call (c_grid_Grid_Rows g15 a1488 c1489 h1496) rfl rfl rfl rfl) rfl rfl rfl rfl rfl ?_
          rintro ⟨a1498, c1499⟩
          refine L.q 1 rfl ?_
          refine L.nil ?_
          refine E.then ?_
          refine T.seq ?_
          refine T.seq ?_
          obtain ⟨e1507, H1508, H1509⟩ := bnd H1497
          refine T.join (η := Unit × Unit) (fun h => True) (fun h => [(2, .slice (some ⟨b1479, o1480, none⟩) acts.length c_2), (7, .pointer (some ⟨g15, 0, none⟩)), (8, .pointer (some ⟨g31, 0, none⟩)), (9, .int .i64 s829.2.2), (10, .int .i64 r1492.1), (12, .slice a1498 r1495.1.length c1499), (67, .bool e1507)]) (fun h => [Ch.box g15 104 [.int .i64 r1495.2.w, .slice a1488 r1495.2.l.length c1489], Ch.box g31 59 [.int .i64 r1483.1.w, .slice a1486 r1483.1.l.length c1487], Ch.arr tyRowRow 26 a1498 c1499 r1495.1, Ch.arr tyRowRow 26 a1488 c1489 r1495.2.l]) (fun h => [Im.sl tyRef09Row a1486 c1487 r1483.1.l, Im.cells b1479 (o1480 + s829.2.2.toNat * 13) [.int .i64 x1476.kind, .int .i64 x1476.y, .int .i64 x1476.top, .int .i64 x1476.bottom, .int .i64 x1476.n, .int .i64 x1476.style, .int .i64 x1476.w, .int .i64 x1476.h, .int .i64 x1476.row.kind, .int .i64 x1476.row.at_, .int .i64 x1476.row.n, .int .i64 x1476.row.style, .int .i32 x1476.row.rune], Im.sl tyRef09Row a825 c826 s829.2.1.l, Im.sl tyRef09Row a28 c29 r25.l, Im.sl tyLaw10Act (some ⟨b1479, o1480, none⟩) c_2 acts, Im.sl tyWideSpan (some ⟨0, 0, none⟩) 13 t_wide_nones, Im.sl tyWideSpan (some ⟨1, 0, none⟩) 14 t_wide_twos]) ?_ ?_
          · refine T.region ?_
            refine L.q 3 rfl ?_
            refine L.cs 58 H1508 rfl (fun hc H1510 => ?_) (fun hc H1510 => ?_)
            · refine L.q 9 rfl ?_
              refine L.nil ?_
              have hr := Option.some.inj H1510
              subst e1507
              exact E.give ((), ()) [1, 2, 0, 0] [0, 1, 2, 3, 4, 5, 6] trivial ⟨rfl, rfl, rfl, rfl, rfl, rfl, rfl, trivial⟩ rfl rfl
            · refine L.q 4 rfl ?_
              refine L.cs 62 H1510 rfl (fun hc H1511 => ?_) (fun hc H1511 => ?_)
              · refine L.q 5 rfl ?_
                refine L.nil ?_
                have hr := Option.some.inj H1511
                subst e1507
                exact E.give ((), ()) [1, 2, 0, 0] [0, 1, 2, 3, 4, 5, 6] trivial ⟨rfl, rfl, rfl, rfl, rfl, rfl, rfl, trivial⟩ rfl rfl
              · refine L.q 5 rfl ?_
                refine L.nil ?_
                have hr := Option.some.inj H1511
                subst e1507
                exact E.give ((), ()) [1, 2, 0, 0] [0, 1, 2, 3, 4, 5, 6] trivial ⟨rfl, rfl, rfl, rfl, rfl, rfl, rfl, trivial⟩ rfl rfl
          · rintro ⟨_, ⟨⟩⟩ _
            refine T.bif rfl H1509 (fun hc H1513 => ?_) (fun hc H1513 => ?_)
            · refine T.seq ?_
              refine T.region ?_
              refine L.q 1 rfl ?_
              refine L.nil ?_
              refine E.then ?_
              refine T.ret ?_
              refine E.then_ret ?_
              refine E.block_ret ?_
              refine E.then_ret ?_
              refine E.then_ret ?_
              refine E.block_ret ?_
              obtain ⟨w1514, hz, H1515⟩ := inrr_some H1513
              subst z1228
              have hb := hbr1230 _ rfl
              subst y1224
              have hw : w1514 = r := Option.some.inj H1226
              subst w1514
              refine E.then_ret ?_
              have hr := Option.some.inj H1515
              subst r
              exact E.ret () [] [] (.tmp rfl .nil) rfl rfl rfl
            · refine T.skip ?_
              refine E.then ?_
              refine T.seq ?_
              refine T.region ?_
              refine L.q 3 rfl ?_
              refine L.nil ?_
              refine E.then ?_
              obtain ⟨y1587, H1588, H1589⟩ := bnd H1513
              refine T.joinE (η := Unit × Unit) (fun h => y1587 = .inl h.1) (fun h => (fun e1586 => [(2, .slice (some ⟨b1479, o1480, none⟩) acts.length c_2), (7, .pointer (some ⟨g15, 0, none⟩)), (8, .pointer (some ⟨g31, 0, none⟩)), (9, .int .i64 s829.2.2)]) h.1) (fun h => (fun e1586 => [Ch.box g15 104 [.int .i64 r1495.2.w, .slice a1488 r1495.2.l.length c1489], Ch.box g31 59 [.int .i64 r1483.1.w, .slice a1486 r1483.1.l.length c1487], Ch.arr tyRowRow 26 a1488 c1489 r1495.2.l]) h.1) (fun h => (fun e1586 => [Im.sl tyRef09Row a1486 c1487 r1483.1.l, Im.cells b1479 (o1480 + s829.2.2.toNat * 13) [.int .i64 x1476.kind, .int .i64 x1476.y, .int .i64 x1476.top, .int .i64 x1476.bottom, .int .i64 x1476.n, .int .i64 x1476.style, .int .i64 x1476.w, .int .i64 x1476.h, .int .i64 x1476.row.kind, .int .i64 x1476.row.at_, .int .i64 x1476.row.n, .int .i64 x1476.row.style, .int .i32 x1476.row.rune], Im.sl tyRef09Row a825 c826 s829.2.1.l, Im.sl tyRef09Row a28 c29 r25.l, Im.sl tyLaw10Act (some ⟨b1479, o1480, none⟩) c_2 acts, Im.sl tyWideSpan (some ⟨0, 0, none⟩) 13 t_wide_nones, Im.sl tyWideSpan (some ⟨1, 0, none⟩) 14 t_wide_twos]) h.1) ?_ ?_
              · refine T.block ?_
                refine T.lp (η := Unit) (fun s1563 h => [(2, .slice (some ⟨b1479, o1480, none⟩) acts.length c_2), (7, .pointer (some ⟨g15, 0, none⟩)), (8, .pointer (some ⟨g31, 0, none⟩)), (9, .int .i64 s829.2.2), (10, .int .i64 r1492.1), (68, .slice a1498 r1495.1.length c1499), (69, .int .i64 (r1495.1.length : Int)), (70, .int .i64 s1563)]) (fun s1563 h => [Ch.box g15 104 [.int .i64 r1495.2.w, .slice a1488 r1495.2.l.length c1489], Ch.box g31 59 [.int .i64 r1483.1.w, .slice a1486 r1483.1.l.length c1487], Ch.arr tyRowRow 26 a1498 c1499 r1495.1, Ch.arr tyRowRow 26 a1488 c1489 r1495.2.l]) (fun s1563 h => [Im.sl tyRef09Row a1486 c1487 r1483.1.l, Im.cells b1479 (o1480 + s829.2.2.toNat * 13) [.int .i64 x1476.kind, .int .i64 x1476.y, .int .i64 x1476.top, .int .i64 x1476.bottom, .int .i64 x1476.n, .int .i64 x1476.style, .int .i64 x1476.w, .int .i64 x1476.h, .int .i64 x1476.row.kind, .int .i64 x1476.row.at_, .int .i64 x1476.row.n, .int .i64 x1476.row.style, .int .i32 x1476.row.rune], Im.sl tyRef09Row a825 c826 s829.2.1.l, Im.sl tyRef09Row a28 c29 r25.l, Im.sl tyLaw10Act (some ⟨b1479, o1480, none⟩) c_2 acts, Im.sl tyWideSpan (some ⟨0, 0, none⟩) 13 t_wide_nones, Im.sl tyWideSpan (some ⟨1, 0, none⟩) 14 t_wide_twos]) () [0, 0, 0, 0] [0, 1, 2, 3, 4, 5, 6] H1588 ⟨rfl, rfl, rfl, rfl, rfl, rfl, rfl, rfl, trivial⟩ rfl rfl ?_
                rintro k s1563 ⟨⟩ z1591 H1590 hag1592 hbr1593
                refine T.seq ?_
                refine T.region ?_
                refine L.q 1 rfl ?_
                refine L.nil ?_
                refine E.then ?_
                refine T.seq ?_
                refine T.bif rfl H1590 (fun hc H1595 => ?_) (fun hc H1595 => ?_)
                · refine T.skip ?_
                  refine E.then ?_
                  refine T.seq ?_
                  refine T.block ?_
                  refine T.seq ?_
                  refine T.region ?_
                  obtain ⟨x1606, h1607, H1608⟩ := bnd H1595
                  refine L.addro 2 rfl (idx_lt h1607) fun b1609 e1610 => ?_
                  obtain rfl : a1498 = some ⟨b1609, 0, none⟩ := e1610
                  refine L.y (Yl.ia h1607 rfl rfl rfl rfl rfl rfl) rfl rfl rfl ?_
                  refine L.a [2] [] (Ac.lo s1563.toNat 0 (v := (fun h : (Option Addr × Nat) => (fun a1611 c1612 => .agg #[.slice a1611 x1606.cells.length c1612, .bool x1606.wrapped]) h.1 h.2)) (idx_some h1607).2 rfl rfl rfl (fun _ => rfl)) rfl rfl rfl rfl rfl ?_
                  rintro ⟨a1611, c1612⟩
                  refine L.a [] [] (Ac.alloc rfl rfl) rfl rfl rfl rfl rfl ?_
                  intro g1614
                  refine L.a [0] [] (Ac.stb rfl rfl rfl rfl rfl rfl) rfl rfl rfl rfl rfl ?_
                  intro _
                  refine L.nil ?_
                  refine E.then ?_
                  refine T.seq ?_
                  refine T.region ?_
                  refine L.q 1 rfl ?_
                  refine L.y (Yl.ldb 0 rfl rfl rfl rfl) rfl rfl rfl ?_
                  refine L.q 3 rfl ?_
                  refine L.nil ?_
                  refine E.then ?_
                  refine T.bif rfl H1608 (fun hc H1615 => ?_) (fun hc H1615 => ?_)
                  · refine T.seq ?_
                    refine T.region ?_
                    refine L.q 1 rfl ?_
                    refine L.nil ?_
                    refine E.then ?_
                    refine T.ret ?_
                    refine E.block_ret ?_
                    refine E.then_ret ?_
                    refine E.then_ret ?_
                    refine E.block_ret ?_
                    obtain ⟨w1616, hz, H1617⟩ := inrr_some H1615
                    subst z1591
                    have hb := hbr1593 _ rfl
                    subst y1587
                    have hw : w1616 = z1228 := Option.some.inj H1589
                    subst w1616
                    refine E.then_ret ?_
                    refine E.block_ret ?_
                    refine E.then_ret ?_
                    refine E.then_ret ?_
                    refine E.block_ret ?_
                    obtain ⟨w1618, hz, H1619⟩ := inrr_some H1617
                    subst z1228
                    have hb := hbr1230 _ rfl
                    subst y1224
                    have hw : w1618 = r := Option.some.inj H1226
                    subst w1618
                    refine E.then_ret ?_
                    have hr := Option.some.inj H1619
                    subst r
                    exact E.ret () [] [] (.tmp rfl .nil) rfl rfl rfl
                  · refine T.skip ?_
                    refine E.block ?_
                    refine E.then ?_
                    refine T.region ?_
                    refine L.q 2 rfl ?_
                    refine L.nil ?_
                    have hr := Option.some.inj H1615
                    subst z1591
                    exact E.give (_, ()) [2, 2, 1, 1] [1, 2, 3, 4, 5, 6, 7] (hag1592 _ rfl) ⟨rfl, rfl, rfl, rfl, rfl, rfl, rfl, rfl, trivial⟩ rfl rfl
                · refine T.exit ?_
                  refine E.then_exit' ?_
                  refine E.then_exit' ?_
                  refine E.block_here ?_
                  have hr := Option.some.inj H1595
                  subst z1591
                  have hb := hbr1593 _ rfl
                  subst y1587
                  exact E.give (_, ()) [0, 0, 1] [0, 1, 2, 3, 4, 5, 6] rfl ⟨rfl, rfl, rfl, rfl, trivial⟩ rfl rfl
              · rintro ⟨e1586, ⟨⟩⟩ hy
                subst hy
                refine E.block ?_
                refine E.then ?_
                refine T.region ?_
                refine L.q 3 rfl ?_
                refine L.nil ?_
                have hr := Option.some.inj H1589
                subst z1228
                exact E.give (_, ((a1488, c1489), (a1486, c1487))) [2, 1, 0] [0, 3, 4, 5, 6] (hag1229 _ rfl) ⟨rfl, rfl, rfl, rfl, trivial⟩ rfl rfl
        · refine T.exit ?_
          refine E.then_exit' ?_
          refine E.then_exit' ?_
          refine E.block_here ?_
          have hr := Option.some.inj H1239
          subst z1228
          have hb := hbr1230 _ rfl
          subst y1224
          exact E.give (_, ((a825, c826), (a821, c822))) [2, 0, 0] [0, 1, 2, 3, 4] rfl trivial rfl rfl
    · rintro ⟨e1223, ⟨⟨a1216, c1217⟩, ⟨a1220, c1221⟩⟩⟩ hy
      subst hy
      refine T.seq ?_
      refine T.region ?_
      refine L.q 1 rfl ?_
      refine L.nil ?_
      refine E.then ?_
      refine T.ret ?_
      have hr := Option.some.inj H1226
      subst r
      exact E.ret () [] [] (.tmp rfl .nil) rfl rfl rfl

theorem c_law10_GridRegions {acts : List Law10Act} {a : Law10Act} (a_0 : Option Addr) (c_0 : Nat) {r : Bool} (H : p_law10_GridRegions acts a = some r) : CT G 9 [.slice a_0 acts.length c_0, .agg #[.int .i64 a.kind, .int .i64 a.y, .int .i64 a.top, .int .i64 a.bottom, .int .i64 a.n, .int .i64 a.style, .int .i64 a.w, .int .i64 a.h, .int .i64 a.row.kind, .int .i64 a.row.at_, .int .i64 a.row.n, .int .i64 a.row.style, .int .i32 a.row.rune]] [] [Im.sl tyLaw10Act a_0 c_0 acts, Im.sl tyWideSpan (some ⟨0, 0, none⟩) 13 t_wide_nones, Im.sl tyWideSpan (some ⟨1, 0, none⟩) 14 t_wide_twos] (fun h : Unit => .bool r) (fun h => []) (fun h => []) := by
  delta p_law10_GridRegions at H
  refine CT.of Go.Proofs.Tryd.func9 (by kernel_rfl) rfl rfl rfl fun K => ?_
  refine T.seq ?_
  refine T.region ?_
  refine L.a [] [] (Ac.box rfl rfl) rfl rfl rfl rfl rfl ?_
  intro g1
  refine L.q 1 rfl ?_
  refine L.nil ?_
  refine E.then ?_
  refine T.seq ?_
  refine T.seq ?_
  refine T.region ?_
  obtain ⟨r2, h3, H4⟩ := bnd H
  refine L.a [] [1, 2] (Ac.call (c_law10_awake h3) rfl rfl rfl rfl) rfl rfl rfl rfl rfl ?_
  rintro ⟨⟩
  refine L.q 1 rfl ?_
  refine L.nil ?_
  refine E.then ?_
  refine T.bif rfl H4 (fun hc H6 => ?_) (fun hc H6 => ?_)
  · refine T.seq ?_
    refine T.region ?_
    refine L.q 1 rfl ?_
    refine L.nil ?_
    refine E.then ?_
    refine T.ret ?_
    refine E.then_ret ?_
    have hr := Option.some.inj H6
    subst r
    exact E.ret () [] [] (.tmp rfl .nil) rfl rfl rfl
  · refine T.skip ?_
    refine E.then ?_
    refine T.seq ?_
    refine T.region ?_
    obtain ⟨r7, h8, H9⟩ := bnd H6
    refine L.a [] [] (Ac.call (c_grid_New h8) rfl rfl rfl rfl) rfl rfl rfl rfl rfl ?_
    rintro ⟨g10, ⟨a11, c12⟩⟩
    obtain ⟨r14, h15, H16⟩ := bnd H9
    refine L.a [] [] (Ac.call (c_ref10_New h15) rfl rfl rfl rfl) rfl rfl rfl rfl rfl ?_
    rintro ⟨a17, c18⟩
    refine L.a [] [] (Ac.alloc rfl rfl) rfl rfl rfl rfl rfl ?_
    intro g20
    refine L.q 1 rfl ?_
    refine L.a [0] [] (Ac.stb rfl rfl rfl rfl rfl rfl) rfl rfl rfl rfl rfl ?_
    intro _
    refine L.nil ?_
    refine E.then ?_
    refine T.seq ?_
    refine T.seq ?_
    refine T.region ?_
    refine L.q 1 rfl ?_
    refine L.y (Yl.pn rfl rfl rfl rfl rfl rfl) rfl rfl rfl ?_
    refine L.nil ?_
    refine E.then ?_
    refine T.cond rfl (fun h => nomatch h) (fun _ => ?_)
    refine T.skip ?_
    refine E.then ?_
    refine T.seq ?_
    refine T.seq ?_
    refine T.region ?_
    refine L.q 1 rfl ?_
    refine L.nil ?_
    refine E.then ?_
    obtain ⟨e774, H775, H776⟩ := bnd H16
    refine T.join (η := Unit × ((Option Addr × Nat) × (Option Addr × Nat))) (fun h => True) (fun h => (fun a767 c768 a771 c772 => [(3, .pointer (some ⟨g1, 0, none⟩)), (5, .pointer (some ⟨g10, 0, none⟩)), (6, .pointer (some ⟨g20, 0, none⟩))]) h.2.1.1 h.2.1.2 h.2.2.1 h.2.2.2) (fun h => (fun a767 c768 a771 c772 => [Ch.arr tyRowRow 26 a771 c772 e774.2.l, Ch.box g20 59 [.int .i64 e774.1.w, .slice a767 e774.1.l.length c768], Ch.box g10 104 [.int .i64 e774.2.w, .slice a771 e774.2.l.length c772], Ch.box g1 64 [.int .i64 a.kind, .int .i64 a.y, .int .i64 a.top, .int .i64 a.bottom, .int .i64 a.n, .int .i64 a.style, .int .i64 a.w, .int .i64 a.h, .int .i64 a.row.kind, .int .i64 a.row.at_, .int .i64 a.row.n, .int .i64 a.row.style, .int .i32 a.row.rune]]) h.2.1.1 h.2.1.2 h.2.2.1 h.2.2.2) (fun h => (fun a767 c768 a771 c772 => [Im.sl tyRef09Row a767 c768 e774.1.l, Im.sl tyRef09Row a17 c18 r14.l, Im.sl tyLaw10Act a_0 c_0 acts, Im.sl tyWideSpan (some ⟨0, 0, none⟩) 13 t_wide_nones, Im.sl tyWideSpan (some ⟨1, 0, none⟩) 14 t_wide_twos]) h.2.1.1 h.2.1.2 h.2.2.1 h.2.2.2) ?_ ?_
    · refine T.block ?_
      refine T.lp (η := (Option Addr × Nat) × (Option Addr × Nat)) (fun s526 h => (fun a518 c519 a522 c523 => [(0, .slice a_0 acts.length c_0), (3, .pointer (some ⟨g1, 0, none⟩)), (5, .pointer (some ⟨g10, 0, none⟩)), (6, .pointer (some ⟨g20, 0, none⟩)), (7, .int .i64 s526.2.2)]) h.1.1 h.1.2 h.2.1 h.2.2) (fun s526 h => (fun a518 c519 a522 c523 => [Ch.arr tyRowRow 26 a518 c519 s526.1.l, Ch.box g20 59 [.int .i64 s526.2.1.w, .slice a522 s526.2.1.l.length c523], Ch.box g10 104 [.int .i64 s526.1.w, .slice a518 s526.1.l.length c519], Ch.box g1 64 [.int .i64 a.kind, .int .i64 a.y, .int .i64 a.top, .int .i64 a.bottom, .int .i64 a.n, .int .i64 a.style, .int .i64 a.w, .int .i64 a.h, .int .i64 a.row.kind, .int .i64 a.row.at_, .int .i64 a.row.n, .int .i64 a.row.style, .int .i32 a.row.rune]]) h.1.1 h.1.2 h.2.1 h.2.2) (fun s526 h => (fun a518 c519 a522 c523 => [Im.sl tyRef09Row a522 c523 s526.2.1.l, Im.sl tyRef09Row a17 c18 r14.l, Im.sl tyLaw10Act a_0 c_0 acts, Im.sl tyWideSpan (some ⟨0, 0, none⟩) 13 t_wide_nones, Im.sl tyWideSpan (some ⟨1, 0, none⟩) 14 t_wide_twos]) h.1.1 h.1.2 h.2.1 h.2.2) ((a11, c12), (a17, c18)) [2, 0, 0, 0] [0, 0, 1, 2, 3] H775 ⟨rfl, rfl, rfl, rfl, rfl, trivial⟩ rfl rfl ?_
      rintro k s526 ⟨⟨a518, c519⟩, ⟨a522, c523⟩⟩ z778 H777 hag779 hbr780
      refine T.seq ?_
      refine T.seq ?_
      obtain ⟨e784, H785, H786⟩ := bnd H777
      refine T.join (η := Unit × Unit) (fun h => True) (fun h => [(0, .slice a_0 acts.length c_0), (3, .pointer (some ⟨g1, 0, none⟩)), (5, .pointer (some ⟨g10, 0, none⟩)), (6, .pointer (some ⟨g20, 0, none⟩)), (7, .int .i64 s526.2.2), (27, .bool e784)]) (fun h => [Ch.box g20 59 [.int .i64 s526.2.1.w, .slice a522 s526.2.1.l.length c523], Ch.box g10 104 [.int .i64 s526.1.w, .slice a518 s526.1.l.length c519], Ch.box g1 64 [.int .i64 a.kind, .int .i64 a.y, .int .i64 a.top, .int .i64 a.bottom, .int .i64 a.n, .int .i64 a.style, .int .i64 a.w, .int .i64 a.h, .int .i64 a.row.kind, .int .i64 a.row.at_, .int .i64 a.row.n, .int .i64 a.row.style, .int .i32 a.row.rune], Ch.arr tyRowRow 26 a518 c519 s526.1.l]) (fun h => [Im.sl tyRef09Row a522 c523 s526.2.1.l, Im.sl tyRef09Row a17 c18 r14.l, Im.sl tyLaw10Act a_0 c_0 acts, Im.sl tyWideSpan (some ⟨0, 0, none⟩) 13 t_wide_nones, Im.sl tyWideSpan (some ⟨1, 0, none⟩) 14 t_wide_twos]) ?_ ?_
      · refine T.region ?_
        refine L.q 5 rfl ?_
        refine L.cs 24 H785 rfl (fun hc H787 => ?_) (fun hc H787 => ?_)
        · refine L.q 3 rfl ?_
          refine L.nil ?_
          have hr := Option.some.inj H787
          subst e784
          exact E.give ((), ()) [1, 1, 1, 0] [0, 1, 2, 3, 4] trivial ⟨rfl, rfl, rfl, rfl, rfl, rfl, trivial⟩ rfl rfl
        · refine L.q 3 rfl ?_
          refine L.nil ?_
          have hr := Option.some.inj H787
          subst e784
          exact E.give ((), ()) [1, 1, 1, 0] [0, 1, 2, 3, 4] trivial ⟨rfl, rfl, rfl, rfl, rfl, rfl, trivial⟩ rfl rfl
      · rintro ⟨_, ⟨⟩⟩ _
        refine T.bif rfl H786 (fun hc H789 => ?_) (fun hc H789 => ?_)
        · refine T.skip ?_
          refine E.then ?_
          refine T.seq ?_
          obtain ⟨e944, H945, H946⟩ := bnd H789
          refine T.join (η := Unit × ((Option Addr × Nat) × (Option Addr × Nat))) (fun h => True) (fun h => (fun a937 c938 a941 c942 => [(0, .slice a_0 acts.length c_0), (3, .pointer (some ⟨g1, 0, none⟩)), (5, .pointer (some ⟨g10, 0, none⟩)), (6, .pointer (some ⟨g20, 0, none⟩)), (7, .int .i64 s526.2.2)]) h.2.1.1 h.2.1.2 h.2.2.1 h.2.2.2) (fun h => (fun a937 c938 a941 c942 => [Ch.arr tyRowRow 26 a941 c942 e944.2.l, Ch.box g20 59 [.int .i64 e944.1.w, .slice a937 e944.1.l.length c938], Ch.box g10 104 [.int .i64 e944.2.w, .slice a941 e944.2.l.length c942], Ch.box g1 64 [.int .i64 a.kind, .int .i64 a.y, .int .i64 a.top, .int .i64 a.bottom, .int .i64 a.n, .int .i64 a.style, .int .i64 a.w, .int .i64 a.h, .int .i64 a.row.kind, .int .i64 a.row.at_, .int .i64 a.row.n, .int .i64 a.row.style, .int .i32 a.row.rune]]) h.2.1.1 h.2.1.2 h.2.2.1 h.2.2.2) (fun h => (fun a937 c938 a941 c942 => [Im.sl tyRef09Row a937 c938 e944.1.l, Im.sl tyRef09Row a522 c523 s526.2.1.l, Im.sl tyRef09Row a17 c18 r14.l, Im.sl tyLaw10Act a_0 c_0 acts, Im.sl tyWideSpan (some ⟨0, 0, none⟩) 13 t_wide_nones, Im.sl tyWideSpan (some ⟨1, 0, none⟩) 14 t_wide_twos]) h.2.1.1 h.2.1.2 h.2.2.1 h.2.2.2) ?_ ?_
          · refine T.block ?_
            refine T.seq ?_
            obtain ⟨e972, H973, H974⟩ := bnd H945
            refine T.join (η := Unit × Unit) (fun h => True) (fun h => [(0, .slice a_0 acts.length c_0), (3, .pointer (some ⟨g1, 0, none⟩)), (5, .pointer (some ⟨g10, 0, none⟩)), (6, .pointer (some ⟨g20, 0, none⟩)), (7, .int .i64 s526.2.2), (43, .bool e972)]) (fun h => [Ch.box g20 59 [.int .i64 s526.2.1.w, .slice a522 s526.2.1.l.length c523], Ch.box g10 104 [.int .i64 s526.1.w, .slice a518 s526.1.l.length c519], Ch.box g1 64 [.int .i64 a.kind, .int .i64 a.y, .int .i64 a.top, .int .i64 a.bottom, .int .i64 a.n, .int .i64 a.style, .int .i64 a.w, .int .i64 a.h, .int .i64 a.row.kind, .int .i64 a.row.at_, .int .i64 a.row.n, .int .i64 a.row.style, .int .i32 a.row.rune], Ch.arr tyRowRow 26 a518 c519 s526.1.l]) (fun h => [Im.sl tyRef09Row a522 c523 s526.2.1.l, Im.sl tyRef09Row a17 c18 r14.l, Im.sl tyLaw10Act a_0 c_0 acts, Im.sl tyWideSpan (some ⟨0, 0, none⟩) 13 t_wide_nones, Im.sl tyWideSpan (some ⟨1, 0, none⟩) 14 t_wide_twos]) ?_ ?_
            · refine T.region ?_
              refine L.q 2 rfl ?_
              obtain ⟨x975, h976, H977⟩ := bnd H973
              refine L.addr 2 rfl (idx_lt h976) fun b978 o979 e980 => ?_
              obtain rfl : a_0 = some ⟨b978, o979, none⟩ := e980
              refine L.y (Yl.ia h976 rfl rfl rfl rfl rfl rfl) rfl rfl rfl ?_
              refine L.el 2 rfl (idx_some h976).2 ?_
              rintro _
              refine L.q 1 rfl ?_
              refine L.y (Yl.ldc 0 0 rfl rfl rfl rfl) rfl rfl rfl ?_
              refine L.q 2 rfl ?_
              refine L.cs 36 H977 rfl (fun hc H982 => ?_) (fun hc H982 => ?_)
              · refine L.q 2 rfl ?_
                obtain ⟨x983, h984, H985⟩ := bnd H982
                refine L.y (Yl.ia h984 rfl rfl rfl rfl rfl rfl) rfl rfl rfl ?_
                refine L.el 3 rfl (idx_some h984).2 ?_
                rintro _
                refine L.q 1 rfl ?_
                refine L.y (Yl.ldc 0 0 rfl rfl rfl rfl) rfl rfl rfl ?_
                refine L.q 2 rfl ?_
                refine L.nil ?_
                have hr := Option.some.inj H985
                subst e972
                exact E.give ((), ()) [0, 0, 0, 0] [2, 3, 4, 5, 6] trivial ⟨rfl, rfl, rfl, rfl, rfl, rfl, trivial⟩ rfl rfl
              · refine L.q 7 rfl ?_
                refine L.nil ?_
                have hr := Option.some.inj H982
                subst e972
                exact E.give ((), ()) [0, 0, 0, 0] [1, 2, 3, 4, 5] trivial ⟨rfl, rfl, rfl, rfl, rfl, rfl, trivial⟩ rfl rfl
            · rintro ⟨_, ⟨⟩⟩ _
              refine T.bif rfl H974 (fun hc H987 => ?_) (fun hc H987 => ?_)
              · refine T.draw [10] [0, 1] mo (by rfl) rfl ?_
                refine D.q 0 rfl rfl rfl rfl rfl rfl ?_
                refine D.y 1 (Yl.ldb 0 rfl rfl rfl rfl) rfl rfl rfl rfl rfl rfl ?_
                refine D.q 2 rfl rfl rfl rfl rfl rfl ?_
                refine D.q 3 rfl rfl rfl rfl rfl rfl ?_
                obtain ⟨x1004, h1005, H1006⟩ := bnd H987
                refine D.addr 2 rfl (idx_lt h1005) fun b1007 o1008 e1009 => ?_
                obtain rfl : a_0 = some ⟨b1007, o1008, none⟩ := e1009
                refine D.y 4 (Yl.ia h1005 rfl rfl rfl rfl rfl rfl) rfl rfl rfl rfl rfl rfl ?_
                refine D.el 2 rfl (idx_some h1005).2 ?_
                rintro _
                refine D.y 5 (Yl.ldc 0 0 rfl rfl rfl rfl) rfl rfl rfl rfl rfl rfl ?_
                obtain ⟨r1011, h1012, H1013⟩ := bnd H1006
                refine D.one rfl rfl rfl (Dp.a [0, 0] [1, 4, 5] (Ac.call (c_law10_do g10 a518 c519 a522 c523 h1012) rfl rfl rfl rfl) rfl rfl rfl rfl rfl rfl ?_)
                rintro ⟨⟨a1014, c1015⟩, ⟨a1016, c1017⟩⟩
                refine D.q 7 rfl rfl rfl rfl rfl rfl ?_
                refine D.q 8 rfl rfl rfl rfl rfl rfl ?_
                refine D.q 9 rfl rfl rfl rfl rfl rfl ?_
                refine D.one rfl rfl rfl (Dp.al [0] [] (Ac.stb rfl rfl rfl rfl rfl rfl) rfl rfl rfl rfl rfl rfl rfl ?_)
                intro _
                refine D.nil rfl rfl ?_
                refine E.block ?_
                have hr := Option.some.inj H1013
                subst e944
                exact E.give ((), ((a1014, c1015), (a1016, c1017))) [3, 0, 1, 0] [0, 2, 3, 4, 5, 6] trivial ⟨rfl, rfl, rfl, rfl, rfl, trivial⟩ rfl rfl
              · refine T.skip ?_
                refine E.block ?_
                have hr := Option.some.inj H987
                subst e944
                exact E.give ((), ((a522, c523), (a518, c519))) [3, 0, 0, 0] [0, 0, 1, 2, 3, 4] trivial ⟨rfl, rfl, rfl, rfl, rfl, trivial⟩ rfl rfl
          · rintro ⟨_, ⟨⟨a937, c938⟩, ⟨a941, c942⟩⟩⟩ _
            refine T.region ?_
            refine L.q 3 rfl ?_
            refine L.nil ?_
            have hr := Option.some.inj H946
            subst z778
            exact E.give (_, ((a941, c942), (a937, c938))) [0, 0, 0, 0] [0, 2, 3, 4, 5] (hag779 _ rfl) ⟨rfl, rfl, rfl, rfl, rfl, trivial⟩ rfl rfl
        · refine T.exit ?_
          refine E.then_exit' ?_
          refine E.then_exit' ?_
          refine E.block_here ?_
          have hr := Option.some.inj H789
          subst z778
          have hb := hbr780 _ rfl
          subst e774
          exact E.give ((), ((a522, c523), (a518, c519))) [3, 0, 0, 0] [0, 1, 2, 3, 4] trivial ⟨rfl, rfl, rfl, trivial⟩ rfl rfl
    · rintro ⟨_, ⟨⟨a767, c768⟩, ⟨a771, c772⟩⟩⟩ _
      refine T.seq ?_
      refine T.draw [] [0, 0, 0, 0] mo (by rfl) rfl ?_
      refine D.q 0 rfl rfl rfl rfl rfl rfl ?_
      refine D.y 1 (Yl.ldb 3 rfl rfl rfl rfl) rfl rfl rfl rfl rfl rfl ?_
      refine D.q 2 rfl rfl rfl rfl rfl rfl ?_
      refine D.q 3 rfl rfl rfl rfl rfl rfl ?_
      refine D.y 4 (Yl.ldb 3 rfl rfl rfl rfl) rfl rfl rfl rfl rfl rfl ?_
      refine D.q 5 rfl rfl rfl rfl rfl rfl ?_
      refine D.q 6 rfl rfl rfl rfl rfl rfl ?_
      refine D.q 7 rfl rfl rfl rfl rfl rfl ?_
      refine D.nil rfl rfl ?_
      refine E.then ?_
      refine T.seq ?_
      refine T.region ?_
      refine L.q 1 rfl ?_
      obtain ⟨r1020, h1021, H1022⟩ := bnd H776
      refine L.a [2, 0] [] (Ac.call (c_grid_Grid_Rows g10 a771 c772 h1021) rfl rfl rfl rfl) rfl rfl rfl rfl rfl ?_
      rintro ⟨a1023, c1024⟩
      refine L.q 1 rfl ?_
      refine L.nil ?_
      refine E.then ?_
      refine T.seq ?_
      refine T.region ?_
      refine L.q 4 rfl ?_
      refine L.y (Yl.ldb 4 rfl rfl rfl rfl) rfl rfl rfl ?_
      obtain ⟨r1027, h1028, H1029⟩ := bnd H1022
      refine L.a [1, 1] [] (Ac.call (c_grid_Grid_Up g10 a771 c772 h1028) rfl rfl rfl rfl) rfl rfl rfl rfl rfl ?_
      rintro ⟨a1030, c1031⟩
      refine L.q 1 rfl ?_
      refine L.nil ?_
      refine E.then ?_
      refine T.seq ?_
      refine T.region ?_
      refine L.q 1 rfl ?_
      obtain ⟨r1034, h1035, H1036⟩ := bnd H1029
      refine L.a [1, 1] [] (Ac.call (c_grid_Grid_Rows g10 a771 c772 h1035) rfl rfl rfl rfl) rfl rfl rfl rfl rfl ?_
      rintro ⟨a1037, c1038⟩
      refine L.q 1 rfl ?_
      refine L.nil ?_
      refine E.then ?_
      refine T.seq ?_
      refine T.region ?_
      refine L.q 6 rfl ?_
      refine L.nil ?_
      refine E.then ?_
      refine T.seq ?_
      refine T.seq ?_
      refine T.region ?_
      refine L.q 3 rfl ?_
      refine L.nil ?_
      refine E.then ?_
      refine T.bif rfl H1036 (fun hc H1058 => ?_) (fun hc H1058 => ?_)
      · refine T.seq ?_
        obtain ⟨e1068, H1069, H1070⟩ := bnd H1058
        refine T.join (η := Unit × Unit) (fun h => True) (fun h => [(4, .bool e1068)]) (fun h => [Ch.box g10 104 [.int .i64 r1034.2.w, .slice a771 r1034.2.l.length c772], Ch.box g20 59 [.int .i64 e774.1.w, .slice a767 e774.1.l.length c768], Ch.box g1 64 [.int .i64 a.kind, .int .i64 a.y, .int .i64 a.top, .int .i64 a.bottom, .int .i64 a.n, .int .i64 a.style, .int .i64 a.w, .int .i64 a.h, .int .i64 a.row.kind, .int .i64 a.row.at_, .int .i64 a.row.n, .int .i64 a.row.style, .int .i32 a.row.rune], Ch.arr tyRowRow 26 a771 c772 r1034.2.l]) (fun h => [Im.sl tyRef09Row a767 c768 e774.1.l, Im.sl tyRef09Row a17 c18 r14.l, Im.sl tyLaw10Act a_0 c_0 acts, Im.sl tyWideSpan (some ⟨0, 0, none⟩) 13 t_wide_nones, Im.sl tyWideSpan (some ⟨1, 0, none⟩) 14 t_wide_twos]) ?_ ?_
        · refine T.region ?_
          refine L.q 4 rfl ?_
          refine L.cs 80 H1069 rfl (fun hc H1071 => ?_) (fun hc H1071 => ?_)
          · refine L.q 2 rfl ?_
            refine L.y (Yl.ldb 5 rfl rfl rfl rfl) rfl rfl rfl ?_
            obtain ⟨r1072, h1073, H1074⟩ := bnd H1071
            refine L.br (Ac.call (c_law10_Rows a1037 c1038 a767 c768 h1073) rfl rfl rfl rfl) (Bw.ch 0 rfl (Bw.im 0 rfl (Bw.nil))) rfl rfl rfl ?_
            intro _
            refine L.q 2 rfl ?_
            refine L.nil ?_
            have hr := Option.some.inj H1074
            subst e1068
            exact E.give ((), ()) [1, 4, 4, 1] [0, 1, 2, 3, 4] trivial ⟨rfl, trivial⟩ rfl rfl
          · refine L.q 6 rfl ?_
            refine L.nil ?_
            have hr := Option.some.inj H1071
            subst e1068
            exact E.give ((), ()) [1, 4, 4, 1] [0, 1, 2, 3, 4] trivial ⟨rfl, trivial⟩ rfl rfl
        · rintro ⟨_, ⟨⟩⟩ _
          refine T.ret ?_
          refine E.then_ret ?_
          have hr := Option.some.inj H1070
          subst r
          exact E.ret () [] [] (.tmp rfl .nil) rfl rfl rfl
      · refine T.skip ?_
        refine E.then ?_
        refine T.seq ?_
        refine T.seq ?_
        obtain ⟨e1168, H1169, H1170⟩ := bnd H1058
        refine T.join (η := Unit × Unit) (fun h => True) (fun h => [(5, .pointer (some ⟨g10, 0, none⟩)), (6, .pointer (some ⟨g20, 0, none⟩)), (8, .int .i64 (imin (Go.bits .and .i64 a.top 7) 5)), (9, .int .i64 (imin (Go.bits .and .i64 a.bottom 7) 5)), (10, .slice a1023 r1020.1.length c1024), (11, .slice a1030 r1027.1.length c1031), (12, .slice a1037 r1034.1.length c1038), (105, .bool e1168)]) (fun h => [Ch.box g10 104 [.int .i64 r1034.2.w, .slice a771 r1034.2.l.length c772], Ch.box g20 59 [.int .i64 e774.1.w, .slice a767 e774.1.l.length c768], Ch.box g1 64 [.int .i64 a.kind, .int .i64 a.y, .int .i64 a.top, .int .i64 a.bottom, .int .i64 a.n, .int .i64 a.style, .int .i64 a.w, .int .i64 a.h, .int .i64 a.row.kind, .int .i64 a.row.at_, .int .i64 a.row.n, .int .i64 a.row.style, .int .i32 a.row.rune], Ch.arr tyRowRow 26 a1037 c1038 r1034.1, Ch.arr tyRowRow 26 a771 c772 r1034.2.l, Ch.arr tyRowRow 26 a1030 c1031 r1027.1, Ch.arr tyRowRow 26 a1023 c1024 r1020.1]) (fun h => [Im.sl tyRef09Row a767 c768 e774.1.l, Im.sl tyRef09Row a17 c18 r14.l, Im.sl tyLaw10Act a_0 c_0 acts, Im.sl tyWideSpan (some ⟨0, 0, none⟩) 13 t_wide_nones, Im.sl tyWideSpan (some ⟨1, 0, none⟩) 14 t_wide_twos]) ?_ ?_
        · refine T.draw [] [0, 0, 0, 1, 1, 1] mo (by rfl) rfl ?_
          refine D.q 0 rfl rfl rfl rfl rfl rfl ?_
          refine D.q 1 rfl rfl rfl rfl rfl rfl ?_
          refine D.q 2 rfl rfl rfl rfl rfl rfl ?_
          refine D.q 3 rfl rfl rfl rfl rfl rfl ?_
          refine D.cs 89 H1169 rfl (fun hc H1194 => ?_) (fun hc H1194 => ?_)
          · refine D.sk 4 rfl rfl rfl rfl rfl ?_
            refine D.sk 5 rfl rfl rfl rfl rfl ?_
            refine D.sk 6 rfl rfl rfl rfl rfl ?_
            refine D.q 7 rfl rfl rfl rfl rfl rfl ?_
            refine D.q 8 rfl rfl rfl rfl rfl rfl ?_
            refine D.sk 9 rfl rfl rfl rfl rfl ?_
            refine D.sk 10 rfl rfl rfl rfl rfl ?_
            refine D.sk 11 rfl rfl rfl rfl rfl ?_
            refine D.sk 12 rfl rfl rfl rfl rfl ?_
            refine D.sk 13 rfl rfl rfl rfl rfl ?_
            refine D.sk 14 rfl rfl rfl rfl rfl ?_
            refine D.sk 15 rfl rfl rfl rfl rfl ?_
            refine D.sk 16 rfl rfl rfl rfl rfl ?_
            refine D.sk 17 rfl rfl rfl rfl rfl ?_
            refine D.sk 18 rfl rfl rfl rfl rfl ?_
            refine D.q 19 rfl rfl rfl rfl rfl rfl ?_
            refine D.nil rfl rfl ?_
            have hr := Option.some.inj H1194
            subst e1168
            exact E.give ((), ()) [1, 3, 3, 0, 0, 1, 0] [0, 1, 2, 3, 4] trivial ⟨rfl, rfl, rfl, rfl, rfl, rfl, rfl, rfl, trivial⟩ rfl rfl
          · refine D.q 4 rfl rfl rfl rfl rfl rfl ?_
            refine D.q 5 rfl rfl rfl rfl rfl rfl ?_
            refine D.q 6 rfl rfl rfl rfl rfl rfl ?_
            refine D.q 7 rfl rfl rfl rfl rfl rfl ?_
            refine D.q 8 rfl rfl rfl rfl rfl rfl ?_
            refine D.cs 94 H1194 rfl (fun hc H1195 => ?_) (fun hc H1195 => ?_)
            · refine D.sk 9 rfl rfl rfl rfl rfl ?_
              refine D.sk 10 rfl rfl rfl rfl rfl ?_
              refine D.sk 11 rfl rfl rfl rfl rfl ?_
              refine D.sk 12 rfl rfl rfl rfl rfl ?_
              refine D.sk 13 rfl rfl rfl rfl rfl ?_
              refine D.sk 14 rfl rfl rfl rfl rfl ?_
              refine D.sk 15 rfl rfl rfl rfl rfl ?_
              refine D.sk 16 rfl rfl rfl rfl rfl ?_
              refine D.sk 17 rfl rfl rfl rfl rfl ?_
              refine D.sk 18 rfl rfl rfl rfl rfl ?_
              refine D.q 19 rfl rfl rfl rfl rfl rfl ?_
              refine D.nil rfl rfl ?_
              have hr := Option.some.inj H1195
              subst e1168
              exact E.give ((), ()) [1, 3, 3, 0, 0, 1, 0] [0, 1, 2, 3, 4] trivial ⟨rfl, rfl, rfl, rfl, rfl, rfl, rfl, rfl, trivial⟩ rfl rfl
            · refine D.q 9 rfl rfl rfl rfl rfl rfl ?_
              obtain ⟨x1196, h1197, H1198⟩ := bnd H1195
              refine D.addro 6 rfl (idx_lt h1197) fun b1199 e1200 => ?_
              obtain rfl : a1030 = some ⟨b1199, 0, none⟩ := e1200
              refine D.y 10 (Yl.ia h1197 rfl rfl rfl rfl rfl rfl) rfl rfl rfl rfl rfl rfl ?_
              refine D.q 12 rfl rfl rfl rfl rfl rfl ?_
              refine D.y 13 (Yl.ldb 4 rfl rfl rfl rfl) rfl rfl rfl rfl rfl rfl ?_
              refine D.q 14 rfl rfl rfl rfl rfl rfl ?_
              obtain ⟨x1201, h1202, H1203⟩ := bnd H1198
              refine D.addr 0 rfl (idx_lt h1202) fun b1204 o1205 e1206 => ?_
              obtain rfl : a767 = some ⟨b1204, o1205, none⟩ := e1206
              refine D.y 15 (Yl.ia h1202 rfl rfl rfl rfl rfl rfl) rfl rfl rfl rfl rfl rfl ?_
              refine D.el 0 rfl (idx_some h1202).2 ?_
              rintro ⟨a1207, c1208⟩
              refine D.y 16 (Yl.ldc 0 0 rfl rfl rfl rfl) rfl rfl rfl rfl rfl rfl ?_
              refine D.one rfl rfl rfl (Dp.a [0] [] (Ac.lo ((0 : Int).toNat) 0 (v := (fun h : (Option Addr × Nat) => (fun a1211 c1212 => .agg #[.slice a1211 x1196.cells.length c1212, .bool x1196.wrapped]) h.1 h.2)) (idx_some h1197).2 rfl rfl rfl (fun _ => rfl)) rfl rfl rfl rfl rfl rfl ?_)
              rintro ⟨a1211, c1212⟩
              obtain ⟨r1214, h1215, H1216⟩ := bnd H1203
              refine D.one rfl rfl rfl (Dp.a [] [0, 2] (Ac.call (c_law09_Is a1211 c1212 a1207 c1208 h1215) rfl rfl rfl rfl) rfl rfl rfl rfl rfl rfl ?_)
              rintro ⟨⟩
              refine D.q 18 rfl rfl rfl rfl rfl rfl ?_
              refine D.q 19 rfl rfl rfl rfl rfl rfl ?_
              refine D.nil rfl rfl ?_
              have hr := Option.some.inj H1216
              subst e1168
              exact E.give ((), ()) [1, 3, 3, 0, 0, 1, 0] [3, 4, 5, 6, 7] trivial ⟨rfl, rfl, rfl, rfl, rfl, rfl, rfl, rfl, trivial⟩ rfl rfl
        · rintro ⟨_, ⟨⟩⟩ _
          refine T.bif rfl H1170 (fun hc H1218 => ?_) (fun hc H1218 => ?_)
          · refine T.seq ?_
            refine T.region ?_
            refine L.q 1 rfl ?_
            refine L.nil ?_
            refine E.then ?_
            refine T.ret ?_
            refine E.then_ret ?_
            have hr := Option.some.inj H1218
            subst r
            exact E.ret () [] [] (.tmp rfl .nil) rfl rfl rfl
          · refine T.skip ?_
            refine E.then ?_
            refine T.seq ?_
            refine T.seq ?_
            refine T.region ?_
            refine L.q 1 rfl ?_
            refine L.nil ?_
            refine E.then ?_
            obtain ⟨y12204, H12205, H12206⟩ := bnd H1218
            refine T.join (η := Unit × Unit) (fun h => y12204 = .inl h.1) (fun h => (fun e12203 => [(5, .pointer (some ⟨g10, 0, none⟩)), (6, .pointer (some ⟨g20, 0, none⟩)), (8, .int .i64 (imin (Go.bits .and .i64 a.top 7) 5)), (9, .int .i64 (imin (Go.bits .and .i64 a.bottom 7) 5)), (11, .slice a1030 r1027.1.length c1031)]) h.1) (fun h => (fun e12203 => [Ch.box g10 104 [.int .i64 r1034.2.w, .slice a771 r1034.2.l.length c772], Ch.box g20 59 [.int .i64 e774.1.w, .slice a767 e774.1.l.length c768], Ch.box g1 64 [.int .i64 a.kind, .int .i64 a.y, .int .i64 a.top, .int .i64 a.bottom, .int .i64 a.n, .int .i64 a.style, .int .i64 a.w, .int .i64 a.h, .int .i64 a.row.kind, .int .i64 a.row.at_, .int .i64 a.row.n, .int .i64 a.row.style, .int .i32 a.row.rune], Ch.arr tyRowRow 26 a771 c772 r1034.2.l, Ch.arr tyRowRow 26 a1030 c1031 r1027.1]) h.1) (fun h => (fun e12203 => [Im.sl tyRef09Row a767 c768 e774.1.l, Im.sl tyRef09Row a17 c18 r14.l, Im.sl tyLaw10Act a_0 c_0 acts, Im.sl tyWideSpan (some ⟨0, 0, none⟩) 13 t_wide_nones, Im.sl tyWideSpan (some ⟨1, 0, none⟩) 14 t_wide_twos]) h.1) ?_ ?_
            · refine T.block ?_
              refine T.lp (η := Unit) (fun s8542 h => [(5, .pointer (some ⟨g10, 0, none⟩)), (6, .pointer (some ⟨g20, 0, none⟩)), (8, .int .i64 (imin (Go.bits .and .i64 a.top 7) 5)), (9, .int .i64 (imin (Go.bits .and .i64 a.bottom 7) 5)), (10, .slice a1023 r1020.1.length c1024), (11, .slice a1030 r1027.1.length c1031), (12, .slice a1037 r1034.1.length c1038), (106, .int .i64 s8542)]) (fun s8542 h => [Ch.box g10 104 [.int .i64 r1034.2.w, .slice a771 r1034.2.l.length c772], Ch.box g20 59 [.int .i64 e774.1.w, .slice a767 e774.1.l.length c768], Ch.box g1 64 [.int .i64 a.kind, .int .i64 a.y, .int .i64 a.top, .int .i64 a.bottom, .int .i64 a.n, .int .i64 a.style, .int .i64 a.w, .int .i64 a.h, .int .i64 a.row.kind, .int .i64 a.row.at_, .int .i64 a.row.n, .int .i64 a.row.style, .int .i32 a.row.rune], Ch.arr tyRowRow 26 a1037 c1038 r1034.1, Ch.arr tyRowRow 26 a771 c772 r1034.2.l, Ch.arr tyRowRow 26 a1030 c1031 r1027.1, Ch.arr tyRowRow 26 a1023 c1024 r1020.1]) (fun s8542 h => [Im.sl tyRef09Row a767 c768 e774.1.l, Im.sl tyRef09Row a17 c18 r14.l, Im.sl tyLaw10Act a_0 c_0 acts, Im.sl tyWideSpan (some ⟨0, 0, none⟩) 13 t_wide_nones, Im.sl tyWideSpan (some ⟨1, 0, none⟩) 14 t_wide_twos]) () [0, 0, 0, 0, 0, 0, 0] [0, 1, 2, 3, 4] H12205 ⟨rfl, rfl, rfl, rfl, rfl, rfl, rfl, rfl, trivial⟩ rfl rfl ?_
              rintro k s8542 ⟨⟩ z12208 H12207 hag12209 hbr12210
              refine T.seq ?_
              refine T.region ?_
              refine L.q 1 rfl ?_
              refine L.nil ?_
              refine E.then ?_
              refine T.seq ?_
              refine T.bif rfl H12207 (fun hc H12212 => ?_) (fun hc H12212 => ?_)
              · refine T.skip ?_
                refine E.then ?_
                refine T.seq ?_
                refine T.block ?_
                refine T.seq ?_
                refine T.region ?_
                refine L.q 2 rfl ?_
                refine L.nil ?_
                refine E.then ?_
                refine T.seq ?_
                obtain ⟨e15259, H15260, H15261⟩ := bnd H12212
                refine T.join (η := Unit × Unit) (fun h => True) (fun h => [(5, .pointer (some ⟨g10, 0, none⟩)), (6, .pointer (some ⟨g20, 0, none⟩)), (8, .int .i64 (imin (Go.bits .and .i64 a.top 7) 5)), (9, .int .i64 (imin (Go.bits .and .i64 a.bottom 7) 5)), (10, .slice a1023 r1020.1.length c1024), (11, .slice a1030 r1027.1.length c1031), (12, .slice a1037 r1034.1.length c1038), (106, .int .i64 s8542), (151, .bool e15259)]) (fun h => [Ch.box g10 104 [.int .i64 r1034.2.w, .slice a771 r1034.2.l.length c772], Ch.box g20 59 [.int .i64 e774.1.w, .slice a767 e774.1.l.length c768], Ch.box g1 64 [.int .i64 a.kind, .int .i64 a.y, .int .i64 a.top, .int .i64 a.bottom, .int .i64 a.n, .int .i64 a.style, .int .i64 a.w, .int .i64 a.h, .int .i64 a.row.kind, .int .i64 a.row.at_, .int .i64 a.row.n, .int .i64 a.row.style, .int .i32 a.row.rune], Ch.arr tyRowRow 26 a1037 c1038 r1034.1, Ch.arr tyRowRow 26 a771 c772 r1034.2.l, Ch.arr tyRowRow 26 a1030 c1031 r1027.1, Ch.arr tyRowRow 26 a1023 c1024 r1020.1]) (fun h => [Im.sl tyRef09Row a767 c768 e774.1.l, Im.sl tyRef09Row a17 c18 r14.l, Im.sl tyLaw10Act a_0 c_0 acts, Im.sl tyWideSpan (some ⟨0, 0, none⟩) 13 t_wide_nones, Im.sl tyWideSpan (some ⟨1, 0, none⟩) 14 t_wide_twos]) ?_ ?_
                · refine T.draw [] [0, 0, 0, 1, 1] mo (by rfl) rfl ?_
                  refine D.q 0 rfl rfl rfl rfl rfl rfl ?_
                  refine D.q 1 rfl rfl rfl rfl rfl rfl ?_
                  refine D.q 2 rfl rfl rfl rfl rfl rfl ?_
                  refine D.q 3 rfl rfl rfl rfl rfl rfl ?_
                  refine D.cs 112 H15260 rfl (fun hc H15566 => ?_) (fun hc H15566 => ?_)
                  · refine D.sk 4 rfl rfl rfl rfl rfl ?_
                    refine D.sk 5 rfl rfl rfl rfl rfl ?_
                    refine D.sk 6 rfl rfl rfl rfl rfl ?_
                    refine D.q 7 rfl rfl rfl rfl rfl rfl ?_
                    refine D.q 8 rfl rfl rfl rfl rfl rfl ?_
                    refine D.q 9 rfl rfl rfl rfl rfl rfl ?_
                    refine D.q 10 rfl rfl rfl rfl rfl rfl ?_
                    obtain ⟨x15567, h15568, H15569⟩ := bnd H15566
                    refine D.addro 5 rfl (idx_lt h15568) fun b15570 e15571 => ?_
                    obtain rfl : a1037 = some ⟨b15570, 0, none⟩ := e15571
                    refine D.y 11 (Yl.ia h15568 rfl rfl rfl rfl rfl rfl) rfl rfl rfl rfl rfl rfl ?_
                    refine D.q 13 rfl rfl rfl rfl rfl rfl ?_
                    refine D.q 14 rfl rfl rfl rfl rfl rfl ?_
                    obtain ⟨x15572, h15573, H15574⟩ := bnd H15569
                    refine D.addro 6 rfl (idx_lt h15573) fun b15575 e15576 => ?_
                    obtain rfl : a1023 = some ⟨b15575, 0, none⟩ := e15576
                    refine D.y 15 (Yl.ia h15573 rfl rfl rfl rfl rfl rfl) rfl rfl rfl rfl rfl rfl ?_
                    obtain ⟨r15583, h15584, H15619⟩ := bnd H15574
                    refine D.two rfl rfl rfl ?_ ?_
                    · refine Dp.a [0] [] (Ac.lo s8542.toNat 0 (v := (fun h : (Option Addr × Nat) => (fun a15620 c15621 => .agg #[.slice a15620 x15567.cells.length c15621, .bool x15567.wrapped]) h.1 h.2)) (idx_some h15568).2 rfl rfl rfl (fun _ => rfl)) rfl rfl rfl rfl rfl rfl ?_
                      rintro ⟨a15620, c15621⟩
                      refine D.one rfl rfl rfl (Dp.a [1] [] (Ac.lo s8542.toNat 0 (v := (fun h : (Option Addr × Nat) => (fun a15623 c15624 => .agg #[.slice a15623 x15572.cells.length c15624, .bool x15572.wrapped]) h.1 h.2)) (idx_some h15573).2 rfl rfl rfl (fun _ => rfl)) rfl rfl rfl rfl rfl rfl ?_)
                      rintro ⟨a15623, c15624⟩
                      refine D.one rfl rfl rfl (Dp.a [] [1, 0] (Ac.call (c_row_Row_Same a15620 c15621 a15623 c15624 h15584) rfl rfl rfl rfl) rfl rfl rfl rfl rfl rfl ?_)
                      rintro ⟨⟩
                      refine D.q 18 rfl rfl rfl rfl rfl rfl ?_
                      refine D.q 19 rfl rfl rfl rfl rfl rfl ?_
                      refine D.q 20 rfl rfl rfl rfl rfl rfl ?_
                      refine D.cs 129 H15619 rfl (fun hc H15627 => ?_) (fun hc H15627 => ?_)
                      · refine D.sk 21 rfl rfl rfl rfl rfl ?_
                        refine D.sk 22 rfl rfl rfl rfl rfl ?_
                        refine D.sk 23 rfl rfl rfl rfl rfl ?_
                        refine D.sk 24 rfl rfl rfl rfl rfl ?_
                        refine D.sk 25 rfl rfl rfl rfl rfl ?_
                        refine D.sk 26 rfl rfl rfl rfl rfl ?_
                        refine D.sk 27 rfl rfl rfl rfl rfl ?_
                        refine D.sk 28 rfl rfl rfl rfl rfl ?_
                        refine D.sk 29 rfl rfl rfl rfl rfl ?_
                        refine D.sk 30 rfl rfl rfl rfl rfl ?_
                        refine D.sk 31 rfl rfl rfl rfl rfl ?_
                        refine D.sk 32 rfl rfl rfl rfl rfl ?_
                        refine D.sk 33 rfl rfl rfl rfl rfl ?_
                        refine D.sk 34 rfl rfl rfl rfl rfl ?_
                        refine D.sk 35 rfl rfl rfl rfl rfl ?_
                        refine D.sk 36 rfl rfl rfl rfl rfl ?_
                        refine D.sk 37 rfl rfl rfl rfl rfl ?_
                        refine D.sk 38 rfl rfl rfl rfl rfl ?_
                        refine D.sk 39 rfl rfl rfl rfl rfl ?_
                        refine D.sk 40 rfl rfl rfl rfl rfl ?_
                        refine D.sk 41 rfl rfl rfl rfl rfl ?_
                        refine D.q 42 rfl rfl rfl rfl rfl rfl ?_
                        refine D.nil rfl rfl ?_
                        have hr := Option.some.inj H15627
                        subst e15259
                        exact E.give ((), ()) [0, 0, 0, 3, 0, 0, 0] [2, 3, 4, 5, 6] trivial ⟨rfl, rfl, rfl, rfl, rfl, rfl, rfl, rfl, rfl, trivial⟩ rfl rfl
                      · refine D.q 21 rfl rfl rfl rfl rfl rfl ?_
                        refine D.q 22 rfl rfl rfl rfl rfl rfl ?_
                        refine D.q 23 rfl rfl rfl rfl rfl rfl ?_
                        refine D.q 24 rfl rfl rfl rfl rfl rfl ?_
                        refine D.cs 133 H15627 rfl (fun hc H15628 => ?_) (fun hc H15628 => ?_)
                        · refine D.q 25 rfl rfl rfl rfl rfl rfl ?_
                          refine D.q 26 rfl rfl rfl rfl rfl rfl ?_
                          refine D.q 27 rfl rfl rfl rfl rfl rfl ?_
                          refine D.q 28 rfl rfl rfl rfl rfl rfl ?_
                          refine D.q 29 rfl rfl rfl rfl rfl rfl ?_
                          refine D.cs 138 H15628 rfl (fun hc H15629 => ?_) (fun hc H15629 => ?_)
                          · refine D.q 30 rfl rfl rfl rfl rfl rfl ?_
                            refine D.q 31 rfl rfl rfl rfl rfl rfl ?_
                            obtain ⟨x15630, h15631, H15632⟩ := bnd H15629
                            refine D.y 32 (Yl.ia h15631 rfl rfl rfl rfl rfl rfl) rfl rfl rfl rfl rfl rfl ?_
                            refine D.q 34 rfl rfl rfl rfl rfl rfl ?_
                            refine D.q 35 rfl rfl rfl rfl rfl rfl ?_
                            refine D.q 36 rfl rfl rfl rfl rfl rfl ?_
                            obtain ⟨x15633, h15634, H15635⟩ := bnd H15632
                            refine D.y 37 (Yl.ia h15634 rfl rfl rfl rfl rfl rfl) rfl rfl rfl rfl rfl rfl ?_
                            obtain ⟨r15642, h15643, H15645⟩ := bnd H15635
                            refine D.two rfl rfl rfl ?_ ?_
                            · refine Dp.a [1] [] (Ac.lo s8542.toNat 0 (v := (fun h : (Option Addr × Nat) => (fun a15646 c15647 => .agg #[.slice a15646 x15630.cells.length c15647, .bool x15630.wrapped]) h.1 h.2)) (idx_some h15631).2 rfl rfl rfl (fun _ => rfl)) rfl rfl rfl rfl rfl rfl ?_
                              rintro ⟨a15646, c15647⟩
                              refine D.one rfl rfl rfl (Dp.a [1] [] (Ac.lo ((IntKind.i64.wrap (s8542 + 1)).toNat) 0 (v := (fun h : (Option Addr × Nat) => (fun a15649 c15650 => .agg #[.slice a15649 x15633.cells.length c15650, .bool x15633.wrapped]) h.1 h.2)) (idx_some h15634).2 rfl rfl rfl (fun _ => rfl)) rfl rfl rfl rfl rfl rfl ?_)
                              rintro ⟨a15649, c15650⟩
                              refine D.one rfl rfl rfl (Dp.a [] [1, 0] (Ac.call (c_row_Row_Same a15646 c15647 a15649 c15650 h15643) rfl rfl rfl rfl) rfl rfl rfl rfl rfl rfl ?_)
                              rintro ⟨⟩
                              refine D.q 40 rfl rfl rfl rfl rfl rfl ?_
                              refine D.q 41 rfl rfl rfl rfl rfl rfl ?_
                              refine D.q 42 rfl rfl rfl rfl rfl rfl ?_
                              refine D.nil rfl rfl ?_
                              have hr := Option.some.inj H15645
                              subst e15259
                              exact E.give ((), ()) [0, 0, 0, 3, 0, 0, 0] [4, 5, 6, 7, 8] trivial ⟨rfl, rfl, rfl, rfl, rfl, rfl, rfl, rfl, rfl, trivial⟩ rfl rfl
                            · refine Dp.a [0] [] (Ac.lo ((IntKind.i64.wrap (s8542 + 1)).toNat) 0 (v := (fun h : (Option Addr × Nat) => (fun a15653 c15654 => .agg #[.slice a15653 x15633.cells.length c15654, .bool x15633.wrapped]) h.1 h.2)) (idx_some h15634).2 rfl rfl rfl (fun _ => rfl)) rfl rfl rfl rfl rfl rfl ?_
                              rintro ⟨a15653, c15654⟩
                              refine D.one rfl rfl rfl (Dp.a [1] [] (Ac.lo s8542.toNat 0 (v := (fun h : (Option Addr × Nat) => (fun a15656 c15657 => .agg #[.slice a15656 x15630.cells.length c15657, .bool x15630.wrapped]) h.1 h.2)) (idx_some h15631).2 rfl rfl rfl (fun _ => rfl)) rfl rfl rfl rfl rfl rfl ?_)
                              rintro ⟨a15656, c15657⟩
                              refine D.one rfl rfl rfl (Dp.a [] [0, 1] (Ac.call (c_row_Row_Same a15656 c15657 a15653 c15654 h15643) rfl rfl rfl rfl) rfl rfl rfl rfl rfl rfl ?_)
                              rintro ⟨⟩
                              refine D.q 40 rfl rfl rfl rfl rfl rfl ?_
                              refine D.q 41 rfl rfl rfl rfl rfl rfl ?_
                              refine D.q 42 rfl rfl rfl rfl rfl rfl ?_
                              refine D.nil rfl rfl ?_
                              have hr := Option.some.inj H15645
                              subst e15259
                              exact E.give ((), ()) [0, 0, 0, 2, 0, 0, 0] [4, 5, 6, 7, 8] trivial ⟨rfl, rfl, rfl, rfl, rfl, rfl, rfl, rfl, rfl, trivial⟩ rfl rfl
                          · refine D.sk 30 rfl rfl rfl rfl rfl ?_
                            refine D.sk 31 rfl rfl rfl rfl rfl ?_
                            refine D.sk 32 rfl rfl rfl rfl rfl ?_
                            refine D.sk 33 rfl rfl rfl rfl rfl ?_
                            refine D.sk 34 rfl rfl rfl rfl rfl ?_
                            refine D.sk 35 rfl rfl rfl rfl rfl ?_
                            refine D.sk 36 rfl rfl rfl rfl rfl ?_
                            refine D.sk 37 rfl rfl rfl rfl rfl ?_
                            refine D.sk 38 rfl rfl rfl rfl rfl ?_
                            refine D.sk 39 rfl rfl rfl rfl rfl ?_
                            refine D.sk 40 rfl rfl rfl rfl rfl ?_
                            refine D.q 41 rfl rfl rfl rfl rfl rfl ?_
                            refine D.q 42 rfl rfl rfl rfl rfl rfl ?_
                            refine D.nil rfl rfl ?_
                            have hr := Option.some.inj H15629
                            subst e15259
                            exact E.give ((), ()) [0, 0, 0, 3, 0, 0, 0] [2, 3, 4, 5, 6] trivial ⟨rfl, rfl, rfl, rfl, rfl, rfl, rfl, rfl, rfl, trivial⟩ rfl rfl
                        · refine D.sk 25 rfl rfl rfl rfl rfl ?_
                          refine D.sk 26 rfl rfl rfl rfl rfl ?_
                          refine D.sk 27 rfl rfl rfl rfl rfl ?_
                          refine D.q 28 rfl rfl rfl rfl rfl rfl ?_
                          refine D.q 29 rfl rfl rfl rfl rfl rfl ?_
                          refine D.sk 30 rfl rfl rfl rfl rfl ?_
                          refine D.sk 31 rfl rfl rfl rfl rfl ?_
                          refine D.sk 32 rfl rfl rfl rfl rfl ?_
                          refine D.sk 33 rfl rfl rfl rfl rfl ?_
                          refine D.sk 34 rfl rfl rfl rfl rfl ?_
                          refine D.sk 35 rfl rfl rfl rfl rfl ?_
                          refine D.sk 36 rfl rfl rfl rfl rfl ?_
                          refine D.sk 37 rfl rfl rfl rfl rfl ?_
                          refine D.sk 38 rfl rfl rfl rfl rfl ?_
                          refine D.sk 39 rfl rfl rfl rfl rfl ?_
                          refine D.sk 40 rfl rfl rfl rfl rfl ?_
                          refine D.q 41 rfl rfl rfl rfl rfl rfl ?_
                          refine D.q 42 rfl rfl rfl rfl rfl rfl ?_
                          refine D.nil rfl rfl ?_
                          have hr := Option.some.inj H15628
                          subst e15259
                          exact E.give ((), ()) [0, 0, 0, 3, 0, 0, 0] [2, 3, 4, 5, 6] trivial ⟨rfl, rfl, rfl, rfl, rfl, rfl, rfl, rfl, rfl, trivial⟩ rfl rfl
                    · refine Dp.a [1] [] (Ac.lo s8542.toNat 0 (v := (fun h : (Option Addr × Nat) => (fun a15660 c15661 => .agg #[.slice a15660 x15572.cells.length c15661, .bool x15572.wrapped]) h.1 h.2)) (idx_some h15573).2 rfl rfl rfl (fun _ => rfl)) rfl rfl rfl rfl rfl rfl ?_
                      rintro ⟨a15660, c15661⟩
                      refine D.one rfl rfl rfl (Dp.a [1] [] (Ac.lo s8542.toNat 0 (v := (fun h : (Option Addr × Nat) => (fun a15663 c15664 => .agg #[.slice a15663 x15567.cells.length c15664, .bool x15567.wrapped]) h.1 h.2)) (idx_some h15568).2 rfl rfl rfl (fun _ => rfl)) rfl rfl rfl rfl rfl rfl ?_)
                      rintro ⟨a15663, c15664⟩
                      refine D.one rfl rfl rfl (Dp.a [] [0, 1] (Ac.call (c_row_Row_Same a15663 c15664 a15660 c15661 h15584) rfl rfl rfl rfl) rfl rfl rfl rfl rfl rfl ?_)
                      rintro ⟨⟩
                      refine D.q 18 rfl rfl rfl rfl rfl rfl ?_
                      refine D.q 19 rfl rfl rfl rfl rfl rfl ?_
                      refine D.q 20 rfl rfl rfl rfl rfl rfl ?_
                      refine D.cs 129 H15619 rfl (fun hc H15667 => ?_) (fun hc H15667 => ?_)
                      · refine D.sk 21 rfl rfl rfl rfl rfl ?_
                        refine D.sk 22 rfl rfl rfl rfl rfl ?_
                        refine D.sk 23 rfl rfl rfl rfl rfl ?_
                        refine D.sk 24 rfl rfl rfl rfl rfl ?_
                        refine D.sk 25 rfl rfl rfl rfl rfl ?_
                        refine D.sk 26 rfl rfl rfl rfl rfl ?_
                        refine D.sk 27 rfl rfl rfl rfl rfl ?_
                        refine D.sk 28 rfl rfl rfl rfl rfl ?_
                        refine D.sk 29 rfl rfl rfl rfl rfl ?_
                        refine D.sk 30 rfl rfl rfl rfl rfl ?_
                        refine D.sk 31 rfl rfl rfl rfl rfl ?_
                        refine D.sk 32 rfl rfl rfl rfl rfl ?_
                        refine D.sk 33 rfl rfl rfl rfl rfl ?_
                        refine D.sk 34 rfl rfl rfl rfl rfl ?_
                        refine D.sk 35 rfl rfl rfl rfl rfl ?_
                        refine D.sk 36 rfl rfl rfl rfl rfl ?_
                        refine D.sk 37 rfl rfl rfl rfl rfl ?_
                        refine D.sk 38 rfl rfl rfl rfl rfl ?_
                        refine D.sk 39 rfl rfl rfl rfl rfl ?_
                        refine D.sk 40 rfl rfl rfl rfl rfl ?_
                        refine D.sk 41 rfl rfl rfl rfl rfl ?_
                        refine D.q 42 rfl rfl rfl rfl rfl rfl ?_
                        refine D.nil rfl rfl ?_
                        have hr := Option.some.inj H15667
                        subst e15259
                        exact E.give ((), ()) [0, 0, 0, 2, 0, 0, 0] [2, 3, 4, 5, 6] trivial ⟨rfl, rfl, rfl, rfl, rfl, rfl, rfl, rfl, rfl, trivial⟩ rfl rfl
                      · refine D.q 21 rfl rfl rfl rfl rfl rfl ?_
                        refine D.q 22 rfl rfl rfl rfl rfl rfl ?_
                        refine D.q 23 rfl rfl rfl rfl rfl rfl ?_
                        refine D.q 24 rfl rfl rfl rfl rfl rfl ?_
                        refine D.cs 133 H15667 rfl (fun hc H15668 => ?_) (fun hc H15668 => ?_)
                        · refine D.q 25 rfl rfl rfl rfl rfl rfl ?_
                          refine D.q 26 rfl rfl rfl rfl rfl rfl ?_
                          refine D.q 27 rfl rfl rfl rfl rfl rfl ?_
                          refine D.q 28 rfl rfl rfl rfl rfl rfl ?_
                          refine D.q 29 rfl rfl rfl rfl rfl rfl ?_
                          refine D.cs 138 H15668 rfl (fun hc H15669 => ?_) (fun hc H15669 => ?_)
                          · refine D.q 30 rfl rfl rfl rfl rfl rfl ?_
                            refine D.q 31 rfl rfl rfl rfl rfl rfl ?_
                            obtain ⟨x15670, h15671, H15672⟩ := bnd H15669
                            refine D.y 32 (Yl.ia h15671 rfl rfl rfl rfl rfl rfl) rfl rfl rfl rfl rfl rfl ?_
                            refine D.q 34 rfl rfl rfl rfl rfl rfl ?_
                            refine D.q 35 rfl rfl rfl rfl rfl rfl ?_
                            refine D.q 36 rfl rfl rfl rfl rfl rfl ?_
                            obtain ⟨x15673, h15674, H15675⟩ := bnd H15672
                            refine D.y 37 (Yl.ia h15674 rfl rfl rfl rfl rfl rfl) rfl rfl rfl rfl rfl rfl ?_
                            obtain ⟨r15682, h15683, H15685⟩ := bnd H15675
                            refine D.two rfl rfl rfl ?_ ?_
                            · refine Dp.a [0] [] (Ac.lo s8542.toNat 0 (v := (fun h : (Option Addr × Nat) => (fun a15686 c15687 => .agg #[.slice a15686 x15670.cells.length c15687, .bool x15670.wrapped]) h.1 h.2)) (idx_some h15671).2 rfl rfl rfl (fun _ => rfl)) rfl rfl rfl rfl rfl rfl ?_
                              rintro ⟨a15686, c15687⟩
                              refine D.one rfl rfl rfl (Dp.a [1] [] (Ac.lo ((IntKind.i64.wrap (s8542 + 1)).toNat) 0 (v := (fun h : (Option Addr × Nat) => (fun a15689 c15690 => .agg #[.slice a15689 x15673.cells.length c15690, .bool x15673.wrapped]) h.1 h.2)) (idx_some h15674).2 rfl rfl rfl (fun _ => rfl)) rfl rfl rfl rfl rfl rfl ?_)
                              rintro ⟨a15689, c15690⟩
                              refine D.one rfl rfl rfl (Dp.a [] [1, 0] (Ac.call (c_row_Row_Same a15686 c15687 a15689 c15690 h15683) rfl rfl rfl rfl) rfl rfl rfl rfl rfl rfl ?_)
                              rintro ⟨⟩
                              refine D.q 40 rfl rfl rfl rfl rfl rfl ?_
                              refine D.q 41 rfl rfl rfl rfl rfl rfl ?_
                              refine D.q 42 rfl rfl rfl rfl rfl rfl ?_
                              refine D.nil rfl rfl ?_
                              have hr := Option.some.inj H15685
                              subst e15259
                              exact E.give ((), ()) [0, 0, 0, 3, 0, 0, 0] [4, 5, 6, 7, 8] trivial ⟨rfl, rfl, rfl, rfl, rfl, rfl, rfl, rfl, rfl, trivial⟩ rfl rfl
                            · refine Dp.a [1] [] (Ac.lo ((IntKind.i64.wrap (s8542 + 1)).toNat) 0 (v := (fun h : (Option Addr × Nat) => (fun a15693 c15694 => .agg #[.slice a15693 x15673.cells.length c15694, .bool x15673.wrapped]) h.1 h.2)) (idx_some h15674).2 rfl rfl rfl (fun _ => rfl)) rfl rfl rfl rfl rfl rfl ?_
                              rintro ⟨a15693, c15694⟩
                              refine D.one rfl rfl rfl (Dp.a [1] [] (Ac.lo s8542.toNat 0 (v := (fun h : (Option Addr × Nat) => (fun a15696 c15697 => .agg #[.slice a15696 x15670.cells.length c15697, .bool x15670.wrapped]) h.1 h.2)) (idx_some h15671).2 rfl rfl rfl (fun _ => rfl)) rfl rfl rfl rfl rfl rfl ?_)
                              rintro ⟨a15696, c15697⟩
                              refine D.one rfl rfl rfl (Dp.a [] [0, 1] (Ac.call (c_row_Row_Same a15696 c15697 a15693 c15694 h15683) rfl rfl rfl rfl) rfl rfl rfl rfl rfl rfl ?_)
                              rintro ⟨⟩
                              refine D.q 40 rfl rfl rfl rfl rfl rfl ?_
                              refine D.q 41 rfl rfl rfl rfl rfl rfl ?_
                              refine D.q 42 rfl rfl rfl rfl rfl rfl ?_
                              refine D.nil rfl rfl ?_
                              have hr := Option.some.inj H15685
                              subst e15259
                              exact E.give ((), ()) [0, 0, 0, 2, 0, 0, 0] [4, 5, 6, 7, 8] trivial ⟨rfl, rfl, rfl, rfl, rfl, rfl, rfl, rfl, rfl, trivial⟩ rfl rfl
                          · refine D.sk 30 rfl rfl rfl rfl rfl ?_
                            refine D.sk 31 rfl rfl rfl rfl rfl ?_
                            refine D.sk 32 rfl rfl rfl rfl rfl ?_
                            refine D.sk 33 rfl rfl rfl rfl rfl ?_
                            refine D.sk 34 rfl rfl rfl rfl rfl ?_
                            refine D.sk 35 rfl rfl rfl rfl rfl ?_
                            refine D.sk 36 rfl rfl rfl rfl rfl ?_
                            refine D.sk 37 rfl rfl rfl rfl rfl ?_
                            refine D.sk 38 rfl rfl rfl rfl rfl ?_
                            refine D.sk 39 rfl rfl rfl rfl rfl ?_
                            refine D.sk 40 rfl rfl rfl rfl rfl ?_
                            refine D.q 41 rfl rfl rfl rfl rfl rfl ?_
                            refine D.q 42 rfl rfl rfl rfl rfl rfl ?_
                            refine D.nil rfl rfl ?_
                            have hr := Option.some.inj H15669
                            subst e15259
                            exact E.give ((), ()) [0, 0, 0, 2, 0, 0, 0] [2, 3, 4, 5, 6] trivial ⟨rfl, rfl, rfl, rfl, rfl, rfl, rfl, rfl, rfl, trivial⟩ rfl rfl
                        · refine D.sk 25 rfl rfl rfl rfl rfl ?_
                          refine D.sk 26 rfl rfl rfl rfl rfl ?_
                          refine D.sk 27 rfl rfl rfl rfl rfl ?_
                          refine D.q 28 rfl rfl rfl rfl rfl rfl ?_
                          refine D.q 29 rfl rfl rfl rfl rfl rfl ?_
                          refine D.sk 30 rfl rfl rfl rfl rfl ?_
                          refine D.sk 31 rfl rfl rfl rfl rfl ?_
                          refine D.sk 32 rfl rfl rfl rfl rfl ?_
                          refine D.sk 33 rfl rfl rfl rfl rfl ?_
                          refine D.sk 34 rfl rfl rfl rfl rfl ?_
                          refine D.sk 35 rfl rfl rfl rfl rfl ?_
                          refine D.sk 36 rfl rfl rfl rfl rfl ?_
                          refine D.sk 37 rfl rfl rfl rfl rfl ?_
                          refine D.sk 38 rfl rfl rfl rfl rfl ?_
                          refine D.sk 39 rfl rfl rfl rfl rfl ?_
                          refine D.sk 40 rfl rfl rfl rfl rfl ?_
                          refine D.q 41 rfl rfl rfl rfl rfl rfl ?_
                          refine D.q 42 rfl rfl rfl rfl rfl rfl ?_
                          refine D.nil rfl rfl ?_
                          have hr := Option.some.inj H15668
                          subst e15259
                          exact E.give ((), ()) [0, 0, 0, 2, 0, 0, 0] [2, 3, 4, 5, 6] trivial ⟨rfl, rfl, rfl, rfl, rfl, rfl, rfl, rfl, rfl, trivial⟩ rfl rfl
                  · refine D.q 4 rfl rfl rfl rfl rfl rfl ?_
                    refine D.q 5 rfl rfl rfl rfl rfl rfl ?_
                    refine D.q 6 rfl rfl rfl rfl rfl rfl ?_
                    refine D.q 7 rfl rfl rfl rfl rfl rfl ?_
                    refine D.q 8 rfl rfl rfl rfl rfl rfl ?_
                    refine D.cs 117 H15566 rfl (fun hc H15700 => ?_) (fun hc H15700 => ?_)
                    · refine D.q 9 rfl rfl rfl rfl rfl rfl ?_
                      refine D.q 10 rfl rfl rfl rfl rfl rfl ?_
                      obtain ⟨x15701, h15702, H15703⟩ := bnd H15700
                      refine D.addro 5 rfl (idx_lt h15702) fun b15704 e15705 => ?_
                      obtain rfl : a1037 = some ⟨b15704, 0, none⟩ := e15705
                      refine D.y 11 (Yl.ia h15702 rfl rfl rfl rfl rfl rfl) rfl rfl rfl rfl rfl rfl ?_
                      refine D.q 13 rfl rfl rfl rfl rfl rfl ?_
                      refine D.q 14 rfl rfl rfl rfl rfl rfl ?_
                      obtain ⟨x15706, h15707, H15708⟩ := bnd H15703
                      refine D.addro 6 rfl (idx_lt h15707) fun b15709 e15710 => ?_
                      obtain rfl : a1023 = some ⟨b15709, 0, none⟩ := e15710
                      refine D.y 15 (Yl.ia h15707 rfl rfl rfl rfl rfl rfl) rfl rfl rfl rfl rfl rfl ?_
                      obtain ⟨r15717, h15718, H15753⟩ := bnd H15708
                      refine D.two rfl rfl rfl ?_ ?_
                      · refine Dp.a [0] [] (Ac.lo s8542.toNat 0 (v := (fun h : (Option Addr × Nat) => (fun a15754 c15755 => .agg #[.slice a15754 x15701.cells.length c15755, .bool x15701.wrapped]) h.1 h.2)) (idx_some h15702).2 rfl rfl rfl (fun _ => rfl)) rfl rfl rfl rfl rfl rfl ?_
                        rintro ⟨a15754, c15755⟩
                        refine D.one rfl rfl rfl (Dp.a [1] [] (Ac.lo s8542.toNat 0 (v := (fun h : (Option Addr × Nat) => (fun a15757 c15758 => .agg #[.slice a15757 x15706.cells.length c15758, .bool x15706.wrapped]) h.1 h.2)) (idx_some h15707).2 rfl rfl rfl (fun _ => rfl)) rfl rfl rfl rfl rfl rfl ?_)
                        rintro ⟨a15757, c15758⟩
                        refine D.one rfl rfl rfl (Dp.a [] [1, 0] (Ac.call (c_row_Row_Same a15754 c15755 a15757 c15758 h15718) rfl rfl rfl rfl) rfl rfl rfl rfl rfl rfl ?_)
                        rintro ⟨⟩
                        refine D.q 18 rfl rfl rfl rfl rfl rfl ?_
                        refine D.q 19 rfl rfl rfl rfl rfl rfl ?_
                        refine D.q 20 rfl rfl rfl rfl rfl rfl ?_
                        refine D.cs 129 H15753 rfl (fun hc H15761 => ?_) (fun hc H15761 => ?_)
                        · refine D.sk 21 rfl rfl rfl rfl rfl ?_
                          refine D.sk 22 rfl rfl rfl rfl rfl ?_
                          refine D.sk 23 rfl rfl rfl rfl rfl ?_
                          refine D.sk 24 rfl rfl rfl rfl rfl ?_
                          refine D.sk 25 rfl rfl rfl rfl rfl ?_
                          refine D.sk 26 rfl rfl rfl rfl rfl ?_
                          refine D.sk 27 rfl rfl rfl rfl rfl ?_
                          refine D.sk 28 rfl rfl rfl rfl rfl ?_
                          refine D.sk 29 rfl rfl rfl rfl rfl ?_
                          refine D.sk 30 rfl rfl rfl rfl rfl ?_
                          refine D.sk 31 rfl rfl rfl rfl rfl ?_
                          refine D.sk 32 rfl rfl rfl rfl rfl ?_
                          refine D.sk 33 rfl rfl rfl rfl rfl ?_
                          refine D.sk 34 rfl rfl rfl rfl rfl ?_
                          refine D.sk 35 rfl rfl rfl rfl rfl ?_
                          refine D.sk 36 rfl rfl rfl rfl rfl ?_
                          refine D.sk 37 rfl rfl rfl rfl rfl ?_
                          refine D.sk 38 rfl rfl rfl rfl rfl ?_
                          refine D.sk 39 rfl rfl rfl rfl rfl ?_
                          refine D.sk 40 rfl rfl rfl rfl rfl ?_
                          refine D.sk 41 rfl rfl rfl rfl rfl ?_
                          refine D.q 42 rfl rfl rfl rfl rfl rfl ?_
                          refine D.nil rfl rfl ?_
                          have hr := Option.some.inj H15761
                          subst e15259
                          exact E.give ((), ()) [0, 0, 0, 3, 0, 0, 0] [2, 3, 4, 5, 6] trivial ⟨rfl, rfl, rfl, rfl, rfl, rfl, rfl, rfl, rfl, trivial⟩ rfl rfl
                        · refine D.q 21 rfl rfl rfl rfl rfl rfl ?_
                          refine D.q 22 rfl rfl rfl rfl rfl rfl ?_
                          refine D.q 23 rfl rfl rfl rfl rfl rfl ?_
                          refine D.q 24 rfl rfl rfl rfl rfl rfl ?_
                          refine D.cs 133 H15761 rfl (fun hc H15762 => ?_) (fun hc H15762 => ?_)
                          · refine D.q 25 rfl rfl rfl rfl rfl rfl ?_
                            refine D.q 26 rfl rfl rfl rfl rfl rfl ?_
                            refine D.q 27 rfl rfl rfl rfl rfl rfl ?_
                            refine D.q 28 rfl rfl rfl rfl rfl rfl ?_
                            refine D.q 29 rfl rfl rfl rfl rfl rfl ?_
                            refine D.cs 138 H15762 rfl (fun hc H15763 => ?_) (fun hc H15763 => ?_)
                            · refine D.q 30 rfl rfl rfl rfl rfl rfl ?_
                              refine D.q 31 rfl rfl rfl rfl rfl rfl ?_
                              obtain ⟨x15764, h15765, H15766⟩ := bnd H15763
                              refine D.y 32 (Yl.ia h15765 rfl rfl rfl rfl rfl rfl) rfl rfl rfl rfl rfl rfl ?_
                              refine D.q 34 rfl rfl rfl rfl rfl rfl ?_
                              refine D.q 35 rfl rfl rfl rfl rfl rfl ?_
                              refine D.q 36 rfl rfl rfl rfl rfl rfl ?_
                              obtain ⟨x15767, h15768, H15769⟩ := bnd H15766
                              refine D.y 37 (Yl.ia h15768 rfl rfl rfl rfl rfl rfl) rfl rfl rfl rfl rfl rfl ?_
                              obtain ⟨r15776, h15777, H15779⟩ := bnd H15769
                              refine D.two rfl rfl rfl ?_ ?_
                              · refine Dp.a [1] [] (Ac.lo s8542.toNat 0 (v := (fun h : (Option Addr × Nat) => (fun a15780 c15781 => .agg #[.slice a15780 x15764.cells.length c15781, .bool x15764.wrapped]) h.1 h.2)) (idx_some h15765).2 rfl rfl rfl (fun _ => rfl)) rfl rfl rfl rfl rfl rfl ?_
                                rintro ⟨a15780, c15781⟩
                                refine D.one rfl rfl rfl (Dp.a [1] [] (Ac.lo ((IntKind.i64.wrap (s8542 + 1)).toNat) 0 (v := (fun h : (Option Addr × Nat) => (fun a15783 c15784 => .agg #[.slice a15783 x15767.cells.length c15784, .bool x15767.wrapped]) h.1 h.2)) (idx_some h15768).2 rfl rfl rfl (fun _ => rfl)) rfl rfl rfl rfl rfl rfl ?_)
                                rintro ⟨a15783, c15784⟩
                                refine D.one rfl rfl rfl (Dp.a [] [1, 0] (Ac.call (c_row_Row_Same a15780 c15781 a15783 c15784 h15777) rfl rfl rfl rfl) rfl rfl rfl rfl rfl rfl ?_)
                                rintro ⟨⟩
                                refine D.q 40 rfl rfl rfl rfl rfl rfl ?_
                                refine D.q 41 rfl rfl rfl rfl rfl rfl ?_
                                refine D.q 42 rfl rfl rfl rfl rfl rfl ?_
                                refine D.nil rfl rfl ?_
                                have hr := Option.some.inj H15779
                                subst e15259
                                exact E.give ((), ()) [0, 0, 0, 3, 0, 0, 0] [4, 5, 6, 7, 8] trivial ⟨rfl, rfl, rfl, rfl, rfl, rfl, rfl, rfl, rfl, trivial⟩ rfl rfl
                              · refine Dp.a [0] [] (Ac.lo ((IntKind.i64.wrap (s8542 + 1)).toNat) 0 (v := (fun h : (Option Addr × Nat) => (fun a15787 c15788 => .agg #[.slice a15787 x15767.cells.length c15788, .bool x15767.wrapped]) h.1 h.2)) (idx_some h15768).2 rfl rfl rfl (fun _ => rfl)) rfl rfl rfl rfl rfl rfl ?_
                                rintro ⟨a15787, c15788⟩
                                refine D.one rfl rfl rfl (Dp.a [1] [] (Ac.lo s8542.toNat 0 (v := (fun h : (Option Addr × Nat) => (fun a15790 c15791 => .agg #[.slice a15790 x15764.cells.length c15791, .bool x15764.wrapped]) h.1 h.2)) (idx_some h15765).2 rfl rfl rfl (fun _ => rfl)) rfl rfl rfl rfl rfl rfl ?_)
                                rintro ⟨a15790, c15791⟩
                                refine D.one rfl rfl rfl (Dp.a [] [0, 1] (Ac.call (c_row_Row_Same a15790 c15791 a15787 c15788 h15777) rfl rfl rfl rfl) rfl rfl rfl rfl rfl rfl ?_)
                                rintro ⟨⟩
                                refine D.q 40 rfl rfl rfl rfl rfl rfl ?_
                                refine D.q 41 rfl rfl rfl rfl rfl rfl ?_
                                refine D.q 42 rfl rfl rfl rfl rfl rfl ?_
                                refine D.nil rfl rfl ?_
                                have hr := Option.some.inj H15779
                                subst e15259
                                exact E.give ((), ()) [0, 0, 0, 2, 0, 0, 0] [4, 5, 6, 7, 8] trivial ⟨rfl, rfl, rfl, rfl, rfl, rfl, rfl, rfl, rfl, trivial⟩ rfl rfl
                            · refine D.sk 30 rfl rfl rfl rfl rfl ?_
                              refine D.sk 31 rfl rfl rfl rfl rfl ?_
                              refine D.sk 32 rfl rfl rfl rfl rfl ?_
                              refine D.sk 33 rfl rfl rfl rfl rfl ?_
                              refine D.sk 34 rfl rfl rfl rfl rfl ?_
                              refine D.sk 35 rfl rfl rfl rfl rfl ?_
                              refine D.sk 36 rfl rfl rfl rfl rfl ?_
                              refine D.sk 37 rfl rfl rfl rfl rfl ?_
                              refine D.sk 38 rfl rfl rfl rfl rfl ?_
                              refine D.sk 39 rfl rfl rfl rfl rfl ?_
                              refine D.sk 40 rfl rfl rfl rfl rfl ?_
                              refine D.q 41 rfl rfl rfl rfl rfl rfl ?_
                              refine D.q 42 rfl rfl rfl rfl rfl rfl ?_
                              refine D.nil rfl rfl ?_
                              have hr := Option.some.inj H15763
                              subst e15259
                              exact E.give ((), ()) [0, 0, 0, 3, 0, 0, 0] [2, 3, 4, 5, 6] trivial ⟨rfl, rfl, rfl, rfl, rfl, rfl, rfl, rfl, rfl, trivial⟩ rfl rfl
                          · refine D.sk 25 rfl rfl rfl rfl rfl ?_
                            refine D.sk 26 rfl rfl rfl rfl rfl ?_
                            refine D.sk 27 rfl rfl rfl rfl rfl ?_
                            refine D.q 28 rfl rfl rfl rfl rfl rfl ?_
                            refine D.q 29 rfl rfl rfl rfl rfl rfl ?_
                            refine D.sk 30 rfl rfl rfl rfl rfl ?_
                            refine D.sk 31 rfl rfl rfl rfl rfl ?_
                            refine D.sk 32 rfl rfl rfl rfl rfl ?_
                            refine D.sk 33 rfl rfl rfl rfl rfl ?_
                            refine D.sk 34 rfl rfl rfl rfl rfl ?_
                            refine D.sk 35 rfl rfl rfl rfl rfl ?_
                            refine D.sk 36 rfl rfl rfl rfl rfl ?_
                            refine D.sk 37 rfl rfl rfl rfl rfl ?_
                            refine D.sk 38 rfl rfl rfl rfl rfl ?_
                            refine D.sk 39 rfl rfl rfl rfl rfl ?_
                            refine D.sk 40 rfl rfl rfl rfl rfl ?_
                            refine D.q 41 rfl rfl rfl rfl rfl rfl ?_
                            refine D.q 42 rfl rfl rfl rfl rfl rfl ?_
                            refine D.nil rfl rfl ?_
                            have hr := Option.some.inj H15762
                            subst e15259
                            exact E.give ((), ()) [0, 0, 0, 3, 0, 0, 0] [2, 3, 4, 5, 6] trivial ⟨rfl, rfl, rfl, rfl, rfl, rfl, rfl, rfl, rfl, trivial⟩ rfl rfl
                      · refine Dp.a [1] [] (Ac.lo s8542.toNat 0 (v := (fun h : (Option Addr × Nat) => (fun a15794 c15795 => .agg #[.slice a15794 x15706.cells.length c15795, .bool x15706.wrapped]) h.1 h.2)) (idx_some h15707).2 rfl rfl rfl (fun _ => rfl)) rfl rfl rfl rfl rfl rfl ?_
                        rintro ⟨a15794, c15795⟩
                        refine D.one rfl rfl rfl (Dp.a [1] [] (Ac.lo s8542.toNat 0 (v := (fun h : (Option Addr × Nat) => (fun a15797 c15798 => .agg #[.slice a15797 x15701.cells.length c15798, .bool x15701.wrapped]) h.1 h.2)) (idx_some h15702).2 rfl rfl rfl (fun _ => rfl)) rfl rfl rfl rfl rfl rfl ?_)
                        rintro ⟨a15797, c15798⟩
                        refine D.one rfl rfl rfl (Dp.a [] [0, 1] (Ac.call (c_row_Row_Same a15797 c15798 a15794 c15795 h15718) rfl rfl rfl rfl) rfl rfl rfl rfl rfl rfl ?_)
                        rintro ⟨⟩
                        refine D.q 18 rfl rfl rfl rfl rfl rfl ?_
                        refine D.q 19 rfl rfl rfl rfl rfl rfl ?_
                        refine D.q 20 rfl rfl rfl rfl rfl rfl ?_
                        refine D.cs 129 H15753 rfl (fun hc H15801 => ?_) (fun hc H15801 => ?_)
                        · refine D.sk 21 rfl rfl rfl rfl rfl ?_
                          refine D.sk 22 rfl rfl rfl rfl rfl ?_
                          refine D.sk 23 rfl rfl rfl rfl rfl ?_
                          refine D.sk 24 rfl rfl rfl rfl rfl ?_
                          refine D.sk 25 rfl rfl rfl rfl rfl ?_
                          refine D.sk 26 rfl rfl rfl rfl rfl ?_
                          refine D.sk 27 rfl rfl rfl rfl rfl ?_
                          refine D.sk 28 rfl rfl rfl rfl rfl ?_
                          refine D.sk 29 rfl rfl rfl rfl rfl ?_
                          refine D.sk 30 rfl rfl rfl rfl rfl ?_
                          refine D.sk 31 rfl rfl rfl rfl rfl ?_
                          refine D.sk 32 rfl rfl rfl rfl rfl ?_
                          refine D.sk 33 rfl rfl rfl rfl rfl ?_
                          refine D.sk 34 rfl rfl rfl rfl rfl ?_
                          refine D.sk 35 rfl rfl rfl rfl rfl ?_
                          refine D.sk 36 rfl rfl rfl rfl rfl ?_
                          refine D.sk 37 rfl rfl rfl rfl rfl ?_
                          refine D.sk 38 rfl rfl rfl rfl rfl ?_
                          refine D.sk 39 rfl rfl rfl rfl rfl ?_
                          refine D.sk 40 rfl rfl rfl rfl rfl ?_
                          refine D.sk 41 rfl rfl rfl rfl rfl ?_
                          refine D.q 42 rfl rfl rfl rfl rfl rfl ?_
                          refine D.nil rfl rfl ?_
                          have hr := Option.some.inj H15801
                          subst e15259
                          exact E.give ((), ()) [0, 0, 0, 2, 0, 0, 0] [2, 3, 4, 5, 6] trivial ⟨rfl, rfl, rfl, rfl, rfl, rfl, rfl, rfl, rfl, trivial⟩ rfl rfl
                        · refine D.q 21 rfl rfl rfl rfl rfl rfl ?_
                          refine D.q 22 rfl rfl rfl rfl rfl rfl ?_
                          refine D.q 23 rfl rfl rfl rfl rfl rfl ?_
                          refine D.q 24 rfl rfl rfl rfl rfl rfl ?_
                          refine D.cs 133 H15801 rfl (fun hc H15802 => ?_) (fun hc H15802 => ?_)
                          · refine D.q 25 rfl rfl rfl rfl rfl rfl ?_
                            refine D.q 26 rfl rfl rfl rfl rfl rfl ?_
                            refine D.q 27 rfl rfl rfl rfl rfl rfl ?_
                            refine D.q 28 rfl rfl rfl rfl rfl rfl ?_
                            refine D.q 29 rfl rfl rfl rfl rfl rfl ?_
                            refine D.cs 138 H15802 rfl (fun hc H15803 => ?_) (fun hc H15803 => ?_)
                            · refine D.q 30 rfl rfl rfl rfl rfl rfl ?_
                              refine D.q 31 rfl rfl rfl rfl rfl rfl ?_
                              obtain ⟨x15804, h15805, H15806⟩ := bnd H15803
                              refine D.y 32 (Yl.ia h15805 rfl rfl rfl rfl rfl rfl) rfl rfl rfl rfl rfl rfl ?_
                              refine D.q 34 rfl rfl rfl rfl rfl rfl ?_
                              refine D.q 35 rfl rfl rfl rfl rfl rfl ?_
                              refine D.q 36 rfl rfl rfl rfl rfl rfl ?_
                              obtain ⟨x15807, h15808, H15809⟩ := bnd H15806
                              refine D.y 37 (Yl.ia h15808 rfl rfl rfl rfl rfl rfl) rfl rfl rfl rfl rfl rfl ?_
                              obtain ⟨r15816, h15817, H15819⟩ := bnd H15809
                              refine D.two rfl rfl rfl ?_ ?_
                              · refine Dp.a [0] [] (Ac.lo s8542.toNat 0 (v := (fun h : (Option Addr × Nat) => (fun a15820 c15821 => .agg #[.slice a15820 x15804.cells.length c15821, .bool x15804.wrapped]) h.1 h.2)) (idx_some h15805).2 rfl rfl rfl (fun _ => rfl)) rfl rfl rfl rfl rfl rfl ?_
                                rintro ⟨a15820, c15821⟩
                                refine D.one rfl rfl rfl (Dp.a [1] [] (Ac.lo ((IntKind.i64.wrap (s8542 + 1)).toNat) 0 (v := (fun h : (Option Addr × Nat) => (fun a15823 c15824 => .agg #[.slice a15823 x15807.cells.length c15824, .bool x15807.wrapped]) h.1 h.2)) (idx_some h15808).2 rfl rfl rfl (fun _ => rfl)) rfl rfl rfl rfl rfl rfl ?_)
                                rintro ⟨a15823, c15824⟩
                                refine D.one rfl rfl rfl (Dp.a [] [1, 0] (Ac.call (c_row_Row_Same a15820 c15821 a15823 c15824 h15817) rfl rfl rfl rfl) rfl rfl rfl rfl rfl rfl ?_)
                                rintro ⟨⟩
                                refine D.q 40 rfl rfl rfl rfl rfl rfl ?_
                                refine D.q 41 rfl rfl rfl rfl rfl rfl ?_
                                refine D.q 42 rfl rfl rfl rfl rfl rfl ?_
                                refine D.nil rfl rfl ?_
                                have hr := Option.some.inj H15819
                                subst e15259
                                exact E.give ((), ()) [0, 0, 0, 3, 0, 0, 0] [4, 5, 6, 7, 8] trivial ⟨rfl, rfl, rfl, rfl, rfl, rfl, rfl, rfl, rfl, trivial⟩ rfl rfl
                              · refine Dp.a [1] [] (Ac.lo ((IntKind.i64.wrap (s8542 + 1)).toNat) 0 (v := (fun h : (Option Addr × Nat) => (fun a15827 c15828 => .agg #[.slice a15827 x15807.cells.length c15828, .bool x15807.wrapped]) h.1 h.2)) (idx_some h15808).2 rfl rfl rfl (fun _ => rfl)) rfl rfl rfl rfl rfl rfl ?_
                                rintro ⟨a15827, c15828⟩
                                refine D.one rfl rfl rfl (Dp.a [1] [] (Ac.lo s8542.toNat 0 (v := (fun h : (Option Addr × Nat) => (fun a15830 c15831 => .agg #[.slice a15830 x15804.cells.length c15831, .bool x15804.wrapped]) h.1 h.2)) (idx_some h15805).2 rfl rfl rfl (fun _ => rfl)) rfl rfl rfl rfl rfl rfl ?_)
                                rintro ⟨a15830, c15831⟩
                                refine D.one rfl rfl rfl (Dp.a [] [0, 1] (Ac.call (c_row_Row_Same a15830 c15831 a15827 c15828 h15817) rfl rfl rfl rfl) rfl rfl rfl rfl rfl rfl ?_)
                                rintro ⟨⟩
                                refine D.q 40 rfl rfl rfl rfl rfl rfl ?_
                                refine D.q 41 rfl rfl rfl rfl rfl rfl ?_
                                refine D.q 42 rfl rfl rfl rfl rfl rfl ?_
                                refine D.nil rfl rfl ?_
                                have hr := Option.some.inj H15819
                                subst e15259
                                exact E.give ((), ()) [0, 0, 0, 2, 0, 0, 0] [4, 5, 6, 7, 8] trivial ⟨rfl, rfl, rfl, rfl, rfl, rfl, rfl, rfl, rfl, trivial⟩ rfl rfl
                            · refine D.sk 30 rfl rfl rfl rfl rfl ?_
                              refine D.sk 31 rfl rfl rfl rfl rfl ?_
                              refine D.sk 32 rfl rfl rfl rfl rfl ?_
                              refine D.sk 33 rfl rfl rfl rfl rfl ?_
                              refine D.sk 34 rfl rfl rfl rfl rfl ?_
                              refine D.sk 35 rfl rfl rfl rfl rfl ?_
                              refine D.sk 36 rfl rfl rfl rfl rfl ?_
                              refine D.sk 37 rfl rfl rfl rfl rfl ?_
                              refine D.sk 38 rfl rfl rfl rfl rfl ?_
                              refine D.sk 39 rfl rfl rfl rfl rfl ?_
                              refine D.sk 40 rfl rfl rfl rfl rfl ?_
                              refine D.q 41 rfl rfl rfl rfl rfl rfl ?_
                              refine D.q 42 rfl rfl rfl rfl rfl rfl ?_
                              refine D.nil rfl rfl ?_
                              have hr := Option.some.inj H15803
                              subst e15259
                              exact E.give ((), ()) [0, 0, 0, 2, 0, 0, 0] [2, 3, 4, 5, 6] trivial ⟨rfl, rfl, rfl, rfl, rfl, rfl, rfl, rfl, rfl, trivial⟩ rfl rfl
                          · refine D.sk 25 rfl rfl rfl rfl rfl ?_
                            refine D.sk 26 rfl rfl rfl rfl rfl ?_
                            refine D.sk 27 rfl rfl rfl rfl rfl ?_
                            refine D.q 28 rfl rfl rfl rfl rfl rfl ?_
                            refine D.q 29 rfl rfl rfl rfl rfl rfl ?_
                            refine D.sk 30 rfl rfl rfl rfl rfl ?_
                            refine D.sk 31 rfl rfl rfl rfl rfl ?_
                            refine D.sk 32 rfl rfl rfl rfl rfl ?_
                            refine D.sk 33 rfl rfl rfl rfl rfl ?_
                            refine D.sk 34 rfl rfl rfl rfl rfl ?_
                            refine D.sk 35 rfl rfl rfl rfl rfl ?_
                            refine D.sk 36 rfl rfl rfl rfl rfl ?_
                            refine D.sk 37 rfl rfl rfl rfl rfl ?_
                            refine D.sk 38 rfl rfl rfl rfl rfl ?_
                            refine D.sk 39 rfl rfl rfl rfl rfl ?_
                            refine D.sk 40 rfl rfl rfl rfl rfl ?_
                            refine D.q 41 rfl rfl rfl rfl rfl rfl ?_
                            refine D.q 42 rfl rfl rfl rfl rfl rfl ?_
                            refine D.nil rfl rfl ?_
                            have hr := Option.some.inj H15802
                            subst e15259
                            exact E.give ((), ()) [0, 0, 0, 2, 0, 0, 0] [2, 3, 4, 5, 6] trivial ⟨rfl, rfl, rfl, rfl, rfl, rfl, rfl, rfl, rfl, trivial⟩ rfl rfl
                    · refine D.sk 9 rfl rfl rfl rfl rfl ?_
                      refine D.sk 10 rfl rfl rfl rfl rfl ?_
                      refine D.sk 11 rfl rfl rfl rfl rfl ?_
                      refine D.sk 12 rfl rfl rfl rfl rfl ?_
                      refine D.sk 13 rfl rfl rfl rfl rfl ?_
                      refine D.sk 14 rfl rfl rfl rfl rfl ?_
                      refine D.sk 15 rfl rfl rfl rfl rfl ?_
                      refine D.sk 16 rfl rfl rfl rfl rfl ?_
                      refine D.sk 17 rfl rfl rfl rfl rfl ?_
                      refine D.sk 18 rfl rfl rfl rfl rfl ?_
                      refine D.q 19 rfl rfl rfl rfl rfl rfl ?_
                      refine D.q 20 rfl rfl rfl rfl rfl rfl ?_
                      refine D.q 21 rfl rfl rfl rfl rfl rfl ?_
                      refine D.q 22 rfl rfl rfl rfl rfl rfl ?_
                      refine D.q 23 rfl rfl rfl rfl rfl rfl ?_
                      refine D.q 24 rfl rfl rfl rfl rfl rfl ?_
                      refine D.cs 133 H15700 rfl (fun hc H15834 => ?_) (fun hc H15834 => ?_)
                      · refine D.q 25 rfl rfl rfl rfl rfl rfl ?_
                        refine D.q 26 rfl rfl rfl rfl rfl rfl ?_
                        refine D.q 27 rfl rfl rfl rfl rfl rfl ?_
                        refine D.q 28 rfl rfl rfl rfl rfl rfl ?_
                        refine D.q 29 rfl rfl rfl rfl rfl rfl ?_
                        refine D.cs 138 H15834 rfl (fun hc H15835 => ?_) (fun hc H15835 => ?_)
                        · refine D.q 30 rfl rfl rfl rfl rfl rfl ?_
                          refine D.q 31 rfl rfl rfl rfl rfl rfl ?_
                          obtain ⟨x15836, h15837, H15838⟩ := bnd H15835
                          refine D.addro 5 rfl (idx_lt h15837) fun b15839 e15840 => ?_
                          obtain rfl : a1037 = some ⟨b15839, 0, none⟩ := e15840
                          refine D.y 32 (Yl.ia h15837 rfl rfl rfl rfl rfl rfl) rfl rfl rfl rfl rfl rfl ?_
                          refine D.q 34 rfl rfl rfl rfl rfl rfl ?_
                          refine D.q 35 rfl rfl rfl rfl rfl rfl ?_
                          refine D.q 36 rfl rfl rfl rfl rfl rfl ?_
                          obtain ⟨x15841, h15842, H15843⟩ := bnd H15838
                          refine D.addro 6 rfl (idx_lt h15842) fun b15844 e15845 => ?_
                          obtain rfl : a1023 = some ⟨b15844, 0, none⟩ := e15845
                          refine D.y 37 (Yl.ia h15842 rfl rfl rfl rfl rfl rfl) rfl rfl rfl rfl rfl rfl ?_
                          obtain ⟨r15852, h15853, H15855⟩ := bnd H15843
                          refine D.two rfl rfl rfl ?_ ?_
                          · refine Dp.a [0] [] (Ac.lo s8542.toNat 0 (v := (fun h : (Option Addr × Nat) => (fun a15856 c15857 => .agg #[.slice a15856 x15836.cells.length c15857, .bool x15836.wrapped]) h.1 h.2)) (idx_some h15837).2 rfl rfl rfl (fun _ => rfl)) rfl rfl rfl rfl rfl rfl ?_
                            rintro ⟨a15856, c15857⟩
                            refine D.one rfl rfl rfl (Dp.a [1] [] (Ac.lo ((IntKind.i64.wrap (s8542 + 1)).toNat) 0 (v := (fun h : (Option Addr × Nat) => (fun a15859 c15860 => .agg #[.slice a15859 x15841.cells.length c15860, .bool x15841.wrapped]) h.1 h.2)) (idx_some h15842).2 rfl rfl rfl (fun _ => rfl)) rfl rfl rfl rfl rfl rfl ?_)
                            rintro ⟨a15859, c15860⟩
                            refine D.one rfl rfl rfl (Dp.a [] [1, 0] (Ac.call (c_row_Row_Same a15856 c15857 a15859 c15860 h15853) rfl rfl rfl rfl) rfl rfl rfl rfl rfl rfl ?_)
                            rintro ⟨⟩
                            refine D.q 40 rfl rfl rfl rfl rfl rfl ?_
                            refine D.q 41 rfl rfl rfl rfl rfl rfl ?_
                            refine D.q 42 rfl rfl rfl rfl rfl rfl ?_
                            refine D.nil rfl rfl ?_
                            have hr := Option.some.inj H15855
                            subst e15259
                            exact E.give ((), ()) [0, 0, 0, 3, 0, 0, 0] [2, 3, 4, 5, 6] trivial ⟨rfl, rfl, rfl, rfl, rfl, rfl, rfl, rfl, rfl, trivial⟩ rfl rfl
                          · refine Dp.a [1] [] (Ac.lo ((IntKind.i64.wrap (s8542 + 1)).toNat) 0 (v := (fun h : (Option Addr × Nat) => (fun a15863 c15864 => .agg #[.slice a15863 x15841.cells.length c15864, .bool x15841.wrapped]) h.1 h.2)) (idx_some h15842).2 rfl rfl rfl (fun _ => rfl)) rfl rfl rfl rfl rfl rfl ?_
                            rintro ⟨a15863, c15864⟩
                            refine D.one rfl rfl rfl (Dp.a [1] [] (Ac.lo s8542.toNat 0 (v := (fun h : (Option Addr × Nat) => (fun a15866 c15867 => .agg #[.slice a15866 x15836.cells.length c15867, .bool x15836.wrapped]) h.1 h.2)) (idx_some h15837).2 rfl rfl rfl (fun _ => rfl)) rfl rfl rfl rfl rfl rfl ?_)
                            rintro ⟨a15866, c15867⟩
                            refine D.one rfl rfl rfl (Dp.a [] [0, 1] (Ac.call (c_row_Row_Same a15866 c15867 a15863 c15864 h15853) rfl rfl rfl rfl) rfl rfl rfl rfl rfl rfl ?_)
                            rintro ⟨⟩
                            refine D.q 40 rfl rfl rfl rfl rfl rfl ?_
                            refine D.q 41 rfl rfl rfl rfl rfl rfl ?_
                            refine D.q 42 rfl rfl rfl rfl rfl rfl ?_
                            refine D.nil rfl rfl ?_
                            have hr := Option.some.inj H15855
                            subst e15259
                            exact E.give ((), ()) [0, 0, 0, 2, 0, 0, 0] [2, 3, 4, 5, 6] trivial ⟨rfl, rfl, rfl, rfl, rfl, rfl, rfl, rfl, rfl, trivial⟩ rfl rfl
                        · refine D.sk 30 rfl rfl rfl rfl rfl ?_
                          refine D.sk 31 rfl rfl rfl rfl rfl ?_
                          refine D.sk 32 rfl rfl rfl rfl rfl ?_
                          refine D.sk 33 rfl rfl rfl rfl rfl ?_
                          refine D.sk 34 rfl rfl rfl rfl rfl ?_
                          refine D.sk 35 rfl rfl rfl rfl rfl ?_
                          refine D.sk 36 rfl rfl rfl rfl rfl ?_
                          refine D.sk 37 rfl rfl rfl rfl rfl ?_
                          refine D.sk 38 rfl rfl rfl rfl rfl ?_
                          refine D.sk 39 rfl rfl rfl rfl rfl ?_
                          refine D.sk 40 rfl rfl rfl rfl rfl ?_
                          refine D.q 41 rfl rfl rfl rfl rfl rfl ?_
                          refine D.q 42 rfl rfl rfl rfl rfl rfl ?_
                          refine D.nil rfl rfl ?_
                          have hr := Option.some.inj H15835
                          subst e15259
                          exact E.give ((), ()) [0, 0, 0, 2, 0, 0, 0] [0, 1, 2, 3, 4] trivial ⟨rfl, rfl, rfl, rfl, rfl, rfl, rfl, rfl, rfl, trivial⟩ rfl rfl
                      · refine D.sk 25 rfl rfl rfl rfl rfl ?_
                        refine D.sk 26 rfl rfl rfl rfl rfl ?_
                        refine D.sk 27 rfl rfl rfl rfl rfl ?_
                        refine D.q 28 rfl rfl rfl rfl rfl rfl ?_
                        refine D.q 29 rfl rfl rfl rfl rfl rfl ?_
                        refine D.sk 30 rfl rfl rfl rfl rfl ?_
                        refine D.sk 31 rfl rfl rfl rfl rfl ?_
                        refine D.sk 32 rfl rfl rfl rfl rfl ?_
                        refine D.sk 33 rfl rfl rfl rfl rfl ?_
                        refine D.sk 34 rfl rfl rfl rfl rfl ?_
                        refine D.sk 35 rfl rfl rfl rfl rfl ?_
                        refine D.sk 36 rfl rfl rfl rfl rfl ?_
                        refine D.sk 37 rfl rfl rfl rfl rfl ?_
                        refine D.sk 38 rfl rfl rfl rfl rfl ?_
                        refine D.sk 39 rfl rfl rfl rfl rfl ?_
                        refine D.sk 40 rfl rfl rfl rfl rfl ?_
                        refine D.q 41 rfl rfl rfl rfl rfl rfl ?_
                        refine D.q 42 rfl rfl rfl rfl rfl rfl ?_
                        refine D.nil rfl rfl ?_
                        have hr := Option.some.inj H15834
                        subst e15259
                        exact E.give ((), ()) [0, 0, 0, 2, 0, 0, 0] [0, 1, 2, 3, 4] trivial ⟨rfl, rfl, rfl, rfl, rfl, rfl, rfl, rfl, rfl, trivial⟩ rfl rfl
                · rintro ⟨_, ⟨⟩⟩ _
                  refine T.bif rfl H15261 (fun hc H15870 => ?_) (fun hc H15870 => ?_)
                  · refine T.seq ?_
                    refine T.region ?_
                    refine L.q 1 rfl ?_
                    refine L.nil ?_
                    refine E.then ?_
                    refine T.ret ?_
                    refine E.block_ret ?_
                    refine E.then_ret ?_
                    refine E.then_ret ?_
                    refine E.block_ret ?_
                    obtain ⟨w15871, hz, H15872⟩ := inrr_some H15870
                    subst z12208
                    have hb := hbr12210 _ rfl
                    subst y12204
                    have hw : w15871 = r := Option.some.inj H12206
                    subst w15871
                    refine E.then_ret ?_
                    have hr := Option.some.inj H15872
                    subst r
                    exact E.ret () [] [] (.tmp rfl .nil) rfl rfl rfl
                  · refine T.skip ?_
                    refine E.block ?_
                    refine E.then ?_
                    refine T.region ?_
                    refine L.q 2 rfl ?_
                    refine L.nil ?_
                    have hr := Option.some.inj H15870
                    subst z12208
                    exact E.give (_, ()) [0, 0, 0, 0, 0, 0, 0] [0, 1, 2, 3, 4] (hag12209 _ rfl) ⟨rfl, rfl, rfl, rfl, rfl, rfl, rfl, rfl, trivial⟩ rfl rfl
              · refine T.exit ?_
                refine E.then_exit' ?_
                refine E.then_exit' ?_
                refine E.block_here ?_
                have hr := Option.some.inj H12212
                subst z12208
                have hb := hbr12210 _ rfl
                subst y12204
                exact E.give (_, ()) [0, 0, 0, 1, 1] [0, 1, 2, 3, 4] rfl ⟨rfl, rfl, rfl, rfl, rfl, trivial⟩ rfl rfl
            · rintro ⟨e12203, ⟨⟩⟩ hy
              subst hy
              refine T.seq ?_
              refine T.region ?_
              refine L.q 3 rfl ?_
              obtain ⟨r15873, h15874, H15875⟩ := bnd H12206
              refine L.a [0, 2] [] (Ac.call (c_grid_Grid_Down g10 a771 c772 h15874) rfl rfl rfl rfl) rfl rfl rfl rfl rfl ?_
              rintro ⟨a15876, c15877⟩
              refine L.nil ?_
              refine E.then ?_
              refine T.seq ?_
              refine T.region ?_
              refine L.q 3 rfl ?_
              obtain ⟨x15880, h15881, H15882⟩ := bnd H15875
              refine L.addro 5 rfl (idx_lt h15881) fun b15883 e15884 => ?_
              obtain rfl : a1030 = some ⟨b15883, 0, none⟩ := e15884
              refine L.y (Yl.ia h15881 rfl rfl rfl rfl rfl rfl) rfl rfl rfl ?_
              refine L.a [5] [] (Ac.lo ((0 : Int).toNat) 0 (v := (fun h : (Option Addr × Nat) => (fun a15885 c15886 => .agg #[.slice a15885 x15880.cells.length c15886, .bool x15880.wrapped]) h.1 h.2)) (idx_some h15881).2 rfl rfl rfl (fun _ => rfl)) rfl rfl rfl rfl rfl ?_
              rintro ⟨a15885, c15886⟩
              obtain ⟨r15888, h15889, H15890⟩ := bnd H15882
              refine L.a [2, 2] [0] (Ac.call (c_grid_Grid_Set g10 a771 c772 a15885 c15886 h15889) rfl rfl rfl rfl) rfl rfl rfl rfl rfl ?_
              rintro ⟨⟩
              refine L.nil ?_
              refine E.then ?_
              refine T.seq ?_
              refine T.draw [] [2, 2, 2, 2] mo (by rfl) rfl ?_
              refine D.q 0 rfl rfl rfl rfl rfl rfl ?_
              refine D.q 2 rfl rfl rfl rfl rfl rfl ?_
              refine D.y 3 (Yl.ldb 2 rfl rfl rfl rfl) rfl rfl rfl rfl rfl rfl ?_
              obtain ⟨r15922, h15923, H15924⟩ := bnd H15890
              refine D.one rfl rfl rfl (Dp.a [0, 0] [] (Ac.call (c_grid_Grid_Rows g10 a771 c772 h15923) rfl rfl rfl rfl) rfl rfl rfl rfl rfl rfl ?_)
              rintro ⟨a15925, c15926⟩
              obtain ⟨r15929, h15930, H15931⟩ := bnd H15924
              refine D.one rfl rfl rfl (Dp.br (Ac.call (c_law10_Rows a15925 c15926 a767 c768 h15930) rfl rfl rfl rfl) (Bw.ch 4 rfl (Bw.im 1 rfl (Bw.nil))) rfl rfl rfl rfl ?_)
              intro _
              refine D.q 5 rfl rfl rfl rfl rfl rfl ?_
              refine D.nil rfl rfl ?_
              refine E.then ?_
              refine T.ret ?_
              have hr := Option.some.inj H15931
              subst r
              exact E.ret () [] [] (.tmp rfl .nil) rfl rfl rfl

end Go.Tw.X

set_option linter.unusedVariables false
set_option linter.unusedSimpArgs false
set_option maxRecDepth 10000
namespace Go.Tw.X
open Go Go.Tw
theorem c_grid_Grid_Clone {g : GridGrid} (g_0 : Nat) (a_0_0 : Option Addr) (c_0_0 : Nat) {r : GridGrid × GridGrid} (H : p_grid_Grid_Clone g = some r) : CT G 40 [.pointer (some ⟨g_0, 0, none⟩)] [Ch.box g_0 104 [.int .i64 g.w, .slice a_0_0 g.l.length c_0_0], Ch.arr tyRowRow 26 a_0_0 c_0_0 g.l] [] (fun h : Nat × (Option Addr × Nat) => .pointer (some ⟨h.1, 0, none⟩)) (fun h => [Ch.box h.1 104 [.int .i64 r.1.w, .slice h.2.1 r.1.l.length h.2.2], Ch.arr tyRowRow 26 h.2.1 h.2.2 r.1.l, Ch.box g_0 104 [.int .i64 r.2.w, .slice a_0_0 r.2.l.length c_0_0], Ch.arr tyRowRow 26 a_0_0 c_0_0 r.2.l]) (fun h => []) := by
  delta p_grid_Grid_Clone at H
  refine CT.of Go.Proofs.Tryd.func40 (by kernel_rfl) rfl rfl rfl fun K => ?_
  refine T.seq ?_
  refine T.region ?_
  refine L.q 1 rfl ?_
  refine L.nil ?_
  refine E.then ?_
  refine T.seq ?_
  refine T.draw [] [0] mo (by rfl) rfl ?_
  refine D.q 0 rfl rfl rfl rfl rfl rfl ?_
  refine D.q 1 rfl rfl rfl rfl rfl rfl ?_
  refine D.q 2 rfl rfl rfl rfl rfl rfl ?_
  refine D.y 3 (Yl.ldb 0 rfl rfl rfl rfl) rfl rfl rfl rfl rfl rfl ?_
  refine D.q 4 rfl rfl rfl rfl rfl rfl ?_
  refine D.q 5 rfl rfl rfl rfl rfl rfl ?_
  refine D.q 6 rfl rfl rfl rfl rfl rfl ?_
  refine D.y 7 (Yl.ldb 0 rfl rfl rfl rfl) rfl rfl rfl rfl rfl rfl ?_
  obtain ⟨r31, h32, H33⟩ := bnd H
  refine D.one rfl rfl rfl (Dp.a [0] [] (Ac.call (c_grid_copies_v2 a_0_0 c_0_0 h32) rfl rfl rfl rfl) rfl rfl rfl rfl rfl rfl ?_)
  rintro ⟨a34, c35⟩
  obtain ⟨_, h38, H39⟩ := bnd H33
  refine D.q 9 rfl rfl rfl rfl rfl rfl ?_
  refine D.one rfl rfl rfl (Dp.a [] [] (Ac.box rfl rfl) rfl rfl rfl rfl rfl rfl ?_)
  intro g40
  refine D.q 11 rfl rfl rfl rfl rfl rfl ?_
  refine D.nil rfl rfl ?_
  refine E.bx 0 (cs' := [.int .i64 g.w, .slice a_0_0 r31.2.length c_0_0]) (by rw [(chk_some h38)]) rfl ?_
  refine E.then ?_
  refine T.ret ?_
  have hr := Option.some.inj H39
  subst r
  exact E.ret (g40, (a34, c35)) [1, 1, 0, 0] [] (.tmp rfl .nil) rfl rfl rfl

theorem c_slices_EqualFunc_row_Row_Row_Same {s1_ : List RowRow} {s2_ : List RowRow} (a_0 : Option Addr) (c_0 : Nat) (a_1 : Option Addr) (c_1 : Nat) {r : Bool} (H : p_slices_EqualFunc_row_Row_Row_Same s1_ s2_ = some r) : CT G 74 [.slice a_0 s1_.length c_0, .slice a_1 s2_.length c_1, .func (.func 27) #[] #[]] [] [Im.sl tyRowRow a_0 c_0 s1_, Im.sl tyRowRow a_1 c_1 s2_] (fun h : Unit => .bool r) (fun h => []) (fun h => []) := by
  delta p_slices_EqualFunc_row_Row_Row_Same at H
  refine CT.of Go.Proofs.Tryd.func74 (by kernel_rfl) rfl rfl rfl fun K => ?_
  refine T.seq ?_
  refine T.region ?_
  refine L.q 1 rfl ?_
  refine L.nil ?_
  refine E.then ?_
  refine T.seq ?_
  refine T.seq ?_
  refine T.region ?_
  refine L.q 5 rfl ?_
  refine L.nil ?_
  refine E.then ?_
  refine T.bif rfl H (fun hc H2 => ?_) (fun hc H2 => ?_)
  · refine T.seq ?_
    refine T.region ?_
    refine L.q 1 rfl ?_
    refine L.nil ?_
    refine E.then ?_
    refine T.ret ?_
    refine E.then_ret ?_
    have hr := Option.some.inj H2
    subst r
    exact E.ret () [] [] (.tmp rfl .nil) rfl rfl rfl
  · refine T.skip ?_
    refine E.then ?_
    refine T.seq ?_
    refine T.seq ?_
    refine T.region ?_
    refine L.q 3 rfl ?_
    refine L.nil ?_
    refine E.then ?_
    obtain ⟨y170, H171, H172⟩ := bnd H2
    refine T.join (η := Unit × Unit) (fun h => y170 = .inl h.1) (fun h => (fun e169 => []) h.1) (fun h => (fun e169 => []) h.1) (fun h => (fun e169 => [Im.sl tyRowRow a_0 c_0 s1_, Im.sl tyRowRow a_1 c_1 s2_]) h.1) ?_ ?_
    · refine T.block ?_
      refine T.lp (η := Unit) (fun s114 h => [(1, .slice a_1 s2_.length c_1), (2, .func (.func 27) #[] #[]), (15, .slice a_0 s1_.length c_0), (16, .int .i64 (s1_.length : Int)), (17, .int .i64 s114)]) (fun s114 h => []) (fun s114 h => [Im.sl tyRowRow a_0 c_0 s1_, Im.sl tyRowRow a_1 c_1 s2_]) () [] [0, 1] H171 ⟨rfl, rfl, rfl, rfl, rfl, trivial⟩ rfl rfl ?_
      rintro k s114 ⟨⟩ z174 H173 hag175 hbr176
      refine T.seq ?_
      refine T.region ?_
      refine L.q 1 rfl ?_
      refine L.nil ?_
      refine E.then ?_
      refine T.seq ?_
      refine T.bif rfl H173 (fun hc H178 => ?_) (fun hc H178 => ?_)
      · refine T.skip ?_
        refine E.then ?_
        refine T.seq ?_
        refine T.block ?_
        refine T.seq ?_
        refine T.region ?_
        refine L.q 1 rfl ?_
        obtain ⟨x205, h206, H207⟩ := bnd H178
        refine L.addr 0 rfl (idx_lt h206) fun b208 o209 e210 => ?_
        obtain rfl : a_0 = some ⟨b208, o209, none⟩ := e210
        refine L.y (Yl.ia h206 rfl rfl rfl rfl rfl rfl) rfl rfl rfl ?_
        refine L.el 0 rfl (idx_some h206).2 ?_
        rintro ⟨a211, c212⟩
        refine L.y (Yl.ldc 0 0 rfl rfl rfl rfl) rfl rfl rfl ?_
        refine L.a [] [] (Ac.alloc rfl rfl) rfl rfl rfl rfl rfl ?_
        intro g215
        refine L.q 1 rfl ?_
        refine L.a [0] [] (Ac.stb rfl rfl rfl rfl rfl rfl) rfl rfl rfl rfl rfl ?_
        intro _
        refine L.nil ?_
        refine E.then ?_
        refine T.seq ?_
        refine T.region ?_
        refine L.q 2 rfl ?_
        obtain ⟨x216, h217, H218⟩ := bnd H207
        refine L.addr 3 rfl (idx_lt h217) fun b219 o220 e221 => ?_
        obtain rfl : a_1 = some ⟨b219, o220, none⟩ := e221
        refine L.y (Yl.ia h217 rfl rfl rfl rfl rfl rfl) rfl rfl rfl ?_
        refine L.el 3 rfl (idx_some h217).2 ?_
        rintro ⟨a222, c223⟩
        refine L.y (Yl.ldc 0 0 rfl rfl rfl rfl) rfl rfl rfl ?_
        refine L.a [] [] (Ac.alloc rfl rfl) rfl rfl rfl rfl rfl ?_
        intro g226
        refine L.a [0] [] (Ac.stb rfl rfl rfl rfl rfl rfl) rfl rfl rfl rfl rfl ?_
        intro _
        refine L.nil ?_
        refine E.then ?_
        refine T.seq ?_
        refine T.region ?_
        refine L.q 1 rfl ?_
        refine L.y (Yl.ldb 1 rfl rfl rfl rfl) rfl rfl rfl ?_
        refine L.y (Yl.ldb 0 rfl rfl rfl rfl) rfl rfl rfl ?_
        obtain ⟨r227, h228, H229⟩ := bnd H218
        refine L.a [] [3, 1] (Ac.call (c_row_Row_Same a211 c212 a222 c223 h228) rfl rfl rfl rfl) rfl rfl rfl rfl rfl ?_
        rintro ⟨⟩
        refine L.q 1 rfl ?_
        refine L.nil ?_
        refine E.then ?_
        refine T.bif rfl H229 (fun hc H230 => ?_) (fun hc H230 => ?_)
        · refine T.seq ?_
          refine T.region ?_
          refine L.q 1 rfl ?_
          refine L.nil ?_
          refine E.then ?_
          refine T.ret ?_
          refine E.block_ret ?_
          refine E.then_ret ?_
          refine E.then_ret ?_
          refine E.block_ret ?_
          obtain ⟨w231, hz, H232⟩ := inrr_some H230
          subst z174
          have hb := hbr176 _ rfl
          subst y170
          have hw : w231 = r := Option.some.inj H172
          subst w231
          refine E.then_ret ?_
          have hr := Option.some.inj H232
          subst r
          exact E.ret () [] [] (.tmp rfl .nil) rfl rfl rfl
        · refine T.skip ?_
          refine E.block ?_
          refine E.then ?_
          refine T.region ?_
          refine L.q 2 rfl ?_
          refine L.nil ?_
          have hr := Option.some.inj H230
          subst z174
          exact E.give (_, ()) [] [4, 5] (hag175 _ rfl) ⟨rfl, rfl, rfl, rfl, rfl, trivial⟩ rfl rfl
      · refine T.exit ?_
        refine E.then_exit' ?_
        refine E.then_exit' ?_
        refine E.block_here ?_
        have hr := Option.some.inj H178
        subst z174
        have hb := hbr176 _ rfl
        subst y170
        exact E.give (_, ()) [] [0, 1] rfl trivial rfl rfl
    · rintro ⟨e169, ⟨⟩⟩ hy
      subst hy
      refine T.seq ?_
      refine T.region ?_
      refine L.q 1 rfl ?_
      refine L.nil ?_
      refine E.then ?_
      refine T.ret ?_
      have hr := Option.some.inj H172
      subst r
      exact E.ret () [] [] (.tmp rfl .nil) rfl rfl rfl

theorem c_grid_Grid_Same {g : GridGrid} {h_ : GridGrid} (g_0 : Nat) (a_0_0 : Option Addr) (c_0_0 : Nat) (g_1 : Nat) (a_1_0 : Option Addr) (c_1_0 : Nat) {r : Bool} (H : p_grid_Grid_Same g h_ = some r) : CT G 41 [.pointer (some ⟨g_0, 0, none⟩), .pointer (some ⟨g_1, 0, none⟩)] [Ch.box g_0 104 [.int .i64 g.w, .slice a_0_0 g.l.length c_0_0], Ch.arr tyRowRow 26 a_0_0 c_0_0 g.l, Ch.box g_1 104 [.int .i64 h_.w, .slice a_1_0 h_.l.length c_1_0], Ch.arr tyRowRow 26 a_1_0 c_1_0 h_.l] [] (fun h : Unit => .bool r) (fun h => [Ch.box g_0 104 [.int .i64 g.w, .slice a_0_0 g.l.length c_0_0], Ch.arr tyRowRow 26 a_0_0 c_0_0 g.l, Ch.box g_1 104 [.int .i64 h_.w, .slice a_1_0 h_.l.length c_1_0], Ch.arr tyRowRow 26 a_1_0 c_1_0 h_.l]) (fun h => []) := by
  delta p_grid_Grid_Same at H
  refine CT.of Go.Proofs.Tryd.func41 (by kernel_rfl) rfl rfl rfl fun K => ?_
  refine T.seq ?_
  refine T.region ?_
  refine L.q 1 rfl ?_
  refine L.nil ?_
  refine E.then ?_
  refine T.seq ?_
  obtain ⟨e18, H19, H20⟩ := bnd H
  refine T.join (η := Unit × Unit) (fun h => True) (fun h => [(4, .bool e18)]) (fun h => [Ch.box g_0 104 [.int .i64 g.w, .slice a_0_0 g.l.length c_0_0], Ch.box g_1 104 [.int .i64 h_.w, .slice a_1_0 h_.l.length c_1_0], Ch.arr tyRowRow 26 a_0_0 c_0_0 g.l, Ch.arr tyRowRow 26 a_1_0 c_1_0 h_.l]) (fun h => []) ?_ ?_
  · refine T.draw [] [0, 0, 0, 0] mo (by rfl) rfl ?_
    refine D.q 0 rfl rfl rfl rfl rfl rfl ?_
    refine D.q 1 rfl rfl rfl rfl rfl rfl ?_
    refine D.q 2 rfl rfl rfl rfl rfl rfl ?_
    refine D.y 3 (Yl.ldb 0 rfl rfl rfl rfl) rfl rfl rfl rfl rfl rfl ?_
    refine D.q 4 rfl rfl rfl rfl rfl rfl ?_
    refine D.q 5 rfl rfl rfl rfl rfl rfl ?_
    refine D.q 6 rfl rfl rfl rfl rfl rfl ?_
    refine D.y 7 (Yl.ldb 2 rfl rfl rfl rfl) rfl rfl rfl rfl rfl rfl ?_
    refine D.q 8 rfl rfl rfl rfl rfl rfl ?_
    refine D.q 9 rfl rfl rfl rfl rfl rfl ?_
    refine D.cs 14 H19 rfl (fun hc H25 => ?_) (fun hc H25 => ?_)
    · refine D.q 10 rfl rfl rfl rfl rfl rfl ?_
      refine D.q 11 rfl rfl rfl rfl rfl rfl ?_
      refine D.q 12 rfl rfl rfl rfl rfl rfl ?_
      refine D.y 13 (Yl.ldb 0 rfl rfl rfl rfl) rfl rfl rfl rfl rfl rfl ?_
      refine D.q 14 rfl rfl rfl rfl rfl rfl ?_
      refine D.q 15 rfl rfl rfl rfl rfl rfl ?_
      refine D.q 16 rfl rfl rfl rfl rfl rfl ?_
      refine D.y 17 (Yl.ldb 2 rfl rfl rfl rfl) rfl rfl rfl rfl rfl rfl ?_
      obtain ⟨r26, h27, H28⟩ := bnd H25
      refine D.one rfl rfl rfl (Dp.br (Ac.call (c_slices_EqualFunc_row_Row_Row_Same a_0_0 c_0_0 a_1_0 c_1_0 h27) rfl rfl rfl rfl) (Bw.ch 1 rfl (Bw.ch 3 rfl (Bw.nil))) rfl rfl rfl rfl ?_)
      intro _
      refine D.q 19 rfl rfl rfl rfl rfl rfl ?_
      refine D.q 20 rfl rfl rfl rfl rfl rfl ?_
      refine D.nil rfl rfl ?_
      have hr := Option.some.inj H28
      subst e18
      exact E.give ((), ()) [0, 1, 0, 0] [] trivial ⟨rfl, trivial⟩ rfl rfl
    · refine D.sk 10 rfl rfl rfl rfl rfl ?_
      refine D.sk 11 rfl rfl rfl rfl rfl ?_
      refine D.sk 12 rfl rfl rfl rfl rfl ?_
      refine D.sk 13 rfl rfl rfl rfl rfl ?_
      refine D.sk 14 rfl rfl rfl rfl rfl ?_
      refine D.sk 15 rfl rfl rfl rfl rfl ?_
      refine D.sk 16 rfl rfl rfl rfl rfl ?_
      refine D.sk 17 rfl rfl rfl rfl rfl ?_
      refine D.sk 18 rfl rfl rfl rfl rfl ?_
      refine D.q 19 rfl rfl rfl rfl rfl rfl ?_
      refine D.q 20 rfl rfl rfl rfl rfl rfl ?_
      refine D.nil rfl rfl ?_
      have hr := Option.some.inj H25
      subst e18
      exact E.give ((), ()) [0, 1, 0, 0] [] trivial ⟨rfl, trivial⟩ rfl rfl
  · rintro ⟨_, ⟨⟩⟩ _
    refine T.ret ?_
    have hr := Option.some.inj H20
    subst r
    exact E.ret () [0, 1, 0, 0] [] (.tmp rfl .nil) rfl rfl rfl

theorem c_law10_GridSteps {acts : List Law10Act} {a : Law10Act} {n_ : Int} (a_0 : Option Addr) (c_0 : Nat) {r : Bool} (H : p_law10_GridSteps acts a n_ = some r) : CT G 10 [.slice a_0 acts.length c_0, .agg #[.int .i64 a.kind, .int .i64 a.y, .int .i64 a.top, .int .i64 a.bottom, .int .i64 a.n, .int .i64 a.style, .int .i64 a.w, .int .i64 a.h, .int .i64 a.row.kind, .int .i64 a.row.at_, .int .i64 a.row.n, .int .i64 a.row.style, .int .i32 a.row.rune], .int .i64 n_] [] [Im.sl tyLaw10Act a_0 c_0 acts, Im.sl tyWideSpan (some ⟨0, 0, none⟩) 13 t_wide_nones, Im.sl tyWideSpan (some ⟨1, 0, none⟩) 14 t_wide_twos] (fun h : Unit => .bool r) (fun h => []) (fun h => []) := by
  delta p_law10_GridSteps at H
  refine CT.of Go.Proofs.Tryd.func10 (by kernel_rfl) rfl rfl rfl fun K => ?_
  refine T.seq ?_
  refine T.region ?_
  refine L.a [] [] (Ac.box rfl rfl) rfl rfl rfl rfl rfl ?_
  intro g1
  refine L.q 1 rfl ?_
  refine L.nil ?_
  refine E.then ?_
  refine T.seq ?_
  refine T.seq ?_
  refine T.region ?_
  obtain ⟨r2, h3, H4⟩ := bnd H
  refine L.a [] [1, 2] (Ac.call (c_law10_awake h3) rfl rfl rfl rfl) rfl rfl rfl rfl rfl ?_
  rintro ⟨⟩
  refine L.q 1 rfl ?_
  refine L.nil ?_
  refine E.then ?_
  refine T.bif rfl H4 (fun hc H6 => ?_) (fun hc H6 => ?_)
  · refine T.seq ?_
    refine T.region ?_
    refine L.q 1 rfl ?_
    refine L.nil ?_
    refine E.then ?_
    refine T.ret ?_
    refine E.then_ret ?_
    have hr := Option.some.inj H6
    subst r
    exact E.ret () [] [] (.tmp rfl .nil) rfl rfl rfl
  · refine T.skip ?_
    refine E.then ?_
    refine T.seq ?_
    refine T.region ?_
    obtain ⟨r7, h8, H9⟩ := bnd H6
    refine L.a [] [] (Ac.call (c_grid_New h8) rfl rfl rfl rfl) rfl rfl rfl rfl rfl ?_
    rintro ⟨g10, ⟨a11, c12⟩⟩
    obtain ⟨r14, h15, H16⟩ := bnd H9
    refine L.a [] [] (Ac.call (c_ref10_New h15) rfl rfl rfl rfl) rfl rfl rfl rfl rfl ?_
    rintro ⟨a17, c18⟩
    refine L.a [] [] (Ac.alloc rfl rfl) rfl rfl rfl rfl rfl ?_
    intro g20
    refine L.q 1 rfl ?_
    refine L.a [0] [] (Ac.stb rfl rfl rfl rfl rfl rfl) rfl rfl rfl rfl rfl ?_
    intro _
    refine L.nil ?_
    refine E.then ?_
    refine T.seq ?_
    refine T.seq ?_
    refine T.region ?_
    refine L.q 1 rfl ?_
    refine L.y (Yl.pn rfl rfl rfl rfl rfl rfl) rfl rfl rfl ?_
    refine L.nil ?_
    refine E.then ?_
    refine T.cond rfl (fun h => nomatch h) (fun _ => ?_)
    refine T.skip ?_
    refine E.then ?_
    refine T.seq ?_
    refine T.seq ?_
    refine T.region ?_
    refine L.q 1 rfl ?_
    refine L.nil ?_
    refine E.then ?_
    obtain ⟨e774, H775, H776⟩ := bnd H16
    refine T.join (η := Unit × ((Option Addr × Nat) × (Option Addr × Nat))) (fun h => True) (fun h => (fun a767 c768 a771 c772 => [(2, .int .i64 n_), (4, .pointer (some ⟨g1, 0, none⟩)), (7, .pointer (some ⟨g10, 0, none⟩))]) h.2.1.1 h.2.1.2 h.2.2.1 h.2.2.2) (fun h => (fun a767 c768 a771 c772 => [Ch.arr tyRowRow 26 a771 c772 e774.2.l, Ch.box g20 59 [.int .i64 e774.1.w, .slice a767 e774.1.l.length c768], Ch.box g10 104 [.int .i64 e774.2.w, .slice a771 e774.2.l.length c772], Ch.box g1 64 [.int .i64 a.kind, .int .i64 a.y, .int .i64 a.top, .int .i64 a.bottom, .int .i64 a.n, .int .i64 a.style, .int .i64 a.w, .int .i64 a.h, .int .i64 a.row.kind, .int .i64 a.row.at_, .int .i64 a.row.n, .int .i64 a.row.style, .int .i32 a.row.rune]]) h.2.1.1 h.2.1.2 h.2.2.1 h.2.2.2) (fun h => (fun a767 c768 a771 c772 => [Im.sl tyRef09Row a767 c768 e774.1.l, Im.sl tyRef09Row a17 c18 r14.l, Im.sl tyLaw10Act a_0 c_0 acts, Im.sl tyWideSpan (some ⟨0, 0, none⟩) 13 t_wide_nones, Im.sl tyWideSpan (some ⟨1, 0, none⟩) 14 t_wide_twos]) h.2.1.1 h.2.1.2 h.2.2.1 h.2.2.2) ?_ ?_
    · refine T.block ?_
      refine T.lp (η := (Option Addr × Nat) × (Option Addr × Nat)) (fun s526 h => (fun a518 c519 a522 c523 => [(0, .slice a_0 acts.length c_0), (2, .int .i64 n_), (4, .pointer (some ⟨g1, 0, none⟩)), (7, .pointer (some ⟨g10, 0, none⟩)), (8, .pointer (some ⟨g20, 0, none⟩)), (9, .int .i64 s526.2.2)]) h.1.1 h.1.2 h.2.1 h.2.2) (fun s526 h => (fun a518 c519 a522 c523 => [Ch.arr tyRowRow 26 a518 c519 s526.1.l, Ch.box g20 59 [.int .i64 s526.2.1.w, .slice a522 s526.2.1.l.length c523], Ch.box g10 104 [.int .i64 s526.1.w, .slice a518 s526.1.l.length c519], Ch.box g1 64 [.int .i64 a.kind, .int .i64 a.y, .int .i64 a.top, .int .i64 a.bottom, .int .i64 a.n, .int .i64 a.style, .int .i64 a.w, .int .i64 a.h, .int .i64 a.row.kind, .int .i64 a.row.at_, .int .i64 a.row.n, .int .i64 a.row.style, .int .i32 a.row.rune]]) h.1.1 h.1.2 h.2.1 h.2.2) (fun s526 h => (fun a518 c519 a522 c523 => [Im.sl tyRef09Row a522 c523 s526.2.1.l, Im.sl tyRef09Row a17 c18 r14.l, Im.sl tyLaw10Act a_0 c_0 acts, Im.sl tyWideSpan (some ⟨0, 0, none⟩) 13 t_wide_nones, Im.sl tyWideSpan (some ⟨1, 0, none⟩) 14 t_wide_twos]) h.1.1 h.1.2 h.2.1 h.2.2) ((a11, c12), (a17, c18)) [2, 0, 0, 0] [0, 0, 1, 2, 3] H775 ⟨rfl, rfl, rfl, rfl, rfl, rfl, trivial⟩ rfl rfl ?_
      rintro k s526 ⟨⟨a518, c519⟩, ⟨a522, c523⟩⟩ z778 H777 hag779 hbr780
      refine T.seq ?_
      refine T.seq ?_
      obtain ⟨e784, H785, H786⟩ := bnd H777
      refine T.join (η := Unit × Unit) (fun h => True) (fun h => [(0, .slice a_0 acts.length c_0), (2, .int .i64 n_), (4, .pointer (some ⟨g1, 0, none⟩)), (7, .pointer (some ⟨g10, 0, none⟩)), (8, .pointer (some ⟨g20, 0, none⟩)), (9, .int .i64 s526.2.2), (27, .bool e784)]) (fun h => [Ch.box g20 59 [.int .i64 s526.2.1.w, .slice a522 s526.2.1.l.length c523], Ch.box g10 104 [.int .i64 s526.1.w, .slice a518 s526.1.l.length c519], Ch.box g1 64 [.int .i64 a.kind, .int .i64 a.y, .int .i64 a.top, .int .i64 a.bottom, .int .i64 a.n, .int .i64 a.style, .int .i64 a.w, .int .i64 a.h, .int .i64 a.row.kind, .int .i64 a.row.at_, .int .i64 a.row.n, .int .i64 a.row.style, .int .i32 a.row.rune], Ch.arr tyRowRow 26 a518 c519 s526.1.l]) (fun h => [Im.sl tyRef09Row a522 c523 s526.2.1.l, Im.sl tyRef09Row a17 c18 r14.l, Im.sl tyLaw10Act a_0 c_0 acts, Im.sl tyWideSpan (some ⟨0, 0, none⟩) 13 t_wide_nones, Im.sl tyWideSpan (some ⟨1, 0, none⟩) 14 t_wide_twos]) ?_ ?_
      · refine T.region ?_
        refine L.q 5 rfl ?_
        refine L.cs 24 H785 rfl (fun hc H787 => ?_) (fun hc H787 => ?_)
        · refine L.q 3 rfl ?_
          refine L.nil ?_
          have hr := Option.some.inj H787
          subst e784
          exact E.give ((), ()) [1, 1, 1, 0] [0, 1, 2, 3, 4] trivial ⟨rfl, rfl, rfl, rfl, rfl, rfl, rfl, trivial⟩ rfl rfl
        · refine L.q 3 rfl ?_
          refine L.nil ?_
          have hr := Option.some.inj H787
          subst e784
          exact E.give ((), ()) [1, 1, 1, 0] [0, 1, 2, 3, 4] trivial ⟨rfl, rfl, rfl, rfl, rfl, rfl, rfl, trivial⟩ rfl rfl
      · rintro ⟨_, ⟨⟩⟩ _
        refine T.bif rfl H786 (fun hc H789 => ?_) (fun hc H789 => ?_)
        · refine T.skip ?_
          refine E.then ?_
          refine T.seq ?_
          obtain ⟨e944, H945, H946⟩ := bnd H789
          refine T.join (η := Unit × ((Option Addr × Nat) × (Option Addr × Nat))) (fun h => True) (fun h => (fun a937 c938 a941 c942 => [(0, .slice a_0 acts.length c_0), (2, .int .i64 n_), (4, .pointer (some ⟨g1, 0, none⟩)), (7, .pointer (some ⟨g10, 0, none⟩)), (8, .pointer (some ⟨g20, 0, none⟩)), (9, .int .i64 s526.2.2)]) h.2.1.1 h.2.1.2 h.2.2.1 h.2.2.2) (fun h => (fun a937 c938 a941 c942 => [Ch.arr tyRowRow 26 a941 c942 e944.2.l, Ch.box g20 59 [.int .i64 e944.1.w, .slice a937 e944.1.l.length c938], Ch.box g10 104 [.int .i64 e944.2.w, .slice a941 e944.2.l.length c942], Ch.box g1 64 [.int .i64 a.kind, .int .i64 a.y, .int .i64 a.top, .int .i64 a.bottom, .int .i64 a.n, .int .i64 a.style, .int .i64 a.w, .int .i64 a.h, .int .i64 a.row.kind, .int .i64 a.row.at_, .int .i64 a.row.n, .int .i64 a.row.style, .int .i32 a.row.rune]]) h.2.1.1 h.2.1.2 h.2.2.1 h.2.2.2) (fun h => (fun a937 c938 a941 c942 => [Im.sl tyRef09Row a937 c938 e944.1.l, Im.sl tyRef09Row a522 c523 s526.2.1.l, Im.sl tyRef09Row a17 c18 r14.l, Im.sl tyLaw10Act a_0 c_0 acts, Im.sl tyWideSpan (some ⟨0, 0, none⟩) 13 t_wide_nones, Im.sl tyWideSpan (some ⟨1, 0, none⟩) 14 t_wide_twos]) h.2.1.1 h.2.1.2 h.2.2.1 h.2.2.2) ?_ ?_
          · refine T.block ?_
            refine T.seq ?_
            obtain ⟨e972, H973, H974⟩ := bnd H945
            refine T.join (η := Unit × Unit) (fun h => True) (fun h => [(0, .slice a_0 acts.length c_0), (2, .int .i64 n_), (4, .pointer (some ⟨g1, 0, none⟩)), (7, .pointer (some ⟨g10, 0, none⟩)), (8, .pointer (some ⟨g20, 0, none⟩)), (9, .int .i64 s526.2.2), (43, .bool e972)]) (fun h => [Ch.box g20 59 [.int .i64 s526.2.1.w, .slice a522 s526.2.1.l.length c523], Ch.box g10 104 [.int .i64 s526.1.w, .slice a518 s526.1.l.length c519], Ch.box g1 64 [.int .i64 a.kind, .int .i64 a.y, .int .i64 a.top, .int .i64 a.bottom, .int .i64 a.n, .int .i64 a.style, .int .i64 a.w, .int .i64 a.h, .int .i64 a.row.kind, .int .i64 a.row.at_, .int .i64 a.row.n, .int .i64 a.row.style, .int .i32 a.row.rune], Ch.arr tyRowRow 26 a518 c519 s526.1.l]) (fun h => [Im.sl tyRef09Row a522 c523 s526.2.1.l, Im.sl tyRef09Row a17 c18 r14.l, Im.sl tyLaw10Act a_0 c_0 acts, Im.sl tyWideSpan (some ⟨0, 0, none⟩) 13 t_wide_nones, Im.sl tyWideSpan (some ⟨1, 0, none⟩) 14 t_wide_twos]) ?_ ?_
            · refine T.region ?_
              refine L.q 2 rfl ?_
              obtain ⟨x975, h976, H977⟩ := bnd H973
              refine L.addr 2 rfl (idx_lt h976) fun b978 o979 e980 => ?_
              obtain rfl : a_0 = some ⟨b978, o979, none⟩ := e980
              refine L.y (Yl.ia h976 rfl rfl rfl rfl rfl rfl) rfl rfl rfl ?_
              refine L.el 2 rfl (idx_some h976).2 ?_
              rintro _
              refine L.q 1 rfl ?_
              refine L.y (Yl.ldc 0 0 rfl rfl rfl rfl) rfl rfl rfl ?_
              refine L.q 2 rfl ?_
              refine L.cs 36 H977 rfl (fun hc H982 => ?_) (fun hc H982 => ?_)
              · refine L.q 2 rfl ?_
                obtain ⟨x983, h984, H985⟩ := bnd H982
                refine L.y (Yl.ia h984 rfl rfl rfl rfl rfl rfl) rfl rfl rfl ?_
                refine L.el 3 rfl (idx_some h984).2 ?_
                rintro _
                refine L.q 1 rfl ?_
                refine L.y (Yl.ldc 0 0 rfl rfl rfl rfl) rfl rfl rfl ?_
                refine L.q 2 rfl ?_
                refine L.nil ?_
                have hr := Option.some.inj H985
                subst e972
                exact E.give ((), ()) [0, 0, 0, 0] [2, 3, 4, 5, 6] trivial ⟨rfl, rfl, rfl, rfl, rfl, rfl, rfl, trivial⟩ rfl rfl
              · refine L.q 7 rfl ?_
                refine L.nil ?_
                have hr := Option.some.inj H982
                subst e972
                exact E.give ((), ()) [0, 0, 0, 0] [1, 2, 3, 4, 5] trivial ⟨rfl, rfl, rfl, rfl, rfl, rfl, rfl, trivial⟩ rfl rfl
            · rintro ⟨_, ⟨⟩⟩ _
              refine T.bif rfl H974 (fun hc H987 => ?_) (fun hc H987 => ?_)
              · refine T.draw [10] [0, 1] mo (by rfl) rfl ?_
                refine D.q 0 rfl rfl rfl rfl rfl rfl ?_
                refine D.y 1 (Yl.ldb 0 rfl rfl rfl rfl) rfl rfl rfl rfl rfl rfl ?_
                refine D.q 2 rfl rfl rfl rfl rfl rfl ?_
                refine D.q 3 rfl rfl rfl rfl rfl rfl ?_
                obtain ⟨x1004, h1005, H1006⟩ := bnd H987
                refine D.addr 2 rfl (idx_lt h1005) fun b1007 o1008 e1009 => ?_
                obtain rfl : a_0 = some ⟨b1007, o1008, none⟩ := e1009
                refine D.y 4 (Yl.ia h1005 rfl rfl rfl rfl rfl rfl) rfl rfl rfl rfl rfl rfl ?_
                refine D.el 2 rfl (idx_some h1005).2 ?_
                rintro _
                refine D.y 5 (Yl.ldc 0 0 rfl rfl rfl rfl) rfl rfl rfl rfl rfl rfl ?_
                obtain ⟨r1011, h1012, H1013⟩ := bnd H1006
                refine D.one rfl rfl rfl (Dp.a [0, 0] [1, 4, 5] (Ac.call (c_law10_do g10 a518 c519 a522 c523 h1012) rfl rfl rfl rfl) rfl rfl rfl rfl rfl rfl ?_)
                rintro ⟨⟨a1014, c1015⟩, ⟨a1016, c1017⟩⟩
                refine D.q 7 rfl rfl rfl rfl rfl rfl ?_
                refine D.q 8 rfl rfl rfl rfl rfl rfl ?_
                refine D.q 9 rfl rfl rfl rfl rfl rfl ?_
                refine D.one rfl rfl rfl (Dp.al [0] [] (Ac.stb rfl rfl rfl rfl rfl rfl) rfl rfl rfl rfl rfl rfl rfl ?_)
                intro _
                refine D.nil rfl rfl ?_
                refine E.block ?_
                have hr := Option.some.inj H1013
                subst e944
                exact E.give ((), ((a1014, c1015), (a1016, c1017))) [3, 0, 1, 0] [0, 2, 3, 4, 5, 6] trivial ⟨rfl, rfl, rfl, rfl, rfl, rfl, trivial⟩ rfl rfl
              · refine T.skip ?_
                refine E.block ?_
                have hr := Option.some.inj H987
                subst e944
                exact E.give ((), ((a522, c523), (a518, c519))) [3, 0, 0, 0] [0, 0, 1, 2, 3, 4] trivial ⟨rfl, rfl, rfl, rfl, rfl, rfl, trivial⟩ rfl rfl
          · rintro ⟨_, ⟨⟨a937, c938⟩, ⟨a941, c942⟩⟩⟩ _
            refine T.region ?_
            refine L.q 3 rfl ?_
            refine L.nil ?_
            have hr := Option.some.inj H946
            subst z778
            exact E.give (_, ((a941, c942), (a937, c938))) [0, 0, 0, 0] [0, 2, 3, 4, 5] (hag779 _ rfl) ⟨rfl, rfl, rfl, rfl, rfl, rfl, trivial⟩ rfl rfl
        · refine T.exit ?_
          refine E.then_exit' ?_
          refine E.then_exit' ?_
          refine E.block_here ?_
          have hr := Option.some.inj H789
          subst z778
          have hb := hbr780 _ rfl
          subst e774
          exact E.give ((), ((a522, c523), (a518, c519))) [3, 0, 0, 0] [0, 1, 2, 3, 4] trivial ⟨rfl, rfl, rfl, trivial⟩ rfl rfl
    · rintro ⟨_, ⟨⟨a767, c768⟩, ⟨a771, c772⟩⟩⟩ _
      refine T.seq ?_
      refine T.region ?_
      refine L.q 3 rfl ?_
      refine L.nil ?_
      refine E.then ?_
      refine T.seq ?_
      refine T.region ?_
      refine L.q 1 rfl ?_
      obtain ⟨r1020, h1021, H1022⟩ := bnd H776
      refine L.a [2, 0] [] (Ac.call (c_grid_Grid_Clone g10 a771 c772 h1021) rfl rfl rfl rfl) rfl rfl rfl rfl rfl ?_
      rintro ⟨g1023, ⟨a1024, c1025⟩⟩
      refine L.q 1 rfl ?_
      refine L.nil ?_
      refine E.then ?_
      refine T.seq ?_
      refine T.seq ?_
      refine T.region ?_
      refine L.q 1 rfl ?_
      refine L.y (Yl.pn rfl rfl rfl rfl rfl rfl) rfl rfl rfl ?_
      refine L.nil ?_
      refine E.then ?_
      refine T.cond rfl (fun h => nomatch h) (fun _ => ?_)
      refine T.skip ?_
      refine E.then ?_
      refine T.seq ?_
      refine T.region ?_
      refine L.q 2 rfl ?_
      refine L.y (Yl.ldb 5 rfl rfl rfl rfl) rfl rfl rfl ?_
      refine L.q 1 rfl ?_
      refine L.y (Yl.ldb 5 rfl rfl rfl rfl) rfl rfl rfl ?_
      refine L.q 2 rfl ?_
      refine L.y (Yl.ldb 5 rfl rfl rfl rfl) rfl rfl rfl ?_
      obtain ⟨r1028, h1029, H1030⟩ := bnd H1022
      refine L.a [2, 2] [] (Ac.call (c_grid_Grid_Up g10 a771 c772 h1029) rfl rfl rfl rfl) rfl rfl rfl rfl rfl ?_
      rintro ⟨a1031, c1032⟩
      refine L.q 2 rfl ?_
      refine L.nil ?_
      refine E.then ?_
      refine T.seq ?_
      refine T.seq ?_
      refine T.region ?_
      refine L.q 2 rfl ?_
      refine L.nil ?_
      refine E.then ?_
      obtain ⟨e1149, H1150, H1151⟩ := bnd H1030
      refine T.join (η := Unit × ((Option Addr × Nat))) (fun h => True) (fun h => (fun a1144 c1145 => [(7, .pointer (some ⟨g10, 0, none⟩)), (10, .pointer (some ⟨g1023, 0, none⟩)), (11, .slice a1031 r1028.1.length c1032), (12, .slice a1144 e1149.1.length c1145)]) h.2.1 h.2.2) (fun h => (fun a1144 c1145 => [Ch.arr tyRowRow 26 a1144 c1145 e1149.1, Ch.arr tyRowRow 26 a1024 c1025 e1149.2.l, Ch.box g10 104 [.int .i64 r1028.2.w, .slice a771 r1028.2.l.length c772], Ch.box g1023 104 [.int .i64 e1149.2.w, .slice a1024 e1149.2.l.length c1025], Ch.box g20 59 [.int .i64 e774.1.w, .slice a767 e774.1.l.length c768], Ch.box g1 64 [.int .i64 a.kind, .int .i64 a.y, .int .i64 a.top, .int .i64 a.bottom, .int .i64 a.n, .int .i64 a.style, .int .i64 a.w, .int .i64 a.h, .int .i64 a.row.kind, .int .i64 a.row.at_, .int .i64 a.row.n, .int .i64 a.row.style, .int .i32 a.row.rune], Ch.arr tyRowRow 26 a1031 c1032 r1028.1, Ch.arr tyRowRow 26 a771 c772 r1028.2.l]) h.2.1 h.2.2) (fun h => (fun a1144 c1145 => [Im.sl tyRef09Row a767 c768 e774.1.l, Im.sl tyRef09Row a17 c18 r14.l, Im.sl tyLaw10Act a_0 c_0 acts, Im.sl tyWideSpan (some ⟨0, 0, none⟩) 13 t_wide_nones, Im.sl tyWideSpan (some ⟨1, 0, none⟩) 14 t_wide_twos]) h.2.1 h.2.2) ?_ ?_
      · refine T.block ?_
        refine T.nil0 tyRowRow 26 ?_
        refine T.lp (η := (Option Addr × Nat)) (fun s1114 h => (fun a1110 c1111 => [(4, .pointer (some ⟨g1, 0, none⟩)), (7, .pointer (some ⟨g10, 0, none⟩)), (10, .pointer (some ⟨g1023, 0, none⟩)), (11, .slice a1031 r1028.1.length c1032), (12, .slice a1110 s1114.2.1.length c1111), (69, .int .i64 (Go.bits .and .i64 n_ 3)), (70, .int .i64 s1114.2.2)]) h.1 h.2) (fun s1114 h => (fun a1110 c1111 => [Ch.arr tyRowRow 26 a1024 c1025 s1114.1.l, Ch.arr tyRowRow 26 a1110 c1111 s1114.2.1, Ch.box g10 104 [.int .i64 r1028.2.w, .slice a771 r1028.2.l.length c772], Ch.box g1023 104 [.int .i64 s1114.1.w, .slice a1024 s1114.1.l.length c1025], Ch.box g20 59 [.int .i64 e774.1.w, .slice a767 e774.1.l.length c768], Ch.box g1 64 [.int .i64 a.kind, .int .i64 a.y, .int .i64 a.top, .int .i64 a.bottom, .int .i64 a.n, .int .i64 a.style, .int .i64 a.w, .int .i64 a.h, .int .i64 a.row.kind, .int .i64 a.row.at_, .int .i64 a.row.n, .int .i64 a.row.style, .int .i32 a.row.rune], Ch.arr tyRowRow 26 a1031 c1032 r1028.1, Ch.arr tyRowRow 26 a771 c772 r1028.2.l]) h.1 h.2) (fun s1114 h => (fun a1110 c1111 => [Im.sl tyRef09Row a767 c768 e774.1.l, Im.sl tyRef09Row a17 c18 r14.l, Im.sl tyLaw10Act a_0 c_0 acts, Im.sl tyWideSpan (some ⟨0, 0, none⟩) 13 t_wide_nones, Im.sl tyWideSpan (some ⟨1, 0, none⟩) 14 t_wide_twos]) h.1 h.2) (none, 0) [5, 0, 1, 2, 2, 2, 0, 0] [0, 1, 2, 3, 4] H1150 ⟨rfl, rfl, rfl, rfl, rfl, rfl, rfl, trivial⟩ rfl rfl ?_
        rintro k s1114 ⟨a1110, c1111⟩ z1153 H1152 hag1154 hbr1155
        refine T.seq ?_
        refine T.region ?_
        refine L.q 1 rfl ?_
        refine L.nil ?_
        refine E.then ?_
        refine T.seq ?_
        refine T.bif rfl H1152 (fun hc H1157 => ?_) (fun hc H1157 => ?_)
        · refine T.skip ?_
          refine E.then ?_
          refine T.seq ?_
          refine T.block ?_
          refine T.region ?_
          refine L.q 3 rfl ?_
          refine L.y (Yl.ldb 5 rfl rfl rfl rfl) rfl rfl rfl ?_
          refine L.q 1 rfl ?_
          refine L.y (Yl.ldb 5 rfl rfl rfl rfl) rfl rfl rfl ?_
          refine L.q 1 rfl ?_
          refine L.y (Yl.ldb 5 rfl rfl rfl rfl) rfl rfl rfl ?_
          obtain ⟨r1171, h1172, H1173⟩ := bnd H1157
          refine L.a [3, 0] [] (Ac.call (c_grid_Grid_Up g1023 a1024 c1025 h1172) rfl rfl rfl rfl) rfl rfl rfl rfl rfl ?_
          rintro ⟨a1174, c1175⟩
          refine L.frz 0 rfl ?_
          obtain ⟨_, h1179, H1180⟩ := bnd H1173
          refine L.a [2] [0] (Ac.ap (ty := tyRowRow) h1179 rfl rfl rfl rfl rfl rfl rfl) rfl rfl rfl rfl rfl ?_
          rintro ⟨a1181, c1182⟩
          refine L.q 1 rfl ?_
          refine L.nil ?_
          refine E.block ?_
          refine E.then ?_
          refine T.region ?_
          refine L.q 2 rfl ?_
          refine L.nil ?_
          have hr := Option.some.inj H1180
          subst z1153
          exact E.give (_, (a1181, c1182)) [2, 0, 1, 0, 0, 0, 0, 0] [1, 2, 3, 4, 5] (hag1154 _ rfl) ⟨rfl, rfl, rfl, rfl, rfl, rfl, rfl, trivial⟩ rfl rfl
        · refine T.exit ?_
          refine E.then_exit' ?_
          refine E.then_exit' ?_
          refine E.block_here ?_
          have hr := Option.some.inj H1157
          subst z1153
          have hb := hbr1155 _ rfl
          subst e1149
          exact E.give ((), (a1110, c1111)) [1, 0, 0, 0, 0, 0, 0, 0] [0, 1, 2, 3, 4] trivial ⟨rfl, rfl, rfl, rfl, trivial⟩ rfl rfl
      · rintro ⟨_, ⟨a1144, c1145⟩⟩ _
        refine T.seq ?_
        refine T.seq ?_
        refine T.region ?_
        refine L.q 5 rfl ?_
        refine L.nil ?_
        refine E.then ?_
        obtain ⟨e1198, H1199, H1200⟩ := bnd H1151
        refine T.join (η := Unit × Unit) (fun h => True) (fun h => [(7, .pointer (some ⟨g10, 0, none⟩)), (10, .pointer (some ⟨g1023, 0, none⟩)), (11, .slice a1031 r1028.1.length c1032), (12, .slice a1144 e1198.length c1145)]) (fun h => [Ch.arr tyRowRow 26 a1144 c1145 e1198, Ch.box g10 104 [.int .i64 r1028.2.w, .slice a771 r1028.2.l.length c772], Ch.box g1023 104 [.int .i64 e1149.2.w, .slice a1024 e1149.2.l.length c1025], Ch.box g20 59 [.int .i64 e774.1.w, .slice a767 e774.1.l.length c768], Ch.box g1 64 [.int .i64 a.kind, .int .i64 a.y, .int .i64 a.top, .int .i64 a.bottom, .int .i64 a.n, .int .i64 a.style, .int .i64 a.w, .int .i64 a.h, .int .i64 a.row.kind, .int .i64 a.row.at_, .int .i64 a.row.n, .int .i64 a.row.style, .int .i32 a.row.rune], Ch.arr tyRowRow 26 a1024 c1025 e1149.2.l, Ch.arr tyRowRow 26 a1031 c1032 r1028.1, Ch.arr tyRowRow 26 a771 c772 r1028.2.l]) (fun h => [Im.sl tyRef09Row a767 c768 e774.1.l, Im.sl tyRef09Row a17 c18 r14.l, Im.sl tyLaw10Act a_0 c_0 acts, Im.sl tyWideSpan (some ⟨0, 0, none⟩) 13 t_wide_nones, Im.sl tyWideSpan (some ⟨1, 0, none⟩) 14 t_wide_twos]) ?_ ?_
        · refine T.bif rfl H1199 (fun hc H1201 => ?_) (fun hc H1201 => ?_)
          · refine T.region ?_
            refine L.q 3 rfl ?_
            obtain ⟨_, h1202, H1203⟩ := bnd H1201
            refine L.a [0] [] (Ac.rso h1202 rfl rfl rfl rfl rfl rfl rfl) rfl rfl rfl rfl rfl ?_
            intro _
            refine L.q 1 rfl ?_
            refine L.nil ?_
            have hr := Option.some.inj H1203
            subst e1198
            exact E.give ((), ()) [0, 1, 1, 1, 1, 0, 0, 0] [0, 1, 2, 3, 4] trivial ⟨rfl, rfl, rfl, rfl, trivial⟩ rfl rfl
          · refine T.skip ?_
            have hr := Option.some.inj H1201
            subst e1198
            exact E.give ((), ()) [0, 1, 1, 1, 1, 0, 0, 0] [0, 1, 2, 3, 4] trivial ⟨rfl, rfl, rfl, rfl, trivial⟩ rfl rfl
        · rintro ⟨_, ⟨⟩⟩ _
          refine T.seq ?_
          refine T.seq ?_
          obtain ⟨e1216, H1217, H1218⟩ := bnd H1200
          refine T.join (η := Unit × Unit) (fun h => True) (fun h => [(11, .slice a1031 r1028.1.length c1032), (12, .slice a1144 e1198.length c1145), (102, .bool e1216)]) (fun h => [Ch.box g10 104 [.int .i64 r1028.2.w, .slice a771 r1028.2.l.length c772], Ch.box g1023 104 [.int .i64 e1149.2.w, .slice a1024 e1149.2.l.length c1025], Ch.box g20 59 [.int .i64 e774.1.w, .slice a767 e774.1.l.length c768], Ch.box g1 64 [.int .i64 a.kind, .int .i64 a.y, .int .i64 a.top, .int .i64 a.bottom, .int .i64 a.n, .int .i64 a.style, .int .i64 a.w, .int .i64 a.h, .int .i64 a.row.kind, .int .i64 a.row.at_, .int .i64 a.row.n, .int .i64 a.row.style, .int .i32 a.row.rune], Ch.arr tyRowRow 26 a1144 c1145 e1198, Ch.arr tyRowRow 26 a1024 c1025 e1149.2.l, Ch.arr tyRowRow 26 a1031 c1032 r1028.1, Ch.arr tyRowRow 26 a771 c772 r1028.2.l]) (fun h => [Im.sl tyRef09Row a767 c768 e774.1.l, Im.sl tyRef09Row a17 c18 r14.l, Im.sl tyLaw10Act a_0 c_0 acts, Im.sl tyWideSpan (some ⟨0, 0, none⟩) 13 t_wide_nones, Im.sl tyWideSpan (some ⟨1, 0, none⟩) 14 t_wide_twos]) ?_ ?_
          · refine T.region ?_
            refine L.q 6 rfl ?_
            refine L.cs 97 H1217 rfl (fun hc H1219 => ?_) (fun hc H1219 => ?_)
            · refine L.q 5 rfl ?_
              refine L.nil ?_
              have hr := Option.some.inj H1219
              subst e1216
              exact E.give ((), ()) [1, 1, 1, 1, 0, 0, 0, 0] [0, 1, 2, 3, 4] trivial ⟨rfl, rfl, rfl, trivial⟩ rfl rfl
            · refine L.q 2 rfl ?_
              obtain ⟨r1220, h1221, H1222⟩ := bnd H1219
              refine L.a [1, 6, 1, 3] [] (Ac.call (c_grid_Grid_Same g10 a771 c772 g1023 a1024 c1025 h1221) rfl rfl rfl rfl) rfl rfl rfl rfl rfl ?_
              rintro ⟨⟩
              refine L.q 2 rfl ?_
              refine L.nil ?_
              have hr := Option.some.inj H1222
              subst e1216
              exact E.give ((), ()) [0, 1, 3, 3, 2, 1, 1, 0] [0, 1, 2, 3, 4] trivial ⟨rfl, rfl, rfl, trivial⟩ rfl rfl
          · rintro ⟨_, ⟨⟩⟩ _
            refine T.bif rfl H1218 (fun hc H1224 => ?_) (fun hc H1224 => ?_)
            · refine T.seq ?_
              refine T.region ?_
              refine L.q 1 rfl ?_
              refine L.nil ?_
              refine E.then ?_
              refine T.ret ?_
              refine E.then_ret ?_
              have hr := Option.some.inj H1224
              subst r
              exact E.ret () [] [] (.tmp rfl .nil) rfl rfl rfl
            · refine T.skip ?_
              refine E.then ?_
              refine T.seq ?_
              refine T.seq ?_
              refine T.region ?_
              refine L.q 3 rfl ?_
              refine L.nil ?_
              refine E.then ?_
              obtain ⟨y2490, H2491, H2492⟩ := bnd H1224
              refine T.join (η := Unit × Unit) (fun h => y2490 = .inl h.1) (fun h => (fun e2489 => []) h.1) (fun h => (fun e2489 => [Ch.box g10 104 [.int .i64 r1028.2.w, .slice a771 r1028.2.l.length c772], Ch.box g1023 104 [.int .i64 e1149.2.w, .slice a1024 e1149.2.l.length c1025], Ch.box g20 59 [.int .i64 e774.1.w, .slice a767 e774.1.l.length c768], Ch.box g1 64 [.int .i64 a.kind, .int .i64 a.y, .int .i64 a.top, .int .i64 a.bottom, .int .i64 a.n, .int .i64 a.style, .int .i64 a.w, .int .i64 a.h, .int .i64 a.row.kind, .int .i64 a.row.at_, .int .i64 a.row.n, .int .i64 a.row.style, .int .i32 a.row.rune], Ch.arr tyRowRow 26 a1024 c1025 e1149.2.l, Ch.arr tyRowRow 26 a771 c772 r1028.2.l]) h.1) (fun h => (fun e2489 => [Im.sl tyRef09Row a767 c768 e774.1.l, Im.sl tyRef09Row a17 c18 r14.l, Im.sl tyLaw10Act a_0 c_0 acts, Im.sl tyWideSpan (some ⟨0, 0, none⟩) 13 t_wide_nones, Im.sl tyWideSpan (some ⟨1, 0, none⟩) 14 t_wide_twos]) h.1) ?_ ?_
              · refine T.block ?_
                refine T.lp (η := Unit) (fun s2068 h => [(11, .slice a1031 r1028.1.length c1032), (12, .slice a1144 e1198.length c1145), (104, .int .i64 (r1028.1.length : Int)), (105, .int .i64 s2068)]) (fun s2068 h => [Ch.box g10 104 [.int .i64 r1028.2.w, .slice a771 r1028.2.l.length c772], Ch.box g1023 104 [.int .i64 e1149.2.w, .slice a1024 e1149.2.l.length c1025], Ch.box g20 59 [.int .i64 e774.1.w, .slice a767 e774.1.l.length c768], Ch.box g1 64 [.int .i64 a.kind, .int .i64 a.y, .int .i64 a.top, .int .i64 a.bottom, .int .i64 a.n, .int .i64 a.style, .int .i64 a.w, .int .i64 a.h, .int .i64 a.row.kind, .int .i64 a.row.at_, .int .i64 a.row.n, .int .i64 a.row.style, .int .i32 a.row.rune], Ch.arr tyRowRow 26 a1144 c1145 e1198, Ch.arr tyRowRow 26 a1024 c1025 e1149.2.l, Ch.arr tyRowRow 26 a1031 c1032 r1028.1, Ch.arr tyRowRow 26 a771 c772 r1028.2.l]) (fun s2068 h => [Im.sl tyRef09Row a767 c768 e774.1.l, Im.sl tyRef09Row a17 c18 r14.l, Im.sl tyLaw10Act a_0 c_0 acts, Im.sl tyWideSpan (some ⟨0, 0, none⟩) 13 t_wide_nones, Im.sl tyWideSpan (some ⟨1, 0, none⟩) 14 t_wide_twos]) () [0, 0, 0, 0, 0, 0, 0, 0] [0, 1, 2, 3, 4] H2491 ⟨rfl, rfl, rfl, rfl, trivial⟩ rfl rfl ?_
                rintro k s2068 ⟨⟩ z2494 H2493 hag2495 hbr2496
                refine T.seq ?_
                refine T.region ?_
                refine L.q 1 rfl ?_
                refine L.nil ?_
                refine E.then ?_
                refine T.seq ?_
                refine T.bif rfl H2493 (fun hc H2498 => ?_) (fun hc H2498 => ?_)
                · refine T.skip ?_
                  refine E.then ?_
                  refine T.seq ?_
                  refine T.block ?_
                  refine T.seq ?_
                  refine T.region ?_
                  refine L.q 2 rfl ?_
                  refine L.nil ?_
                  refine E.then ?_
                  refine T.seq ?_
                  obtain ⟨e2845, H2846, H2847⟩ := bnd H2498
                  refine T.join (η := Unit × Unit) (fun h => True) (fun h => [(11, .slice a1031 r1028.1.length c1032), (12, .slice a1144 e1198.length c1145), (104, .int .i64 (r1028.1.length : Int)), (105, .int .i64 s2068), (117, .bool e2845)]) (fun h => [Ch.box g10 104 [.int .i64 r1028.2.w, .slice a771 r1028.2.l.length c772], Ch.box g1023 104 [.int .i64 e1149.2.w, .slice a1024 e1149.2.l.length c1025], Ch.box g20 59 [.int .i64 e774.1.w, .slice a767 e774.1.l.length c768], Ch.box g1 64 [.int .i64 a.kind, .int .i64 a.y, .int .i64 a.top, .int .i64 a.bottom, .int .i64 a.n, .int .i64 a.style, .int .i64 a.w, .int .i64 a.h, .int .i64 a.row.kind, .int .i64 a.row.at_, .int .i64 a.row.n, .int .i64 a.row.style, .int .i32 a.row.rune], Ch.arr tyRowRow 26 a1144 c1145 e1198, Ch.arr tyRowRow 26 a1024 c1025 e1149.2.l, Ch.arr tyRowRow 26 a1031 c1032 r1028.1, Ch.arr tyRowRow 26 a771 c772 r1028.2.l]) (fun h => [Im.sl tyRef09Row a767 c768 e774.1.l, Im.sl tyRef09Row a17 c18 r14.l, Im.sl tyLaw10Act a_0 c_0 acts, Im.sl tyWideSpan (some ⟨0, 0, none⟩) 13 t_wide_nones, Im.sl tyWideSpan (some ⟨1, 0, none⟩) 14 t_wide_twos]) ?_ ?_
                  · refine T.draw [] [0, 0, 0, 0, 1, 2] mo (by rfl) rfl ?_
                    refine D.q 0 rfl rfl rfl rfl rfl rfl ?_
                    refine D.q 1 rfl rfl rfl rfl rfl rfl ?_
                    obtain ⟨x2882, h2883, H2884⟩ := bnd H2846
                    refine D.addro 7 rfl (idx_lt h2883) fun b2885 e2886 => ?_
                    obtain rfl : a1031 = some ⟨b2885, 0, none⟩ := e2886
                    refine D.y 2 (Yl.ia h2883 rfl rfl rfl rfl rfl rfl) rfl rfl rfl rfl rfl rfl ?_
                    refine D.q 4 rfl rfl rfl rfl rfl rfl ?_
                    refine D.q 5 rfl rfl rfl rfl rfl rfl ?_
                    obtain ⟨x2887, h2888, H2889⟩ := bnd H2884
                    refine D.addro 6 rfl (idx_lt h2888) fun b2890 e2891 => ?_
                    obtain rfl : a1144 = some ⟨b2890, 0, none⟩ := e2891
                    refine D.y 6 (Yl.ia h2888 rfl rfl rfl rfl rfl rfl) rfl rfl rfl rfl rfl rfl ?_
                    obtain ⟨r2898, h2899, H2901⟩ := bnd H2889
                    refine D.two rfl rfl rfl ?_ ?_
                    · refine Dp.a [1] [] (Ac.lo s2068.toNat 0 (v := (fun h : (Option Addr × Nat) => (fun a2902 c2903 => .agg #[.slice a2902 x2882.cells.length c2903, .bool x2882.wrapped]) h.1 h.2)) (idx_some h2883).2 rfl rfl rfl (fun _ => rfl)) rfl rfl rfl rfl rfl rfl ?_
                      rintro ⟨a2902, c2903⟩
                      refine D.one rfl rfl rfl (Dp.a [1] [] (Ac.lo s2068.toNat 0 (v := (fun h : (Option Addr × Nat) => (fun a2905 c2906 => .agg #[.slice a2905 x2887.cells.length c2906, .bool x2887.wrapped]) h.1 h.2)) (idx_some h2888).2 rfl rfl rfl (fun _ => rfl)) rfl rfl rfl rfl rfl rfl ?_)
                      rintro ⟨a2905, c2906⟩
                      refine D.one rfl rfl rfl (Dp.a [] [1, 0] (Ac.call (c_row_Row_Same a2902 c2903 a2905 c2906 h2899) rfl rfl rfl rfl) rfl rfl rfl rfl rfl rfl ?_)
                      rintro ⟨⟩
                      refine D.q 9 rfl rfl rfl rfl rfl rfl ?_
                      refine D.nil rfl rfl ?_
                      have hr := Option.some.inj H2901
                      subst e2845
                      exact E.give ((), ()) [0, 0, 0, 0, 2, 0, 1, 0] [2, 3, 4, 5, 6] trivial ⟨rfl, rfl, rfl, rfl, rfl, trivial⟩ rfl rfl
                    · refine Dp.a [0] [] (Ac.lo s2068.toNat 0 (v := (fun h : (Option Addr × Nat) => (fun a2909 c2910 => .agg #[.slice a2909 x2887.cells.length c2910, .bool x2887.wrapped]) h.1 h.2)) (idx_some h2888).2 rfl rfl rfl (fun _ => rfl)) rfl rfl rfl rfl rfl rfl ?_
                      rintro ⟨a2909, c2910⟩
                      refine D.one rfl rfl rfl (Dp.a [1] [] (Ac.lo s2068.toNat 0 (v := (fun h : (Option Addr × Nat) => (fun a2912 c2913 => .agg #[.slice a2912 x2882.cells.length c2913, .bool x2882.wrapped]) h.1 h.2)) (idx_some h2883).2 rfl rfl rfl (fun _ => rfl)) rfl rfl rfl rfl rfl rfl ?_)
                      rintro ⟨a2912, c2913⟩
                      refine D.one rfl rfl rfl (Dp.a [] [0, 1] (Ac.call (c_row_Row_Same a2912 c2913 a2909 c2910 h2899) rfl rfl rfl rfl) rfl rfl rfl rfl rfl rfl ?_)
                      rintro ⟨⟩
                      refine D.q 9 rfl rfl rfl rfl rfl rfl ?_
                      refine D.nil rfl rfl ?_
                      have hr := Option.some.inj H2901
                      subst e2845
                      exact E.give ((), ()) [0, 0, 0, 0, 3, 0, 1, 0] [2, 3, 4, 5, 6] trivial ⟨rfl, rfl, rfl, rfl, rfl, trivial⟩ rfl rfl
                  · rintro ⟨_, ⟨⟩⟩ _
                    refine T.bif rfl H2847 (fun hc H2916 => ?_) (fun hc H2916 => ?_)
                    · refine T.seq ?_
                      refine T.region ?_
                      refine L.q 1 rfl ?_
                      refine L.nil ?_
                      refine E.then ?_
                      refine T.ret ?_
                      refine E.block_ret ?_
                      refine E.then_ret ?_
                      refine E.then_ret ?_
                      refine E.block_ret ?_
                      obtain ⟨w2917, hz, H2918⟩ := inrr_some H2916
                      subst z2494
                      have hb := hbr2496 _ rfl
                      subst y2490
                      have hw : w2917 = r := Option.some.inj H2492
                      subst w2917
                      refine E.then_ret ?_
                      have hr := Option.some.inj H2918
                      subst r
                      exact E.ret () [] [] (.tmp rfl .nil) rfl rfl rfl
                    · refine T.skip ?_
                      refine E.block ?_
                      refine E.then ?_
                      refine T.region ?_
                      refine L.q 2 rfl ?_
                      refine L.nil ?_
                      have hr := Option.some.inj H2916
                      subst z2494
                      exact E.give (_, ()) [0, 0, 0, 0, 0, 0, 0, 0] [0, 1, 2, 3, 4] (hag2495 _ rfl) ⟨rfl, rfl, rfl, rfl, trivial⟩ rfl rfl
                · refine T.exit ?_
                  refine E.then_exit' ?_
                  refine E.then_exit' ?_
                  refine E.block_here ?_
                  have hr := Option.some.inj H2498
                  subst z2494
                  have hb := hbr2496 _ rfl
                  subst y2490
                  exact E.give (_, ()) [0, 0, 0, 0, 1, 2] [0, 1, 2, 3, 4] rfl trivial rfl rfl
              · rintro ⟨e2489, ⟨⟩⟩ hy
                subst hy
                refine T.seq ?_
                refine T.region ?_
                refine L.q 1 rfl ?_
                refine L.nil ?_
                refine E.then ?_
                refine T.ret ?_
                have hr := Option.some.inj H2492
                subst r
                exact E.ret () [] [] (.tmp rfl .nil) rfl rfl rfl

theorem c_law10_GridClones {acts : List Law10Act} {more : List Law10Act} (a_0 : Option Addr) (c_0 : Nat) (a_1 : Option Addr) (c_1 : Nat) {r : Bool} (H : p_law10_GridClones acts more = some r) : CT G 11 [.slice a_0 acts.length c_0, .slice a_1 more.length c_1] [] [Im.sl tyLaw10Act a_0 c_0 acts, Im.sl tyLaw10Act a_1 c_1 more, Im.sl tyWideSpan (some ⟨0, 0, none⟩) 13 t_wide_nones, Im.sl tyWideSpan (some ⟨1, 0, none⟩) 14 t_wide_twos] (fun h : Unit => .bool r) (fun h => []) (fun h => []) := by
  delta p_law10_GridClones at H
  refine CT.of Go.Proofs.Tryd.func11 (by kernel_rfl) rfl rfl rfl fun K => ?_
  refine T.seq ?_
  refine T.region ?_
  refine L.q 1 rfl ?_
  refine L.nil ?_
  refine E.then ?_
  refine T.seq ?_
  refine T.seq ?_
  refine T.region ?_
  obtain ⟨r1, h2, H3⟩ := bnd H
  refine L.a [] [2, 3] (Ac.call (c_law10_awake h2) rfl rfl rfl rfl) rfl rfl rfl rfl rfl ?_
  rintro ⟨⟩
  refine L.q 1 rfl ?_
  refine L.nil ?_
  refine E.then ?_
  refine T.bif rfl H3 (fun hc H5 => ?_) (fun hc H5 => ?_)
  · refine T.seq ?_
    refine T.region ?_
    refine L.q 1 rfl ?_
    refine L.nil ?_
    refine E.then ?_
    refine T.ret ?_
    refine E.then_ret ?_
    have hr := Option.some.inj H5
    subst r
    exact E.ret () [] [] (.tmp rfl .nil) rfl rfl rfl
  · refine T.skip ?_
    refine E.then ?_
    refine T.seq ?_
    refine T.region ?_
    obtain ⟨r6, h7, H8⟩ := bnd H5
    refine L.a [] [] (Ac.call (c_grid_New h7) rfl rfl rfl rfl) rfl rfl rfl rfl rfl ?_
    rintro ⟨g9, ⟨a10, c11⟩⟩
    obtain ⟨r13, h14, H15⟩ := bnd H8
    refine L.a [] [] (Ac.call (c_ref10_New h14) rfl rfl rfl rfl) rfl rfl rfl rfl rfl ?_
    rintro ⟨a16, c17⟩
    refine L.a [] [] (Ac.alloc rfl rfl) rfl rfl rfl rfl rfl ?_
    intro g19
    refine L.q 1 rfl ?_
    refine L.a [0] [] (Ac.stb rfl rfl rfl rfl rfl rfl) rfl rfl rfl rfl rfl ?_
    intro _
    refine L.nil ?_
    refine E.then ?_
    refine T.seq ?_
    refine T.seq ?_
    refine T.region ?_
    refine L.q 1 rfl ?_
    refine L.y (Yl.pn rfl rfl rfl rfl rfl rfl) rfl rfl rfl ?_
    refine L.nil ?_
    refine E.then ?_
    refine T.cond rfl (fun h => nomatch h) (fun _ => ?_)
    refine T.skip ?_
    refine E.then ?_
    refine T.seq ?_
    refine T.region ?_
    refine L.q 1 rfl ?_
    refine L.nil ?_
    refine E.then ?_
    refine T.seq ?_
    refine T.seq ?_
    refine T.region ?_
    refine L.q 1 rfl ?_
    refine L.nil ?_
    refine E.then ?_
    obtain ⟨y474, H475, H476⟩ := bnd H15
    refine T.join (η := (Ref10Grid × GridGrid) × ((Option Addr × Nat) × (Option Addr × Nat))) (fun h => y474 = .inl h.1) (fun h => (fun e473 => (fun a466 c467 a470 c471 => [(1, .slice a_1 more.length c_1), (5, .pointer (some ⟨g9, 0, none⟩)), (6, .pointer (some ⟨g19, 0, none⟩))]) h.2.1.1 h.2.1.2 h.2.2.1 h.2.2.2) h.1) (fun h => (fun e473 => (fun a466 c467 a470 c471 => [Ch.arr tyRowRow 26 a470 c471 e473.2.l, Ch.box g19 59 [.int .i64 e473.1.w, .slice a466 e473.1.l.length c467], Ch.box g9 104 [.int .i64 e473.2.w, .slice a470 e473.2.l.length c471]]) h.2.1.1 h.2.1.2 h.2.2.1 h.2.2.2) h.1) (fun h => (fun e473 => (fun a466 c467 a470 c471 => [Im.sl tyRef09Row a466 c467 e473.1.l, Im.sl tyRef09Row a16 c17 r13.l, Im.sl tyLaw10Act a_0 c_0 acts, Im.sl tyLaw10Act a_1 c_1 more, Im.sl tyWideSpan (some ⟨0, 0, none⟩) 13 t_wide_nones, Im.sl tyWideSpan (some ⟨1, 0, none⟩) 14 t_wide_twos]) h.2.1.1 h.2.1.2 h.2.2.1 h.2.2.2) h.1) ?_ ?_
    · refine T.block ?_
      refine T.lp (η := (Option Addr × Nat) × (Option Addr × Nat)) (fun s325 h => (fun a317 c318 a321 c322 => [(0, .slice a_0 acts.length c_0), (1, .slice a_1 more.length c_1), (5, .pointer (some ⟨g9, 0, none⟩)), (6, .pointer (some ⟨g19, 0, none⟩)), (8, .int .i64 s325.2.2)]) h.1.1 h.1.2 h.2.1 h.2.2) (fun s325 h => (fun a317 c318 a321 c322 => [Ch.arr tyRowRow 26 a321 c322 s325.2.1.l, Ch.box g19 59 [.int .i64 s325.1.w, .slice a317 s325.1.l.length c318], Ch.box g9 104 [.int .i64 s325.2.1.w, .slice a321 s325.2.1.l.length c322]]) h.1.1 h.1.2 h.2.1 h.2.2) (fun s325 h => (fun a317 c318 a321 c322 => [Im.sl tyRef09Row a317 c318 s325.1.l, Im.sl tyRef09Row a16 c17 r13.l, Im.sl tyLaw10Act a_0 c_0 acts, Im.sl tyLaw10Act a_1 c_1 more, Im.sl tyWideSpan (some ⟨0, 0, none⟩) 13 t_wide_nones, Im.sl tyWideSpan (some ⟨1, 0, none⟩) 14 t_wide_twos]) h.1.1 h.1.2 h.2.1 h.2.2) ((a16, c17), (a10, c11)) [2, 0, 0] [0, 0, 1, 2, 3, 4] H475 ⟨rfl, rfl, rfl, rfl, rfl, trivial⟩ rfl rfl ?_
      rintro k s325 ⟨⟨a317, c318⟩, ⟨a321, c322⟩⟩ z478 H477 hag479 hbr480
      refine T.seq ?_
      refine T.seq ?_
      obtain ⟨e484, H485, H486⟩ := bnd H477
      refine T.join (η := Unit × Unit) (fun h => True) (fun h => [(0, .slice a_0 acts.length c_0), (1, .slice a_1 more.length c_1), (5, .pointer (some ⟨g9, 0, none⟩)), (6, .pointer (some ⟨g19, 0, none⟩)), (8, .int .i64 s325.2.2), (27, .bool e484)]) (fun h => [Ch.box g19 59 [.int .i64 s325.1.w, .slice a317 s325.1.l.length c318], Ch.box g9 104 [.int .i64 s325.2.1.w, .slice a321 s325.2.1.l.length c322], Ch.arr tyRowRow 26 a321 c322 s325.2.1.l]) (fun h => [Im.sl tyRef09Row a317 c318 s325.1.l, Im.sl tyRef09Row a16 c17 r13.l, Im.sl tyLaw10Act a_0 c_0 acts, Im.sl tyLaw10Act a_1 c_1 more, Im.sl tyWideSpan (some ⟨0, 0, none⟩) 13 t_wide_nones, Im.sl tyWideSpan (some ⟨1, 0, none⟩) 14 t_wide_twos]) ?_ ?_
      · refine T.region ?_
        refine L.q 5 rfl ?_
        refine L.cs 24 H485 rfl (fun hc H487 => ?_) (fun hc H487 => ?_)
        · refine L.q 3 rfl ?_
          refine L.nil ?_
          have hr := Option.some.inj H487
          subst e484
          exact E.give ((), ()) [1, 1, 0] [0, 1, 2, 3, 4, 5] trivial ⟨rfl, rfl, rfl, rfl, rfl, rfl, trivial⟩ rfl rfl
        · refine L.q 3 rfl ?_
          refine L.nil ?_
          have hr := Option.some.inj H487
          subst e484
          exact E.give ((), ()) [1, 1, 0] [0, 1, 2, 3, 4, 5] trivial ⟨rfl, rfl, rfl, rfl, rfl, rfl, trivial⟩ rfl rfl
      · rintro ⟨_, ⟨⟩⟩ _
        refine T.bif rfl H486 (fun hc H489 => ?_) (fun hc H489 => ?_)
        · refine T.skip ?_
          refine E.then ?_
          refine T.seq ?_
          refine T.block ?_
          refine T.seq ?_
          refine T.draw [10] [0] mo (by rfl) rfl ?_
          refine D.q 0 rfl rfl rfl rfl rfl rfl ?_
          refine D.y 1 (Yl.ldb 0 rfl rfl rfl rfl) rfl rfl rfl rfl rfl rfl ?_
          refine D.q 2 rfl rfl rfl rfl rfl rfl ?_
          refine D.q 3 rfl rfl rfl rfl rfl rfl ?_
          obtain ⟨x603, h604, H605⟩ := bnd H489
          refine D.addr 2 rfl (idx_lt h604) fun b606 o607 e608 => ?_
          obtain rfl : a_0 = some ⟨b606, o607, none⟩ := e608
          refine D.y 4 (Yl.ia h604 rfl rfl rfl rfl rfl rfl) rfl rfl rfl rfl rfl rfl ?_
          refine D.el 2 rfl (idx_some h604).2 ?_
          rintro _
          refine D.y 5 (Yl.ldc 0 0 rfl rfl rfl rfl) rfl rfl rfl rfl rfl rfl ?_
          obtain ⟨r610, h611, H612⟩ := bnd H605
          refine D.one rfl rfl rfl (Dp.a [0, 0] [1, 5, 6] (Ac.call (c_law10_do g9 a321 c322 a317 c318 h611) rfl rfl rfl rfl) rfl rfl rfl rfl rfl rfl ?_)
          rintro ⟨⟨a613, c614⟩, ⟨a615, c616⟩⟩
          refine D.q 7 rfl rfl rfl rfl rfl rfl ?_
          refine D.q 8 rfl rfl rfl rfl rfl rfl ?_
          refine D.q 9 rfl rfl rfl rfl rfl rfl ?_
          refine D.one rfl rfl rfl (Dp.al [0] [] (Ac.stb rfl rfl rfl rfl rfl rfl) rfl rfl rfl rfl rfl rfl rfl ?_)
          intro _
          refine D.q 11 rfl rfl rfl rfl rfl rfl ?_
          refine D.nil rfl rfl ?_
          refine E.then ?_
          refine T.seq ?_
          refine T.region ?_
          refine L.q 2 rfl ?_
          refine L.nil ?_
          refine E.then ?_
          refine T.bif rfl H612 (fun hc H619 => ?_) (fun hc H619 => ?_)
          · refine T.seq ?_
            refine T.region ?_
            refine L.q 1 rfl ?_
            refine L.nil ?_
            refine E.then ?_
            refine T.ret ?_
            refine E.block_ret ?_
            refine E.then_ret ?_
            refine E.then_ret ?_
            refine E.block_ret ?_
            obtain ⟨w620, hz, H621⟩ := inrr_some H619
            subst z478
            have hb := hbr480 _ rfl
            subst y474
            have hw : w620 = r := Option.some.inj H476
            subst w620
            refine E.then_ret ?_
            have hr := Option.some.inj H621
            subst r
            exact E.ret () [] [] (.tmp rfl .nil) rfl rfl rfl
          · refine T.skip ?_
            refine E.block ?_
            refine E.then ?_
            refine T.region ?_
            refine L.q 3 rfl ?_
            refine L.nil ?_
            have hr := Option.some.inj H619
            subst z478
            exact E.give (_, ((a613, c614), (a615, c616))) [2, 0, 0] [0, 3, 4, 5, 6, 7] (hag479 _ rfl) ⟨rfl, rfl, rfl, rfl, rfl, trivial⟩ rfl rfl
        · refine T.exit ?_
          refine E.then_exit' ?_
          refine E.then_exit' ?_
          refine E.block_here ?_
          have hr := Option.some.inj H489
          subst z478
          have hb := hbr480 _ rfl
          subst y474
          exact E.give (_, ((a317, c318), (a321, c322))) [2, 0, 0] [0, 1, 2, 3, 4, 5] rfl ⟨rfl, rfl, rfl, trivial⟩ rfl rfl
    · rintro ⟨e473, ⟨⟨a466, c467⟩, ⟨a470, c471⟩⟩⟩ hy
      subst hy
      refine T.seq ?_
      obtain ⟨e730, H731, H732⟩ := bnd H476
      refine T.join (η := Unit × (Nat × (Option Addr × Nat) × Nat × (Option Addr × Nat))) (fun h => True) (fun h => (fun g719 a720 c721 g724 a725 c726 => [(1, .slice a_1 more.length c_1), (5, .pointer (some ⟨g9, 0, none⟩)), (6, .pointer (some ⟨g19, 0, none⟩)), (9, .pointer (some ⟨g719, 0, none⟩)), (10, .pointer (some ⟨g724, 0, none⟩))]) h.2.1 h.2.2.1.1 h.2.2.1.2 h.2.2.2.1 h.2.2.2.2.1 h.2.2.2.2.2) (fun h => (fun g719 a720 c721 g724 a725 c726 => [Ch.arr tyRowRow 26 a720 c721 e730.1.l, Ch.arr tyRowRow 26 a470 c471 e730.2.2.l, Ch.box g19 59 [.int .i64 e473.1.w, .slice a466 e473.1.l.length c467], Ch.box g9 104 [.int .i64 e730.2.2.w, .slice a470 e730.2.2.l.length c471], Ch.box g719 104 [.int .i64 e730.1.w, .slice a720 e730.1.l.length c721], Ch.box g724 59 [.int .i64 e730.2.1.w, .slice a725 e730.2.1.l.length c726]]) h.2.1 h.2.2.1.1 h.2.2.1.2 h.2.2.2.1 h.2.2.2.2.1 h.2.2.2.2.2) (fun h => (fun g719 a720 c721 g724 a725 c726 => [Im.sl tyRef09Row a725 c726 e730.2.1.l, Im.sl tyRef09Row a466 c467 e473.1.l, Im.sl tyRef09Row a16 c17 r13.l, Im.sl tyLaw10Act a_0 c_0 acts, Im.sl tyLaw10Act a_1 c_1 more, Im.sl tyWideSpan (some ⟨0, 0, none⟩) 13 t_wide_nones, Im.sl tyWideSpan (some ⟨1, 0, none⟩) 14 t_wide_twos]) h.2.1 h.2.2.1.1 h.2.2.1.2 h.2.2.2.1 h.2.2.2.2.1 h.2.2.2.2.2) ?_ ?_
      · refine T.draw [5] [1] mo (by rfl) rfl ?_
        refine D.q 0 rfl rfl rfl rfl rfl rfl ?_
        refine D.y 2 (Yl.ldb 0 rfl rfl rfl rfl) rfl rfl rfl rfl rfl rfl ?_
        obtain ⟨r757, h758, H766⟩ := bnd H731
        refine D.two rfl rfl rfl ?_ ?_
        · refine Dp.a [1, 0] [] (Ac.call (c_grid_Grid_Clone g9 a470 c471 h758) rfl rfl rfl rfl) rfl rfl rfl rfl rfl rfl ?_
          rintro ⟨g768, ⟨a769, c770⟩⟩
          refine D.one rfl rfl rfl (Dp.a [] [] (Ac.alloc rfl rfl) rfl rfl rfl rfl rfl rfl ?_)
          intro g773
          refine D.q 4 rfl rfl rfl rfl rfl rfl ?_
          refine D.one rfl rfl rfl (Dp.al [1] [] (Ac.stb rfl rfl rfl rfl rfl rfl) rfl rfl rfl rfl rfl rfl rfl ?_)
          intro _
          refine D.nil rfl rfl ?_
          have hr := Option.some.inj H766
          subst e730
          exact E.give ((), (g768, (a769, c770), g773, (a466, c467))) [3, 4, 1, 2, 1, 0] [0, 0, 1, 2, 3, 4, 5] trivial ⟨rfl, rfl, rfl, rfl, rfl, trivial⟩ rfl rfl
        · refine Dp.a [] [] (Ac.alloc rfl rfl) rfl rfl rfl rfl rfl rfl ?_
          intro g774
          refine D.one rfl rfl rfl (Dp.a [2, 1] [] (Ac.call (c_grid_Grid_Clone g9 a470 c471 h758) rfl rfl rfl rfl) rfl rfl rfl rfl rfl rfl ?_)
          rintro ⟨g776, ⟨a777, c778⟩⟩
          refine D.q 4 rfl rfl rfl rfl rfl rfl ?_
          refine D.one rfl rfl rfl (Dp.al [5] [] (Ac.stb rfl rfl rfl rfl rfl rfl) rfl rfl rfl rfl rfl rfl rfl ?_)
          intro _
          refine D.nil rfl rfl ?_
          have hr := Option.some.inj H766
          subst e730
          exact E.give ((), (g776, (a777, c778), g774, (a466, c467))) [3, 4, 1, 2, 1, 0] [0, 0, 1, 2, 3, 4, 5] trivial ⟨rfl, rfl, rfl, rfl, rfl, trivial⟩ rfl rfl
      · rintro ⟨_, ⟨g719, ⟨a720, c721⟩, g724, ⟨a725, c726⟩⟩⟩ _
        refine T.seq ?_
        refine T.seq ?_
        refine T.region ?_
        refine L.q 1 rfl ?_
        refine L.y (Yl.pn rfl rfl rfl rfl rfl rfl) rfl rfl rfl ?_
        refine L.q 3 rfl ?_
        obtain ⟨r784, h785, H786⟩ := bnd H732
        refine L.a [4, 0, 2, 0] [] (Ac.call (c_grid_Grid_Same g719 a720 c721 g9 a470 c471 h785) rfl rfl rfl rfl) rfl rfl rfl rfl rfl ?_
        rintro ⟨⟩
        refine L.q 2 rfl ?_
        refine L.nil ?_
        refine E.then ?_
        refine T.bif rfl H786 (fun hc H788 => ?_) (fun hc H788 => ?_)
        · refine T.seq ?_
          refine T.region ?_
          refine L.q 1 rfl ?_
          refine L.nil ?_
          refine E.then ?_
          refine T.ret ?_
          refine E.then_ret ?_
          have hr := Option.some.inj H788
          subst r
          exact E.ret () [] [] (.tmp rfl .nil) rfl rfl rfl
        · refine T.skip ?_
          refine E.then ?_
          refine T.seq ?_
          refine T.seq ?_
          refine T.region ?_
          refine L.q 1 rfl ?_
          refine L.nil ?_
          refine E.then ?_
          obtain ⟨y1243, H1244, H1245⟩ := bnd H788
          refine T.join (η := (GridGrid × Ref10Grid) × ((Option Addr × Nat) × (Option Addr × Nat))) (fun h => y1243 = .inl h.1) (fun h => (fun e1242 => (fun a1235 c1236 a1239 c1240 => [(5, .pointer (some ⟨g9, 0, none⟩)), (6, .pointer (some ⟨g19, 0, none⟩)), (9, .pointer (some ⟨g719, 0, none⟩)), (10, .pointer (some ⟨g724, 0, none⟩))]) h.2.1.1 h.2.1.2 h.2.2.1 h.2.2.2) h.1) (fun h => (fun e1242 => (fun a1235 c1236 a1239 c1240 => [Ch.arr tyRowRow 26 a1235 c1236 e1242.1.l, Ch.box g719 104 [.int .i64 e1242.1.w, .slice a1235 e1242.1.l.length c1236], Ch.box g9 104 [.int .i64 e730.2.2.w, .slice a470 e730.2.2.l.length c471], Ch.box g19 59 [.int .i64 e473.1.w, .slice a466 e473.1.l.length c467], Ch.box g724 59 [.int .i64 e1242.2.w, .slice a1239 e1242.2.l.length c1240], Ch.arr tyRowRow 26 a470 c471 e730.2.2.l]) h.2.1.1 h.2.1.2 h.2.2.1 h.2.2.2) h.1) (fun h => (fun e1242 => (fun a1235 c1236 a1239 c1240 => [Im.sl tyRef09Row a1239 c1240 e1242.2.l, Im.sl tyRef09Row a725 c726 e730.2.1.l, Im.sl tyRef09Row a466 c467 e473.1.l, Im.sl tyRef09Row a16 c17 r13.l, Im.sl tyLaw10Act a_0 c_0 acts, Im.sl tyLaw10Act a_1 c_1 more, Im.sl tyWideSpan (some ⟨0, 0, none⟩) 13 t_wide_nones, Im.sl tyWideSpan (some ⟨1, 0, none⟩) 14 t_wide_twos]) h.2.1.1 h.2.1.2 h.2.2.1 h.2.2.2) h.1) ?_ ?_
          · refine T.block ?_
            refine T.lp (η := (Option Addr × Nat) × (Option Addr × Nat)) (fun s1094 h => (fun a1086 c1087 a1090 c1091 => [(1, .slice a_1 more.length c_1), (5, .pointer (some ⟨g9, 0, none⟩)), (6, .pointer (some ⟨g19, 0, none⟩)), (9, .pointer (some ⟨g719, 0, none⟩)), (10, .pointer (some ⟨g724, 0, none⟩)), (11, .int .i64 s1094.2.2)]) h.1.1 h.1.2 h.2.1 h.2.2) (fun s1094 h => (fun a1086 c1087 a1090 c1091 => [Ch.arr tyRowRow 26 a1086 c1087 s1094.1.l, Ch.box g719 104 [.int .i64 s1094.1.w, .slice a1086 s1094.1.l.length c1087], Ch.box g9 104 [.int .i64 e730.2.2.w, .slice a470 e730.2.2.l.length c471], Ch.box g19 59 [.int .i64 e473.1.w, .slice a466 e473.1.l.length c467], Ch.box g724 59 [.int .i64 s1094.2.1.w, .slice a1090 s1094.2.1.l.length c1091], Ch.arr tyRowRow 26 a470 c471 e730.2.2.l]) h.1.1 h.1.2 h.2.1 h.2.2) (fun s1094 h => (fun a1086 c1087 a1090 c1091 => [Im.sl tyRef09Row a1090 c1091 s1094.2.1.l, Im.sl tyRef09Row a725 c726 e730.2.1.l, Im.sl tyRef09Row a466 c467 e473.1.l, Im.sl tyRef09Row a16 c17 r13.l, Im.sl tyLaw10Act a_0 c_0 acts, Im.sl tyLaw10Act a_1 c_1 more, Im.sl tyWideSpan (some ⟨0, 0, none⟩) 13 t_wide_nones, Im.sl tyWideSpan (some ⟨1, 0, none⟩) 14 t_wide_twos]) h.1.1 h.1.2 h.2.1 h.2.2) ((a720, c721), (a725, c726)) [1, 0, 0, 1, 1, 0] [0, 0, 1, 2, 3, 4, 5, 6] H1244 ⟨rfl, rfl, rfl, rfl, rfl, rfl, trivial⟩ rfl rfl ?_
            rintro k s1094 ⟨⟨a1086, c1087⟩, ⟨a1090, c1091⟩⟩ z1247 H1246 hag1248 hbr1249
            refine T.seq ?_
            refine T.seq ?_
            obtain ⟨e1253, H1254, H1255⟩ := bnd H1246
            refine T.join (η := Unit × Unit) (fun h => True) (fun h => [(1, .slice a_1 more.length c_1), (5, .pointer (some ⟨g9, 0, none⟩)), (6, .pointer (some ⟨g19, 0, none⟩)), (9, .pointer (some ⟨g719, 0, none⟩)), (10, .pointer (some ⟨g724, 0, none⟩)), (11, .int .i64 s1094.2.2), (60, .bool e1253)]) (fun h => [Ch.box g719 104 [.int .i64 s1094.1.w, .slice a1086 s1094.1.l.length c1087], Ch.box g9 104 [.int .i64 e730.2.2.w, .slice a470 e730.2.2.l.length c471], Ch.box g19 59 [.int .i64 e473.1.w, .slice a466 e473.1.l.length c467], Ch.box g724 59 [.int .i64 s1094.2.1.w, .slice a1090 s1094.2.1.l.length c1091], Ch.arr tyRowRow 26 a1086 c1087 s1094.1.l, Ch.arr tyRowRow 26 a470 c471 e730.2.2.l]) (fun h => [Im.sl tyRef09Row a1090 c1091 s1094.2.1.l, Im.sl tyRef09Row a725 c726 e730.2.1.l, Im.sl tyRef09Row a466 c467 e473.1.l, Im.sl tyRef09Row a16 c17 r13.l, Im.sl tyLaw10Act a_0 c_0 acts, Im.sl tyLaw10Act a_1 c_1 more, Im.sl tyWideSpan (some ⟨0, 0, none⟩) 13 t_wide_nones, Im.sl tyWideSpan (some ⟨1, 0, none⟩) 14 t_wide_twos]) ?_ ?_
            · refine T.region ?_
              refine L.q 5 rfl ?_
              refine L.cs 57 H1254 rfl (fun hc H1256 => ?_) (fun hc H1256 => ?_)
              · refine L.q 3 rfl ?_
                refine L.nil ?_
                have hr := Option.some.inj H1256
                subst e1253
                exact E.give ((), ()) [1, 1, 1, 1, 0, 0] [0, 1, 2, 3, 4, 5, 6, 7] trivial ⟨rfl, rfl, rfl, rfl, rfl, rfl, rfl, trivial⟩ rfl rfl
              · refine L.q 3 rfl ?_
                refine L.nil ?_
                have hr := Option.some.inj H1256
                subst e1253
                exact E.give ((), ()) [1, 1, 1, 1, 0, 0] [0, 1, 2, 3, 4, 5, 6, 7] trivial ⟨rfl, rfl, rfl, rfl, rfl, rfl, rfl, trivial⟩ rfl rfl
            · rintro ⟨_, ⟨⟩⟩ _
              refine T.bif rfl H1255 (fun hc H1258 => ?_) (fun hc H1258 => ?_)
              · refine T.skip ?_
                refine E.then ?_
                refine T.seq ?_
                refine T.block ?_
                refine T.seq ?_
                refine T.draw [10] [1, 1, 1, 2] mo (by rfl) rfl ?_
                refine D.q 0 rfl rfl rfl rfl rfl rfl ?_
                refine D.y 1 (Yl.ldb 2 rfl rfl rfl rfl) rfl rfl rfl rfl rfl rfl ?_
                refine D.q 2 rfl rfl rfl rfl rfl rfl ?_
                refine D.q 3 rfl rfl rfl rfl rfl rfl ?_
                obtain ⟨x1372, h1373, H1374⟩ := bnd H1258
                refine D.addr 5 rfl (idx_lt h1373) fun b1375 o1376 e1377 => ?_
                obtain rfl : a_1 = some ⟨b1375, o1376, none⟩ := e1377
                refine D.y 4 (Yl.ia h1373 rfl rfl rfl rfl rfl rfl) rfl rfl rfl rfl rfl rfl ?_
                refine D.el 5 rfl (idx_some h1373).2 ?_
                rintro _
                refine D.y 5 (Yl.ldc 0 0 rfl rfl rfl rfl) rfl rfl rfl rfl rfl rfl ?_
                obtain ⟨r1379, h1380, H1381⟩ := bnd H1374
                refine D.one rfl rfl rfl (Dp.a [0, 0] [1, 7, 8] (Ac.call (c_law10_do g719 a1086 c1087 a1090 c1091 h1380) rfl rfl rfl rfl) rfl rfl rfl rfl rfl rfl ?_)
                rintro ⟨⟨a1382, c1383⟩, ⟨a1384, c1385⟩⟩
                refine D.q 7 rfl rfl rfl rfl rfl rfl ?_
                refine D.q 8 rfl rfl rfl rfl rfl rfl ?_
                refine D.q 9 rfl rfl rfl rfl rfl rfl ?_
                refine D.one rfl rfl rfl (Dp.al [2] [] (Ac.stb rfl rfl rfl rfl rfl rfl) rfl rfl rfl rfl rfl rfl rfl ?_)
                intro _
                refine D.q 11 rfl rfl rfl rfl rfl rfl ?_
                refine D.nil rfl rfl ?_
                refine E.then ?_
                refine T.seq ?_
                refine T.region ?_
                refine L.q 2 rfl ?_
                refine L.nil ?_
                refine E.then ?_
                refine T.bif rfl H1381 (fun hc H1388 => ?_) (fun hc H1388 => ?_)
                · refine T.seq ?_
                  refine T.region ?_
                  refine L.q 1 rfl ?_
                  refine L.nil ?_
                  refine E.then ?_
                  refine T.ret ?_
                  refine E.block_ret ?_
                  refine E.then_ret ?_
                  refine E.then_ret ?_
                  refine E.block_ret ?_
                  obtain ⟨w1389, hz, H1390⟩ := inrr_some H1388
                  subst z1247
                  have hb := hbr1249 _ rfl
                  subst y1243
                  have hw : w1389 = r := Option.some.inj H1245
                  subst w1389
                  refine E.then_ret ?_
                  have hr := Option.some.inj H1390
                  subst r
                  exact E.ret () [] [] (.tmp rfl .nil) rfl rfl rfl
                · refine T.skip ?_
                  refine E.block ?_
                  refine E.then ?_
                  refine T.region ?_
                  refine L.q 3 rfl ?_
                  refine L.nil ?_
                  have hr := Option.some.inj H1388
                  subst z1247
                  exact E.give (_, ((a1384, c1385), (a1382, c1383))) [5, 4, 1, 1, 0, 0] [0, 3, 4, 5, 6, 7, 8, 9] (hag1248 _ rfl) ⟨rfl, rfl, rfl, rfl, rfl, rfl, trivial⟩ rfl rfl
              · refine T.exit ?_
                refine E.then_exit' ?_
                refine E.then_exit' ?_
                refine E.block_here ?_
                have hr := Option.some.inj H1258
                subst z1247
                have hb := hbr1249 _ rfl
                subst y1243
                exact E.give (_, ((a1086, c1087), (a1090, c1091))) [4, 0, 0, 0, 0, 0] [0, 1, 2, 3, 4, 5, 6, 7] rfl ⟨rfl, rfl, rfl, rfl, trivial⟩ rfl rfl
          · rintro ⟨e1242, ⟨⟨a1235, c1236⟩, ⟨a1239, c1240⟩⟩⟩ hy
            subst hy
            refine T.seq ?_
            obtain ⟨e1394, H1395, H1396⟩ := bnd H1245
            refine T.join (η := Unit × Unit) (fun h => True) (fun h => [(5, .pointer (some ⟨g9, 0, none⟩)), (6, .pointer (some ⟨g19, 0, none⟩)), (9, .pointer (some ⟨g719, 0, none⟩)), (10, .pointer (some ⟨g724, 0, none⟩)), (12, .bool e1394)]) (fun h => [Ch.box g719 104 [.int .i64 e1242.1.w, .slice a1235 e1242.1.l.length c1236], Ch.box g9 104 [.int .i64 e730.2.2.w, .slice a470 e730.2.2.l.length c471], Ch.box g19 59 [.int .i64 e473.1.w, .slice a466 e473.1.l.length c467], Ch.box g724 59 [.int .i64 e1242.2.w, .slice a1239 e1242.2.l.length c1240], Ch.arr tyRowRow 26 a1235 c1236 e1242.1.l, Ch.arr tyRowRow 26 a470 c471 e730.2.2.l]) (fun h => [Im.sl tyRef09Row a1239 c1240 e1242.2.l, Im.sl tyRef09Row a725 c726 e730.2.1.l, Im.sl tyRef09Row a466 c467 e473.1.l, Im.sl tyRef09Row a16 c17 r13.l, Im.sl tyLaw10Act a_0 c_0 acts, Im.sl tyLaw10Act a_1 c_1 more, Im.sl tyWideSpan (some ⟨0, 0, none⟩) 13 t_wide_nones, Im.sl tyWideSpan (some ⟨1, 0, none⟩) 14 t_wide_twos]) ?_ ?_
            · refine T.region ?_
              refine L.q 1 rfl ?_
              refine L.y (Yl.ldb 3 rfl rfl rfl rfl) rfl rfl rfl ?_
              refine L.q 1 rfl ?_
              refine L.y (Yl.ldb 4 rfl rfl rfl rfl) rfl rfl rfl ?_
              refine L.q 2 rfl ?_
              refine L.cs 80 H1395 rfl (fun hc H1397 => ?_) (fun hc H1397 => ?_)
              · refine L.q 1 rfl ?_
                refine L.y (Yl.ldb 3 rfl rfl rfl rfl) rfl rfl rfl ?_
                refine L.q 2 rfl ?_
                refine L.y (Yl.ldb 4 rfl rfl rfl rfl) rfl rfl rfl ?_
                refine L.q 4 rfl ?_
                refine L.nil ?_
                have hr := Option.some.inj H1397
                subst e1394
                exact E.give ((), ()) [1, 1, 1, 1, 0, 0] [0, 1, 2, 3, 4, 5, 6, 7] trivial ⟨rfl, rfl, rfl, rfl, rfl, trivial⟩ rfl rfl
              · refine L.q 9 rfl ?_
                refine L.nil ?_
                have hr := Option.some.inj H1397
                subst e1394
                exact E.give ((), ()) [1, 1, 1, 1, 0, 0] [0, 1, 2, 3, 4, 5, 6, 7] trivial ⟨rfl, rfl, rfl, rfl, rfl, trivial⟩ rfl rfl
            · rintro ⟨_, ⟨⟩⟩ _
              refine T.seq ?_
              refine T.seq ?_
              refine T.region ?_
              refine L.q 1 rfl ?_
              refine L.nil ?_
              refine E.then ?_
              obtain ⟨e1661, H1662, H1663⟩ := bnd H1396
              refine T.join (η := Unit × Unit) (fun h => True) (fun h => [(5, .pointer (some ⟨g9, 0, none⟩)), (6, .pointer (some ⟨g19, 0, none⟩)), (9, .pointer (some ⟨g719, 0, none⟩)), (10, .pointer (some ⟨g724, 0, none⟩)), (12, .bool e1661)]) (fun h => [Ch.box g719 104 [.int .i64 e1242.1.w, .slice a1235 e1242.1.l.length c1236], Ch.box g9 104 [.int .i64 e730.2.2.w, .slice a470 e730.2.2.l.length c471], Ch.box g19 59 [.int .i64 e473.1.w, .slice a466 e473.1.l.length c467], Ch.box g724 59 [.int .i64 e1242.2.w, .slice a1239 e1242.2.l.length c1240], Ch.arr tyRowRow 26 a1235 c1236 e1242.1.l, Ch.arr tyRowRow 26 a470 c471 e730.2.2.l]) (fun h => [Im.sl tyRef09Row a1239 c1240 e1242.2.l, Im.sl tyRef09Row a725 c726 e730.2.1.l, Im.sl tyRef09Row a466 c467 e473.1.l, Im.sl tyRef09Row a16 c17 r13.l, Im.sl tyLaw10Act a_0 c_0 acts, Im.sl tyLaw10Act a_1 c_1 more, Im.sl tyWideSpan (some ⟨0, 0, none⟩) 13 t_wide_nones, Im.sl tyWideSpan (some ⟨1, 0, none⟩) 14 t_wide_twos]) ?_ ?_
              · refine T.block ?_
                refine T.lp (η := Unit) (fun s1574 h => [(5, .pointer (some ⟨g9, 0, none⟩)), (6, .pointer (some ⟨g19, 0, none⟩)), (9, .pointer (some ⟨g719, 0, none⟩)), (10, .pointer (some ⟨g724, 0, none⟩)), (12, .bool s1574.1), (13, .int .i64 s1574.2)]) (fun s1574 h => [Ch.box g719 104 [.int .i64 e1242.1.w, .slice a1235 e1242.1.l.length c1236], Ch.box g9 104 [.int .i64 e730.2.2.w, .slice a470 e730.2.2.l.length c471], Ch.box g19 59 [.int .i64 e473.1.w, .slice a466 e473.1.l.length c467], Ch.box g724 59 [.int .i64 e1242.2.w, .slice a1239 e1242.2.l.length c1240], Ch.arr tyRowRow 26 a1235 c1236 e1242.1.l, Ch.arr tyRowRow 26 a470 c471 e730.2.2.l]) (fun s1574 h => [Im.sl tyRef09Row a1239 c1240 e1242.2.l, Im.sl tyRef09Row a725 c726 e730.2.1.l, Im.sl tyRef09Row a466 c467 e473.1.l, Im.sl tyRef09Row a16 c17 r13.l, Im.sl tyLaw10Act a_0 c_0 acts, Im.sl tyLaw10Act a_1 c_1 more, Im.sl tyWideSpan (some ⟨0, 0, none⟩) 13 t_wide_nones, Im.sl tyWideSpan (some ⟨1, 0, none⟩) 14 t_wide_twos]) () [0, 0, 0, 0, 0, 0] [0, 1, 2, 3, 4, 5, 6, 7] H1662 ⟨rfl, rfl, rfl, rfl, rfl, rfl, trivial⟩ rfl rfl ?_
                rintro k s1574 ⟨⟩ z1665 H1664 hag1666 hbr1667
                refine T.seq ?_
                refine T.seq ?_
                obtain ⟨e1671, H1672, H1673⟩ := bnd H1664
                refine T.join (η := Unit × Unit) (fun h => True) (fun h => [(5, .pointer (some ⟨g9, 0, none⟩)), (6, .pointer (some ⟨g19, 0, none⟩)), (9, .pointer (some ⟨g719, 0, none⟩)), (10, .pointer (some ⟨g724, 0, none⟩)), (12, .bool s1574.1), (13, .int .i64 s1574.2), (96, .bool e1671)]) (fun h => [Ch.box g719 104 [.int .i64 e1242.1.w, .slice a1235 e1242.1.l.length c1236], Ch.box g9 104 [.int .i64 e730.2.2.w, .slice a470 e730.2.2.l.length c471], Ch.box g19 59 [.int .i64 e473.1.w, .slice a466 e473.1.l.length c467], Ch.box g724 59 [.int .i64 e1242.2.w, .slice a1239 e1242.2.l.length c1240], Ch.arr tyRowRow 26 a1235 c1236 e1242.1.l, Ch.arr tyRowRow 26 a470 c471 e730.2.2.l]) (fun h => [Im.sl tyRef09Row a1239 c1240 e1242.2.l, Im.sl tyRef09Row a725 c726 e730.2.1.l, Im.sl tyRef09Row a466 c467 e473.1.l, Im.sl tyRef09Row a16 c17 r13.l, Im.sl tyLaw10Act a_0 c_0 acts, Im.sl tyLaw10Act a_1 c_1 more, Im.sl tyWideSpan (some ⟨0, 0, none⟩) 13 t_wide_nones, Im.sl tyWideSpan (some ⟨1, 0, none⟩) 14 t_wide_twos]) ?_ ?_
                · refine T.region ?_
                  refine L.q 2 rfl ?_
                  refine L.cs 90 H1672 rfl (fun hc H1674 => ?_) (fun hc H1674 => ?_)
                  · refine L.q 2 rfl ?_
                    refine L.y (Yl.ldb 2 rfl rfl rfl rfl) rfl rfl rfl ?_
                    refine L.q 3 rfl ?_
                    refine L.nil ?_
                    have hr := Option.some.inj H1674
                    subst e1671
                    exact E.give ((), ()) [0, 0, 0, 0, 0, 0] [0, 1, 2, 3, 4, 5, 6, 7] trivial ⟨rfl, rfl, rfl, rfl, rfl, rfl, rfl, trivial⟩ rfl rfl
                  · refine L.q 6 rfl ?_
                    refine L.nil ?_
                    have hr := Option.some.inj H1674
                    subst e1671
                    exact E.give ((), ()) [0, 0, 0, 0, 0, 0] [0, 1, 2, 3, 4, 5, 6, 7] trivial ⟨rfl, rfl, rfl, rfl, rfl, rfl, rfl, trivial⟩ rfl rfl
                · rintro ⟨_, ⟨⟩⟩ _
                  refine T.bif rfl H1673 (fun hc H1676 => ?_) (fun hc H1676 => ?_)
                  · refine T.skip ?_
                    refine E.then ?_
                    refine T.seq ?_
                    refine T.block ?_
                    refine T.draw [] [0, 1, 1, 1] mo (by rfl) rfl ?_
                    refine D.q 0 rfl rfl rfl rfl rfl rfl ?_
                    refine D.q 1 rfl rfl rfl rfl rfl rfl ?_
                    refine D.q 3 rfl rfl rfl rfl rfl rfl ?_
                    refine D.y 4 (Yl.ldb 2 rfl rfl rfl rfl) rfl rfl rfl rfl rfl rfl ?_
                    refine D.q 5 rfl rfl rfl rfl rfl rfl ?_
                    obtain ⟨x1734, h1735, H1736⟩ := bnd H1676
                    refine D.addr 0 rfl (idx_lt h1735) fun b1737 o1738 e1739 => ?_
                    obtain rfl : a1239 = some ⟨b1737, o1738, none⟩ := e1739
                    refine D.y 6 (Yl.ia h1735 rfl rfl rfl rfl rfl rfl) rfl rfl rfl rfl rfl rfl ?_
                    refine D.el 0 rfl (idx_some h1735).2 ?_
                    rintro ⟨a1740, c1741⟩
                    refine D.y 7 (Yl.ldc 0 0 rfl rfl rfl rfl) rfl rfl rfl rfl rfl rfl ?_
                    obtain ⟨r1744, h1745, H1746⟩ := bnd H1736
                    refine D.one rfl rfl rfl (Dp.a [0, 0] [] (Ac.call (c_grid_Grid_Row g9 a470 c471 h1745) rfl rfl rfl rfl) rfl rfl rfl rfl rfl rfl ?_)
                    rintro ⟨a1747, c1748⟩
                    obtain ⟨r1750, h1751, H1752⟩ := bnd H1746
                    refine D.one rfl rfl rfl (Dp.a [] [0, 2] (Ac.call (c_law09_Is a1747 c1748 a1740 c1741 h1751) rfl rfl rfl rfl) rfl rfl rfl rfl rfl rfl ?_)
                    rintro ⟨⟩
                    refine D.q 9 rfl rfl rfl rfl rfl rfl ?_
                    refine D.nil rfl rfl ?_
                    refine E.block ?_
                    refine E.then ?_
                    refine T.region ?_
                    refine L.q 3 rfl ?_
                    refine L.nil ?_
                    have hr := Option.some.inj H1752
                    subst z1665
                    exact E.give (_, ()) [0, 3, 0, 0, 0, 0] [3, 4, 5, 6, 7, 8, 9, 10] (hag1666 _ rfl) ⟨rfl, rfl, rfl, rfl, rfl, rfl, trivial⟩ rfl rfl
                  · refine T.exit ?_
                    refine E.then_exit' ?_
                    refine E.then_exit' ?_
                    refine E.block_here ?_
                    have hr := Option.some.inj H1676
                    subst z1665
                    have hb := hbr1667 _ rfl
                    subst e1661
                    exact E.give ((), ()) [0, 0, 0, 0, 0, 0] [0, 1, 2, 3, 4, 5, 6, 7] trivial ⟨rfl, rfl, rfl, rfl, rfl, trivial⟩ rfl rfl
              · rintro ⟨_, ⟨⟩⟩ _
                refine T.seq ?_
                obtain ⟨e1784, H1785, H1786⟩ := bnd H1663
                refine T.join (η := Unit × Unit) (fun h => True) (fun h => [(4, .bool e1784.1)]) (fun h => [Ch.arr tyRowRow 26 a1235 c1236 e1784.2.1.l, Ch.arr tyRowRow 26 a470 c471 e1784.2.2.l, Ch.box g719 104 [.int .i64 e1784.2.1.w, .slice a1235 e1784.2.1.l.length c1236], Ch.box g9 104 [.int .i64 e1784.2.2.w, .slice a470 e1784.2.2.l.length c471], Ch.box g19 59 [.int .i64 e473.1.w, .slice a466 e473.1.l.length c467], Ch.box g724 59 [.int .i64 e1242.2.w, .slice a1239 e1242.2.l.length c1240]]) (fun h => [Im.sl tyRef09Row a1239 c1240 e1242.2.l, Im.sl tyRef09Row a725 c726 e730.2.1.l, Im.sl tyRef09Row a466 c467 e473.1.l, Im.sl tyRef09Row a16 c17 r13.l, Im.sl tyLaw10Act a_0 c_0 acts, Im.sl tyLaw10Act a_1 c_1 more, Im.sl tyWideSpan (some ⟨0, 0, none⟩) 13 t_wide_nones, Im.sl tyWideSpan (some ⟨1, 0, none⟩) 14 t_wide_twos]) ?_ ?_
                · refine T.region ?_
                  refine L.q 1 rfl ?_
                  refine L.y (Yl.ldb 2 rfl rfl rfl rfl) rfl rfl rfl ?_
                  obtain ⟨r1787, h1788, H1789⟩ := bnd H1785
                  refine L.a [1, 4] [2] (Ac.call (c_law10_Is g9 a470 c471 a466 c467 h1788) rfl rfl rfl rfl) rfl rfl rfl rfl rfl ?_
                  rintro ⟨⟩
                  refine L.q 1 rfl ?_
                  refine L.cs 111 H1789 rfl (fun hc H1791 => ?_) (fun hc H1791 => ?_)
                  · refine L.q 1 rfl ?_
                    refine L.y (Yl.ldb 4 rfl rfl rfl rfl) rfl rfl rfl ?_
                    obtain ⟨r1792, h1793, H1794⟩ := bnd H1791
                    refine L.a [2, 4] [0] (Ac.call (c_law10_Is g719 a1235 c1236 a1239 c1240 h1793) rfl rfl rfl rfl) rfl rfl rfl rfl rfl ?_
                    rintro ⟨⟩
                    refine L.q 2 rfl ?_
                    refine L.cs 116 H1794 rfl (fun hc H1796 => ?_) (fun hc H1796 => ?_)
                    · refine L.q 2 rfl ?_
                      obtain ⟨r1797, h1798, H1799⟩ := bnd H1796
                      refine L.a [2, 2, 0, 0] [] (Ac.call (c_grid_Grid_Same g9 a470 c471 g719 a1235 c1236 h1798) rfl rfl rfl rfl) rfl rfl rfl rfl rfl ?_
                      rintro ⟨⟩
                      refine L.q 4 rfl ?_
                      refine L.nil ?_
                      have hr := Option.some.inj H1799
                      subst e1784
                      exact E.give ((), ()) [3, 1, 1, 0, 0, 0] [0, 1, 2, 3, 4, 5, 6, 7] trivial ⟨rfl, trivial⟩ rfl rfl
                    · refine L.q 7 rfl ?_
                      refine L.nil ?_
                      have hr := Option.some.inj H1796
                      subst e1784
                      exact E.give ((), ()) [1, 2, 0, 0, 0, 0] [0, 1, 2, 3, 4, 5, 6, 7] trivial ⟨rfl, trivial⟩ rfl rfl
                  · refine L.q 12 rfl ?_
                    refine L.nil ?_
                    have hr := Option.some.inj H1791
                    subst e1784
                    exact E.give ((), ()) [5, 1, 1, 0, 0, 0] [0, 1, 2, 3, 4, 5, 6, 7] trivial ⟨rfl, trivial⟩ rfl rfl
                · rintro ⟨_, ⟨⟩⟩ _
                  refine T.ret ?_
                  have hr := Option.some.inj H1786
                  subst r
                  exact E.ret () [] [] (.tmp rfl .nil) rfl rfl rfl

end Go.Tw.X

set_option linter.unusedVariables false
set_option linter.unusedSimpArgs false
set_option maxRecDepth 10000
namespace Go.Tw.X
open Go Go.Tw
theorem opn3 : Opn Go.Proofs.Tryd.prog 3 (Ty.int .i64) (inK .i64) := Opn.int (by kernel_rfl)
theorem opn21 : Opn Go.Proofs.Tryd.prog 21 (Ty.int .i32) (inK .i32) := Opn.int (by kernel_rfl)
theorem opn35 : Opn Go.Proofs.Tryd.prog 35 tyLaw09Act wfLaw09Act := Opn.to (fun y => ⟨y.1, y.2.1, y.2.2.1, y.2.2.2.1, y.2.2.2.2.1⟩) (fun h => ()) (Opn.struct (fs := [(3, 0), (3, 1), (3, 2), (3, 3), (21, 4)]) (by kernel_rfl) (by kernel_rfl) (.cons opn3 (by kernel_rfl) (.cons opn3 (by kernel_rfl) (.cons opn3 (by kernel_rfl) (.cons opn3 (by kernel_rfl) (.cons opn21 (by kernel_rfl) .nil)))))) (fun _ _ => rfl) (fun _ _ => rfl) (fun y h => h)
theorem opn64 : Opn Go.Proofs.Tryd.prog 64 tyLaw10Act wfLaw10Act := Opn.to (fun y => ⟨y.1, y.2.1, y.2.2.1, y.2.2.2.1, y.2.2.2.2.1, y.2.2.2.2.2.1, y.2.2.2.2.2.2.1, y.2.2.2.2.2.2.2.1, y.2.2.2.2.2.2.2.2.1⟩) (fun h => ()) (Opn.struct (fs := [(3, 0), (3, 1), (3, 2), (3, 3), (3, 4), (3, 5), (3, 6), (3, 7), (35, 8)]) (by kernel_rfl) (by kernel_rfl) (.cons opn3 (by kernel_rfl) (.cons opn3 (by kernel_rfl) (.cons opn3 (by kernel_rfl) (.cons opn3 (by kernel_rfl) (.cons opn3 (by kernel_rfl) (.cons opn3 (by kernel_rfl) (.cons opn3 (by kernel_rfl) (.cons opn3 (by kernel_rfl) (.cons opn35 (by kernel_rfl) .nil)))))))))) (fun _ _ => rfl) (fun _ _ => rfl) (fun y h => h)
theorem opn53 : Opn Go.Proofs.Tryd.prog 53 (Ty.slice tyLaw10Act) (fun xs : List Law10Act => ∀ x ∈ xs, wfLaw10Act x) := Opn.slice (by kernel_rfl) opn64 (by kernel_rfl) (by decide)
end Go.Tw.X

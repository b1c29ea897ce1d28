import Derived.Test.YtojpockgiaihoaaDoorRwC1
set_option linter.unusedVariables false
set_option linter.unusedSimpArgs false
set_option maxRecDepth 10000
namespace Go.Tw.Rw
open Go Go.Tw
theorem c_ref09_Put (a_0_0 : Option Addr) (c_0_0 : Nat) {r_ : Ref09Row} {at_ : Int} {x : Int} {style : Int} {r : Ref09Row} (H : p_ref09_Put r_ at_ x style = some r) : CT G 46 [.agg #[.slice a_0_0 r_.l.length c_0_0, .bool r_.wrapped], .int .i64 at_, .int .i64 x, .int .i64 style] [] [Im.sl tyRef09Cell a_0_0 c_0_0 r_.l] (fun h : (Option Addr × Nat) => .agg #[.slice h.1 r.l.length h.2, .bool r.wrapped]) (fun h => []) (fun h => [Im.sl tyRef09Cell h.1 h.2 r.l]) := by
  delta p_ref09_Put at H
  refine CT.of Go.Proofs.Tryd.func46 (by kernel_rfl) rfl rfl fun K => ?_
  refine T.seq ?_
  refine T.region ?_
  refine L.a [] [] (Ac.box rfl rfl) rfl rfl rfl rfl rfl ?_
  intro g1
  refine L.a [] [] (Ac.alloc rfl rfl) rfl rfl rfl rfl rfl ?_
  intro g2
  refine L.nil ?_
  refine E.then ?_
  refine T.seq ?_
  refine T.region ?_
  refine L.q 1 rfl ?_
  obtain ⟨r3, h4, H5⟩ := bnd H
  refine L.a [] [] (Ac.call (c_ref06_Of h4) rfl rfl rfl rfl) rfl rfl rfl rfl rfl ?_
  rintro ⟨⟩
  refine L.q 1 rfl ?_
  refine L.nil ?_
  refine E.then ?_
  refine T.seq ?_
  refine T.seq ?_
  obtain ⟨e11, H12, H13⟩ := bnd H5
  refine T.join (η := Unit × Unit) (fun h => True) (fun h => [(1, .int .i64 at_), (2, .int .i64 x), (3, .int .i64 style), (4, .pointer (some ⟨g1, 0, none⟩)), (8, .pointer (some ⟨g2, 0, none⟩)), (9, .int .i64 r3), (27, .bool e11)]) (fun h => [Ch.box g2 30 [.slice none 0 0, .bool false], Ch.box g1 30 [.slice a_0_0 r_.l.length c_0_0, .bool r_.wrapped]]) (fun h => [Im.sl tyRef09Cell a_0_0 c_0_0 r_.l]) ?_ ?_
  · refine T.region ?_
    refine L.q 3 rfl ?_
    refine L.cs 15 H12 rfl (fun hc H14 => ?_) (fun hc H14 => ?_)
    · refine L.q 12 rfl ?_
      refine L.nil ?_
      have hr := Option.some.inj H14
      subst e11
      exact E.give ((), ()) [0, 0] [0] trivial ⟨rfl, rfl, rfl, rfl, rfl, rfl, rfl, trivial⟩ rfl rfl
    · refine L.q 4 rfl ?_
      refine L.cs 19 H14 rfl (fun hc H15 => ?_) (fun hc H15 => ?_)
      · refine L.q 8 rfl ?_
        refine L.nil ?_
        have hr := Option.some.inj H15
        subst e11
        exact E.give ((), ()) [0, 0] [0] trivial ⟨rfl, rfl, rfl, rfl, rfl, rfl, rfl, trivial⟩ rfl rfl
      · refine L.q 2 rfl ?_
        refine L.y (Yl.ldb 1 rfl rfl rfl rfl) rfl rfl rfl ?_
        refine L.q 5 rfl ?_
        refine L.nil ?_
        have hr := Option.some.inj H15
        subst e11
        exact E.give ((), ()) [0, 0] [0] trivial ⟨rfl, rfl, rfl, rfl, rfl, rfl, rfl, trivial⟩ rfl rfl
  · rintro ⟨_, ⟨⟩⟩ _
    refine T.bif rfl H13 (fun hc H23 => ?_) (fun hc H23 => ?_)
    · refine T.seq ?_
      refine T.region ?_
      refine L.q 1 rfl ?_
      refine L.y (Yl.ldb 1 rfl rfl rfl rfl) rfl rfl rfl ?_
      obtain ⟨r24, h25, H26⟩ := bnd H23
      refine L.a [] [0] (Ac.call (c_ref09_mend a_0_0 c_0_0 h25) rfl rfl rfl rfl) rfl rfl rfl rfl rfl ?_
      rintro ⟨a27, c28⟩
      refine L.a [0] [] (Ac.stb rfl rfl rfl rfl rfl rfl) rfl rfl rfl rfl rfl ?_
      intro _
      refine L.nil ?_
      refine E.then ?_
      refine T.ret ?_
      refine E.then_ret ?_
      have hr := Option.some.inj H26
      subst r
      exact E.ret (a27, c28) [] [0] (.cell 0 rfl rfl rfl .nil) rfl rfl rfl
    · refine T.skip ?_
      refine E.then ?_
      refine T.seq ?_
      refine T.region ?_
      refine L.a [] [] (Ac.bs (ty := tyRef09Cell) (xs := []) .nil rfl rfl rfl rfl rfl rfl rfl) rfl rfl rfl rfl rfl ?_
      intro g30
      refine L.q 1 rfl ?_
      refine L.y (Yl.ldb 2 rfl rfl rfl rfl) rfl rfl rfl ?_
      obtain ⟨_, h32, H33⟩ := bnd H23
      refine L.a [0] [0] (Ac.ap (ty := tyRef09Cell) h32 rfl rfl rfl rfl rfl rfl rfl) rfl rfl rfl rfl rfl ?_
      rintro ⟨a34, c35⟩
      refine L.q 1 rfl ?_
      refine L.nil ?_
      refine E.then ?_
      refine T.seq ?_
      refine T.region ?_
      refine L.q 5 rfl ?_
      obtain ⟨x37, h38, H39⟩ := bnd H33
      refine L.addro 0 rfl (idx_lt h38) fun b40 e41 => ?_
      obtain rfl : a34 = some ⟨b40, 0, none⟩ := e41
      refine L.y (Yl.ia h38 rfl rfl rfl rfl rfl rfl) rfl rfl rfl ?_
      refine L.a [0] [] (Ac.se 0 (Ref09Cell.mk x style 0) (idx_some h38).2 rfl rfl rfl rfl rfl rfl (fun _ => ⟨(), rfl, [], rfl⟩)) rfl rfl rfl rfl rfl ?_
      intro _
      refine L.sl 10 (k' := ((([] : List Ref09Cell) ++ r_.l).set at_.toNat (Ref09Cell.mk x style 0)).length) (List.length_set ..) rfl ?_
      refine L.nil ?_
      refine E.then ?_
      refine T.seq ?_
      refine T.seq ?_
      refine T.region ?_
      refine L.q 2 rfl ?_
      refine L.nil ?_
      refine E.then ?_
      obtain ⟨e113, H114, H115⟩ := bnd H39
      refine T.join (η := Unit × ((Option Addr × Nat))) (fun h => True) (fun h => (fun a110 c111 => [(8, .pointer (some ⟨g2, 0, none⟩)), (10, .slice a110 e113.length c111)]) h.2.1 h.2.2) (fun h => (fun a110 c111 => [Ch.arr tyRef09Cell 84 a110 c111 e113, Ch.box g2 30 [.slice none 0 0, .bool false], Ch.box g1 30 [.slice a_0_0 r_.l.length c_0_0, .bool r_.wrapped]]) h.2.1 h.2.2) (fun h => (fun a110 c111 => [Im.sl tyRef09Cell a_0_0 c_0_0 r_.l]) h.2.1 h.2.2) ?_ ?_
      · refine T.bif rfl H114 (fun hc H116 => ?_) (fun hc H116 => ?_)
        · refine T.seq ?_
          refine T.region ?_
          refine L.q 5 rfl ?_
          obtain ⟨x117, h118, H119⟩ := bnd H116
          refine L.y (Yl.ia h118 rfl rfl rfl rfl rfl rfl) rfl rfl rfl ?_
          refine L.a [0] [] (Ac.se 0 (Ref09Cell.mk x style 1) (idx_some h118).2 rfl rfl rfl rfl rfl rfl (fun _ => ⟨(), rfl, [], rfl⟩)) rfl rfl rfl rfl rfl ?_
          intro _
          refine L.sl 10 (k' := (((([] : List Ref09Cell) ++ r_.l).set at_.toNat (Ref09Cell.mk x style 0)).set at_.toNat (Ref09Cell.mk x style 1)).length) (List.length_set ..) rfl ?_
          refine L.nil ?_
          refine E.then ?_
          refine T.seq ?_
          refine T.region ?_
          refine L.q 6 rfl ?_
          obtain ⟨x121, h122, H123⟩ := bnd H119
          refine L.y (Yl.ia h122 rfl rfl rfl rfl rfl rfl) rfl rfl rfl ?_
          refine L.a [0] [] (Ac.se 0 (Ref09Cell.mk x style 2) (idx_some h122).2 rfl rfl rfl rfl rfl rfl (fun _ => ⟨(), rfl, [], rfl⟩)) rfl rfl rfl rfl rfl ?_
          intro _
          refine L.sl 10 (k' := ((((([] : List Ref09Cell) ++ r_.l).set at_.toNat (Ref09Cell.mk x style 0)).set at_.toNat (Ref09Cell.mk x style 1)).set (IntKind.i64.wrap (at_ + 1)).toNat (Ref09Cell.mk x style 2)).length) (List.length_set ..) rfl ?_
          refine L.nil ?_
          refine E.then ?_
          refine T.seq ?_
          obtain ⟨e134, H135, H136⟩ := bnd H123
          refine T.join (η := Unit × Unit) (fun h => True) (fun h => [(1, .int .i64 at_), (8, .pointer (some ⟨g2, 0, none⟩)), (10, .slice (some ⟨b40, 0, none⟩) ((((([] : List Ref09Cell) ++ r_.l).set at_.toNat (Ref09Cell.mk x style 0)).set at_.toNat (Ref09Cell.mk x style 1)).set (IntKind.i64.wrap (at_ + 1)).toNat (Ref09Cell.mk x style 2)).length c35), (66, .bool e134)]) (fun h => [Ch.box g2 30 [.slice none 0 0, .bool false], Ch.box g1 30 [.slice a_0_0 r_.l.length c_0_0, .bool r_.wrapped], Ch.arr tyRef09Cell 84 (some ⟨b40, 0, none⟩) c35 ((((([] : List Ref09Cell) ++ r_.l).set at_.toNat (Ref09Cell.mk x style 0)).set at_.toNat (Ref09Cell.mk x style 1)).set (IntKind.i64.wrap (at_ + 1)).toNat (Ref09Cell.mk x style 2))]) (fun h => [Im.sl tyRef09Cell a_0_0 c_0_0 r_.l]) ?_ ?_
          · refine T.region ?_
            refine L.q 3 rfl ?_
            refine L.cs 58 H135 rfl (fun hc H137 => ?_) (fun hc H137 => ?_)
            · refine L.q 3 rfl ?_
              obtain ⟨x138, h139, H140⟩ := bnd H137
              refine L.y (Yl.ia h139 rfl rfl rfl rfl rfl rfl) rfl rfl rfl ?_
              refine L.q 1 rfl ?_
              refine L.y (Yl.lo (v := .int .i64 x138.part) 0 (IntKind.i64.wrap (at_ - 1)).toNat 2 (idx_some h139).2 rfl rfl rfl rfl (fun _ => rfl)) rfl rfl rfl ?_
              refine L.q 2 rfl ?_
              refine L.nil ?_
              have hr := Option.some.inj H140
              subst e134
              exact E.give ((), ()) [1, 1, 0] [0] trivial ⟨rfl, rfl, rfl, rfl, trivial⟩ rfl rfl
            · refine L.q 8 rfl ?_
              refine L.nil ?_
              have hr := Option.some.inj H137
              subst e134
              exact E.give ((), ()) [1, 1, 0] [0] trivial ⟨rfl, rfl, rfl, rfl, trivial⟩ rfl rfl
          · rintro ⟨_, ⟨⟩⟩ _
            refine T.bif rfl H136 (fun hc H141 => ?_) (fun hc H141 => ?_)
            · refine T.region ?_
              refine L.q 6 rfl ?_
              obtain ⟨x142, h143, H144⟩ := bnd H141
              refine L.y (Yl.ia h143 rfl rfl rfl rfl rfl rfl) rfl rfl rfl ?_
              refine L.q 1 rfl ?_
              refine L.y (Yl.lo (v := .int .i64 x142.style) 2 (IntKind.i64.wrap (at_ - 1)).toNat 1 (idx_some h143).2 rfl rfl rfl rfl (fun _ => rfl)) rfl rfl rfl ?_
              refine L.q 1 rfl ?_
              obtain ⟨x145, h146, H147⟩ := bnd H144
              refine L.y (Yl.ia h146 rfl rfl rfl rfl rfl rfl) rfl rfl rfl ?_
              refine L.a [2] [] (Ac.se 0 (Ref09Cell.mk 32 x142.style 0) (idx_some h146).2 rfl rfl rfl rfl rfl rfl (fun _ => ⟨(), rfl, [], rfl⟩)) rfl rfl rfl rfl rfl ?_
              intro _
              refine L.sl 10 (k' := (((((([] : List Ref09Cell) ++ r_.l).set at_.toNat (Ref09Cell.mk x style 0)).set at_.toNat (Ref09Cell.mk x style 1)).set (IntKind.i64.wrap (at_ + 1)).toNat (Ref09Cell.mk x style 2)).set (IntKind.i64.wrap (at_ - 1)).toNat (Ref09Cell.mk 32 x142.style 0)).length) (List.length_set ..) rfl ?_
              refine L.nil ?_
              have hr := Option.some.inj H147
              subst e113
              exact E.give ((), ((some ⟨b40, 0, none⟩), c35)) [0, 0, 0] [0] trivial ⟨rfl, rfl, trivial⟩ rfl rfl
            · refine T.skip ?_
              have hr := Option.some.inj H141
              subst e113
              exact E.give ((), ((some ⟨b40, 0, none⟩), c35)) [2, 0, 0] [0] trivial ⟨rfl, rfl, trivial⟩ rfl rfl
        · refine T.skip ?_
          have hr := Option.some.inj H116
          subst e113
          exact E.give ((), ((some ⟨b40, 0, none⟩), c35)) [0, 0, 0] [0] trivial ⟨rfl, rfl, trivial⟩ rfl rfl
      · rintro ⟨_, ⟨a110, c111⟩⟩ _
        refine T.seq ?_
        refine T.region ?_
        refine L.q 1 rfl ?_
        refine L.frz 0 rfl ?_
        obtain ⟨r150, h151, H152⟩ := bnd H115
        refine L.a [] [0] (Ac.call (c_ref09_mend a110 c111 h151) rfl rfl rfl rfl) rfl rfl rfl rfl rfl ?_
        rintro ⟨a153, c154⟩
        refine L.a [0] [] (Ac.stb rfl rfl rfl rfl rfl rfl) rfl rfl rfl rfl rfl ?_
        intro _
        refine L.nil ?_
        refine E.then ?_
        refine T.ret ?_
        have hr := Option.some.inj H152
        subst r
        exact E.ret (a153, c154) [] [0] (.cell 0 rfl rfl rfl .nil) rfl rfl rfl

theorem c_ref09_Erase (a_0_0 : Option Addr) (c_0_0 : Nat) {r_ : Ref09Row} {from_ : Int} {to : Int} {style : Int} {r : Ref09Row} (H : p_ref09_Erase r_ from_ to style = some r) : CT G 47 [.agg #[.slice a_0_0 r_.l.length c_0_0, .bool r_.wrapped], .int .i64 from_, .int .i64 to, .int .i64 style] [] [Im.sl tyRef09Cell a_0_0 c_0_0 r_.l] (fun h : (Option Addr × Nat) => .agg #[.slice h.1 r.l.length h.2, .bool r.wrapped]) (fun h => []) (fun h => [Im.sl tyRef09Cell h.1 h.2 r.l]) := by
  delta p_ref09_Erase at H
  refine CT.of Go.Proofs.Tryd.func47 (by kernel_rfl) rfl rfl fun K => ?_
  refine T.seq ?_
  refine T.region ?_
  refine L.a [] [] (Ac.box rfl rfl) rfl rfl rfl rfl rfl ?_
  intro g1
  refine L.a [] [] (Ac.alloc rfl rfl) rfl rfl rfl rfl rfl ?_
  intro g2
  refine L.nil ?_
  refine E.then ?_
  refine T.seq ?_
  refine T.region ?_
  refine L.a [] [] (Ac.bs (ty := tyRef09Cell) (xs := []) .nil rfl rfl rfl rfl rfl rfl rfl) rfl rfl rfl rfl rfl ?_
  intro g3
  refine L.q 1 rfl ?_
  refine L.y (Yl.ldb 2 rfl rfl rfl rfl) rfl rfl rfl ?_
  obtain ⟨_, h5, H6⟩ := bnd H
  refine L.a [0] [0] (Ac.ap (ty := tyRef09Cell) h5 rfl rfl rfl rfl rfl rfl rfl) rfl rfl rfl rfl rfl ?_
  rintro ⟨a7, c8⟩
  refine L.q 1 rfl ?_
  refine L.nil ?_
  refine E.then ?_
  refine T.seq ?_
  refine T.seq ?_
  refine T.region ?_
  refine L.q 3 rfl ?_
  refine L.nil ?_
  refine E.then ?_
  obtain ⟨e183, H184, H185⟩ := bnd H6
  refine T.join (η := Unit × ((Option Addr × Nat))) (fun h => True) (fun h => (fun a180 c181 => [(8, .pointer (some ⟨g2, 0, none⟩)), (9, .slice a180 e183.length c181)]) h.2.1 h.2.2) (fun h => (fun a180 c181 => [Ch.arr tyRef09Cell 84 a180 c181 e183, Ch.box g2 30 [.slice none 0 0, .bool false], Ch.box g1 30 [.slice a_0_0 r_.l.length c_0_0, .bool r_.wrapped]]) h.2.1 h.2.2) (fun h => (fun a180 c181 => [Im.sl tyRef09Cell a_0_0 c_0_0 r_.l]) h.2.1 h.2.2) ?_ ?_
  · refine T.block ?_
    refine T.lp (η := (Option Addr × Nat)) (fun s127 h => (fun a124 c125 => [(1, .int .i64 from_), (2, .int .i64 to), (3, .int .i64 style), (8, .pointer (some ⟨g2, 0, none⟩)), (9, .slice a124 s127.2.length c125), (16, .int .i64 ((([] : List Ref09Cell) ++ r_.l).length : Int)), (17, .int .i64 s127.1)]) h.1 h.2) (fun s127 h => (fun a124 c125 => [Ch.arr tyRef09Cell 84 a124 c125 s127.2, Ch.box g2 30 [.slice none 0 0, .bool false], Ch.box g1 30 [.slice a_0_0 r_.l.length c_0_0, .bool r_.wrapped]]) h.1 h.2) (fun s127 h => (fun a124 c125 => [Im.sl tyRef09Cell a_0_0 c_0_0 r_.l]) h.1 h.2) (a7, c8) [0, 0, 0] [0] H184 ⟨rfl, rfl, rfl, rfl, rfl, rfl, rfl, trivial⟩ rfl rfl ?_
    rintro k s127 ⟨a124, c125⟩ z187 H186 hag188 hbr189
    refine T.seq ?_
    refine T.region ?_
    refine L.q 1 rfl ?_
    refine L.nil ?_
    refine E.then ?_
    refine T.seq ?_
    refine T.bif rfl H186 (fun hc H191 => ?_) (fun hc H191 => ?_)
    · refine T.skip ?_
      refine E.then ?_
      refine T.seq ?_
      obtain ⟨e224, H225, H226⟩ := bnd H191
      refine T.join (η := Unit × ((Option Addr × Nat))) (fun h => True) (fun h => (fun a221 c222 => [(1, .int .i64 from_), (2, .int .i64 to), (3, .int .i64 style), (8, .pointer (some ⟨g2, 0, none⟩)), (9, .slice a221 e224.length c222), (16, .int .i64 ((([] : List Ref09Cell) ++ r_.l).length : Int)), (17, .int .i64 s127.1)]) h.2.1 h.2.2) (fun h => (fun a221 c222 => [Ch.arr tyRef09Cell 84 a221 c222 e224, Ch.box g2 30 [.slice none 0 0, .bool false], Ch.box g1 30 [.slice a_0_0 r_.l.length c_0_0, .bool r_.wrapped]]) h.2.1 h.2.2) (fun h => (fun a221 c222 => [Im.sl tyRef09Cell a_0_0 c_0_0 r_.l]) h.2.1 h.2.2) ?_ ?_
      · refine T.block ?_
        refine T.seq ?_
        refine T.region ?_
        refine L.q 2 rfl ?_
        refine L.nil ?_
        refine E.then ?_
        refine T.seq ?_
        obtain ⟨e230, H231, H232⟩ := bnd H225
        refine T.join (η := Unit × Unit) (fun h => True) (fun h => [(1, .int .i64 from_), (2, .int .i64 to), (3, .int .i64 style), (8, .pointer (some ⟨g2, 0, none⟩)), (9, .slice a124 s127.2.length c125), (10, .int .i64 s127.1), (16, .int .i64 ((([] : List Ref09Cell) ++ r_.l).length : Int)), (17, .int .i64 s127.1), (27, .bool e230)]) (fun h => [Ch.box g2 30 [.slice none 0 0, .bool false], Ch.box g1 30 [.slice a_0_0 r_.l.length c_0_0, .bool r_.wrapped], Ch.arr tyRef09Cell 84 a124 c125 s127.2]) (fun h => [Im.sl tyRef09Cell a_0_0 c_0_0 r_.l]) ?_ ?_
        · refine T.region ?_
          refine L.q 4 rfl ?_
          refine L.cs 23 H231 rfl (fun hc H233 => ?_) (fun hc H233 => ?_)
          · refine L.q 4 rfl ?_
            refine L.nil ?_
            have hr := Option.some.inj H233
            subst e230
            exact E.give ((), ()) [1, 1, 0] [0] trivial ⟨rfl, rfl, rfl, rfl, rfl, rfl, rfl, rfl, rfl, trivial⟩ rfl rfl
          · refine L.q 4 rfl ?_
            refine L.nil ?_
            have hr := Option.some.inj H233
            subst e230
            exact E.give ((), ()) [1, 1, 0] [0] trivial ⟨rfl, rfl, rfl, rfl, rfl, rfl, rfl, rfl, rfl, trivial⟩ rfl rfl
        · rintro ⟨_, ⟨⟩⟩ _
          refine T.bif rfl H232 (fun hc H234 => ?_) (fun hc H234 => ?_)
          · refine T.region ?_
            refine L.q 4 rfl ?_
            obtain ⟨x235, h236, H237⟩ := bnd H234
            refine L.addro 2 rfl (idx_lt h236) fun b238 e239 => ?_
            obtain rfl : a124 = some ⟨b238, 0, none⟩ := e239
            refine L.y (Yl.ia h236 rfl rfl rfl rfl rfl rfl) rfl rfl rfl ?_
            refine L.a [2] [] (Ac.se 0 (Ref09Cell.mk 32 style 0) (idx_some h236).2 rfl rfl rfl rfl rfl rfl (fun _ => ⟨(), rfl, [], rfl⟩)) rfl rfl rfl rfl rfl ?_
            intro _
            refine L.sl 9 (k' := (s127.2.set s127.1.toNat (Ref09Cell.mk 32 style 0)).length) (List.length_set ..) rfl ?_
            refine L.nil ?_
            refine E.block ?_
            have hr := Option.some.inj H237
            subst e224
            exact E.give ((), ((some ⟨b238, 0, none⟩), c125)) [0, 0, 0] [0] trivial ⟨rfl, rfl, rfl, rfl, rfl, rfl, rfl, trivial⟩ rfl rfl
          · refine T.skip ?_
            refine E.block ?_
            have hr := Option.some.inj H234
            subst e224
            exact E.give ((), (a124, c125)) [2, 0, 0] [0] trivial ⟨rfl, rfl, rfl, rfl, rfl, rfl, rfl, trivial⟩ rfl rfl
      · rintro ⟨_, ⟨a221, c222⟩⟩ _
        refine T.region ?_
        refine L.q 2 rfl ?_
        refine L.nil ?_
        have hr := Option.some.inj H226
        subst z187
        exact E.give (_, (a221, c222)) [0, 0, 0] [0] (hag188 _ rfl) ⟨rfl, rfl, rfl, rfl, rfl, rfl, rfl, trivial⟩ rfl rfl
    · refine T.exit ?_
      refine E.then_exit' ?_
      refine E.then_exit' ?_
      refine E.block_here ?_
      have hr := Option.some.inj H191
      subst z187
      have hb := hbr189 _ rfl
      subst e183
      exact E.give ((), (a124, c125)) [0, 0, 0] [0] trivial ⟨rfl, rfl, trivial⟩ rfl rfl
  · rintro ⟨_, ⟨a180, c181⟩⟩ _
    refine T.seq ?_
    refine T.region ?_
    refine L.q 1 rfl ?_
    refine L.frz 0 rfl ?_
    obtain ⟨r242, h243, H244⟩ := bnd H185
    refine L.a [] [0] (Ac.call (c_ref09_mend a180 c181 h243) rfl rfl rfl rfl) rfl rfl rfl rfl rfl ?_
    rintro ⟨a245, c246⟩
    refine L.a [0] [] (Ac.stb rfl rfl rfl rfl rfl rfl) rfl rfl rfl rfl rfl ?_
    intro _
    refine L.nil ?_
    refine E.then ?_
    refine T.ret ?_
    have hr := Option.some.inj H244
    subst r
    exact E.ret (a245, c246) [] [0] (.cell 0 rfl rfl rfl .nil) rfl rfl rfl

theorem c_ref09_Insert (a_0_0 : Option Addr) (c_0_0 : Nat) {r_ : Ref09Row} {at_ : Int} {n_ : Int} {style : Int} {r : Ref09Row} (H : p_ref09_Insert r_ at_ n_ style = some r) : CT G 48 [.agg #[.slice a_0_0 r_.l.length c_0_0, .bool r_.wrapped], .int .i64 at_, .int .i64 n_, .int .i64 style] [] [Im.sl tyRef09Cell a_0_0 c_0_0 r_.l] (fun h : (Option Addr × Nat) => .agg #[.slice h.1 r.l.length h.2, .bool r.wrapped]) (fun h => []) (fun h => [Im.sl tyRef09Cell h.1 h.2 r.l]) := by
  delta p_ref09_Insert at H
  refine CT.of Go.Proofs.Tryd.func48 (by kernel_rfl) rfl rfl fun K => ?_
  refine T.seq ?_
  refine T.region ?_
  refine L.a [] [] (Ac.box rfl rfl) rfl rfl rfl rfl rfl ?_
  intro g1
  refine L.a [] [] (Ac.alloc rfl rfl) rfl rfl rfl rfl rfl ?_
  intro g2
  refine L.nil ?_
  refine E.then ?_
  refine T.seq ?_
  refine T.seq ?_
  obtain ⟨e8, H9, H10⟩ := bnd H
  refine T.join (η := Unit × Unit) (fun h => True) (fun h => [(1, .int .i64 at_), (2, .int .i64 n_), (3, .int .i64 style), (4, .pointer (some ⟨g1, 0, none⟩)), (8, .pointer (some ⟨g2, 0, none⟩)), (22, .bool e8)]) (fun h => [Ch.box g2 30 [.slice none 0 0, .bool false], Ch.box g1 30 [.slice a_0_0 r_.l.length c_0_0, .bool r_.wrapped]]) (fun h => [Im.sl tyRef09Cell a_0_0 c_0_0 r_.l]) ?_ ?_
  · refine T.region ?_
    refine L.q 3 rfl ?_
    refine L.cs 12 H9 rfl (fun hc H11 => ?_) (fun hc H11 => ?_)
    · refine L.q 10 rfl ?_
      refine L.nil ?_
      have hr := Option.some.inj H11
      subst e8
      exact E.give ((), ()) [0, 0] [0] trivial ⟨rfl, rfl, rfl, rfl, rfl, rfl, trivial⟩ rfl rfl
    · refine L.q 2 rfl ?_
      refine L.y (Yl.ldb 1 rfl rfl rfl rfl) rfl rfl rfl ?_
      refine L.q 4 rfl ?_
      refine L.cs 19 H11 rfl (fun hc H12 => ?_) (fun hc H12 => ?_)
      · refine L.q 3 rfl ?_
        refine L.nil ?_
        have hr := Option.some.inj H12
        subst e8
        exact E.give ((), ()) [0, 0] [0] trivial ⟨rfl, rfl, rfl, rfl, rfl, rfl, trivial⟩ rfl rfl
      · refine L.q 3 rfl ?_
        refine L.nil ?_
        have hr := Option.some.inj H12
        subst e8
        exact E.give ((), ()) [0, 0] [0] trivial ⟨rfl, rfl, rfl, rfl, rfl, rfl, trivial⟩ rfl rfl
  · rintro ⟨_, ⟨⟩⟩ _
    refine T.bif rfl H10 (fun hc H20 => ?_) (fun hc H20 => ?_)
    · refine T.seq ?_
      refine T.region ?_
      refine L.q 1 rfl ?_
      refine L.y (Yl.ldb 1 rfl rfl rfl rfl) rfl rfl rfl ?_
      obtain ⟨r21, h22, H23⟩ := bnd H20
      refine L.a [] [0] (Ac.call (c_ref09_mend a_0_0 c_0_0 h22) rfl rfl rfl rfl) rfl rfl rfl rfl rfl ?_
      rintro ⟨a24, c25⟩
      refine L.a [0] [] (Ac.stb rfl rfl rfl rfl rfl rfl) rfl rfl rfl rfl rfl ?_
      intro _
      refine L.nil ?_
      refine E.then ?_
      refine T.ret ?_
      refine E.then_ret ?_
      have hr := Option.some.inj H23
      subst r
      exact E.ret (a24, c25) [] [0] (.cell 0 rfl rfl rfl .nil) rfl rfl rfl
    · refine T.skip ?_
      refine E.then ?_
      refine T.seq ?_
      refine T.region ?_
      refine L.q 2 rfl ?_
      refine L.y (Yl.ldb 1 rfl rfl rfl rfl) rfl rfl rfl ?_
      refine L.q 5 rfl ?_
      refine L.nil ?_
      refine E.then ?_
      refine T.seq ?_
      refine T.region ?_
      refine L.a [] [] (Ac.bs (ty := tyRef09Cell) (xs := []) .nil rfl rfl rfl rfl rfl rfl rfl) rfl rfl rfl rfl rfl ?_
      intro g27
      refine L.q 1 rfl ?_
      refine L.y (Yl.ldb 2 rfl rfl rfl rfl) rfl rfl rfl ?_
      refine L.q 1 rfl ?_
      obtain ⟨_, h29, H30⟩ := bnd H20
      refine L.rs 0 h29 rfl rfl rfl rfl rfl rfl rfl rfl rfl rfl rfl rfl ?_
      intro a31 c32
      obtain ⟨_, h34, H35⟩ := bnd H30
      refine L.a [0] [0] (Ac.ap (ty := tyRef09Cell) h34 rfl rfl rfl rfl rfl rfl rfl) rfl rfl rfl rfl rfl ?_
      rintro ⟨a36, c37⟩
      refine L.q 1 rfl ?_
      refine L.nil ?_
      refine E.then ?_
      refine T.seq ?_
      refine T.region ?_
      refine L.q 3 rfl ?_
      obtain ⟨r39, h40, H41⟩ := bnd H35
      refine L.a [] [] (Ac.call (c_ref09_Blank h40) rfl rfl rfl rfl) rfl rfl rfl rfl rfl ?_
      rintro ⟨a42, c43⟩
      refine L.q 1 rfl ?_
      obtain ⟨_, h45, H46⟩ := bnd H41
      refine L.a [0] [0] (Ac.ap (ty := tyRef09Cell) h45 rfl rfl rfl rfl rfl rfl rfl) rfl rfl rfl rfl rfl ?_
      rintro ⟨a47, c48⟩
      refine L.q 1 rfl ?_
      refine L.nil ?_
      refine E.then ?_
      refine T.seq ?_
      refine T.region ?_
      refine L.q 2 rfl ?_
      refine L.y (Yl.ldb 2 rfl rfl rfl rfl) rfl rfl rfl ?_
      refine L.q 2 rfl ?_
      refine L.y (Yl.ldb 2 rfl rfl rfl rfl) rfl rfl rfl ?_
      refine L.q 3 rfl ?_
      obtain ⟨_, h50, H51⟩ := bnd H46
      refine L.rs 2 h50 rfl rfl rfl rfl rfl rfl rfl rfl rfl rfl rfl rfl ?_
      intro a52 c53
      obtain ⟨_, h55, H56⟩ := bnd H51
      refine L.a [0] [0] (Ac.ap (ty := tyRef09Cell) h55 rfl rfl rfl rfl rfl rfl rfl) rfl rfl rfl rfl rfl ?_
      rintro ⟨a57, c58⟩
      refine L.q 1 rfl ?_
      refine L.nil ?_
      refine E.then ?_
      refine T.seq ?_
      refine T.region ?_
      refine L.q 1 rfl ?_
      refine L.frz 0 rfl ?_
      obtain ⟨r61, h62, H63⟩ := bnd H56
      refine L.a [] [0] (Ac.call (c_ref09_mend a57 c58 h62) rfl rfl rfl rfl) rfl rfl rfl rfl rfl ?_
      rintro ⟨a64, c65⟩
      refine L.a [0] [] (Ac.stb rfl rfl rfl rfl rfl rfl) rfl rfl rfl rfl rfl ?_
      intro _
      refine L.nil ?_
      refine E.then ?_
      refine T.ret ?_
      have hr := Option.some.inj H63
      subst r
      exact E.ret (a64, c65) [] [0] (.cell 0 rfl rfl rfl .nil) rfl rfl rfl

theorem c_ref09_Delete (a_0_0 : Option Addr) (c_0_0 : Nat) {r_ : Ref09Row} {at_ : Int} {n_ : Int} {style : Int} {r : Ref09Row} (H : p_ref09_Delete r_ at_ n_ style = some r) : CT G 49 [.agg #[.slice a_0_0 r_.l.length c_0_0, .bool r_.wrapped], .int .i64 at_, .int .i64 n_, .int .i64 style] [] [Im.sl tyRef09Cell a_0_0 c_0_0 r_.l] (fun h : (Option Addr × Nat) => .agg #[.slice h.1 r.l.length h.2, .bool r.wrapped]) (fun h => []) (fun h => [Im.sl tyRef09Cell h.1 h.2 r.l]) := by
  delta p_ref09_Delete at H
  refine CT.of Go.Proofs.Tryd.func49 (by kernel_rfl) rfl rfl fun K => ?_
  refine T.seq ?_
  refine T.region ?_
  refine L.a [] [] (Ac.box rfl rfl) rfl rfl rfl rfl rfl ?_
  intro g1
  refine L.a [] [] (Ac.alloc rfl rfl) rfl rfl rfl rfl rfl ?_
  intro g2
  refine L.nil ?_
  refine E.then ?_
  refine T.seq ?_
  refine T.seq ?_
  obtain ⟨e8, H9, H10⟩ := bnd H
  refine T.join (η := Unit × Unit) (fun h => True) (fun h => [(1, .int .i64 at_), (2, .int .i64 n_), (3, .int .i64 style), (4, .pointer (some ⟨g1, 0, none⟩)), (8, .pointer (some ⟨g2, 0, none⟩)), (22, .bool e8)]) (fun h => [Ch.box g2 30 [.slice none 0 0, .bool false], Ch.box g1 30 [.slice a_0_0 r_.l.length c_0_0, .bool r_.wrapped]]) (fun h => [Im.sl tyRef09Cell a_0_0 c_0_0 r_.l]) ?_ ?_
  · refine T.region ?_
    refine L.q 3 rfl ?_
    refine L.cs 12 H9 rfl (fun hc H11 => ?_) (fun hc H11 => ?_)
    · refine L.q 10 rfl ?_
      refine L.nil ?_
      have hr := Option.some.inj H11
      subst e8
      exact E.give ((), ()) [0, 0] [0] trivial ⟨rfl, rfl, rfl, rfl, rfl, rfl, trivial⟩ rfl rfl
    · refine L.q 2 rfl ?_
      refine L.y (Yl.ldb 1 rfl rfl rfl rfl) rfl rfl rfl ?_
      refine L.q 4 rfl ?_
      refine L.cs 19 H11 rfl (fun hc H12 => ?_) (fun hc H12 => ?_)
      · refine L.q 3 rfl ?_
        refine L.nil ?_
        have hr := Option.some.inj H12
        subst e8
        exact E.give ((), ()) [0, 0] [0] trivial ⟨rfl, rfl, rfl, rfl, rfl, rfl, trivial⟩ rfl rfl
      · refine L.q 3 rfl ?_
        refine L.nil ?_
        have hr := Option.some.inj H12
        subst e8
        exact E.give ((), ()) [0, 0] [0] trivial ⟨rfl, rfl, rfl, rfl, rfl, rfl, trivial⟩ rfl rfl
  · rintro ⟨_, ⟨⟩⟩ _
    refine T.bif rfl H10 (fun hc H20 => ?_) (fun hc H20 => ?_)
    · refine T.seq ?_
      refine T.region ?_
      refine L.q 1 rfl ?_
      refine L.y (Yl.ldb 1 rfl rfl rfl rfl) rfl rfl rfl ?_
      obtain ⟨r21, h22, H23⟩ := bnd H20
      refine L.a [] [0] (Ac.call (c_ref09_mend a_0_0 c_0_0 h22) rfl rfl rfl rfl) rfl rfl rfl rfl rfl ?_
      rintro ⟨a24, c25⟩
      refine L.a [0] [] (Ac.stb rfl rfl rfl rfl rfl rfl) rfl rfl rfl rfl rfl ?_
      intro _
      refine L.nil ?_
      refine E.then ?_
      refine T.ret ?_
      refine E.then_ret ?_
      have hr := Option.some.inj H23
      subst r
      exact E.ret (a24, c25) [] [0] (.cell 0 rfl rfl rfl .nil) rfl rfl rfl
    · refine T.skip ?_
      refine E.then ?_
      refine T.seq ?_
      refine T.region ?_
      refine L.q 2 rfl ?_
      refine L.y (Yl.ldb 1 rfl rfl rfl rfl) rfl rfl rfl ?_
      refine L.q 5 rfl ?_
      refine L.nil ?_
      refine E.then ?_
      refine T.seq ?_
      refine T.region ?_
      refine L.a [] [] (Ac.bs (ty := tyRef09Cell) (xs := []) .nil rfl rfl rfl rfl rfl rfl rfl) rfl rfl rfl rfl rfl ?_
      intro g27
      refine L.q 1 rfl ?_
      refine L.y (Yl.ldb 2 rfl rfl rfl rfl) rfl rfl rfl ?_
      refine L.q 1 rfl ?_
      obtain ⟨_, h29, H30⟩ := bnd H20
      refine L.rs 0 h29 rfl rfl rfl rfl rfl rfl rfl rfl rfl rfl rfl rfl ?_
      intro a31 c32
      obtain ⟨_, h34, H35⟩ := bnd H30
      refine L.a [0] [0] (Ac.ap (ty := tyRef09Cell) h34 rfl rfl rfl rfl rfl rfl rfl) rfl rfl rfl rfl rfl ?_
      rintro ⟨a36, c37⟩
      refine L.q 1 rfl ?_
      refine L.nil ?_
      refine E.then ?_
      refine T.seq ?_
      refine T.region ?_
      refine L.q 2 rfl ?_
      refine L.y (Yl.ldb 2 rfl rfl rfl rfl) rfl rfl rfl ?_
      refine L.q 3 rfl ?_
      obtain ⟨_, h39, H40⟩ := bnd H35
      refine L.rs 1 h39 rfl rfl rfl rfl rfl rfl rfl rfl rfl rfl rfl rfl ?_
      intro a41 c42
      obtain ⟨_, h44, H45⟩ := bnd H40
      refine L.a [0] [0] (Ac.ap (ty := tyRef09Cell) h44 rfl rfl rfl rfl rfl rfl rfl) rfl rfl rfl rfl rfl ?_
      rintro ⟨a46, c47⟩
      refine L.q 1 rfl ?_
      refine L.nil ?_
      refine E.then ?_
      refine T.seq ?_
      refine T.region ?_
      refine L.q 3 rfl ?_
      obtain ⟨r49, h50, H51⟩ := bnd H45
      refine L.a [] [] (Ac.call (c_ref09_Blank h50) rfl rfl rfl rfl) rfl rfl rfl rfl rfl ?_
      rintro ⟨a52, c53⟩
      refine L.q 1 rfl ?_
      obtain ⟨_, h55, H56⟩ := bnd H51
      refine L.a [0] [0] (Ac.ap (ty := tyRef09Cell) h55 rfl rfl rfl rfl rfl rfl rfl) rfl rfl rfl rfl rfl ?_
      rintro ⟨a57, c58⟩
      refine L.frz 0 rfl ?_
      obtain ⟨r61, h62, H63⟩ := bnd H56
      refine L.a [] [0] (Ac.call (c_ref09_mend a57 c58 h62) rfl rfl rfl rfl) rfl rfl rfl rfl rfl ?_
      rintro ⟨a64, c65⟩
      refine L.a [0] [] (Ac.stb rfl rfl rfl rfl rfl rfl) rfl rfl rfl rfl rfl ?_
      intro _
      refine L.nil ?_
      refine E.then ?_
      refine T.ret ?_
      have hr := Option.some.inj H63
      subst r
      exact E.ret (a64, c65) [] [0] (.cell 0 rfl rfl rfl .nil) rfl rfl rfl

theorem c_ref09_Fill (a_0_0 : Option Addr) (c_0_0 : Nat) {r_ : Ref09Row} {style : Int} {r : Ref09Row} (H : p_ref09_Fill r_ style = some r) : CT G 50 [.agg #[.slice a_0_0 r_.l.length c_0_0, .bool r_.wrapped], .int .i64 style] [] [Im.sl tyRef09Cell a_0_0 c_0_0 r_.l] (fun h : (Option Addr × Nat) => .agg #[.slice h.1 r.l.length h.2, .bool r.wrapped]) (fun h => []) (fun h => [Im.sl tyRef09Cell h.1 h.2 r.l]) := by
  delta p_ref09_Fill at H
  refine CT.of Go.Proofs.Tryd.func50 (by kernel_rfl) rfl rfl fun K => ?_
  refine T.seq ?_
  refine T.region ?_
  refine L.a [] [] (Ac.box rfl rfl) rfl rfl rfl rfl rfl ?_
  intro g1
  refine L.a [] [] (Ac.alloc rfl rfl) rfl rfl rfl rfl rfl ?_
  intro g2
  refine L.nil ?_
  refine E.then ?_
  refine T.seq ?_
  refine T.region ?_
  refine L.a [] [] (Ac.bs (ty := tyRef09Cell) (xs := []) .nil rfl rfl rfl rfl rfl rfl rfl) rfl rfl rfl rfl rfl ?_
  intro g3
  refine L.q 1 rfl ?_
  refine L.y (Yl.ldb 2 rfl rfl rfl rfl) rfl rfl rfl ?_
  obtain ⟨_, h5, H6⟩ := bnd H
  refine L.a [0] [0] (Ac.ap (ty := tyRef09Cell) h5 rfl rfl rfl rfl rfl rfl rfl) rfl rfl rfl rfl rfl ?_
  rintro ⟨a7, c8⟩
  refine L.q 1 rfl ?_
  refine L.nil ?_
  refine E.then ?_
  refine T.seq ?_
  refine T.seq ?_
  refine T.region ?_
  refine L.q 3 rfl ?_
  refine L.nil ?_
  refine E.then ?_
  obtain ⟨e28, H29, H30⟩ := bnd H6
  refine T.join (η := Unit × ((Option Addr × Nat))) (fun h => True) (fun h => (fun a25 c26 => [(4, .pointer (some ⟨g2, 0, none⟩)), (5, .slice a25 e28.length c26)]) h.2.1 h.2.2) (fun h => (fun a25 c26 => [Ch.arr tyRef09Cell 84 a25 c26 e28, Ch.box g2 30 [.slice none 0 0, .bool false], Ch.box g1 30 [.slice a_0_0 r_.l.length c_0_0, .bool r_.wrapped]]) h.2.1 h.2.2) (fun h => (fun a25 c26 => [Im.sl tyRef09Cell a_0_0 c_0_0 r_.l]) h.2.1 h.2.2) ?_ ?_
  · refine T.bif rfl H29 (fun hc H31 => ?_) (fun hc H31 => ?_)
    · refine T.region ?_
      refine L.q 6 rfl ?_
      obtain ⟨x32, h33, H34⟩ := bnd H31
      refine L.addro 0 rfl (idx_lt h33) fun b35 e36 => ?_
      obtain rfl : a7 = some ⟨b35, 0, none⟩ := e36
      refine L.y (Yl.ia h33 rfl rfl rfl rfl rfl rfl) rfl rfl rfl ?_
      refine L.a [0] [] (Ac.se 0 (Ref09Cell.mk 32 style 3) (idx_some h33).2 rfl rfl rfl rfl rfl rfl (fun _ => ⟨(), rfl, [], rfl⟩)) rfl rfl rfl rfl rfl ?_
      intro _
      refine L.sl 5 (k' := ((([] : List Ref09Cell) ++ r_.l).set (IntKind.i64.wrap (((([] : List Ref09Cell) ++ r_.l).length : Int) - 1)).toNat (Ref09Cell.mk 32 style 3)).length) (List.length_set ..) rfl ?_
      refine L.nil ?_
      have hr := Option.some.inj H34
      subst e28
      exact E.give ((), ((some ⟨b35, 0, none⟩), c8)) [0, 0, 0] [0] trivial ⟨rfl, rfl, trivial⟩ rfl rfl
    · refine T.skip ?_
      have hr := Option.some.inj H31
      subst e28
      exact E.give ((), (a7, c8)) [0, 0, 0] [0] trivial ⟨rfl, rfl, trivial⟩ rfl rfl
  · rintro ⟨_, ⟨a25, c26⟩⟩ _
    refine T.seq ?_
    refine T.region ?_
    refine L.q 1 rfl ?_
    refine L.frz 0 rfl ?_
    obtain ⟨r39, h40, H41⟩ := bnd H30
    refine L.a [] [0] (Ac.call (c_ref09_mend a25 c26 h40) rfl rfl rfl rfl) rfl rfl rfl rfl rfl ?_
    rintro ⟨a42, c43⟩
    refine L.a [] [] (Ac.alloc rfl rfl) rfl rfl rfl rfl rfl ?_
    intro g45
    refine L.a [0] [] (Ac.stb rfl rfl rfl rfl rfl rfl) rfl rfl rfl rfl rfl ?_
    intro _
    refine L.nil ?_
    refine E.then ?_
    refine T.seq ?_
    refine T.region ?_
    refine L.q 1 rfl ?_
    refine L.a [0] [] (Ac.stb rfl rfl rfl rfl rfl rfl) rfl rfl rfl rfl rfl ?_
    intro _
    refine L.nil ?_
    refine E.then ?_
    refine T.seq ?_
    refine T.region ?_
    refine L.y (Yl.ldb 0 rfl rfl rfl rfl) rfl rfl rfl ?_
    refine L.a [1] [] (Ac.stb rfl rfl rfl rfl rfl rfl) rfl rfl rfl rfl rfl ?_
    intro _
    refine L.nil ?_
    refine E.then ?_
    refine T.ret ?_
    have hr := Option.some.inj H41
    subst r
    exact E.ret (a42, c43) [] [0] (.cell 0 rfl rfl rfl .nil) rfl rfl rfl

theorem c_row_Row_Resize (a_0_0 : Option Addr) (c_0_0 : Nat) {r_ : RowRow} {w : Int} {r : RowRow} (H : p_row_Row_Resize r_ w = some r) : CT G 51 [.agg #[.slice a_0_0 r_.cells.length c_0_0, .bool r_.wrapped], .int .i64 w] [] [Im.sl tyRowCell a_0_0 c_0_0 r_.cells] (fun h : (Option Addr × Nat) => .agg #[.slice h.1 r.cells.length h.2, .bool r.wrapped]) (fun h => []) (fun h => [Im.sl tyRowCell h.1 h.2 r.cells]) := by
  delta p_row_Row_Resize at H
  refine CT.of Go.Proofs.Tryd.func51 (by kernel_rfl) rfl rfl fun K => ?_
  refine T.seq ?_
  refine T.region ?_
  refine L.a [] [] (Ac.box rfl rfl) rfl rfl rfl rfl rfl ?_
  intro g1
  refine L.a [] [] (Ac.alloc rfl rfl) rfl rfl rfl rfl rfl ?_
  intro g2
  refine L.nil ?_
  refine E.then ?_
  refine T.seq ?_
  refine T.region ?_
  refine L.q 1 rfl ?_
  obtain ⟨r3, h4, H5⟩ := bnd H
  refine L.a [] [] (Ac.call (c_row_clip h4) rfl rfl rfl rfl) rfl rfl rfl rfl rfl ?_
  rintro ⟨⟩
  refine L.q 1 rfl ?_
  refine L.nil ?_
  refine E.then ?_
  refine T.seq ?_
  refine T.region ?_
  refine L.y (Yl.ldb 1 rfl rfl rfl rfl) rfl rfl rfl ?_
  obtain ⟨r6, h7, H8⟩ := bnd H5
  refine L.a [] [0] (Ac.call (c_row_Row_cells a_0_0 c_0_0 h7) rfl rfl rfl rfl) rfl rfl rfl rfl rfl ?_
  rintro ⟨a9, c10⟩
  refine L.q 1 rfl ?_
  refine L.nil ?_
  refine E.then ?_
  refine T.seq ?_
  refine T.seq ?_
  refine T.region ?_
  refine L.q 4 rfl ?_
  refine L.nil ?_
  refine E.then ?_
  refine T.bif rfl H8 (fun hc H13 => ?_) (fun hc H13 => ?_)
  · refine T.seq ?_
    refine T.region ?_
    refine L.q 2 rfl ?_
    refine L.y (Yl.ldb 2 rfl rfl rfl rfl) rfl rfl rfl ?_
    refine L.q 1 rfl ?_
    refine L.a [1] [] (Ac.stb rfl rfl rfl rfl rfl rfl) rfl rfl rfl rfl rfl ?_
    intro _
    refine L.nil ?_
    refine E.then ?_
    refine T.ret ?_
    refine E.then_ret ?_
    refine E.frz 1 rfl ?_
    have hr := Option.some.inj H13
    subst r
    exact E.ret (a9, c10) [] [0] (.cell 0 rfl rfl rfl .nil) rfl rfl rfl
  · refine T.skip ?_
    refine E.then ?_
    refine T.seq ?_
    obtain ⟨e247, H248, H249⟩ := bnd H13
    refine T.join (η := Unit × ((Option Addr × Nat))) (fun h => True) (fun h => (fun a244 c245 => [(4, .pointer (some ⟨g2, 0, none⟩))]) h.2.1 h.2.2) (fun h => (fun a244 c245 => [Ch.box g2 26 [.slice a244 e247.cells.length c245, .bool e247.wrapped], Ch.box g1 26 [.slice a_0_0 r_.cells.length c_0_0, .bool r_.wrapped]]) h.2.1 h.2.2) (fun h => (fun a244 c245 => [Im.sl tyRowCell a244 c245 e247.cells, Im.sl tyRowCell a_0_0 c_0_0 r_.cells]) h.2.1 h.2.2) ?_ ?_
    · refine T.draw [13] [1, 1] mo rfl ?_
      refine D.q 0 rfl rfl rfl rfl rfl rfl ?_
      refine D.q 1 rfl rfl rfl rfl rfl rfl ?_
      refine D.q 2 rfl rfl rfl rfl rfl rfl ?_
      refine D.q 3 rfl rfl rfl rfl rfl rfl ?_
      refine D.q 4 rfl rfl rfl rfl rfl rfl ?_
      refine D.q 6 rfl rfl rfl rfl rfl rfl ?_
      refine D.q 7 rfl rfl rfl rfl rfl rfl ?_
      refine D.q 8 rfl rfl rfl rfl rfl rfl ?_
      refine D.q 9 rfl rfl rfl rfl rfl rfl ?_
      obtain ⟨_, h307, H330⟩ := bnd H248
      obtain ⟨r312, h313, H331⟩ := bnd H330
      obtain ⟨_, h319, H332⟩ := bnd H331
      obtain ⟨r324, h325, H333⟩ := bnd H332
      refine D.two rfl rfl rfl ?_ ?_
      · refine Dp.a [0] [] (Ac.rso h307 rfl rfl rfl rfl rfl rfl rfl) rfl rfl rfl rfl rfl rfl ?_
        intro _
        refine D.one rfl rfl rfl (Dp.a [] [] (Ac.call (c_row_blanks h313) rfl rfl rfl rfl) rfl rfl rfl rfl rfl rfl ?_)
        rintro ⟨a338, c339⟩
        refine D.frz 0 rfl ?_
        refine D.one rfl rfl rfl (Dp.a [0] [0] (Ac.ap (ty := tyRowCell) h319 rfl rfl rfl rfl rfl rfl rfl) rfl rfl rfl rfl rfl rfl ?_)
        rintro ⟨a342, c343⟩
        refine D.one rfl rfl rfl (Dp.a [0] [] (Ac.call (c_row_mend a342 c343 h325) rfl rfl rfl rfl) rfl rfl rfl rfl rfl rfl ?_)
        rintro ⟨a346, c347⟩
        refine D.one rfl rfl rfl (Dp.al [0] [] (Ac.stb rfl rfl rfl rfl rfl rfl) rfl rfl rfl rfl rfl rfl rfl ?_)
        intro _
        refine D.nil rfl rfl ?_
        have hr := Option.some.inj H333
        subst e247
        exact E.give ((), (a346, c347)) [0, 0] [0, 2] trivial ⟨rfl, trivial⟩ rfl rfl
      · refine Dp.a [] [] (Ac.call (c_row_blanks h313) rfl rfl rfl rfl) rfl rfl rfl rfl rfl rfl ?_
        rintro ⟨a350, c351⟩
        refine D.one rfl rfl rfl (Dp.a [1] [] (Ac.rso h307 rfl rfl rfl rfl rfl rfl rfl) rfl rfl rfl rfl rfl rfl ?_)
        intro _
        refine D.frz 1 rfl ?_
        refine D.one rfl rfl rfl (Dp.a [0] [0] (Ac.ap (ty := tyRowCell) h319 rfl rfl rfl rfl rfl rfl rfl) rfl rfl rfl rfl rfl rfl ?_)
        rintro ⟨a357, c358⟩
        refine D.one rfl rfl rfl (Dp.a [0] [] (Ac.call (c_row_mend a357 c358 h325) rfl rfl rfl rfl) rfl rfl rfl rfl rfl rfl ?_)
        rintro ⟨a361, c362⟩
        refine D.one rfl rfl rfl (Dp.al [0] [] (Ac.stb rfl rfl rfl rfl rfl rfl) rfl rfl rfl rfl rfl rfl rfl ?_)
        intro _
        refine D.nil rfl rfl ?_
        have hr := Option.some.inj H333
        subst e247
        exact E.give ((), (a361, c362)) [0, 0] [0, 2] trivial ⟨rfl, trivial⟩ rfl rfl
    · rintro ⟨_, ⟨a244, c245⟩⟩ _
      refine T.ret ?_
      have hr := Option.some.inj H249
      subst r
      exact E.ret (a244, c245) [] [0] (.cell 0 rfl rfl rfl .nil) rfl rfl rfl

theorem c_ref09_Resize (a_0_0 : Option Addr) (c_0_0 : Nat) {r_ : Ref09Row} {w : Int} {r : Ref09Row} (H : p_ref09_Resize r_ w = some r) : CT G 52 [.agg #[.slice a_0_0 r_.l.length c_0_0, .bool r_.wrapped], .int .i64 w] [] [Im.sl tyRef09Cell a_0_0 c_0_0 r_.l] (fun h : (Option Addr × Nat) => .agg #[.slice h.1 r.l.length h.2, .bool r.wrapped]) (fun h => []) (fun h => [Im.sl tyRef09Cell h.1 h.2 r.l]) := by
  delta p_ref09_Resize at H
  refine CT.of Go.Proofs.Tryd.func52 (by kernel_rfl) rfl rfl fun K => ?_
  refine T.seq ?_
  refine T.region ?_
  refine L.a [] [] (Ac.box rfl rfl) rfl rfl rfl rfl rfl ?_
  intro g1
  refine L.a [] [] (Ac.alloc rfl rfl) rfl rfl rfl rfl rfl ?_
  intro g2
  refine L.nil ?_
  refine E.then ?_
  refine T.seq ?_
  refine T.region ?_
  refine L.q 1 rfl ?_
  obtain ⟨r3, h4, H5⟩ := bnd H
  refine L.a [] [] (Ac.call (c_ref09_near h4) rfl rfl rfl rfl) rfl rfl rfl rfl rfl ?_
  rintro ⟨⟩
  refine L.q 1 rfl ?_
  refine L.nil ?_
  refine E.then ?_
  refine T.seq ?_
  refine T.seq ?_
  refine T.region ?_
  refine L.q 2 rfl ?_
  refine L.y (Yl.ldb 1 rfl rfl rfl rfl) rfl rfl rfl ?_
  refine L.q 2 rfl ?_
  refine L.nil ?_
  refine E.then ?_
  refine T.bif rfl H5 (fun hc H7 => ?_) (fun hc H7 => ?_)
  · refine T.seq ?_
    refine T.region ?_
    refine L.y (Yl.ldb 1 rfl rfl rfl rfl) rfl rfl rfl ?_
    refine L.a [0] [] (Ac.stb rfl rfl rfl rfl rfl rfl) rfl rfl rfl rfl rfl ?_
    intro _
    refine L.nil ?_
    refine E.then ?_
    refine T.ret ?_
    refine E.then_ret ?_
    have hr := Option.some.inj H7
    subst r
    exact E.ret (a_0_0, c_0_0) [] [0] (.cell 0 rfl rfl rfl .nil) rfl rfl rfl
  · refine T.skip ?_
    refine E.then ?_
    refine T.seq ?_
    refine T.region ?_
    refine L.a [] [] (Ac.bs (ty := tyRef09Cell) (xs := []) .nil rfl rfl rfl rfl rfl rfl rfl) rfl rfl rfl rfl rfl ?_
    intro g8
    refine L.q 1 rfl ?_
    refine L.y (Yl.ldb 2 rfl rfl rfl rfl) rfl rfl rfl ?_
    refine L.q 2 rfl ?_
    refine L.y (Yl.ldb 2 rfl rfl rfl rfl) rfl rfl rfl ?_
    refine L.q 2 rfl ?_
    obtain ⟨_, h10, H11⟩ := bnd H7
    refine L.rs 0 h10 rfl rfl rfl rfl rfl rfl rfl rfl rfl rfl rfl rfl ?_
    intro a12 c13
    obtain ⟨_, h15, H16⟩ := bnd H11
    refine L.a [0] [0] (Ac.ap (ty := tyRef09Cell) h15 rfl rfl rfl rfl rfl rfl rfl) rfl rfl rfl rfl rfl ?_
    rintro ⟨a17, c18⟩
    refine L.q 1 rfl ?_
    refine L.nil ?_
    refine E.then ?_
    refine T.seq ?_
    refine T.region ?_
    refine L.q 5 rfl ?_
    obtain ⟨r20, h21, H22⟩ := bnd H16
    refine L.a [] [] (Ac.call (c_ref09_Blank h21) rfl rfl rfl rfl) rfl rfl rfl rfl rfl ?_
    rintro ⟨a23, c24⟩
    refine L.q 1 rfl ?_
    obtain ⟨_, h26, H27⟩ := bnd H22
    refine L.a [0] [0] (Ac.ap (ty := tyRef09Cell) h26 rfl rfl rfl rfl rfl rfl rfl) rfl rfl rfl rfl rfl ?_
    rintro ⟨a28, c29⟩
    refine L.frz 0 rfl ?_
    obtain ⟨r32, h33, H34⟩ := bnd H27
    refine L.a [] [0] (Ac.call (c_ref09_mend a28 c29 h33) rfl rfl rfl rfl) rfl rfl rfl rfl rfl ?_
    rintro ⟨a35, c36⟩
    refine L.a [0] [] (Ac.stb rfl rfl rfl rfl rfl rfl) rfl rfl rfl rfl rfl ?_
    intro _
    refine L.nil ?_
    refine E.then ?_
    refine T.ret ?_
    have hr := Option.some.inj H34
    subst r
    exact E.ret (a35, c36) [] [0] (.cell 0 rfl rfl rfl .nil) rfl rfl rfl

theorem c_law09_Do (a_0_0 : Option Addr) (c_0_0 : Nat) (a_1_0 : Option Addr) (c_1_0 : Nat) {r_ : RowRow} {x : Ref09Row} {a : Law09Act} {r : RowRow × Ref09Row} (H : p_law09_Do r_ x a = some r) : CT G 15 [.agg #[.slice a_0_0 r_.cells.length c_0_0, .bool r_.wrapped], .agg #[.slice a_1_0 x.l.length c_1_0, .bool x.wrapped], .agg #[.int .i64 a.kind, .int .i64 a.at_, .int .i64 a.n, .int .i64 a.style, .int .i32 a.rune]] [] [Im.sl tyRowCell a_0_0 c_0_0 r_.cells, Im.sl tyRef09Cell a_1_0 c_1_0 x.l, Im.sl tyWideSpan (some ⟨0, 0, none⟩) 13 nones, Im.sl tyWideSpan (some ⟨1, 0, none⟩) 14 twos] (fun h : (Option Addr × Nat) × (Option Addr × Nat) => .tuple #[.agg #[.slice h.1.1 r.1.cells.length h.1.2, .bool r.1.wrapped], .agg #[.slice h.2.1 r.2.l.length h.2.2, .bool r.2.wrapped]]) (fun h => []) (fun h => [Im.sl tyRowCell h.1.1 h.1.2 r.1.cells, Im.sl tyRef09Cell h.2.1 h.2.2 r.2.l]) := by
  delta p_law09_Do at H
  refine CT.of Go.Proofs.Tryd.func15 (by kernel_rfl) rfl rfl fun K => ?_
  refine T.seq ?_
  refine T.region ?_
  refine L.a [] [] (Ac.box rfl rfl) rfl rfl rfl rfl rfl ?_
  intro g1
  refine L.a [] [] (Ac.box rfl rfl) rfl rfl rfl rfl rfl ?_
  intro g2
  refine L.a [] [] (Ac.box rfl rfl) rfl rfl rfl rfl rfl ?_
  intro g3
  refine L.a [] [] (Ac.alloc rfl rfl) rfl rfl rfl rfl rfl ?_
  intro g4
  refine L.a [] [] (Ac.alloc rfl rfl) rfl rfl rfl rfl rfl ?_
  intro g5
  refine L.nil ?_
  refine E.then ?_
  refine T.seq ?_
  refine T.seq ?_
  refine T.region ?_
  refine L.q 1 rfl ?_
  refine L.y (Yl.ldb 2 rfl rfl rfl rfl) rfl rfl rfl ?_
  refine L.nil ?_
  refine E.then ?_
  refine T.block ?_
  refine T.seq ?_
  refine T.region ?_
  refine L.q 2 rfl ?_
  refine L.nil ?_
  refine E.then ?_
  refine T.bif rfl H (fun hc H251 => ?_) (fun hc H251 => ?_)
  · refine T.seq ?_
    refine T.draw [17, 18] [0, 0, 0, 0, 0] mo rfl ?_
    refine D.y 0 (Yl.ldb 4 rfl rfl rfl rfl) rfl rfl rfl rfl rfl rfl ?_
    refine D.q 1 rfl rfl rfl rfl rfl rfl ?_
    refine D.y 2 (Yl.ldb 2 rfl rfl rfl rfl) rfl rfl rfl rfl rfl rfl ?_
    refine D.q 3 rfl rfl rfl rfl rfl rfl ?_
    refine D.y 4 (Yl.ldb 2 rfl rfl rfl rfl) rfl rfl rfl rfl rfl rfl ?_
    refine D.q 5 rfl rfl rfl rfl rfl rfl ?_
    refine D.y 6 (Yl.ldb 2 rfl rfl rfl rfl) rfl rfl rfl rfl rfl rfl ?_
    refine D.y 8 (Yl.ldb 3 rfl rfl rfl rfl) rfl rfl rfl rfl rfl rfl ?_
    refine D.q 9 rfl rfl rfl rfl rfl rfl ?_
    refine D.y 10 (Yl.ldb 2 rfl rfl rfl rfl) rfl rfl rfl rfl rfl rfl ?_
    refine D.q 11 rfl rfl rfl rfl rfl rfl ?_
    refine D.y 12 (Yl.ldb 2 rfl rfl rfl rfl) rfl rfl rfl rfl rfl rfl ?_
    refine D.q 13 rfl rfl rfl rfl rfl rfl ?_
    refine D.q 14 rfl rfl rfl rfl rfl rfl ?_
    refine D.y 15 (Yl.ldb 2 rfl rfl rfl rfl) rfl rfl rfl rfl rfl rfl ?_
    obtain ⟨r288, h289, H290⟩ := bnd H251
    refine D.one rfl rfl rfl (Dp.a [] [0, 2, 3] (Ac.call (c_row_Row_Put a_0_0 c_0_0 h289) rfl rfl rfl rfl) rfl rfl rfl rfl rfl rfl ?_)
    rintro ⟨a291, c292⟩
    obtain ⟨r294, h295, H296⟩ := bnd H290
    refine D.one rfl rfl rfl (Dp.a [] [2] (Ac.call (c_ref09_Put a_1_0 c_1_0 h295) rfl rfl rfl rfl) rfl rfl rfl rfl rfl rfl ?_)
    rintro ⟨a297, c298⟩
    refine D.one rfl rfl rfl (Dp.al [1] [] (Ac.stb rfl rfl rfl rfl rfl rfl) rfl rfl rfl rfl rfl rfl rfl ?_)
    intro _
    refine D.one rfl rfl rfl (Dp.al [1] [] (Ac.stb rfl rfl rfl rfl rfl rfl) rfl rfl rfl rfl rfl rfl rfl ?_)
    intro _
    refine D.nil rfl rfl ?_
    refine E.then ?_
    refine T.ret ?_
    refine E.block_ret ?_
    refine E.then_ret ?_
    have hr := Option.some.inj H296
    subst r
    exact E.ret ((a291, c292), (a297, c298)) [] [1, 0] (.cell 1 rfl rfl rfl (.cell 0 rfl rfl rfl .nil)) rfl rfl rfl
  · refine T.seq ?_
    refine T.region ?_
    refine L.q 2 rfl ?_
    refine L.nil ?_
    refine E.then ?_
    refine T.bif rfl H251 (fun hc H300 => ?_) (fun hc H300 => ?_)
    · refine T.seq ?_
      refine T.draw [16, 17] [0, 0, 0, 0, 0] mo rfl ?_
      refine D.y 0 (Yl.ldb 4 rfl rfl rfl rfl) rfl rfl rfl rfl rfl rfl ?_
      refine D.q 1 rfl rfl rfl rfl rfl rfl ?_
      refine D.y 2 (Yl.ldb 2 rfl rfl rfl rfl) rfl rfl rfl rfl rfl rfl ?_
      refine D.q 3 rfl rfl rfl rfl rfl rfl ?_
      refine D.y 4 (Yl.ldb 2 rfl rfl rfl rfl) rfl rfl rfl rfl rfl rfl ?_
      refine D.q 5 rfl rfl rfl rfl rfl rfl ?_
      refine D.y 6 (Yl.ldb 2 rfl rfl rfl rfl) rfl rfl rfl rfl rfl rfl ?_
      refine D.y 8 (Yl.ldb 3 rfl rfl rfl rfl) rfl rfl rfl rfl rfl rfl ?_
      refine D.q 9 rfl rfl rfl rfl rfl rfl ?_
      refine D.y 10 (Yl.ldb 2 rfl rfl rfl rfl) rfl rfl rfl rfl rfl rfl ?_
      refine D.q 11 rfl rfl rfl rfl rfl rfl ?_
      refine D.y 12 (Yl.ldb 2 rfl rfl rfl rfl) rfl rfl rfl rfl rfl rfl ?_
      refine D.q 13 rfl rfl rfl rfl rfl rfl ?_
      refine D.y 14 (Yl.ldb 2 rfl rfl rfl rfl) rfl rfl rfl rfl rfl rfl ?_
      obtain ⟨r337, h338, H339⟩ := bnd H300
      refine D.one rfl rfl rfl (Dp.a [] [0] (Ac.call (c_row_Row_Erase a_0_0 c_0_0 h338) rfl rfl rfl rfl) rfl rfl rfl rfl rfl rfl ?_)
      rintro ⟨a340, c341⟩
      obtain ⟨r343, h344, H345⟩ := bnd H339
      refine D.one rfl rfl rfl (Dp.a [] [2] (Ac.call (c_ref09_Erase a_1_0 c_1_0 h344) rfl rfl rfl rfl) rfl rfl rfl rfl rfl rfl ?_)
      rintro ⟨a346, c347⟩
      refine D.one rfl rfl rfl (Dp.al [1] [] (Ac.stb rfl rfl rfl rfl rfl rfl) rfl rfl rfl rfl rfl rfl rfl ?_)
      intro _
      refine D.one rfl rfl rfl (Dp.al [1] [] (Ac.stb rfl rfl rfl rfl rfl rfl) rfl rfl rfl rfl rfl rfl rfl ?_)
      intro _
      refine D.nil rfl rfl ?_
      refine E.then ?_
      refine T.ret ?_
      refine E.block_ret ?_
      refine E.then_ret ?_
      have hr := Option.some.inj H345
      subst r
      exact E.ret ((a340, c341), (a346, c347)) [] [1, 0] (.cell 1 rfl rfl rfl (.cell 0 rfl rfl rfl .nil)) rfl rfl rfl
    · refine T.seq ?_
      refine T.region ?_
      refine L.q 2 rfl ?_
      refine L.nil ?_
      refine E.then ?_
      refine T.bif rfl H300 (fun hc H349 => ?_) (fun hc H349 => ?_)
      · refine T.seq ?_
        refine T.draw [16, 17] [0, 0, 0, 0, 0] mo rfl ?_
        refine D.y 0 (Yl.ldb 4 rfl rfl rfl rfl) rfl rfl rfl rfl rfl rfl ?_
        refine D.q 1 rfl rfl rfl rfl rfl rfl ?_
        refine D.y 2 (Yl.ldb 2 rfl rfl rfl rfl) rfl rfl rfl rfl rfl rfl ?_
        refine D.q 3 rfl rfl rfl rfl rfl rfl ?_
        refine D.y 4 (Yl.ldb 2 rfl rfl rfl rfl) rfl rfl rfl rfl rfl rfl ?_
        refine D.q 5 rfl rfl rfl rfl rfl rfl ?_
        refine D.y 6 (Yl.ldb 2 rfl rfl rfl rfl) rfl rfl rfl rfl rfl rfl ?_
        refine D.y 8 (Yl.ldb 3 rfl rfl rfl rfl) rfl rfl rfl rfl rfl rfl ?_
        refine D.q 9 rfl rfl rfl rfl rfl rfl ?_
        refine D.y 10 (Yl.ldb 2 rfl rfl rfl rfl) rfl rfl rfl rfl rfl rfl ?_
        refine D.q 11 rfl rfl rfl rfl rfl rfl ?_
        refine D.y 12 (Yl.ldb 2 rfl rfl rfl rfl) rfl rfl rfl rfl rfl rfl ?_
        refine D.q 13 rfl rfl rfl rfl rfl rfl ?_
        refine D.y 14 (Yl.ldb 2 rfl rfl rfl rfl) rfl rfl rfl rfl rfl rfl ?_
        obtain ⟨r386, h387, H388⟩ := bnd H349
        refine D.one rfl rfl rfl (Dp.a [] [0] (Ac.call (c_row_Row_Insert a_0_0 c_0_0 h387) rfl rfl rfl rfl) rfl rfl rfl rfl rfl rfl ?_)
        rintro ⟨a389, c390⟩
        obtain ⟨r392, h393, H394⟩ := bnd H388
        refine D.one rfl rfl rfl (Dp.a [] [2] (Ac.call (c_ref09_Insert a_1_0 c_1_0 h393) rfl rfl rfl rfl) rfl rfl rfl rfl rfl rfl ?_)
        rintro ⟨a395, c396⟩
        refine D.one rfl rfl rfl (Dp.al [1] [] (Ac.stb rfl rfl rfl rfl rfl rfl) rfl rfl rfl rfl rfl rfl rfl ?_)
        intro _
        refine D.one rfl rfl rfl (Dp.al [1] [] (Ac.stb rfl rfl rfl rfl rfl rfl) rfl rfl rfl rfl rfl rfl rfl ?_)
        intro _
        refine D.nil rfl rfl ?_
        refine E.then ?_
        refine T.ret ?_
        refine E.block_ret ?_
        refine E.then_ret ?_
        have hr := Option.some.inj H394
        subst r
        exact E.ret ((a389, c390), (a395, c396)) [] [1, 0] (.cell 1 rfl rfl rfl (.cell 0 rfl rfl rfl .nil)) rfl rfl rfl
      · refine T.seq ?_
        refine T.region ?_
        refine L.q 2 rfl ?_
        refine L.nil ?_
        refine E.then ?_
        refine T.bif rfl H349 (fun hc H398 => ?_) (fun hc H398 => ?_)
        · refine T.seq ?_
          refine T.draw [16, 17] [0, 0, 0, 0, 0] mo rfl ?_
          refine D.y 0 (Yl.ldb 4 rfl rfl rfl rfl) rfl rfl rfl rfl rfl rfl ?_
          refine D.q 1 rfl rfl rfl rfl rfl rfl ?_
          refine D.y 2 (Yl.ldb 2 rfl rfl rfl rfl) rfl rfl rfl rfl rfl rfl ?_
          refine D.q 3 rfl rfl rfl rfl rfl rfl ?_
          refine D.y 4 (Yl.ldb 2 rfl rfl rfl rfl) rfl rfl rfl rfl rfl rfl ?_
          refine D.q 5 rfl rfl rfl rfl rfl rfl ?_
          refine D.y 6 (Yl.ldb 2 rfl rfl rfl rfl) rfl rfl rfl rfl rfl rfl ?_
          refine D.y 8 (Yl.ldb 3 rfl rfl rfl rfl) rfl rfl rfl rfl rfl rfl ?_
          refine D.q 9 rfl rfl rfl rfl rfl rfl ?_
          refine D.y 10 (Yl.ldb 2 rfl rfl rfl rfl) rfl rfl rfl rfl rfl rfl ?_
          refine D.q 11 rfl rfl rfl rfl rfl rfl ?_
          refine D.y 12 (Yl.ldb 2 rfl rfl rfl rfl) rfl rfl rfl rfl rfl rfl ?_
          refine D.q 13 rfl rfl rfl rfl rfl rfl ?_
          refine D.y 14 (Yl.ldb 2 rfl rfl rfl rfl) rfl rfl rfl rfl rfl rfl ?_
          obtain ⟨r435, h436, H437⟩ := bnd H398
          refine D.one rfl rfl rfl (Dp.a [] [0] (Ac.call (c_row_Row_Delete a_0_0 c_0_0 h436) rfl rfl rfl rfl) rfl rfl rfl rfl rfl rfl ?_)
          rintro ⟨a438, c439⟩
          obtain ⟨r441, h442, H443⟩ := bnd H437
          refine D.one rfl rfl rfl (Dp.a [] [2] (Ac.call (c_ref09_Delete a_1_0 c_1_0 h442) rfl rfl rfl rfl) rfl rfl rfl rfl rfl rfl ?_)
          rintro ⟨a444, c445⟩
          refine D.one rfl rfl rfl (Dp.al [1] [] (Ac.stb rfl rfl rfl rfl rfl rfl) rfl rfl rfl rfl rfl rfl rfl ?_)
          intro _
          refine D.one rfl rfl rfl (Dp.al [1] [] (Ac.stb rfl rfl rfl rfl rfl rfl) rfl rfl rfl rfl rfl rfl rfl ?_)
          intro _
          refine D.nil rfl rfl ?_
          refine E.then ?_
          refine T.ret ?_
          refine E.block_ret ?_
          refine E.then_ret ?_
          have hr := Option.some.inj H443
          subst r
          exact E.ret ((a438, c439), (a444, c445)) [] [1, 0] (.cell 1 rfl rfl rfl (.cell 0 rfl rfl rfl .nil)) rfl rfl rfl
        · refine T.seq ?_
          refine T.region ?_
          refine L.q 2 rfl ?_
          refine L.nil ?_
          refine E.then ?_
          refine T.bif rfl H398 (fun hc H447 => ?_) (fun hc H447 => ?_)
          · refine T.seq ?_
            refine T.draw [8, 9] [0, 0, 0, 0, 0] mo rfl ?_
            refine D.y 0 (Yl.ldb 4 rfl rfl rfl rfl) rfl rfl rfl rfl rfl rfl ?_
            refine D.q 1 rfl rfl rfl rfl rfl rfl ?_
            refine D.y 2 (Yl.ldb 2 rfl rfl rfl rfl) rfl rfl rfl rfl rfl rfl ?_
            refine D.y 4 (Yl.ldb 3 rfl rfl rfl rfl) rfl rfl rfl rfl rfl rfl ?_
            refine D.q 5 rfl rfl rfl rfl rfl rfl ?_
            refine D.y 6 (Yl.ldb 2 rfl rfl rfl rfl) rfl rfl rfl rfl rfl rfl ?_
            obtain ⟨r484, h485, H486⟩ := bnd H447
            refine D.one rfl rfl rfl (Dp.a [] [0] (Ac.call (c_row_Row_Fill a_0_0 c_0_0 h485) rfl rfl rfl rfl) rfl rfl rfl rfl rfl rfl ?_)
            rintro ⟨a487, c488⟩
            obtain ⟨r490, h491, H492⟩ := bnd H486
            refine D.one rfl rfl rfl (Dp.a [] [2] (Ac.call (c_ref09_Fill a_1_0 c_1_0 h491) rfl rfl rfl rfl) rfl rfl rfl rfl rfl rfl ?_)
            rintro ⟨a493, c494⟩
            refine D.one rfl rfl rfl (Dp.al [1] [] (Ac.stb rfl rfl rfl rfl rfl rfl) rfl rfl rfl rfl rfl rfl rfl ?_)
            intro _
            refine D.one rfl rfl rfl (Dp.al [1] [] (Ac.stb rfl rfl rfl rfl rfl rfl) rfl rfl rfl rfl rfl rfl rfl ?_)
            intro _
            refine D.nil rfl rfl ?_
            refine E.then ?_
            refine T.ret ?_
            refine E.block_ret ?_
            refine E.then_ret ?_
            have hr := Option.some.inj H492
            subst r
            exact E.ret ((a487, c488), (a493, c494)) [] [1, 0] (.cell 1 rfl rfl rfl (.cell 0 rfl rfl rfl .nil)) rfl rfl rfl
          · refine T.skip ?_
            refine E.block ?_
            refine E.then ?_
            refine T.seq ?_
            refine T.region ?_
            refine L.q 1 rfl ?_
            refine L.y (Yl.ldb 2 rfl rfl rfl rfl) rfl rfl rfl ?_
            refine L.q 1 rfl ?_
            refine L.nil ?_
            refine E.then ?_
            refine T.seq ?_
            refine T.seq ?_
            obtain ⟨e499, H500, H501⟩ := bnd H447
            refine T.join (η := Unit × Unit) (fun h => True) (fun h => [(3, .pointer (some ⟨g1, 0, none⟩)), (4, .pointer (some ⟨g2, 0, none⟩)), (6, .pointer (some ⟨g4, 0, none⟩)), (7, .pointer (some ⟨g5, 0, none⟩)), (8, .int .i64 a.n), (101, .bool e499)]) (fun h => [Ch.box g5 30 [.slice none 0 0, .bool false], Ch.box g4 26 [.slice none 0 0, .bool false], Ch.box g3 35 [.int .i64 a.kind, .int .i64 a.at_, .int .i64 a.n, .int .i64 a.style, .int .i32 a.rune], Ch.box g2 30 [.slice a_1_0 x.l.length c_1_0, .bool x.wrapped], Ch.box g1 26 [.slice a_0_0 r_.cells.length c_0_0, .bool r_.wrapped]]) (fun h => [Im.sl tyRowCell a_0_0 c_0_0 r_.cells, Im.sl tyRef09Cell a_1_0 c_1_0 x.l, Im.sl tyWideSpan (some ⟨0, 0, none⟩) 13 nones, Im.sl tyWideSpan (some ⟨1, 0, none⟩) 14 twos]) ?_ ?_
            · refine T.region ?_
              refine L.q 3 rfl ?_
              refine L.cs 98 H500 rfl (fun hc H502 => ?_) (fun hc H502 => ?_)
              · refine L.q 3 rfl ?_
                refine L.nil ?_
                have hr := Option.some.inj H502
                subst e499
                exact E.give ((), ()) [0, 0, 0, 0, 0] [0, 1, 2, 3] trivial ⟨rfl, rfl, rfl, rfl, rfl, rfl, trivial⟩ rfl rfl
              · refine L.q 3 rfl ?_
                refine L.nil ?_
                have hr := Option.some.inj H502
                subst e499
                exact E.give ((), ()) [0, 0, 0, 0, 0] [0, 1, 2, 3] trivial ⟨rfl, rfl, rfl, rfl, rfl, rfl, trivial⟩ rfl rfl
            · rintro ⟨_, ⟨⟩⟩ _
              obtain ⟨e506, H507, H508⟩ := bnd H501
              refine T.join (η := Unit × Unit) (fun h => True) (fun h => [(3, .pointer (some ⟨g1, 0, none⟩)), (4, .pointer (some ⟨g2, 0, none⟩)), (6, .pointer (some ⟨g4, 0, none⟩)), (7, .pointer (some ⟨g5, 0, none⟩)), (8, .int .i64 e506)]) (fun h => [Ch.box g5 30 [.slice none 0 0, .bool false], Ch.box g4 26 [.slice none 0 0, .bool false], Ch.box g3 35 [.int .i64 a.kind, .int .i64 a.at_, .int .i64 a.n, .int .i64 a.style, .int .i32 a.rune], Ch.box g2 30 [.slice a_1_0 x.l.length c_1_0, .bool x.wrapped], Ch.box g1 26 [.slice a_0_0 r_.cells.length c_0_0, .bool r_.wrapped]]) (fun h => [Im.sl tyRowCell a_0_0 c_0_0 r_.cells, Im.sl tyRef09Cell a_1_0 c_1_0 x.l, Im.sl tyWideSpan (some ⟨0, 0, none⟩) 13 nones, Im.sl tyWideSpan (some ⟨1, 0, none⟩) 14 twos]) ?_ ?_
              · refine T.bif rfl H507 (fun hc H509 => ?_) (fun hc H509 => ?_)
                · refine T.region ?_
                  refine L.q 1 rfl ?_
                  refine L.nil ?_
                  have hr := Option.some.inj H509
                  subst e506
                  exact E.give ((), ()) [0, 0, 0, 0, 0] [0, 1, 2, 3] trivial ⟨rfl, rfl, rfl, rfl, rfl, trivial⟩ rfl rfl
                · refine T.skip ?_
                  have hr := Option.some.inj H509
                  subst e506
                  exact E.give ((), ()) [0, 0, 0, 0, 0] [0, 1, 2, 3] trivial ⟨rfl, rfl, rfl, rfl, rfl, trivial⟩ rfl rfl
              · rintro ⟨_, ⟨⟩⟩ _
                refine T.seq ?_
                refine T.draw [6, 7] [0, 0, 0, 0, 0] mo rfl ?_
                refine D.y 0 (Yl.ldb 4 rfl rfl rfl rfl) rfl rfl rfl rfl rfl rfl ?_
                refine D.q 1 rfl rfl rfl rfl rfl rfl ?_
                refine D.y 3 (Yl.ldb 3 rfl rfl rfl rfl) rfl rfl rfl rfl rfl rfl ?_
                refine D.q 4 rfl rfl rfl rfl rfl rfl ?_
                obtain ⟨r546, h547, H548⟩ := bnd H508
                refine D.one rfl rfl rfl (Dp.a [] [0] (Ac.call (c_row_Row_Resize a_0_0 c_0_0 h547) rfl rfl rfl rfl) rfl rfl rfl rfl rfl rfl ?_)
                rintro ⟨a549, c550⟩
                obtain ⟨r552, h553, H554⟩ := bnd H548
                refine D.one rfl rfl rfl (Dp.a [] [2] (Ac.call (c_ref09_Resize a_1_0 c_1_0 h553) rfl rfl rfl rfl) rfl rfl rfl rfl rfl rfl ?_)
                rintro ⟨a555, c556⟩
                refine D.one rfl rfl rfl (Dp.al [1] [] (Ac.stb rfl rfl rfl rfl rfl rfl) rfl rfl rfl rfl rfl rfl rfl ?_)
                intro _
                refine D.one rfl rfl rfl (Dp.al [1] [] (Ac.stb rfl rfl rfl rfl rfl rfl) rfl rfl rfl rfl rfl rfl rfl ?_)
                intro _
                refine D.nil rfl rfl ?_
                refine E.then ?_
                refine T.ret ?_
                have hr := Option.some.inj H554
                subst r
                exact E.ret ((a549, c550), (a555, c556)) [] [1, 0] (.cell 1 rfl rfl rfl (.cell 0 rfl rfl rfl .nil)) rfl rfl rfl

theorem c_law09_Is (a_0_0 : Option Addr) (c_0_0 : Nat) (a_1_0 : Option Addr) (c_1_0 : Nat) {r_ : RowRow} {x : Ref09Row} {r : Bool} (H : p_law09_Is r_ x = some r) : CT G 16 [.agg #[.slice a_0_0 r_.cells.length c_0_0, .bool r_.wrapped], .agg #[.slice a_1_0 x.l.length c_1_0, .bool x.wrapped]] [] [Im.sl tyRowCell a_0_0 c_0_0 r_.cells, Im.sl tyRef09Cell a_1_0 c_1_0 x.l] (fun h : Unit => .bool r) (fun h => []) (fun h => []) := by
  delta p_law09_Is at H
  refine CT.of Go.Proofs.Tryd.func16 (by kernel_rfl) rfl rfl fun K => ?_
  refine T.seq ?_
  refine T.region ?_
  refine L.a [] [] (Ac.box rfl rfl) rfl rfl rfl rfl rfl ?_
  intro g1
  refine L.a [] [] (Ac.box rfl rfl) rfl rfl rfl rfl rfl ?_
  intro g2
  refine L.q 1 rfl ?_
  refine L.nil ?_
  refine E.then ?_
  refine T.seq ?_
  refine T.seq ?_
  obtain ⟨e6, H7, H8⟩ := bnd H
  refine T.join (η := Unit × Unit) (fun h => True) (fun h => [(2, .pointer (some ⟨g1, 0, none⟩)), (3, .pointer (some ⟨g2, 0, none⟩)), (20, .bool e6)]) (fun h => [Ch.box g2 30 [.slice a_1_0 x.l.length c_1_0, .bool x.wrapped], Ch.box g1 26 [.slice a_0_0 r_.cells.length c_0_0, .bool r_.wrapped]]) (fun h => [Im.sl tyRowCell a_0_0 c_0_0 r_.cells, Im.sl tyRef09Cell a_1_0 c_1_0 x.l]) ?_ ?_
  · refine T.region ?_
    refine L.q 1 rfl ?_
    refine L.y (Yl.ldb 1 rfl rfl rfl rfl) rfl rfl rfl ?_
    refine L.q 2 rfl ?_
    refine L.y (Yl.ldb 0 rfl rfl rfl rfl) rfl rfl rfl ?_
    refine L.q 3 rfl ?_
    refine L.cs 14 H7 rfl (fun hc H9 => ?_) (fun hc H9 => ?_)
    · refine L.q 6 rfl ?_
      refine L.nil ?_
      have hr := Option.some.inj H9
      subst e6
      exact E.give ((), ()) [0, 0] [0, 1] trivial ⟨rfl, rfl, rfl, trivial⟩ rfl rfl
    · refine L.q 1 rfl ?_
      refine L.y (Yl.ldb 1 rfl rfl rfl rfl) rfl rfl rfl ?_
      refine L.q 1 rfl ?_
      refine L.y (Yl.ldb 0 rfl rfl rfl rfl) rfl rfl rfl ?_
      refine L.q 2 rfl ?_
      refine L.nil ?_
      have hr := Option.some.inj H9
      subst e6
      exact E.give ((), ()) [0, 0] [0, 1] trivial ⟨rfl, rfl, rfl, trivial⟩ rfl rfl
  · rintro ⟨_, ⟨⟩⟩ _
    refine T.bif rfl H8 (fun hc H11 => ?_) (fun hc H11 => ?_)
    · refine T.seq ?_
      refine T.region ?_
      refine L.q 1 rfl ?_
      refine L.nil ?_
      refine E.then ?_
      refine T.ret ?_
      refine E.then_ret ?_
      have hr := Option.some.inj H11
      subst r
      exact E.ret () [] [] (.tmp rfl .nil) rfl rfl rfl
    · refine T.skip ?_
      refine E.then ?_
      refine T.seq ?_
      refine T.seq ?_
      refine T.region ?_
      refine L.q 1 rfl ?_
      refine L.y (Yl.ldb 1 rfl rfl rfl rfl) rfl rfl rfl ?_
      refine L.q 2 rfl ?_
      refine L.nil ?_
      refine E.then ?_
      obtain ⟨y713, H714, H715⟩ := bnd H11
      refine T.join (η := Unit × Unit) (fun h => y713 = .inl h.1) (fun h => (fun e712 => []) h.1) (fun h => (fun e712 => [Ch.box g2 30 [.slice a_1_0 x.l.length c_1_0, .bool x.wrapped], Ch.box g1 26 [.slice a_0_0 r_.cells.length c_0_0, .bool r_.wrapped]]) h.1) (fun h => (fun e712 => [Im.sl tyRowCell a_0_0 c_0_0 r_.cells, Im.sl tyRef09Cell a_1_0 c_1_0 x.l]) h.1) ?_ ?_
      · refine T.block ?_
        refine T.lp (η := Unit) (fun s479 h => [(3, .pointer (some ⟨g2, 0, none⟩)), (22, .slice a_0_0 r_.cells.length c_0_0), (23, .int .i64 (r_.cells.length : Int)), (24, .int .i64 s479)]) (fun s479 h => [Ch.box g2 30 [.slice a_1_0 x.l.length c_1_0, .bool x.wrapped], Ch.box g1 26 [.slice a_0_0 r_.cells.length c_0_0, .bool r_.wrapped]]) (fun s479 h => [Im.sl tyRowCell a_0_0 c_0_0 r_.cells, Im.sl tyRef09Cell a_1_0 c_1_0 x.l]) () [0, 0] [0, 1] H714 ⟨rfl, rfl, rfl, rfl, trivial⟩ rfl rfl ?_
        rintro k s479 ⟨⟩ z717 H716 hag718 hbr719
        refine T.seq ?_
        refine T.region ?_
        refine L.q 1 rfl ?_
        refine L.nil ?_
        refine E.then ?_
        refine T.seq ?_
        refine T.bif rfl H716 (fun hc H721 => ?_) (fun hc H721 => ?_)
        · refine T.skip ?_
          refine E.then ?_
          refine T.seq ?_
          refine T.block ?_
          refine T.seq ?_
          refine T.region ?_
          refine L.q 1 rfl ?_
          obtain ⟨x837, h838, H839⟩ := bnd H721
          refine L.addr 0 rfl (idx_lt h838) fun b840 o841 e842 => ?_
          obtain rfl : a_0_0 = some ⟨b840, o841, none⟩ := e842
          refine L.y (Yl.ia h838 rfl rfl rfl rfl rfl rfl) rfl rfl rfl ?_
          refine L.el 0 rfl (idx_some h838).2 ?_
          rintro _
          refine L.y (Yl.ldc 0 0 rfl rfl rfl rfl) rfl rfl rfl ?_
          refine L.a [] [] (Ac.alloc rfl rfl) rfl rfl rfl rfl rfl ?_
          intro g844
          refine L.q 1 rfl ?_
          refine L.a [0] [] (Ac.stb rfl rfl rfl rfl rfl rfl) rfl rfl rfl rfl rfl ?_
          intro _
          refine L.nil ?_
          refine E.then ?_
          refine T.seq ?_
          obtain ⟨e914, H915, H916⟩ := bnd H839
          refine T.join (η := Unit × Unit) (fun h => True) (fun h => [(3, .pointer (some ⟨g2, 0, none⟩)), (22, .slice (some ⟨b840, o841, none⟩) r_.cells.length c_0_0), (23, .int .i64 (r_.cells.length : Int)), (24, .int .i64 s479), (60, .bool e914)]) (fun h => [Ch.box g844 80 [.int .i32 x837.rune, .int .i64 x837.style, .int .i64 x837.part], Ch.box g2 30 [.slice a_1_0 x.l.length c_1_0, .bool x.wrapped], Ch.box g1 26 [.slice (some ⟨b840, o841, none⟩) r_.cells.length c_0_0, .bool r_.wrapped]]) (fun h => [Im.cells b840 (o841 + s479.toNat * 3) [.int .i32 x837.rune, .int .i64 x837.style, .int .i64 x837.part], Im.sl tyRowCell (some ⟨b840, o841, none⟩) c_0_0 r_.cells, Im.sl tyRef09Cell a_1_0 c_1_0 x.l]) ?_ ?_
          · refine T.draw [] [0, 0, 0] mo rfl ?_
            refine D.q 0 rfl rfl rfl rfl rfl rfl ?_
            refine D.y 1 (Yl.ldb 0 rfl rfl rfl rfl) rfl rfl rfl rfl rfl rfl ?_
            refine D.q 2 rfl rfl rfl rfl rfl rfl ?_
            refine D.q 3 rfl rfl rfl rfl rfl rfl ?_
            refine D.y 4 (Yl.ldb 1 rfl rfl rfl rfl) rfl rfl rfl rfl rfl rfl ?_
            refine D.q 5 rfl rfl rfl rfl rfl rfl ?_
            obtain ⟨x934, h935, H936⟩ := bnd H915
            refine D.addr 2 rfl (idx_lt h935) fun b937 o938 e939 => ?_
            obtain rfl : a_1_0 = some ⟨b937, o938, none⟩ := e939
            refine D.y 6 (Yl.ia h935 rfl rfl rfl rfl rfl rfl) rfl rfl rfl rfl rfl rfl ?_
            refine D.el 2 rfl (idx_some h935).2 ?_
            rintro _
            refine D.q 7 rfl rfl rfl rfl rfl rfl ?_
            refine D.y 8 (Yl.ldc 0 0 rfl rfl rfl rfl) rfl rfl rfl rfl rfl rfl ?_
            refine D.q 9 rfl rfl rfl rfl rfl rfl ?_
            refine D.q 10 rfl rfl rfl rfl rfl rfl ?_
            refine D.cs 39 H936 rfl (fun hc H941 => ?_) (fun hc H941 => ?_)
            · refine D.sk 11 rfl rfl rfl rfl rfl ?_
              refine D.sk 12 rfl rfl rfl rfl rfl ?_
              refine D.sk 13 rfl rfl rfl rfl rfl ?_
              refine D.sk 14 rfl rfl rfl rfl rfl ?_
              refine D.sk 15 rfl rfl rfl rfl rfl ?_
              refine D.sk 16 rfl rfl rfl rfl rfl ?_
              refine D.sk 17 rfl rfl rfl rfl rfl ?_
              refine D.sk 18 rfl rfl rfl rfl rfl ?_
              refine D.sk 19 rfl rfl rfl rfl rfl ?_
              refine D.q 20 rfl rfl rfl rfl rfl rfl ?_
              refine D.q 21 rfl rfl rfl rfl rfl rfl ?_
              refine D.sk 22 rfl rfl rfl rfl rfl ?_
              refine D.sk 23 rfl rfl rfl rfl rfl ?_
              refine D.sk 24 rfl rfl rfl rfl rfl ?_
              refine D.sk 25 rfl rfl rfl rfl rfl ?_
              refine D.sk 26 rfl rfl rfl rfl rfl ?_
              refine D.sk 27 rfl rfl rfl rfl rfl ?_
              refine D.sk 28 rfl rfl rfl rfl rfl ?_
              refine D.sk 29 rfl rfl rfl rfl rfl ?_
              refine D.sk 30 rfl rfl rfl rfl rfl ?_
              refine D.q 31 rfl rfl rfl rfl rfl rfl ?_
              refine D.nil rfl rfl ?_
              have hr := Option.some.inj H941
              subst e914
              exact E.give ((), ()) [0, 0, 0] [1, 2, 3] trivial ⟨rfl, rfl, rfl, rfl, rfl, trivial⟩ rfl rfl
            · refine D.q 11 rfl rfl rfl rfl rfl rfl ?_
              refine D.y 12 (Yl.ldb 0 rfl rfl rfl rfl) rfl rfl rfl rfl rfl rfl ?_
              refine D.q 13 rfl rfl rfl rfl rfl rfl ?_
              refine D.y 14 (Yl.ldb 1 rfl rfl rfl rfl) rfl rfl rfl rfl rfl rfl ?_
              refine D.q 15 rfl rfl rfl rfl rfl rfl ?_
              obtain ⟨x942, h943, H944⟩ := bnd H941
              refine D.y 16 (Yl.ia h943 rfl rfl rfl rfl rfl rfl) rfl rfl rfl rfl rfl rfl ?_
              refine D.el 3 rfl (idx_some h943).2 ?_
              rintro _
              refine D.q 17 rfl rfl rfl rfl rfl rfl ?_
              refine D.y 18 (Yl.ldc 0 1 rfl rfl rfl rfl) rfl rfl rfl rfl rfl rfl ?_
              refine D.q 19 rfl rfl rfl rfl rfl rfl ?_
              refine D.q 20 rfl rfl rfl rfl rfl rfl ?_
              refine D.q 21 rfl rfl rfl rfl rfl rfl ?_
              refine D.cs 50 H944 rfl (fun hc H946 => ?_) (fun hc H946 => ?_)
              · refine D.sk 22 rfl rfl rfl rfl rfl ?_
                refine D.sk 23 rfl rfl rfl rfl rfl ?_
                refine D.sk 24 rfl rfl rfl rfl rfl ?_
                refine D.sk 25 rfl rfl rfl rfl rfl ?_
                refine D.sk 26 rfl rfl rfl rfl rfl ?_
                refine D.sk 27 rfl rfl rfl rfl rfl ?_
                refine D.sk 28 rfl rfl rfl rfl rfl ?_
                refine D.sk 29 rfl rfl rfl rfl rfl ?_
                refine D.sk 30 rfl rfl rfl rfl rfl ?_
                refine D.q 31 rfl rfl rfl rfl rfl rfl ?_
                refine D.nil rfl rfl ?_
                have hr := Option.some.inj H946
                subst e914
                exact E.give ((), ()) [0, 0, 0] [2, 3, 4] trivial ⟨rfl, rfl, rfl, rfl, rfl, trivial⟩ rfl rfl
              · refine D.q 22 rfl rfl rfl rfl rfl rfl ?_
                refine D.y 23 (Yl.ldb 0 rfl rfl rfl rfl) rfl rfl rfl rfl rfl rfl ?_
                refine D.q 24 rfl rfl rfl rfl rfl rfl ?_
                refine D.y 25 (Yl.ldb 1 rfl rfl rfl rfl) rfl rfl rfl rfl rfl rfl ?_
                refine D.q 26 rfl rfl rfl rfl rfl rfl ?_
                obtain ⟨x947, h948, H949⟩ := bnd H946
                refine D.y 27 (Yl.ia h948 rfl rfl rfl rfl rfl rfl) rfl rfl rfl rfl rfl rfl ?_
                refine D.el 4 rfl (idx_some h948).2 ?_
                rintro _
                refine D.q 28 rfl rfl rfl rfl rfl rfl ?_
                refine D.y 29 (Yl.ldc 0 2 rfl rfl rfl rfl) rfl rfl rfl rfl rfl rfl ?_
                refine D.q 30 rfl rfl rfl rfl rfl rfl ?_
                refine D.q 31 rfl rfl rfl rfl rfl rfl ?_
                refine D.nil rfl rfl ?_
                have hr := Option.some.inj H949
                subst e914
                exact E.give ((), ()) [0, 0, 0] [3, 4, 5] trivial ⟨rfl, rfl, rfl, rfl, rfl, trivial⟩ rfl rfl
          · rintro ⟨_, ⟨⟩⟩ _
            refine T.bif rfl H916 (fun hc H951 => ?_) (fun hc H951 => ?_)
            · refine T.seq ?_
              refine T.region ?_
              refine L.q 1 rfl ?_
              refine L.nil ?_
              refine E.then ?_
              refine T.ret ?_
              refine E.block_ret ?_
              refine E.then_ret ?_
              refine E.then_ret ?_
              refine E.block_ret ?_
              obtain ⟨w952, hz, H953⟩ := inrr_some H951
              subst z717
              have hb := hbr719 _ rfl
              subst y713
              have hw : w952 = r := Option.some.inj H715
              subst w952
              refine E.then_ret ?_
              have hr := Option.some.inj H953
              subst r
              exact E.ret () [] [] (.tmp rfl .nil) rfl rfl rfl
            · refine T.skip ?_
              refine E.block ?_
              refine E.then ?_
              refine T.region ?_
              refine L.q 2 rfl ?_
              refine L.nil ?_
              have hr := Option.some.inj H951
              subst z717
              exact E.give (_, ()) [1, 1] [1, 2] (hag718 _ rfl) ⟨rfl, rfl, rfl, rfl, trivial⟩ rfl rfl
        · refine T.exit ?_
          refine E.then_exit' ?_
          refine E.then_exit' ?_
          refine E.block_here ?_
          have hr := Option.some.inj H721
          subst z717
          have hb := hbr719 _ rfl
          subst y713
          exact E.give (_, ()) [0, 0] [0, 1] rfl trivial rfl rfl
      · rintro ⟨e712, ⟨⟩⟩ hy
        subst hy
        refine T.seq ?_
        refine T.region ?_
        refine L.q 1 rfl ?_
        refine L.nil ?_
        refine E.then ?_
        refine T.ret ?_
        have hr := Option.some.inj H715
        subst r
        exact E.ret () [] [] (.tmp rfl .nil) rfl rfl rfl

end Go.Tw.Rw

import Derived.Test.YtojpockgiaihoaaDoorWk1
set_option linter.unusedVariables false
set_option linter.unusedSimpArgs false
set_option maxRecDepth 10000
namespace Go.Tw.X
open Go Go.Tw
theorem c_law09_RowColumns {w : Int} {acts : List Law09Act} (a_1 : Option Addr) (c_1 : Nat) {r : Bool} (H : p_law09_RowColumns w acts = some r) : CT G 5 [.int .i64 w, .slice a_1 acts.length c_1] [] [Im.sl tyLaw09Act a_1 c_1 acts, Im.sl tyWideSpan (some ⟨0, 0, none⟩) 13 t_wide_nones, Im.sl tyWideSpan (some ⟨1, 0, none⟩) 14 t_wide_twos] (fun h : Unit => .bool r) (fun h => []) (fun h => []) := by
  delta p_law09_RowColumns at H
  refine CT.of Go.Proofs.Tryd.func5 (by kernel_rfl) rfl rfl rfl fun K => ?_
  refine T.seq ?_
  refine T.region ?_
  refine L.q 1 rfl ?_
  refine L.nil ?_
  refine E.then ?_
  refine T.seq ?_
  refine T.seq ?_
  refine T.region ?_
  obtain ⟨r1, h2, H3⟩ := bnd H
  refine L.a [] [1, 2] (Ac.call (c_law09_awake h2) rfl rfl rfl rfl) rfl rfl rfl rfl rfl ?_
  rintro ⟨⟩
  refine L.q 1 rfl ?_
  refine L.nil ?_
  refine E.then ?_
  refine T.bif rfl H3 (fun hc H5 => ?_) (fun hc H5 => ?_)
  · refine T.seq ?_
    refine T.region ?_
    refine L.q 1 rfl ?_
    refine L.nil ?_
    refine E.then ?_
    refine T.ret ?_
    refine E.then_ret ?_
    have hr := Option.some.inj H5
    subst r
    exact E.ret () [] [] (.tmp rfl .nil) rfl rfl rfl
  · refine T.skip ?_
    refine E.then ?_
    refine T.seq ?_
    refine T.region ?_
    refine L.q 2 rfl ?_
    obtain ⟨r6, h7, H8⟩ := bnd H5
    refine L.a [] [] (Ac.call (c_row_Blank h7) rfl rfl rfl rfl) rfl rfl rfl rfl rfl ?_
    rintro ⟨a9, c10⟩
    refine L.a [] [] (Ac.alloc rfl rfl) rfl rfl rfl rfl rfl ?_
    intro g12
    refine L.a [0] [] (Ac.stb rfl rfl rfl rfl rfl rfl) rfl rfl rfl rfl rfl ?_
    intro _
    refine L.nil ?_
    refine E.then ?_
    refine T.seq ?_
    refine T.seq ?_
    refine T.region ?_
    refine L.q 1 rfl ?_
    refine L.nil ?_
    refine E.then ?_
    obtain ⟨e315, H316, H317⟩ := bnd H8
    refine T.join (η := Unit × ((Option Addr × Nat))) (fun h => True) (fun h => (fun a312 c313 => [(0, .int .i64 w), (5, .pointer (some ⟨g12, 0, none⟩))]) h.2.1 h.2.2) (fun h => (fun a312 c313 => [Ch.box g12 26 [.slice a312 e315.cells.length c313, .bool e315.wrapped]]) h.2.1 h.2.2) (fun h => (fun a312 c313 => [Im.sl tyRowCell a312 c313 e315.cells, Im.sl tyRowCell a9 c10 r6.cells, Im.sl tyLaw09Act a_1 c_1 acts, Im.sl tyWideSpan (some ⟨0, 0, none⟩) 13 t_wide_nones, Im.sl tyWideSpan (some ⟨1, 0, none⟩) 14 t_wide_twos]) h.2.1 h.2.2) ?_ ?_
    · refine T.block ?_
      refine T.lp (η := (Option Addr × Nat)) (fun s216 h => (fun a212 c213 => [(0, .int .i64 w), (1, .slice a_1 acts.length c_1), (5, .pointer (some ⟨g12, 0, none⟩)), (6, .int .i64 s216.2)]) h.1 h.2) (fun s216 h => (fun a212 c213 => [Ch.box g12 26 [.slice a212 s216.1.cells.length c213, .bool s216.1.wrapped]]) h.1 h.2) (fun s216 h => (fun a212 c213 => [Im.sl tyRowCell a212 c213 s216.1.cells, Im.sl tyRowCell a9 c10 r6.cells, Im.sl tyLaw09Act a_1 c_1 acts, Im.sl tyWideSpan (some ⟨0, 0, none⟩) 13 t_wide_nones, Im.sl tyWideSpan (some ⟨1, 0, none⟩) 14 t_wide_twos]) h.1 h.2) (a9, c10) [0] [0, 0, 1, 2, 3] H316 ⟨rfl, rfl, rfl, rfl, trivial⟩ rfl rfl ?_
      rintro k s216 ⟨a212, c213⟩ z319 H318 hag320 hbr321
      refine T.seq ?_
      refine T.seq ?_
      obtain ⟨e325, H326, H327⟩ := bnd H318
      refine T.join (η := Unit × Unit) (fun h => True) (fun h => [(0, .int .i64 w), (1, .slice a_1 acts.length c_1), (5, .pointer (some ⟨g12, 0, none⟩)), (6, .int .i64 s216.2), (26, .bool e325)]) (fun h => [Ch.box g12 26 [.slice a212 s216.1.cells.length c213, .bool s216.1.wrapped]]) (fun h => [Im.sl tyRowCell a212 c213 s216.1.cells, Im.sl tyRowCell a9 c10 r6.cells, Im.sl tyLaw09Act a_1 c_1 acts, Im.sl tyWideSpan (some ⟨0, 0, none⟩) 13 t_wide_nones, Im.sl tyWideSpan (some ⟨1, 0, none⟩) 14 t_wide_twos]) ?_ ?_
      · refine T.region ?_
        refine L.q 5 rfl ?_
        refine L.cs 23 H326 rfl (fun hc H328 => ?_) (fun hc H328 => ?_)
        · refine L.q 3 rfl ?_
          refine L.nil ?_
          have hr := Option.some.inj H328
          subst e325
          exact E.give ((), ()) [0] [0, 1, 2, 3, 4] trivial ⟨rfl, rfl, rfl, rfl, rfl, trivial⟩ rfl rfl
        · refine L.q 3 rfl ?_
          refine L.nil ?_
          have hr := Option.some.inj H328
          subst e325
          exact E.give ((), ()) [0] [0, 1, 2, 3, 4] trivial ⟨rfl, rfl, rfl, rfl, rfl, trivial⟩ rfl rfl
      · rintro ⟨_, ⟨⟩⟩ _
        refine T.bif rfl H327 (fun hc H330 => ?_) (fun hc H330 => ?_)
        · refine T.skip ?_
          refine E.then ?_
          refine T.seq ?_
          obtain ⟨e387, H388, H389⟩ := bnd H330
          refine T.join (η := Unit × ((Option Addr × Nat))) (fun h => True) (fun h => (fun a384 c385 => [(0, .int .i64 w), (1, .slice a_1 acts.length c_1), (5, .pointer (some ⟨g12, 0, none⟩)), (6, .int .i64 s216.2)]) h.2.1 h.2.2) (fun h => (fun a384 c385 => [Ch.box g12 26 [.slice a384 e387.cells.length c385, .bool e387.wrapped]]) h.2.1 h.2.2) (fun h => (fun a384 c385 => [Im.sl tyRowCell a384 c385 e387.cells, Im.sl tyRowCell a212 c213 s216.1.cells, Im.sl tyRowCell a9 c10 r6.cells, Im.sl tyLaw09Act a_1 c_1 acts, Im.sl tyWideSpan (some ⟨0, 0, none⟩) 13 t_wide_nones, Im.sl tyWideSpan (some ⟨1, 0, none⟩) 14 t_wide_twos]) h.2.1 h.2.2) ?_ ?_
          · refine T.block ?_
            refine T.seq ?_
            refine T.region ?_
            refine L.q 2 rfl ?_
            obtain ⟨x390, h391, H392⟩ := bnd H388
            refine L.addr 2 rfl (idx_lt h391) fun b393 o394 e395 => ?_
            obtain rfl : a_1 = some ⟨b393, o394, none⟩ := e395
            refine L.y (Yl.ia h391 rfl rfl rfl rfl rfl rfl) rfl rfl rfl ?_
            refine L.el 2 rfl (idx_some h391).2 ?_
            rintro _
            refine L.y (Yl.ldc 0 0 rfl rfl rfl rfl) rfl rfl rfl ?_
            refine L.a [] [] (Ac.alloc rfl rfl) rfl rfl rfl rfl rfl ?_
            intro g397
            refine L.a [0] [] (Ac.stb rfl rfl rfl rfl rfl rfl) rfl rfl rfl rfl rfl ?_
            intro _
            refine L.nil ?_
            refine E.then ?_
            refine T.seq ?_
            obtain ⟨e401, H402, H403⟩ := bnd H392
            refine T.join (η := Unit × Unit) (fun h => True) (fun h => [(0, .int .i64 w), (1, .slice (some ⟨b393, o394, none⟩) acts.length c_1), (5, .pointer (some ⟨g12, 0, none⟩)), (6, .int .i64 s216.2), (7, .pointer (some ⟨g397, 0, none⟩)), (40, .bool e401)]) (fun h => [Ch.box g397 35 [.int .i64 x390.kind, .int .i64 x390.at_, .int .i64 x390.n, .int .i64 x390.style, .int .i32 x390.rune], Ch.box g12 26 [.slice a212 s216.1.cells.length c213, .bool s216.1.wrapped]]) (fun h => [Im.cells b393 (o394 + s216.2.toNat * 5) [.int .i64 x390.kind, .int .i64 x390.at_, .int .i64 x390.n, .int .i64 x390.style, .int .i32 x390.rune], Im.sl tyRowCell a212 c213 s216.1.cells, Im.sl tyRowCell a9 c10 r6.cells, Im.sl tyLaw09Act (some ⟨b393, o394, none⟩) c_1 acts, Im.sl tyWideSpan (some ⟨0, 0, none⟩) 13 t_wide_nones, Im.sl tyWideSpan (some ⟨1, 0, none⟩) 14 t_wide_twos]) ?_ ?_
            · refine T.region ?_
              refine L.q 1 rfl ?_
              refine L.y (Yl.ldb 0 rfl rfl rfl rfl) rfl rfl rfl ?_
              refine L.q 2 rfl ?_
              refine L.cs 36 H402 rfl (fun hc H404 => ?_) (fun hc H404 => ?_)
              · refine L.q 1 rfl ?_
                refine L.y (Yl.ldb 0 rfl rfl rfl rfl) rfl rfl rfl ?_
                refine L.q 2 rfl ?_
                refine L.nil ?_
                have hr := Option.some.inj H404
                subst e401
                exact E.give ((), ()) [0, 0] [0, 1, 2, 3, 4, 5] trivial ⟨rfl, rfl, rfl, rfl, rfl, rfl, trivial⟩ rfl rfl
              · refine L.q 4 rfl ?_
                refine L.nil ?_
                have hr := Option.some.inj H404
                subst e401
                exact E.give ((), ()) [0, 0] [0, 1, 2, 3, 4, 5] trivial ⟨rfl, rfl, rfl, rfl, rfl, rfl, trivial⟩ rfl rfl
            · rintro ⟨_, ⟨⟩⟩ _
              refine T.bif rfl H403 (fun hc H405 => ?_) (fun hc H405 => ?_)
              · refine T.region ?_
                refine L.y (Yl.ldb 1 rfl rfl rfl rfl) rfl rfl rfl ?_
                refine L.q 1 rfl ?_
                refine L.y (Yl.ldb 0 rfl rfl rfl rfl) rfl rfl rfl ?_
                refine L.know [Im.sl tyRef09Cell none 0 []] (fun A w _ _ f hf => by rw [List.mem_singleton.1 hf]; exact Im.sl_nil A w) ?_
                obtain ⟨r407, h408, H409⟩ := bnd H405
                refine L.a [] [2, 0, 5, 6] (Ac.call (c_law09_Do a212 c213 none 0 h408) rfl rfl rfl rfl) rfl rfl rfl rfl rfl ?_
                rintro ⟨⟨a410, c411⟩, ⟨a412, c413⟩⟩
                refine L.q 3 rfl ?_
                refine L.a [1] [] (Ac.stb rfl rfl rfl rfl rfl rfl) rfl rfl rfl rfl rfl ?_
                intro _
                refine L.nil ?_
                refine E.block ?_
                have hr := Option.some.inj H409
                subst e387
                exact E.give ((), (a410, c411)) [0] [0, 4, 5, 6, 7, 8] trivial ⟨rfl, rfl, rfl, rfl, trivial⟩ rfl rfl
              · refine T.skip ?_
                refine E.block ?_
                have hr := Option.some.inj H405
                subst e387
                exact E.give ((), (a212, c213)) [1] [1, 1, 2, 3, 4, 5] trivial ⟨rfl, rfl, rfl, rfl, trivial⟩ rfl rfl
          · rintro ⟨_, ⟨a384, c385⟩⟩ _
            refine T.region ?_
            refine L.q 3 rfl ?_
            refine L.nil ?_
            have hr := Option.some.inj H389
            subst z319
            exact E.give (_, (a384, c385)) [0] [0, 2, 3, 4, 5] (hag320 _ rfl) ⟨rfl, rfl, rfl, rfl, trivial⟩ rfl rfl
        · refine T.exit ?_
          refine E.then_exit' ?_
          refine E.then_exit' ?_
          refine E.block_here ?_
          have hr := Option.some.inj H330
          subst z319
          have hb := hbr321 _ rfl
          subst e315
          exact E.give ((), (a212, c213)) [0] [0, 1, 2, 3, 4] trivial ⟨rfl, rfl, trivial⟩ rfl rfl
    · rintro ⟨_, ⟨a312, c313⟩⟩ _
      refine T.seq ?_
      refine T.region ?_
      refine L.q 1 rfl ?_
      refine L.a [0] [] (Ac.stb rfl rfl rfl rfl rfl rfl) rfl rfl rfl rfl rfl ?_
      intro _
      refine L.nil ?_
      refine E.then ?_
      refine T.seq ?_
      refine T.region ?_
      refine L.q 1 rfl ?_
      refine L.nil ?_
      refine E.then ?_
      refine T.seq ?_
      refine T.seq ?_
      refine T.region ?_
      refine L.y (Yl.ldb 0 rfl rfl rfl rfl) rfl rfl rfl ?_
      obtain ⟨r416, h417, H418⟩ := bnd H317
      refine L.a [] [0] (Ac.call (c_row_Row_Glyphs a312 c313 h417) rfl rfl rfl rfl) rfl rfl rfl rfl rfl ?_
      rintro ⟨a419, c420⟩
      refine L.q 2 rfl ?_
      refine L.nil ?_
      refine E.then ?_
      obtain ⟨e490, H491, H492⟩ := bnd H418
      refine T.join (η := Unit × Unit) (fun h => True) (fun h => [(0, .int .i64 w), (5, .pointer (some ⟨g12, 0, none⟩)), (8, .int .i64 e490)]) (fun h => [Ch.box g12 26 [.slice a312 e315.cells.length c313, .bool true]]) (fun h => [Im.sl tyRowCell a312 c313 e315.cells, Im.sl tyRowCell a9 c10 r6.cells, Im.sl tyLaw09Act a_1 c_1 acts, Im.sl tyWideSpan (some ⟨0, 0, none⟩) 13 t_wide_nones, Im.sl tyWideSpan (some ⟨1, 0, none⟩) 14 t_wide_twos]) ?_ ?_
      · refine T.block ?_
        refine T.lp (η := Unit) (fun s468 h => [(0, .int .i64 w), (5, .pointer (some ⟨g12, 0, none⟩)), (8, .int .i64 s468.2), (50, .slice a419 r416.length c420), (51, .int .i64 (r416.length : Int)), (52, .int .i64 s468.1)]) (fun s468 h => [Ch.box g12 26 [.slice a312 e315.cells.length c313, .bool true], Ch.arr tyRowGlyph 45 a419 c420 r416]) (fun s468 h => [Im.sl tyRowCell a312 c313 e315.cells, Im.sl tyRowCell a9 c10 r6.cells, Im.sl tyLaw09Act a_1 c_1 acts, Im.sl tyWideSpan (some ⟨0, 0, none⟩) 13 t_wide_nones, Im.sl tyWideSpan (some ⟨1, 0, none⟩) 14 t_wide_twos]) () [1, 0] [0, 1, 2, 3, 4] H491 ⟨rfl, rfl, rfl, rfl, rfl, rfl, trivial⟩ rfl rfl ?_
        rintro k s468 ⟨⟩ z494 H493 hag495 hbr496
        refine T.seq ?_
        refine T.region ?_
        refine L.q 1 rfl ?_
        refine L.nil ?_
        refine E.then ?_
        refine T.seq ?_
        refine T.bif rfl H493 (fun hc H498 => ?_) (fun hc H498 => ?_)
        · refine T.skip ?_
          refine E.then ?_
          refine T.seq ?_
          refine T.block ?_
          refine T.seq ?_
          refine T.region ?_
          obtain ⟨x508, h509, H510⟩ := bnd H498
          refine L.addro 1 rfl (idx_lt h509) fun b511 e512 => ?_
          obtain rfl : a419 = some ⟨b511, 0, none⟩ := e512
          refine L.y (Yl.ia h509 rfl rfl rfl rfl rfl rfl) rfl rfl rfl ?_
          refine L.y (Yl.lo (v := .agg #[.int .i32 x508.rune, .int .i64 x508.style]) 1 s468.1.toNat 0 (idx_some h509).2 rfl rfl rfl rfl (fun _ => rfl)) rfl rfl rfl ?_
          refine L.a [] [] (Ac.alloc rfl rfl) rfl rfl rfl rfl rfl ?_
          intro g513
          refine L.a [0] [] (Ac.stb rfl rfl rfl rfl rfl rfl) rfl rfl rfl rfl rfl ?_
          intro _
          refine L.nil ?_
          refine E.then ?_
          refine T.region ?_
          refine L.q 2 rfl ?_
          refine L.y (Yl.ldb 0 rfl rfl rfl rfl) rfl rfl rfl ?_
          obtain ⟨r514, h515, H516⟩ := bnd H510
          refine L.a [] [3, 4] (Ac.call (c_wide_Of h515) rfl rfl rfl rfl) rfl rfl rfl rfl rfl ?_
          rintro ⟨⟩
          refine L.q 2 rfl ?_
          refine L.nil ?_
          refine E.block ?_
          refine E.then ?_
          refine T.region ?_
          refine L.q 2 rfl ?_
          refine L.nil ?_
          have hr := Option.some.inj H516
          subst z494
          exact E.give (_, ()) [1, 1] [0, 1, 2, 3, 4] (hag495 _ rfl) ⟨rfl, rfl, rfl, rfl, rfl, rfl, trivial⟩ rfl rfl
        · refine T.exit ?_
          refine E.then_exit' ?_
          refine E.then_exit' ?_
          refine E.block_here ?_
          have hr := Option.some.inj H498
          subst z494
          have hb := hbr496 _ rfl
          subst e490
          exact E.give ((), ()) [0] [0, 1, 2, 3, 4] trivial ⟨rfl, rfl, rfl, trivial⟩ rfl rfl
      · rintro ⟨_, ⟨⟩⟩ _
        refine T.seq ?_
        refine T.seq ?_
        refine T.region ?_
        refine L.q 4 rfl ?_
        refine L.nil ?_
        refine E.then ?_
        refine T.bif rfl H492 (fun hc H518 => ?_) (fun hc H518 => ?_)
        · refine T.seq ?_
          refine T.region ?_
          refine L.q 1 rfl ?_
          refine L.nil ?_
          refine E.then ?_
          refine T.ret ?_
          refine E.then_ret ?_
          have hr := Option.some.inj H518
          subst r
          exact E.ret () [] [] (.tmp rfl .nil) rfl rfl rfl
        · refine T.skip ?_
          refine E.then ?_
          refine T.seq ?_
          refine T.region ?_
          refine L.y (Yl.ldb 0 rfl rfl rfl rfl) rfl rfl rfl ?_
          obtain ⟨r519, h520, H521⟩ := bnd H518
          refine L.a [] [0] (Ac.call (c_row_Row_Fill a312 c313 h520) rfl rfl rfl rfl) rfl rfl rfl rfl rfl ?_
          rintro ⟨a522, c523⟩
          refine L.a [] [] (Ac.alloc rfl rfl) rfl rfl rfl rfl rfl ?_
          intro g525
          refine L.a [0] [] (Ac.stb rfl rfl rfl rfl rfl rfl) rfl rfl rfl rfl rfl ?_
          intro _
          refine L.nil ?_
          refine E.then ?_
          refine T.seq ?_
          refine T.region ?_
          refine L.q 1 rfl ?_
          refine L.nil ?_
          refine E.then ?_
          refine T.seq ?_
          refine T.seq ?_
          refine T.region ?_
          refine L.y (Yl.ldb 0 rfl rfl rfl rfl) rfl rfl rfl ?_
          obtain ⟨r526, h527, H528⟩ := bnd H521
          refine L.a [] [0] (Ac.call (c_row_Row_Glyphs a522 c523 h527) rfl rfl rfl rfl) rfl rfl rfl rfl rfl ?_
          rintro ⟨a529, c530⟩
          refine L.q 2 rfl ?_
          refine L.nil ?_
          refine E.then ?_
          obtain ⟨e600, H601, H602⟩ := bnd H528
          refine T.join (η := Unit × Unit) (fun h => True) (fun h => [(0, .int .i64 w), (8, .int .i64 e600)]) (fun h => [Ch.box g525 26 [.slice a522 r519.cells.length c523, .bool r519.wrapped], Ch.box g12 26 [.slice a312 e315.cells.length c313, .bool true]]) (fun h => [Im.sl tyRowCell a522 c523 r519.cells, Im.sl tyRowCell a312 c313 e315.cells, Im.sl tyRowCell a9 c10 r6.cells, Im.sl tyLaw09Act a_1 c_1 acts, Im.sl tyWideSpan (some ⟨0, 0, none⟩) 13 t_wide_nones, Im.sl tyWideSpan (some ⟨1, 0, none⟩) 14 t_wide_twos]) ?_ ?_
          · refine T.block ?_
            refine T.lp (η := Unit) (fun s578 h => [(0, .int .i64 w), (8, .int .i64 s578.2), (69, .slice a529 r526.length c530), (70, .int .i64 (r526.length : Int)), (71, .int .i64 s578.1)]) (fun s578 h => [Ch.box g525 26 [.slice a522 r519.cells.length c523, .bool r519.wrapped], Ch.box g12 26 [.slice a312 e315.cells.length c313, .bool true], Ch.arr tyRowGlyph 45 a529 c530 r526]) (fun s578 h => [Im.sl tyRowCell a522 c523 r519.cells, Im.sl tyRowCell a312 c313 e315.cells, Im.sl tyRowCell a9 c10 r6.cells, Im.sl tyLaw09Act a_1 c_1 acts, Im.sl tyWideSpan (some ⟨0, 0, none⟩) 13 t_wide_nones, Im.sl tyWideSpan (some ⟨1, 0, none⟩) 14 t_wide_twos]) () [1, 1, 0] [0, 1, 2, 3, 4, 5] H601 ⟨rfl, rfl, rfl, rfl, rfl, trivial⟩ rfl rfl ?_
            rintro k s578 ⟨⟩ z604 H603 hag605 hbr606
            refine T.seq ?_
            refine T.region ?_
            refine L.q 1 rfl ?_
            refine L.nil ?_
            refine E.then ?_
            refine T.seq ?_
            refine T.bif rfl H603 (fun hc H608 => ?_) (fun hc H608 => ?_)
            · refine T.skip ?_
              refine E.then ?_
              refine T.seq ?_
              refine T.block ?_
              refine T.seq ?_
              refine T.region ?_
              obtain ⟨x618, h619, H620⟩ := bnd H608
              refine L.addro 2 rfl (idx_lt h619) fun b621 e622 => ?_
              obtain rfl : a529 = some ⟨b621, 0, none⟩ := e622
              refine L.y (Yl.ia h619 rfl rfl rfl rfl rfl rfl) rfl rfl rfl ?_
              refine L.y (Yl.lo (v := .agg #[.int .i32 x618.rune, .int .i64 x618.style]) 2 s578.1.toNat 0 (idx_some h619).2 rfl rfl rfl rfl (fun _ => rfl)) rfl rfl rfl ?_
              refine L.a [] [] (Ac.alloc rfl rfl) rfl rfl rfl rfl rfl ?_
              intro g623
              refine L.a [0] [] (Ac.stb rfl rfl rfl rfl rfl rfl) rfl rfl rfl rfl rfl ?_
              intro _
              refine L.nil ?_
              refine E.then ?_
              refine T.region ?_
              refine L.q 2 rfl ?_
              refine L.y (Yl.ldb 0 rfl rfl rfl rfl) rfl rfl rfl ?_
              obtain ⟨r624, h625, H626⟩ := bnd H620
              refine L.a [] [4, 5] (Ac.call (c_wide_Of h625) rfl rfl rfl rfl) rfl rfl rfl rfl rfl ?_
              rintro ⟨⟩
              refine L.q 2 rfl ?_
              refine L.nil ?_
              refine E.block ?_
              refine E.then ?_
              refine T.region ?_
              refine L.q 2 rfl ?_
              refine L.nil ?_
              have hr := Option.some.inj H626
              subst z604
              exact E.give (_, ()) [1, 1, 1] [0, 1, 2, 3, 4, 5] (hag605 _ rfl) ⟨rfl, rfl, rfl, rfl, rfl, trivial⟩ rfl rfl
            · refine T.exit ?_
              refine E.then_exit' ?_
              refine E.then_exit' ?_
              refine E.block_here ?_
              have hr := Option.some.inj H608
              subst z604
              have hb := hbr606 _ rfl
              subst e600
              exact E.give ((), ()) [0, 0] [0, 1, 2, 3, 4, 5] trivial ⟨rfl, rfl, trivial⟩ rfl rfl
          · rintro ⟨_, ⟨⟩⟩ _
            refine T.seq ?_
            refine T.region ?_
            refine L.q 7 rfl ?_
            refine L.nil ?_
            refine E.then ?_
            refine T.ret ?_
            have hr := Option.some.inj H602
            subst r
            exact E.ret () [] [] (.tmp rfl .nil) rfl rfl rfl

theorem c_slices_Equal_row_Cell {s1_ : List RowCell} {s2_ : List RowCell} (a_0 : Option Addr) (c_0 : Nat) (a_1 : Option Addr) (c_1 : Nat) {r : Bool} (H : p_slices_Equal_row_Cell s1_ s2_ = some r) : CT G 60 [.slice a_0 s1_.length c_0, .slice a_1 s2_.length c_1] [] [Im.sl tyRowCell a_0 c_0 s1_, Im.sl tyRowCell a_1 c_1 s2_] (fun h : Unit => .bool r) (fun h => []) (fun h => []) := by
  delta p_slices_Equal_row_Cell at H
  refine CT.of Go.Proofs.Tryd.func60 (by kernel_rfl) rfl rfl rfl fun K => ?_
  refine T.seq ?_
  refine T.region ?_
  refine L.q 1 rfl ?_
  refine L.nil ?_
  refine E.then ?_
  refine T.seq ?_
  refine T.seq ?_
  refine T.region ?_
  refine L.q 5 rfl ?_
  refine L.nil ?_
  refine E.then ?_
  refine T.bif rfl H (fun hc H2 => ?_) (fun hc H2 => ?_)
  · refine T.seq ?_
    refine T.region ?_
    refine L.q 1 rfl ?_
    refine L.nil ?_
    refine E.then ?_
    refine T.ret ?_
    refine E.then_ret ?_
    have hr := Option.some.inj H2
    subst r
    exact E.ret () [] [] (.tmp rfl .nil) rfl rfl rfl
  · refine T.skip ?_
    refine E.then ?_
    refine T.seq ?_
    refine T.seq ?_
    refine T.region ?_
    refine L.q 3 rfl ?_
    refine L.nil ?_
    refine E.then ?_
    obtain ⟨y356, H357, H358⟩ := bnd H2
    refine T.join (η := Unit × Unit) (fun h => y356 = .inl h.1) (fun h => (fun e355 => []) h.1) (fun h => (fun e355 => []) h.1) (fun h => (fun e355 => [Im.sl tyRowCell a_0 c_0 s1_, Im.sl tyRowCell a_1 c_1 s2_]) h.1) ?_ ?_
    · refine T.block ?_
      refine T.lp (η := Unit) (fun s238 h => [(0, .slice a_0 s1_.length c_0), (1, .slice a_1 s2_.length c_1), (12, .int .i64 (s1_.length : Int)), (13, .int .i64 s238)]) (fun s238 h => []) (fun s238 h => [Im.sl tyRowCell a_0 c_0 s1_, Im.sl tyRowCell a_1 c_1 s2_]) () [] [0, 1] H357 ⟨rfl, rfl, rfl, rfl, trivial⟩ rfl rfl ?_
      rintro k s238 ⟨⟩ z360 H359 hag361 hbr362
      refine T.seq ?_
      refine T.region ?_
      refine L.q 1 rfl ?_
      refine L.nil ?_
      refine E.then ?_
      refine T.seq ?_
      refine T.bif rfl H359 (fun hc H364 => ?_) (fun hc H364 => ?_)
      · refine T.skip ?_
        refine E.then ?_
        refine T.seq ?_
        refine T.block ?_
        refine T.seq ?_
        refine T.region ?_
        refine L.q 2 rfl ?_
        refine L.nil ?_
        refine E.then ?_
        refine T.seq ?_
        refine T.draw [] [] mo (by rfl) rfl ?_
        refine D.q 0 rfl rfl rfl rfl rfl rfl ?_
        refine D.q 1 rfl rfl rfl rfl rfl rfl ?_
        obtain ⟨x464, h465, H466⟩ := bnd H364
        refine D.addr 0 rfl (idx_lt h465) fun b467 o468 e469 => ?_
        obtain rfl : a_0 = some ⟨b467, o468, none⟩ := e469
        refine D.y 2 (Yl.ia h465 rfl rfl rfl rfl rfl rfl) rfl rfl rfl rfl rfl rfl ?_
        refine D.el 0 rfl (idx_some h465).2 ?_
        rintro _
        refine D.y 3 (Yl.ldc 0 0 rfl rfl rfl rfl) rfl rfl rfl rfl rfl rfl ?_
        refine D.q 4 rfl rfl rfl rfl rfl rfl ?_
        refine D.q 5 rfl rfl rfl rfl rfl rfl ?_
        obtain ⟨x471, h472, H473⟩ := bnd H466
        refine D.addr 2 rfl (idx_lt h472) fun b474 o475 e476 => ?_
        obtain rfl : a_1 = some ⟨b474, o475, none⟩ := e476
        refine D.y 6 (Yl.ia h472 rfl rfl rfl rfl rfl rfl) rfl rfl rfl rfl rfl rfl ?_
        refine D.el 2 rfl (idx_some h472).2 ?_
        rintro _
        refine D.y 7 (Yl.ldc 0 0 rfl rfl rfl rfl) rfl rfl rfl rfl rfl rfl ?_
        refine D.q 8 rfl rfl rfl rfl rfl rfl ?_
        refine D.nil rfl rfl ?_
        refine E.then ?_
        refine T.bif rfl H473 (fun hc H478 => ?_) (fun hc H478 => ?_)
        · refine T.seq ?_
          refine T.region ?_
          refine L.q 1 rfl ?_
          refine L.nil ?_
          refine E.then ?_
          refine T.ret ?_
          refine E.block_ret ?_
          refine E.then_ret ?_
          refine E.then_ret ?_
          refine E.block_ret ?_
          obtain ⟨w479, hz, H480⟩ := inrr_some H478
          subst z360
          have hb := hbr362 _ rfl
          subst y356
          have hw : w479 = r := Option.some.inj H358
          subst w479
          refine E.then_ret ?_
          have hr := Option.some.inj H480
          subst r
          exact E.ret () [] [] (.tmp rfl .nil) rfl rfl rfl
        · refine T.skip ?_
          refine E.block ?_
          refine E.then ?_
          refine T.region ?_
          refine L.q 2 rfl ?_
          refine L.nil ?_
          have hr := Option.some.inj H478
          subst z360
          exact E.give (_, ()) [] [2, 3] (hag361 _ rfl) ⟨rfl, rfl, rfl, rfl, trivial⟩ rfl rfl
      · refine T.exit ?_
        refine E.then_exit' ?_
        refine E.then_exit' ?_
        refine E.block_here ?_
        have hr := Option.some.inj H364
        subst z360
        have hb := hbr362 _ rfl
        subst y356
        exact E.give (_, ()) [] [0, 1] rfl trivial rfl rfl
    · rintro ⟨e355, ⟨⟩⟩ hy
      subst hy
      refine T.seq ?_
      refine T.region ?_
      refine L.q 1 rfl ?_
      refine L.nil ?_
      refine E.then ?_
      refine T.ret ?_
      have hr := Option.some.inj H358
      subst r
      exact E.ret () [] [] (.tmp rfl .nil) rfl rfl rfl

theorem c_row_Row_Same {r_ : RowRow} {q : RowRow} (a_0_0 : Option Addr) (c_0_0 : Nat) (a_1_0 : Option Addr) (c_1_0 : Nat) {r : Bool} (H : p_row_Row_Same r_ q = some r) : CT G 27 [.agg #[.slice a_0_0 r_.cells.length c_0_0, .bool r_.wrapped], .agg #[.slice a_1_0 q.cells.length c_1_0, .bool q.wrapped]] [] [Im.sl tyRowCell a_0_0 c_0_0 r_.cells, Im.sl tyRowCell a_1_0 c_1_0 q.cells] (fun h : Unit => .bool r) (fun h => []) (fun h => []) := by
  delta p_row_Row_Same at H
  refine CT.of Go.Proofs.Tryd.func27 (by kernel_rfl) rfl rfl rfl fun K => ?_
  refine T.seq ?_
  refine T.region ?_
  refine L.a [] [] (Ac.box rfl rfl) rfl rfl rfl rfl rfl ?_
  intro g1
  refine L.a [] [] (Ac.box rfl rfl) rfl rfl rfl rfl rfl ?_
  intro g2
  refine L.q 1 rfl ?_
  refine L.nil ?_
  refine E.then ?_
  refine T.seq ?_
  obtain ⟨e12, H13, H14⟩ := bnd H
  refine T.join (η := Unit × Unit) (fun h => True) (fun h => [(4, .bool e12)]) (fun h => [Ch.box g2 26 [.slice a_1_0 q.cells.length c_1_0, .bool q.wrapped], Ch.box g1 26 [.slice a_0_0 r_.cells.length c_0_0, .bool r_.wrapped]]) (fun h => [Im.sl tyRowCell a_0_0 c_0_0 r_.cells, Im.sl tyRowCell a_1_0 c_1_0 q.cells]) ?_ ?_
  · refine T.region ?_
    refine L.q 1 rfl ?_
    refine L.y (Yl.ldb 1 rfl rfl rfl rfl) rfl rfl rfl ?_
    refine L.q 1 rfl ?_
    refine L.y (Yl.ldb 0 rfl rfl rfl rfl) rfl rfl rfl ?_
    refine L.q 2 rfl ?_
    refine L.cs 10 H13 rfl (fun hc H15 => ?_) (fun hc H15 => ?_)
    · refine L.q 1 rfl ?_
      refine L.y (Yl.ldb 1 rfl rfl rfl rfl) rfl rfl rfl ?_
      refine L.q 1 rfl ?_
      refine L.y (Yl.ldb 0 rfl rfl rfl rfl) rfl rfl rfl ?_
      obtain ⟨r16, h17, H18⟩ := bnd H15
      refine L.a [] [0, 1] (Ac.call (c_slices_Equal_row_Cell a_0_0 c_0_0 a_1_0 c_1_0 h17) rfl rfl rfl rfl) rfl rfl rfl rfl rfl ?_
      rintro ⟨⟩
      refine L.q 2 rfl ?_
      refine L.nil ?_
      have hr := Option.some.inj H18
      subst e12
      exact E.give ((), ()) [0, 0] [0, 1] trivial ⟨rfl, trivial⟩ rfl rfl
    · refine L.q 7 rfl ?_
      refine L.nil ?_
      have hr := Option.some.inj H15
      subst e12
      exact E.give ((), ()) [0, 0] [0, 1] trivial ⟨rfl, trivial⟩ rfl rfl
  · rintro ⟨_, ⟨⟩⟩ _
    refine T.ret ?_
    have hr := Option.some.inj H14
    subst r
    exact E.ret () [] [] (.tmp rfl .nil) rfl rfl rfl

theorem c_law09_RowLength {l : List RowCell} {wrapped : Bool} {a : Law09Act} (a_0 : Option Addr) (c_0 : Nat) {r : Bool} (H : p_law09_RowLength l wrapped a = some r) : CT G 6 [.slice a_0 l.length c_0, .bool wrapped, .agg #[.int .i64 a.kind, .int .i64 a.at_, .int .i64 a.n, .int .i64 a.style, .int .i32 a.rune]] [] [Im.sl tyRowCell a_0 c_0 l, Im.sl tyWideSpan (some ⟨0, 0, none⟩) 13 t_wide_nones, Im.sl tyWideSpan (some ⟨1, 0, none⟩) 14 t_wide_twos] (fun h : Unit => .bool r) (fun h => []) (fun h => []) := by
  delta p_law09_RowLength at H
  refine CT.of Go.Proofs.Tryd.func6 (by kernel_rfl) rfl rfl rfl fun K => ?_
  refine T.seq ?_
  refine T.region ?_
  refine L.a [] [] (Ac.box rfl rfl) rfl rfl rfl rfl rfl ?_
  intro g1
  refine L.q 1 rfl ?_
  refine L.nil ?_
  refine E.then ?_
  refine T.seq ?_
  refine T.seq ?_
  refine T.region ?_
  obtain ⟨r2, h3, H4⟩ := bnd H
  refine L.a [] [1, 2] (Ac.call (c_law09_awake h3) rfl rfl rfl rfl) rfl rfl rfl rfl rfl ?_
  rintro ⟨⟩
  refine L.q 1 rfl ?_
  refine L.nil ?_
  refine E.then ?_
  refine T.bif rfl H4 (fun hc H6 => ?_) (fun hc H6 => ?_)
  · refine T.seq ?_
    refine T.region ?_
    refine L.q 1 rfl ?_
    refine L.nil ?_
    refine E.then ?_
    refine T.ret ?_
    refine E.then_ret ?_
    have hr := Option.some.inj H6
    subst r
    exact E.ret () [] [] (.tmp rfl .nil) rfl rfl rfl
  · refine T.skip ?_
    refine E.then ?_
    refine T.seq ?_
    refine T.region ?_
    refine L.q 2 rfl ?_
    obtain ⟨r7, h8, H9⟩ := bnd H6
    refine L.a [] [0] (Ac.call (c_law09_Any a_0 c_0 h8) rfl rfl rfl rfl) rfl rfl rfl rfl rfl ?_
    rintro ⟨a10, c11⟩
    refine L.a [] [] (Ac.alloc rfl rfl) rfl rfl rfl rfl rfl ?_
    intro g13
    refine L.a [0] [] (Ac.stb rfl rfl rfl rfl rfl rfl) rfl rfl rfl rfl rfl ?_
    intro _
    refine L.nil ?_
    refine E.then ?_
    refine T.seq ?_
    refine T.region ?_
    refine L.q 1 rfl ?_
    refine L.y (Yl.ldb 0 rfl rfl rfl rfl) rfl rfl rfl ?_
    refine L.q 2 rfl ?_
    refine L.nil ?_
    refine E.then ?_
    refine T.seq ?_
    refine T.region ?_
    refine L.y (Yl.ldb 0 rfl rfl rfl rfl) rfl rfl rfl ?_
    refine L.q 2 rfl ?_
    refine L.y (Yl.ldb 1 rfl rfl rfl rfl) rfl rfl rfl ?_
    obtain ⟨r14, h15, H16⟩ := bnd H9
    refine L.a [] [0] (Ac.call (c_row_Row_Erase a10 c11 h15) rfl rfl rfl rfl) rfl rfl rfl rfl rfl ?_
    rintro ⟨a17, c18⟩
    refine L.a [] [] (Ac.alloc rfl rfl) rfl rfl rfl rfl rfl ?_
    intro g20
    refine L.a [0] [] (Ac.stb rfl rfl rfl rfl rfl rfl) rfl rfl rfl rfl rfl ?_
    intro _
    refine L.nil ?_
    refine E.then ?_
    refine T.seq ?_
    obtain ⟨e198, H199, H200⟩ := bnd H16
    refine T.join (η := Unit × Unit) (fun h => True) (fun h => [(6, .bool e198)]) (fun h => [Ch.box g20 26 [.slice a17 r14.cells.length c18, .bool r14.wrapped], Ch.box g13 26 [.slice a10 r7.cells.length c11, .bool r7.wrapped], Ch.box g1 35 [.int .i64 a.kind, .int .i64 a.at_, .int .i64 a.n, .int .i64 a.style, .int .i32 a.rune]]) (fun h => [Im.sl tyRowCell a17 c18 r14.cells, Im.sl tyRowCell a10 c11 r7.cells, Im.sl tyRowCell a_0 c_0 l, Im.sl tyWideSpan (some ⟨0, 0, none⟩) 13 t_wide_nones, Im.sl tyWideSpan (some ⟨1, 0, none⟩) 14 t_wide_twos]) ?_ ?_
    · refine T.drawa rfl [] [0, 0, 0] mo (by rfl) rfl ?_
      refine D.y 0 (Yl.ldb 1 rfl rfl rfl rfl) rfl rfl rfl rfl rfl rfl ?_
      refine D.q 1 rfl rfl rfl rfl rfl rfl ?_
      refine D.y 2 (Yl.ldb 2 rfl rfl rfl rfl) rfl rfl rfl rfl rfl rfl ?_
      refine D.q 3 rfl rfl rfl rfl rfl rfl ?_
      refine D.y 4 (Yl.ldb 2 rfl rfl rfl rfl) rfl rfl rfl rfl rfl rfl ?_
      refine D.q 5 rfl rfl rfl rfl rfl rfl ?_
      refine D.y 6 (Yl.ldb 2 rfl rfl rfl rfl) rfl rfl rfl rfl rfl rfl ?_
      refine D.q 10 rfl rfl rfl rfl rfl rfl ?_
      obtain ⟨r245, h246, H247⟩ := bnd H199
      refine D.one rfl rfl rfl (Dp.a [] [1, 3, 4] (Ac.call (c_row_Row_Put a10 c11 h246) rfl rfl rfl rfl) rfl rfl rfl rfl rfl rfl ?_)
      rintro ⟨a248, c249⟩
      refine D.q 8 rfl rfl rfl rfl rfl rfl ?_
      refine D.q 9 rfl rfl rfl rfl rfl rfl ?_
      refine D.q 11 rfl rfl rfl rfl rfl rfl ?_
      refine D.q 12 rfl rfl rfl rfl rfl rfl ?_
      refine D.cs 35 H247 rfl (fun hc H251 => ?_) (fun hc H251 => ?_)
      · refine D.y 13 (Yl.ldb 1 rfl rfl rfl rfl) rfl rfl rfl rfl rfl rfl ?_
        refine D.q 14 rfl rfl rfl rfl rfl rfl ?_
        refine D.y 15 (Yl.ldb 2 rfl rfl rfl rfl) rfl rfl rfl rfl rfl rfl ?_
        refine D.q 16 rfl rfl rfl rfl rfl rfl ?_
        refine D.y 17 (Yl.ldb 2 rfl rfl rfl rfl) rfl rfl rfl rfl rfl rfl ?_
        refine D.q 18 rfl rfl rfl rfl rfl rfl ?_
        refine D.y 19 (Yl.ldb 2 rfl rfl rfl rfl) rfl rfl rfl rfl rfl rfl ?_
        refine D.q 23 rfl rfl rfl rfl rfl rfl ?_
        obtain ⟨r252, h253, H254⟩ := bnd H251
        refine D.one rfl rfl rfl (Dp.a [] [2] (Ac.call (c_row_Row_Erase a10 c11 h253) rfl rfl rfl rfl) rfl rfl rfl rfl rfl rfl ?_)
        rintro ⟨a255, c256⟩
        refine D.q 21 rfl rfl rfl rfl rfl rfl ?_
        refine D.q 22 rfl rfl rfl rfl rfl rfl ?_
        refine D.q 24 rfl rfl rfl rfl rfl rfl ?_
        refine D.q 25 rfl rfl rfl rfl rfl rfl ?_
        refine D.q 26 rfl rfl rfl rfl rfl rfl ?_
        refine D.cs 49 H254 rfl (fun hc H258 => ?_) (fun hc H258 => ?_)
        · refine D.y 27 (Yl.ldb 1 rfl rfl rfl rfl) rfl rfl rfl rfl rfl rfl ?_
          refine D.q 28 rfl rfl rfl rfl rfl rfl ?_
          refine D.y 29 (Yl.ldb 2 rfl rfl rfl rfl) rfl rfl rfl rfl rfl rfl ?_
          refine D.q 30 rfl rfl rfl rfl rfl rfl ?_
          refine D.y 31 (Yl.ldb 2 rfl rfl rfl rfl) rfl rfl rfl rfl rfl rfl ?_
          refine D.q 32 rfl rfl rfl rfl rfl rfl ?_
          refine D.y 33 (Yl.ldb 2 rfl rfl rfl rfl) rfl rfl rfl rfl rfl rfl ?_
          refine D.q 37 rfl rfl rfl rfl rfl rfl ?_
          obtain ⟨r259, h260, H261⟩ := bnd H258
          refine D.one rfl rfl rfl (Dp.a [] [3] (Ac.call (c_row_Row_Insert a10 c11 h260) rfl rfl rfl rfl) rfl rfl rfl rfl rfl rfl ?_)
          rintro ⟨a262, c263⟩
          refine D.q 35 rfl rfl rfl rfl rfl rfl ?_
          refine D.q 36 rfl rfl rfl rfl rfl rfl ?_
          refine D.q 38 rfl rfl rfl rfl rfl rfl ?_
          refine D.q 39 rfl rfl rfl rfl rfl rfl ?_
          refine D.q 40 rfl rfl rfl rfl rfl rfl ?_
          refine D.cs 63 H261 rfl (fun hc H265 => ?_) (fun hc H265 => ?_)
          · refine D.y 41 (Yl.ldb 1 rfl rfl rfl rfl) rfl rfl rfl rfl rfl rfl ?_
            refine D.q 42 rfl rfl rfl rfl rfl rfl ?_
            refine D.y 43 (Yl.ldb 2 rfl rfl rfl rfl) rfl rfl rfl rfl rfl rfl ?_
            refine D.q 44 rfl rfl rfl rfl rfl rfl ?_
            refine D.y 45 (Yl.ldb 2 rfl rfl rfl rfl) rfl rfl rfl rfl rfl rfl ?_
            refine D.q 46 rfl rfl rfl rfl rfl rfl ?_
            refine D.y 47 (Yl.ldb 2 rfl rfl rfl rfl) rfl rfl rfl rfl rfl rfl ?_
            refine D.q 51 rfl rfl rfl rfl rfl rfl ?_
            obtain ⟨r266, h267, H268⟩ := bnd H265
            refine D.one rfl rfl rfl (Dp.a [] [4] (Ac.call (c_row_Row_Delete a10 c11 h267) rfl rfl rfl rfl) rfl rfl rfl rfl rfl rfl ?_)
            rintro ⟨a269, c270⟩
            refine D.q 49 rfl rfl rfl rfl rfl rfl ?_
            refine D.q 50 rfl rfl rfl rfl rfl rfl ?_
            refine D.q 52 rfl rfl rfl rfl rfl rfl ?_
            refine D.q 53 rfl rfl rfl rfl rfl rfl ?_
            refine D.q 54 rfl rfl rfl rfl rfl rfl ?_
            refine D.cs 77 H268 rfl (fun hc H272 => ?_) (fun hc H272 => ?_)
            · refine D.y 55 (Yl.ldb 1 rfl rfl rfl rfl) rfl rfl rfl rfl rfl rfl ?_
              refine D.q 56 rfl rfl rfl rfl rfl rfl ?_
              refine D.y 57 (Yl.ldb 2 rfl rfl rfl rfl) rfl rfl rfl rfl rfl rfl ?_
              refine D.q 61 rfl rfl rfl rfl rfl rfl ?_
              obtain ⟨r273, h274, H275⟩ := bnd H272
              refine D.one rfl rfl rfl (Dp.a [] [5] (Ac.call (c_row_Row_Fill a10 c11 h274) rfl rfl rfl rfl) rfl rfl rfl rfl rfl rfl ?_)
              rintro ⟨a276, c277⟩
              refine D.q 59 rfl rfl rfl rfl rfl rfl ?_
              refine D.q 60 rfl rfl rfl rfl rfl rfl ?_
              refine D.q 62 rfl rfl rfl rfl rfl rfl ?_
              refine D.q 63 rfl rfl rfl rfl rfl rfl ?_
              refine D.q 64 rfl rfl rfl rfl rfl rfl ?_
              refine D.cs 87 H275 rfl (fun hc H279 => ?_) (fun hc H279 => ?_)
              · refine D.y 65 (Yl.ldb 0 rfl rfl rfl rfl) rfl rfl rfl rfl rfl rfl ?_
                refine D.q 66 rfl rfl rfl rfl rfl rfl ?_
                refine D.q 67 rfl rfl rfl rfl rfl rfl ?_
                refine D.y 68 (Yl.ldb 2 rfl rfl rfl rfl) rfl rfl rfl rfl rfl rfl ?_
                obtain ⟨r280, h281, H282⟩ := bnd H279
                refine D.one rfl rfl rfl (Dp.a [] [] (Ac.call (c_row_Blank h281) rfl rfl rfl rfl) rfl rfl rfl rfl rfl rfl ?_)
                rintro ⟨a283, c284⟩
                obtain ⟨r286, h287, H288⟩ := bnd H282
                refine D.one rfl rfl rfl (Dp.a [] [6, 0] (Ac.call (c_row_Row_Same a17 c18 a283 c284 h287) rfl rfl rfl rfl) rfl rfl rfl rfl rfl rfl ?_)
                rintro ⟨⟩
                refine D.q 71 rfl rfl rfl rfl rfl rfl ?_
                refine D.q 72 rfl rfl rfl rfl rfl rfl ?_
                refine D.nil rfl rfl ?_
                have hr := Option.some.inj H288
                subst e198
                exact E.give ((), ()) [0, 0, 0] [6, 7, 8, 9, 10] trivial ⟨rfl, trivial⟩ rfl rfl
              · refine D.sk 65 rfl rfl rfl rfl rfl ?_
                refine D.sk 66 rfl rfl rfl rfl rfl ?_
                refine D.sk 67 rfl rfl rfl rfl rfl ?_
                refine D.sk 68 rfl rfl rfl rfl rfl ?_
                refine D.sk 69 rfl rfl rfl rfl rfl ?_
                refine D.sk 70 rfl rfl rfl rfl rfl ?_
                refine D.q 71 rfl rfl rfl rfl rfl rfl ?_
                refine D.q 72 rfl rfl rfl rfl rfl rfl ?_
                refine D.nil rfl rfl ?_
                have hr := Option.some.inj H279
                subst e198
                exact E.give ((), ()) [0, 0, 0] [5, 6, 7, 8, 9] trivial ⟨rfl, trivial⟩ rfl rfl
            · refine D.sk 55 rfl rfl rfl rfl rfl ?_
              refine D.sk 56 rfl rfl rfl rfl rfl ?_
              refine D.sk 57 rfl rfl rfl rfl rfl ?_
              refine D.sk 58 rfl rfl rfl rfl rfl ?_
              refine D.sk 59 rfl rfl rfl rfl rfl ?_
              refine D.sk 60 rfl rfl rfl rfl rfl ?_
              refine D.sk 61 rfl rfl rfl rfl rfl ?_
              refine D.sk 62 rfl rfl rfl rfl rfl ?_
              refine D.q 63 rfl rfl rfl rfl rfl rfl ?_
              refine D.q 64 rfl rfl rfl rfl rfl rfl ?_
              refine D.sk 65 rfl rfl rfl rfl rfl ?_
              refine D.sk 66 rfl rfl rfl rfl rfl ?_
              refine D.sk 67 rfl rfl rfl rfl rfl ?_
              refine D.sk 68 rfl rfl rfl rfl rfl ?_
              refine D.sk 69 rfl rfl rfl rfl rfl ?_
              refine D.sk 70 rfl rfl rfl rfl rfl ?_
              refine D.q 71 rfl rfl rfl rfl rfl rfl ?_
              refine D.q 72 rfl rfl rfl rfl rfl rfl ?_
              refine D.nil rfl rfl ?_
              have hr := Option.some.inj H272
              subst e198
              exact E.give ((), ()) [0, 0, 0] [4, 5, 6, 7, 8] trivial ⟨rfl, trivial⟩ rfl rfl
          · refine D.sk 41 rfl rfl rfl rfl rfl ?_
            refine D.sk 42 rfl rfl rfl rfl rfl ?_
            refine D.sk 43 rfl rfl rfl rfl rfl ?_
            refine D.sk 44 rfl rfl rfl rfl rfl ?_
            refine D.sk 45 rfl rfl rfl rfl rfl ?_
            refine D.sk 46 rfl rfl rfl rfl rfl ?_
            refine D.sk 47 rfl rfl rfl rfl rfl ?_
            refine D.sk 48 rfl rfl rfl rfl rfl ?_
            refine D.sk 49 rfl rfl rfl rfl rfl ?_
            refine D.sk 50 rfl rfl rfl rfl rfl ?_
            refine D.sk 51 rfl rfl rfl rfl rfl ?_
            refine D.sk 52 rfl rfl rfl rfl rfl ?_
            refine D.q 53 rfl rfl rfl rfl rfl rfl ?_
            refine D.q 54 rfl rfl rfl rfl rfl rfl ?_
            refine D.sk 55 rfl rfl rfl rfl rfl ?_
            refine D.sk 56 rfl rfl rfl rfl rfl ?_
            refine D.sk 57 rfl rfl rfl rfl rfl ?_
            refine D.sk 58 rfl rfl rfl rfl rfl ?_
            refine D.sk 59 rfl rfl rfl rfl rfl ?_
            refine D.sk 60 rfl rfl rfl rfl rfl ?_
            refine D.sk 61 rfl rfl rfl rfl rfl ?_
            refine D.sk 62 rfl rfl rfl rfl rfl ?_
            refine D.q 63 rfl rfl rfl rfl rfl rfl ?_
            refine D.q 64 rfl rfl rfl rfl rfl rfl ?_
            refine D.sk 65 rfl rfl rfl rfl rfl ?_
            refine D.sk 66 rfl rfl rfl rfl rfl ?_
            refine D.sk 67 rfl rfl rfl rfl rfl ?_
            refine D.sk 68 rfl rfl rfl rfl rfl ?_
            refine D.sk 69 rfl rfl rfl rfl rfl ?_
            refine D.sk 70 rfl rfl rfl rfl rfl ?_
            refine D.q 71 rfl rfl rfl rfl rfl rfl ?_
            refine D.q 72 rfl rfl rfl rfl rfl rfl ?_
            refine D.nil rfl rfl ?_
            have hr := Option.some.inj H265
            subst e198
            exact E.give ((), ()) [0, 0, 0] [3, 4, 5, 6, 7] trivial ⟨rfl, trivial⟩ rfl rfl
        · refine D.sk 27 rfl rfl rfl rfl rfl ?_
          refine D.sk 28 rfl rfl rfl rfl rfl ?_
          refine D.sk 29 rfl rfl rfl rfl rfl ?_
          refine D.sk 30 rfl rfl rfl rfl rfl ?_
          refine D.sk 31 rfl rfl rfl rfl rfl ?_
          refine D.sk 32 rfl rfl rfl rfl rfl ?_
          refine D.sk 33 rfl rfl rfl rfl rfl ?_
          refine D.sk 34 rfl rfl rfl rfl rfl ?_
          refine D.sk 35 rfl rfl rfl rfl rfl ?_
          refine D.sk 36 rfl rfl rfl rfl rfl ?_
          refine D.sk 37 rfl rfl rfl rfl rfl ?_
          refine D.sk 38 rfl rfl rfl rfl rfl ?_
          refine D.q 39 rfl rfl rfl rfl rfl rfl ?_
          refine D.q 40 rfl rfl rfl rfl rfl rfl ?_
          refine D.sk 41 rfl rfl rfl rfl rfl ?_
          refine D.sk 42 rfl rfl rfl rfl rfl ?_
          refine D.sk 43 rfl rfl rfl rfl rfl ?_
          refine D.sk 44 rfl rfl rfl rfl rfl ?_
          refine D.sk 45 rfl rfl rfl rfl rfl ?_
          refine D.sk 46 rfl rfl rfl rfl rfl ?_
          refine D.sk 47 rfl rfl rfl rfl rfl ?_
          refine D.sk 48 rfl rfl rfl rfl rfl ?_
          refine D.sk 49 rfl rfl rfl rfl rfl ?_
          refine D.sk 50 rfl rfl rfl rfl rfl ?_
          refine D.sk 51 rfl rfl rfl rfl rfl ?_
          refine D.sk 52 rfl rfl rfl rfl rfl ?_
          refine D.q 53 rfl rfl rfl rfl rfl rfl ?_
          refine D.q 54 rfl rfl rfl rfl rfl rfl ?_
          refine D.sk 55 rfl rfl rfl rfl rfl ?_
          refine D.sk 56 rfl rfl rfl rfl rfl ?_
          refine D.sk 57 rfl rfl rfl rfl rfl ?_
          refine D.sk 58 rfl rfl rfl rfl rfl ?_
          refine D.sk 59 rfl rfl rfl rfl rfl ?_
          refine D.sk 60 rfl rfl rfl rfl rfl ?_
          refine D.sk 61 rfl rfl rfl rfl rfl ?_
          refine D.sk 62 rfl rfl rfl rfl rfl ?_
          refine D.q 63 rfl rfl rfl rfl rfl rfl ?_
          refine D.q 64 rfl rfl rfl rfl rfl rfl ?_
          refine D.sk 65 rfl rfl rfl rfl rfl ?_
          refine D.sk 66 rfl rfl rfl rfl rfl ?_
          refine D.sk 67 rfl rfl rfl rfl rfl ?_
          refine D.sk 68 rfl rfl rfl rfl rfl ?_
          refine D.sk 69 rfl rfl rfl rfl rfl ?_
          refine D.sk 70 rfl rfl rfl rfl rfl ?_
          refine D.q 71 rfl rfl rfl rfl rfl rfl ?_
          refine D.q 72 rfl rfl rfl rfl rfl rfl ?_
          refine D.nil rfl rfl ?_
          have hr := Option.some.inj H258
          subst e198
          exact E.give ((), ()) [0, 0, 0] [2, 3, 4, 5, 6] trivial ⟨rfl, trivial⟩ rfl rfl
      · refine D.sk 13 rfl rfl rfl rfl rfl ?_
        refine D.sk 14 rfl rfl rfl rfl rfl ?_
        refine D.sk 15 rfl rfl rfl rfl rfl ?_
        refine D.sk 16 rfl rfl rfl rfl rfl ?_
        refine D.sk 17 rfl rfl rfl rfl rfl ?_
        refine D.sk 18 rfl rfl rfl rfl rfl ?_
        refine D.sk 19 rfl rfl rfl rfl rfl ?_
        refine D.sk 20 rfl rfl rfl rfl rfl ?_
        refine D.sk 21 rfl rfl rfl rfl rfl ?_
        refine D.sk 22 rfl rfl rfl rfl rfl ?_
        refine D.sk 23 rfl rfl rfl rfl rfl ?_
        refine D.sk 24 rfl rfl rfl rfl rfl ?_
        refine D.q 25 rfl rfl rfl rfl rfl rfl ?_
        refine D.q 26 rfl rfl rfl rfl rfl rfl ?_
        refine D.sk 27 rfl rfl rfl rfl rfl ?_
        refine D.sk 28 rfl rfl rfl rfl rfl ?_
        refine D.sk 29 rfl rfl rfl rfl rfl ?_
        refine D.sk 30 rfl rfl rfl rfl rfl ?_
        refine D.sk 31 rfl rfl rfl rfl rfl ?_
        refine D.sk 32 rfl rfl rfl rfl rfl ?_
        refine D.sk 33 rfl rfl rfl rfl rfl ?_
        refine D.sk 34 rfl rfl rfl rfl rfl ?_
        refine D.sk 35 rfl rfl rfl rfl rfl ?_
        refine D.sk 36 rfl rfl rfl rfl rfl ?_
        refine D.sk 37 rfl rfl rfl rfl rfl ?_
        refine D.sk 38 rfl rfl rfl rfl rfl ?_
        refine D.q 39 rfl rfl rfl rfl rfl rfl ?_
        refine D.q 40 rfl rfl rfl rfl rfl rfl ?_
        refine D.sk 41 rfl rfl rfl rfl rfl ?_
        refine D.sk 42 rfl rfl rfl rfl rfl ?_
        refine D.sk 43 rfl rfl rfl rfl rfl ?_
        refine D.sk 44 rfl rfl rfl rfl rfl ?_
        refine D.sk 45 rfl rfl rfl rfl rfl ?_
        refine D.sk 46 rfl rfl rfl rfl rfl ?_
        refine D.sk 47 rfl rfl rfl rfl rfl ?_
        refine D.sk 48 rfl rfl rfl rfl rfl ?_
        refine D.sk 49 rfl rfl rfl rfl rfl ?_
        refine D.sk 50 rfl rfl rfl rfl rfl ?_
        refine D.sk 51 rfl rfl rfl rfl rfl ?_
        refine D.sk 52 rfl rfl rfl rfl rfl ?_
        refine D.q 53 rfl rfl rfl rfl rfl rfl ?_
        refine D.q 54 rfl rfl rfl rfl rfl rfl ?_
        refine D.sk 55 rfl rfl rfl rfl rfl ?_
        refine D.sk 56 rfl rfl rfl rfl rfl ?_
        refine D.sk 57 rfl rfl rfl rfl rfl ?_
        refine D.sk 58 rfl rfl rfl rfl rfl ?_
        refine D.sk 59 rfl rfl rfl rfl rfl ?_
        refine D.sk 60 rfl rfl rfl rfl rfl ?_
        refine D.sk 61 rfl rfl rfl rfl rfl ?_
        refine D.sk 62 rfl rfl rfl rfl rfl ?_
        refine D.q 63 rfl rfl rfl rfl rfl rfl ?_
        refine D.q 64 rfl rfl rfl rfl rfl rfl ?_
        refine D.sk 65 rfl rfl rfl rfl rfl ?_
        refine D.sk 66 rfl rfl rfl rfl rfl ?_
        refine D.sk 67 rfl rfl rfl rfl rfl ?_
        refine D.sk 68 rfl rfl rfl rfl rfl ?_
        refine D.sk 69 rfl rfl rfl rfl rfl ?_
        refine D.sk 70 rfl rfl rfl rfl rfl ?_
        refine D.q 71 rfl rfl rfl rfl rfl rfl ?_
        refine D.q 72 rfl rfl rfl rfl rfl rfl ?_
        refine D.nil rfl rfl ?_
        have hr := Option.some.inj H251
        subst e198
        exact E.give ((), ()) [0, 0, 0] [1, 2, 3, 4, 5] trivial ⟨rfl, trivial⟩ rfl rfl
    · rintro ⟨_, ⟨⟩⟩ _
      refine T.ret ?_
      have hr := Option.some.inj H200
      subst r
      exact E.ret () [] [] (.tmp rfl .nil) rfl rfl rfl

theorem c_grid_clip {n_ : Int} {lo : Int} {hi : Int} {r : Int} (H : p_grid_clip n_ lo hi = some r) : CT G 71 [.int .i64 n_, .int .i64 lo, .int .i64 hi] [] [] (fun h : Unit => .int .i64 r) (fun h => []) (fun h => []) := by
  delta p_grid_clip at H
  refine CT.of Go.Proofs.Tryd.func71 (by kernel_rfl) rfl rfl rfl fun K => ?_
  refine T.seq ?_
  refine T.region ?_
  refine L.q 1 rfl ?_
  refine L.nil ?_
  refine E.then ?_
  refine T.seq ?_
  refine T.region ?_
  refine L.q 6 rfl ?_
  refine L.nil ?_
  refine E.then ?_
  refine T.ret ?_
  have hr := Option.some.inj H
  subst r
  exact E.ret () [] [] (.tmp rfl .nil) rfl rfl rfl

theorem c_grid_size {n_ : Int} {r : Int} (H : p_grid_size n_ = some r) : CT G 62 [.int .i64 n_] [] [] (fun h : Unit => .int .i64 r) (fun h => []) (fun h => []) := by
  delta p_grid_size at H
  refine CT.of Go.Proofs.Tryd.func62 (by kernel_rfl) rfl rfl rfl fun K => ?_
  refine T.seq ?_
  refine T.region ?_
  refine L.q 1 rfl ?_
  refine L.nil ?_
  refine E.then ?_
  refine T.seq ?_
  refine T.region ?_
  refine L.q 1 rfl ?_
  obtain ⟨r1, h2, H3⟩ := bnd H
  refine L.a [] [] (Ac.call (c_grid_clip h2) rfl rfl rfl rfl) rfl rfl rfl rfl rfl ?_
  rintro ⟨⟩
  refine L.q 1 rfl ?_
  refine L.nil ?_
  refine E.then ?_
  refine T.ret ?_
  have hr := Option.some.inj H3
  subst r
  exact E.ret () [] [] (.tmp rfl .nil) rfl rfl rfl

theorem c_grid_New {w : Int} {h_ : Int} {r : GridGrid} (H : p_grid_New w h_ = some r) : CT G 29 [.int .i64 w, .int .i64 h_] [] [] (fun h : Nat × (Option Addr × Nat) => .pointer (some ⟨h.1, 0, none⟩)) (fun h => [Ch.box h.1 104 [.int .i64 r.w, .slice h.2.1 r.l.length h.2.2], Ch.arr tyRowRow 26 h.2.1 h.2.2 r.l]) (fun h => []) := by
  delta p_grid_New at H
  refine CT.of Go.Proofs.Tryd.func29 (by kernel_rfl) rfl rfl rfl fun K => ?_
  refine T.seq ?_
  refine T.region ?_
  refine L.q 1 rfl ?_
  refine L.nil ?_
  refine E.then ?_
  refine T.seq ?_
  refine T.region ?_
  refine L.q 1 rfl ?_
  obtain ⟨r1, h2, H3⟩ := bnd H
  refine L.a [] [] (Ac.call (c_grid_size h2) rfl rfl rfl rfl) rfl rfl rfl rfl rfl ?_
  rintro ⟨⟩
  refine L.q 1 rfl ?_
  refine L.a [] [] (Ac.box rfl rfl) rfl rfl rfl rfl rfl ?_
  intro g4
  refine L.q 1 rfl ?_
  refine L.nil ?_
  refine E.then ?_
  refine T.seq ?_
  refine T.seq ?_
  refine T.region ?_
  refine L.q 1 rfl ?_
  obtain ⟨r5, h6, H7⟩ := bnd H3
  refine L.a [] [] (Ac.call (c_grid_size h6) rfl rfl rfl rfl) rfl rfl rfl rfl rfl ?_
  rintro ⟨⟩
  refine L.q 1 rfl ?_
  refine L.nil ?_
  refine E.then ?_
  obtain ⟨e206, H207, H208⟩ := bnd H7
  refine T.join (η := Unit × ((Option Addr × Nat))) (fun h => True) (fun h => (fun a203 c204 => [(5, .pointer (some ⟨g4, 0, none⟩))]) h.2.1 h.2.2) (fun h => (fun a203 c204 => [Ch.arr tyRowRow 26 a203 c204 e206.l, Ch.box g4 104 [.int .i64 e206.w, .slice a203 e206.l.length c204]]) h.2.1 h.2.2) (fun h => (fun a203 c204 => []) h.2.1 h.2.2) ?_ ?_
  · refine T.block ?_
    refine T.nil0 tyRowRow 26 ?_
    refine T.lp (η := (Option Addr × Nat)) (fun s143 h => (fun a139 c140 => [(5, .pointer (some ⟨g4, 0, none⟩)), (11, .int .i64 r5), (12, .int .i64 s143.2)]) h.1 h.2) (fun s143 h => (fun a139 c140 => [Ch.arr tyRowRow 26 a139 c140 s143.1.l, Ch.box g4 104 [.int .i64 s143.1.w, .slice a139 s143.1.l.length c140]]) h.1 h.2) (fun s143 h => (fun a139 c140 => []) h.1 h.2) (none, 0) [0, 0] [] H207 ⟨rfl, rfl, rfl, trivial⟩ rfl rfl ?_
    rintro k s143 ⟨a139, c140⟩ z210 H209 hag211 hbr212
    refine T.seq ?_
    refine T.region ?_
    refine L.q 1 rfl ?_
    refine L.nil ?_
    refine E.then ?_
    refine T.seq ?_
    refine T.bif rfl H209 (fun hc H214 => ?_) (fun hc H214 => ?_)
    · refine T.skip ?_
      refine E.then ?_
      refine T.seq ?_
      refine T.block ?_
      refine T.draw [14] [1] mo (by rfl) rfl ?_
      refine D.q 0 rfl rfl rfl rfl rfl rfl ?_
      refine D.q 1 rfl rfl rfl rfl rfl rfl ?_
      refine D.q 2 rfl rfl rfl rfl rfl rfl ?_
      refine D.q 3 rfl rfl rfl rfl rfl rfl ?_
      refine D.y 4 (Yl.ldb 0 rfl rfl rfl rfl) rfl rfl rfl rfl rfl rfl ?_
      refine D.q 5 rfl rfl rfl rfl rfl rfl ?_
      refine D.q 6 rfl rfl rfl rfl rfl rfl ?_
      refine D.q 7 rfl rfl rfl rfl rfl rfl ?_
      refine D.y 8 (Yl.ldb 0 rfl rfl rfl rfl) rfl rfl rfl rfl rfl rfl ?_
      obtain ⟨r257, h258, H259⟩ := bnd H214
      refine D.one rfl rfl rfl (Dp.a [] [] (Ac.call (c_row_Blank h258) rfl rfl rfl rfl) rfl rfl rfl rfl rfl rfl ?_)
      rintro ⟨a260, c261⟩
      refine D.one rfl rfl rfl (Dp.a [] [0] (Ac.bs (ty := tyRowRow) (xs := [r257]) (.cons (a260, c261) [0] rfl .nil) rfl rfl rfl rfl rfl rfl rfl) rfl rfl rfl rfl rfl rfl ?_)
      intro g263
      refine D.frz 0 rfl ?_
      obtain ⟨_, h266, H267⟩ := bnd H259
      refine D.one rfl rfl rfl (Dp.a [0] [0] (Ac.ap (ty := tyRowRow) h266 rfl rfl rfl rfl rfl rfl rfl) rfl rfl rfl rfl rfl rfl ?_)
      rintro ⟨a268, c269⟩
      refine D.q 12 rfl rfl rfl rfl rfl rfl ?_
      refine D.q 13 rfl rfl rfl rfl rfl rfl ?_
      refine D.one rfl rfl rfl (Dp.al [0] [] (Ac.stb rfl rfl rfl rfl rfl rfl) rfl rfl rfl rfl rfl rfl rfl ?_)
      intro _
      refine D.nil rfl rfl ?_
      refine E.block ?_
      refine E.then ?_
      refine T.region ?_
      refine L.q 2 rfl ?_
      refine L.nil ?_
      have hr := Option.some.inj H267
      subst z210
      exact E.give (_, (a268, c269)) [1, 0] [] (hag211 _ rfl) ⟨rfl, rfl, rfl, trivial⟩ rfl rfl
    · refine T.exit ?_
      refine E.then_exit' ?_
      refine E.then_exit' ?_
      refine E.block_here ?_
      have hr := Option.some.inj H214
      subst z210
      have hb := hbr212 _ rfl
      subst e206
      exact E.give ((), (a139, c140)) [0, 0] [] trivial ⟨rfl, trivial⟩ rfl rfl
  · rintro ⟨_, ⟨a203, c204⟩⟩ _
    refine T.seq ?_
    refine T.region ?_
    refine L.q 2 rfl ?_
    refine L.nil ?_
    refine E.then ?_
    refine T.ret ?_
    have hr := Option.some.inj H208
    subst r
    exact E.ret (g4, (a203, c204)) [1, 0] [] (.tmp rfl .nil) rfl rfl rfl

theorem c_grid_own {r_ : RowRow} (a_0_0 : Option Addr) (c_0_0 : Nat) {r : RowRow} (H : p_grid_own r_ = some r) : CT G 75 [.agg #[.slice a_0_0 r_.cells.length c_0_0, .bool r_.wrapped]] [] [Im.sl tyRowCell a_0_0 c_0_0 r_.cells] (fun h : (Option Addr × Nat) => .agg #[.slice h.1 r.cells.length h.2, .bool r.wrapped]) (fun h => []) (fun h => [Im.sl tyRowCell h.1 h.2 r.cells]) := by
  delta p_grid_own at H
  refine CT.of Go.Proofs.Tryd.func75 (by kernel_rfl) rfl rfl rfl fun K => ?_
  refine T.seq ?_
  refine T.region ?_
  refine L.a [] [] (Ac.box rfl rfl) rfl rfl rfl rfl rfl ?_
  intro g1
  refine L.a [] [] (Ac.alloc rfl rfl) rfl rfl rfl rfl rfl ?_
  intro g2
  refine L.nil ?_
  refine E.then ?_
  refine T.seq ?_
  refine T.draw [6] [0, 0] mo (by rfl) rfl ?_
  refine D.q 0 rfl rfl rfl rfl rfl rfl ?_
  refine D.y 1 (Yl.ldb 1 rfl rfl rfl rfl) rfl rfl rfl rfl rfl rfl ?_
  refine D.q 3 rfl rfl rfl rfl rfl rfl ?_
  refine D.y 4 (Yl.ldb 1 rfl rfl rfl rfl) rfl rfl rfl rfl rfl rfl ?_
  obtain ⟨r21, h22, H23⟩ := bnd H
  refine D.one rfl rfl rfl (Dp.a [] [0] (Ac.call (c_slices_Clone_row_Cell a_0_0 c_0_0 h22) rfl rfl rfl rfl) rfl rfl rfl rfl rfl rfl ?_)
  rintro ⟨a24, c25⟩
  refine D.q 5 rfl rfl rfl rfl rfl rfl ?_
  refine D.one rfl rfl rfl (Dp.al [0] [] (Ac.stb rfl rfl rfl rfl rfl rfl) rfl rfl rfl rfl rfl rfl rfl ?_)
  intro _
  refine D.nil rfl rfl ?_
  refine E.then ?_
  refine T.ret ?_
  refine E.frz 2 rfl ?_
  have hr := Option.some.inj H23
  subst r
  exact E.ret (a24, c25) [] [0] (.cell 0 rfl rfl rfl .nil) rfl rfl rfl

theorem c_grid_Grid_Row {g : GridGrid} {y : Int} (g_0 : Nat) (a_0_0 : Option Addr) (c_0_0 : Nat) {r : RowRow} (H : p_grid_Grid_Row g y = some r) : CT G 42 [.pointer (some ⟨g_0, 0, none⟩), .int .i64 y] [Ch.box g_0 104 [.int .i64 g.w, .slice a_0_0 g.l.length c_0_0], Ch.arr tyRowRow 26 a_0_0 c_0_0 g.l] [] (fun h : (Option Addr × Nat) => .agg #[.slice h.1 r.cells.length h.2, .bool r.wrapped]) (fun h => [Ch.box g_0 104 [.int .i64 g.w, .slice a_0_0 g.l.length c_0_0], Ch.arr tyRowRow 26 a_0_0 c_0_0 g.l]) (fun h => [Im.sl tyRowCell h.1 h.2 r.cells]) := by
  delta p_grid_Grid_Row at H
  refine CT.of Go.Proofs.Tryd.func42 (by kernel_rfl) rfl rfl rfl fun K => ?_
  refine T.seq ?_
  refine T.region ?_
  refine L.a [] [] (Ac.alloc rfl rfl) rfl rfl rfl rfl rfl ?_
  intro g1
  refine L.nil ?_
  refine E.then ?_
  refine T.seq ?_
  refine T.seq ?_
  obtain ⟨e5, H6, H7⟩ := bnd H
  refine T.join (η := Unit × Unit) (fun h => True) (fun h => [(0, .pointer (some ⟨g_0, 0, none⟩)), (1, .int .i64 y), (4, .pointer (some ⟨g1, 0, none⟩)), (15, .bool e5)]) (fun h => [Ch.box g1 26 [.slice none 0 0, .bool false], Ch.box g_0 104 [.int .i64 g.w, .slice a_0_0 g.l.length c_0_0], Ch.arr tyRowRow 26 a_0_0 c_0_0 g.l]) (fun h => []) ?_ ?_
  · refine T.region ?_
    refine L.q 3 rfl ?_
    refine L.cs 7 H6 rfl (fun hc H8 => ?_) (fun hc H8 => ?_)
    · refine L.q 8 rfl ?_
      refine L.nil ?_
      have hr := Option.some.inj H8
      subst e5
      exact E.give ((), ()) [0, 0, 0] [] trivial ⟨rfl, rfl, rfl, rfl, trivial⟩ rfl rfl
    · refine L.q 4 rfl ?_
      refine L.y (Yl.ldb 1 rfl rfl rfl rfl) rfl rfl rfl ?_
      refine L.q 3 rfl ?_
      refine L.nil ?_
      have hr := Option.some.inj H8
      subst e5
      exact E.give ((), ()) [0, 0, 0] [] trivial ⟨rfl, rfl, rfl, rfl, trivial⟩ rfl rfl
  · rintro ⟨_, ⟨⟩⟩ _
    refine T.bif rfl H7 (fun hc H10 => ?_) (fun hc H10 => ?_)
    · refine T.seq ?_
      refine T.region ?_
      refine L.q 1 rfl ?_
      refine L.a [0] [] (Ac.stb rfl rfl rfl rfl rfl rfl) rfl rfl rfl rfl rfl ?_
      intro _
      refine L.nil ?_
      refine E.then ?_
      refine T.ret ?_
      refine E.then_ret ?_
      refine E.know [Im.sl tyRowCell none 0 []] (fun A w _ _ f hf => by rw [List.mem_singleton.1 hf]; exact Im.sl_nil A w) ?_
      have hr := Option.some.inj H10
      subst r
      exact E.ret (none, 0) [1, 1] [0] (.cell 0 rfl rfl rfl .nil) rfl rfl rfl
    · refine T.skip ?_
      refine E.then ?_
      refine T.seq ?_
      refine T.region ?_
      refine L.q 3 rfl ?_
      refine L.y (Yl.ldb 1 rfl rfl rfl rfl) rfl rfl rfl ?_
      refine L.q 1 rfl ?_
      obtain ⟨x12, h13, H14⟩ := bnd H10
      refine L.addro 2 rfl (idx_lt h13) fun b15 e16 => ?_
      obtain rfl : a_0_0 = some ⟨b15, 0, none⟩ := e16
      refine L.y (Yl.ia h13 rfl rfl rfl rfl rfl rfl) rfl rfl rfl ?_
      refine L.a [2] [] (Ac.lo y.toNat 0 (v := (fun h : (Option Addr × Nat) => (fun a17 c18 => .agg #[.slice a17 x12.cells.length c18, .bool x12.wrapped]) h.1 h.2)) (idx_some h13).2 rfl rfl rfl (fun _ => rfl)) rfl rfl rfl rfl rfl ?_
      rintro ⟨a17, c18⟩
      obtain ⟨r20, h21, H22⟩ := bnd H14
      refine L.a [] [0] (Ac.call (c_grid_own a17 c18 h21) rfl rfl rfl rfl) rfl rfl rfl rfl rfl ?_
      rintro ⟨a23, c24⟩
      refine L.a [1] [] (Ac.stb rfl rfl rfl rfl rfl rfl) rfl rfl rfl rfl rfl ?_
      intro _
      refine L.nil ?_
      refine E.then ?_
      refine T.ret ?_
      have hr := Option.some.inj H22
      subst r
      exact E.ret (a23, c24) [2, 1] [0] (.cell 0 rfl rfl rfl .nil) rfl rfl rfl

theorem c_grid_Grid_Set {g : GridGrid} {y : Int} {r_ : RowRow} (g_0 : Nat) (a_0_0 : Option Addr) (c_0_0 : Nat) (a_2_0 : Option Addr) (c_2_0 : Nat) {r : Bool × GridGrid} (H : p_grid_Grid_Set g y r_ = some r) : CT G 39 [.pointer (some ⟨g_0, 0, none⟩), .int .i64 y, .agg #[.slice a_2_0 r_.cells.length c_2_0, .bool r_.wrapped]] [Ch.box g_0 104 [.int .i64 g.w, .slice a_0_0 g.l.length c_0_0], Ch.arr tyRowRow 26 a_0_0 c_0_0 g.l] [Im.sl tyRowCell a_2_0 c_2_0 r_.cells] (fun h : Unit => .bool r.1) (fun h => [Ch.box g_0 104 [.int .i64 r.2.w, .slice a_0_0 r.2.l.length c_0_0], Ch.arr tyRowRow 26 a_0_0 c_0_0 r.2.l]) (fun h => []) := by
  delta p_grid_Grid_Set at H
  refine CT.of Go.Proofs.Tryd.func39 (by kernel_rfl) rfl rfl rfl fun K => ?_
  refine T.seq ?_
  refine T.region ?_
  refine L.a [] [] (Ac.box rfl rfl) rfl rfl rfl rfl rfl ?_
  intro g1
  refine L.q 1 rfl ?_
  refine L.nil ?_
  refine E.then ?_
  refine T.seq ?_
  refine T.seq ?_
  obtain ⟨e5, H6, H7⟩ := bnd H
  refine T.join (η := Unit × Unit) (fun h => True) (fun h => [(0, .pointer (some ⟨g_0, 0, none⟩)), (1, .int .i64 y), (5, .pointer (some ⟨g1, 0, none⟩)), (17, .bool e5)]) (fun h => [Ch.box g1 26 [.slice a_2_0 r_.cells.length c_2_0, .bool r_.wrapped], Ch.box g_0 104 [.int .i64 g.w, .slice a_0_0 g.l.length c_0_0], Ch.arr tyRowRow 26 a_0_0 c_0_0 g.l]) (fun h => [Im.sl tyRowCell a_2_0 c_2_0 r_.cells]) ?_ ?_
  · refine T.region ?_
    refine L.q 3 rfl ?_
    refine L.cs 9 H6 rfl (fun hc H8 => ?_) (fun hc H8 => ?_)
    · refine L.q 8 rfl ?_
      refine L.nil ?_
      have hr := Option.some.inj H8
      subst e5
      exact E.give ((), ()) [0, 0, 0] [0] trivial ⟨rfl, rfl, rfl, rfl, trivial⟩ rfl rfl
    · refine L.q 4 rfl ?_
      refine L.y (Yl.ldb 1 rfl rfl rfl rfl) rfl rfl rfl ?_
      refine L.q 3 rfl ?_
      refine L.nil ?_
      have hr := Option.some.inj H8
      subst e5
      exact E.give ((), ()) [0, 0, 0] [0] trivial ⟨rfl, rfl, rfl, rfl, trivial⟩ rfl rfl
  · rintro ⟨_, ⟨⟩⟩ _
    refine T.bif rfl H7 (fun hc H10 => ?_) (fun hc H10 => ?_)
    · refine T.seq ?_
      refine T.region ?_
      refine L.q 1 rfl ?_
      refine L.nil ?_
      refine E.then ?_
      refine T.ret ?_
      refine E.then_ret ?_
      have hr := Option.some.inj H10
      subst r
      exact E.ret () [1, 1] [] (.tmp rfl .nil) rfl rfl rfl
    · refine T.skip ?_
      refine E.then ?_
      refine T.seq ?_
      refine T.draw [12] [0, 0, 0] mo (by rfl) rfl ?_
      refine D.q 0 rfl rfl rfl rfl rfl rfl ?_
      refine D.q 1 rfl rfl rfl rfl rfl rfl ?_
      refine D.q 2 rfl rfl rfl rfl rfl rfl ?_
      refine D.y 3 (Yl.ldb 1 rfl rfl rfl rfl) rfl rfl rfl rfl rfl rfl ?_
      refine D.q 4 rfl rfl rfl rfl rfl rfl ?_
      refine D.y 5 (Yl.ldb 0 rfl rfl rfl rfl) rfl rfl rfl rfl rfl rfl ?_
      refine D.q 6 rfl rfl rfl rfl rfl rfl ?_
      refine D.q 7 rfl rfl rfl rfl rfl rfl ?_
      refine D.q 8 rfl rfl rfl rfl rfl rfl ?_
      refine D.y 9 (Yl.ldb 1 rfl rfl rfl rfl) rfl rfl rfl rfl rfl rfl ?_
      obtain ⟨r47, h48, H49⟩ := bnd H10
      refine D.one rfl rfl rfl (Dp.a [] [0] (Ac.call (c_row_Row_Resize a_2_0 c_2_0 h48) rfl rfl rfl rfl) rfl rfl rfl rfl rfl rfl ?_)
      rintro ⟨a50, c51⟩
      obtain ⟨x53, h54, H55⟩ := bnd H49
      refine D.addro 2 rfl (idx_lt h54) fun b56 e57 => ?_
      obtain rfl : a_0_0 = some ⟨b56, 0, none⟩ := e57
      refine D.y 11 (Yl.ia h54 rfl rfl rfl rfl rfl rfl) rfl rfl rfl rfl rfl rfl ?_
      refine D.one rfl rfl rfl (Dp.al [2] [0] (Ac.se 0 r47 (idx_some h54).2 rfl rfl rfl rfl rfl rfl (fun _ => ⟨(a50, c51), rfl, [1], rfl⟩)) rfl rfl rfl rfl rfl rfl rfl ?_)
      intro _
      refine D.nil rfl rfl ?_
      refine E.bx 2 (cs' := [.int .i64 g.w, .slice (some ⟨b56, 0, none⟩) (g.l.set y.toNat r47).length c_0_0]) (by rw [(List.length_set ..)]) rfl ?_
      refine E.then ?_
      refine T.seq ?_
      refine T.region ?_
      refine L.q 1 rfl ?_
      refine L.nil ?_
      refine E.then ?_
      refine T.ret ?_
      have hr := Option.some.inj H55
      subst r
      exact E.ret () [0, 0] [] (.tmp rfl .nil) rfl rfl rfl

end Go.Tw.X

set_option linter.unusedVariables false
set_option linter.unusedSimpArgs false
set_option maxRecDepth 10000
namespace Go.Tw.X
open Go Go.Tw
theorem c_grid_Grid_region_a0 {g : GridGrid} {top : Int} {bottom : Int} (g_0 : Nat) (a_0_0 : Option Addr) (c_0_0 : Nat) {r : Unit} (H : p_grid_Grid_region g top bottom = some (.inl r)) : CT G 70 [.pointer (some ⟨g_0, 0, none⟩), .int .i64 top, .int .i64 bottom] [Ch.box g_0 104 [.int .i64 g.w, .slice a_0_0 g.l.length c_0_0], Ch.arr tyRowRow 26 a_0_0 c_0_0 g.l] [] (fun h : Unit => .tuple #[.slice none 0 0, .bool false]) (fun h => [Ch.box g_0 104 [.int .i64 g.w, .slice a_0_0 g.l.length c_0_0], Ch.arr tyRowRow 26 a_0_0 c_0_0 g.l]) (fun h => []) := by
  delta p_grid_Grid_region at H
  refine CT.of Go.Proofs.Tryd.func70 (by kernel_rfl) rfl rfl rfl fun K => ?_
  refine T.seq ?_
  refine T.region ?_
  refine L.q 2 rfl ?_
  refine L.nil ?_
  refine E.then ?_
  refine T.seq ?_
  refine T.region ?_
  refine L.q 3 rfl ?_
  refine L.y (Yl.ldb 0 rfl rfl rfl rfl) rfl rfl rfl ?_
  refine L.q 3 rfl ?_
  refine L.nil ?_
  refine E.then ?_
  refine T.seq ?_
  refine T.region ?_
  refine L.q 2 rfl ?_
  obtain ⟨r1, h2, H3⟩ := bnd H
  refine L.a [] [] (Ac.call (c_grid_clip h2) rfl rfl rfl rfl) rfl rfl rfl rfl rfl ?_
  rintro ⟨⟩
  refine L.q 2 rfl ?_
  obtain ⟨r4, h5, H6⟩ := bnd H3
  refine L.a [] [] (Ac.call (c_grid_clip h5) rfl rfl rfl rfl) rfl rfl rfl rfl rfl ?_
  rintro ⟨⟩
  refine L.q 2 rfl ?_
  refine L.nil ?_
  refine E.then ?_
  refine T.seq ?_
  refine T.seq ?_
  refine T.region ?_
  refine L.q 3 rfl ?_
  refine L.nil ?_
  refine E.then ?_
  refine T.bif rfl H6 (fun hc H8 => ?_) (fun hc H8 => ?_)
  · refine T.seq ?_
    refine T.region ?_
    refine L.q 2 rfl ?_
    refine L.nil ?_
    refine E.then ?_
    refine T.ret ?_
    refine E.then_ret ?_
    have hr := Sum.inl.inj (Option.some.inj H8)
    subst r
    exact E.ret () [0, 0] [] (.tmp rfl (.tmp rfl .nil)) rfl rfl rfl
  · refine T.skip ?_
    refine E.then ?_
    refine T.seq ?_
    refine T.region ?_
    refine L.q 3 rfl ?_
    refine L.y (Yl.ldb 0 rfl rfl rfl rfl) rfl rfl rfl ?_
    refine L.q 3 rfl ?_
    obtain ⟨_, h9, H10⟩ := bnd H8
    refine L.cap 1 rfl fun h14 => ?_
    refine L.y (Yl.sv (ty := tyRowRow) h14 h9 rfl rfl rfl rfl rfl rfl rfl rfl) rfl rfl rfl ?_
    have hv13 : Vw tyRowRow g.l a_0_0 c_0_0 (cuta a_0_0 c_0_0 r1 (tyRowRow).sz) (c_0_0 - r1.toNat) r1 (IntKind.i64.wrap (r4 + 1)) := vw_new h9 h14
    refine L.q 2 rfl ?_
    refine L.nil ?_
    refine E.then ?_
    refine T.ret ?_
    exact nomatch (Option.some.inj H10)
theorem c_grid_Grid_region_a1 {g : GridGrid} {top : Int} {bottom : Int} (g_0 : Nat) (a_0_0 : Option Addr) (c_0_0 : Nat) {r : (Int × Int)} (H : p_grid_Grid_region g top bottom = some (.inr r)) : CT G 70 [.pointer (some ⟨g_0, 0, none⟩), .int .i64 top, .int .i64 bottom] [Ch.box g_0 104 [.int .i64 g.w, .slice a_0_0 g.l.length c_0_0], Ch.arr tyRowRow 26 a_0_0 c_0_0 g.l] [] (fun h : Unit => .tuple #[.slice (cuta a_0_0 c_0_0 r.1 (tyRowRow).sz) (cut g.l r.1 r.2).length (c_0_0 - r.1.toNat), .bool true]) (fun h => [Ch.box g_0 104 [.int .i64 g.w, .slice a_0_0 g.l.length c_0_0], Ch.arr tyRowRow 26 a_0_0 c_0_0 g.l]) (fun h => []) := by
  delta p_grid_Grid_region at H
  refine CT.of Go.Proofs.Tryd.func70 (by kernel_rfl) rfl rfl rfl fun K => ?_
  refine T.seq ?_
  refine T.region ?_
  refine L.q 2 rfl ?_
  refine L.nil ?_
  refine E.then ?_
  refine T.seq ?_
  refine T.region ?_
  refine L.q 3 rfl ?_
  refine L.y (Yl.ldb 0 rfl rfl rfl rfl) rfl rfl rfl ?_
  refine L.q 3 rfl ?_
  refine L.nil ?_
  refine E.then ?_
  refine T.seq ?_
  refine T.region ?_
  refine L.q 2 rfl ?_
  obtain ⟨r1, h2, H3⟩ := bnd H
  refine L.a [] [] (Ac.call (c_grid_clip h2) rfl rfl rfl rfl) rfl rfl rfl rfl rfl ?_
  rintro ⟨⟩
  refine L.q 2 rfl ?_
  obtain ⟨r4, h5, H6⟩ := bnd H3
  refine L.a [] [] (Ac.call (c_grid_clip h5) rfl rfl rfl rfl) rfl rfl rfl rfl rfl ?_
  rintro ⟨⟩
  refine L.q 2 rfl ?_
  refine L.nil ?_
  refine E.then ?_
  refine T.seq ?_
  refine T.seq ?_
  refine T.region ?_
  refine L.q 3 rfl ?_
  refine L.nil ?_
  refine E.then ?_
  refine T.bif rfl H6 (fun hc H8 => ?_) (fun hc H8 => ?_)
  · refine T.seq ?_
    refine T.region ?_
    refine L.q 2 rfl ?_
    refine L.nil ?_
    refine E.then ?_
    refine T.ret ?_
    refine E.then_ret ?_
    exact nomatch (Option.some.inj H8)
  · refine T.skip ?_
    refine E.then ?_
    refine T.seq ?_
    refine T.region ?_
    refine L.q 3 rfl ?_
    refine L.y (Yl.ldb 0 rfl rfl rfl rfl) rfl rfl rfl ?_
    refine L.q 3 rfl ?_
    obtain ⟨_, h9, H10⟩ := bnd H8
    refine L.cap 1 rfl fun h14 => ?_
    refine L.y (Yl.sv (ty := tyRowRow) h14 h9 rfl rfl rfl rfl rfl rfl rfl rfl) rfl rfl rfl ?_
    have hv13 : Vw tyRowRow g.l a_0_0 c_0_0 (cuta a_0_0 c_0_0 r1 (tyRowRow).sz) (c_0_0 - r1.toNat) r1 (IntKind.i64.wrap (r4 + 1)) := vw_new h9 h14
    refine L.q 2 rfl ?_
    refine L.nil ?_
    refine E.then ?_
    refine T.ret ?_
    have hr := Sum.inr.inj (Option.some.inj H10)
    subst r
    exact E.ret () [0, 0] [] (.tmp rfl (.tmp rfl .nil)) rfl rfl rfl

theorem c_slices_Clone_row_Row {s_ : List RowRow} (a_0 : Option Addr) (c_0 : Nat) {r : List RowRow} (H : p_slices_Clone_row_Row s_ = some r) : CT G 72 [.slice a_0 s_.length c_0] [] [Im.sl tyRowRow a_0 c_0 s_] (fun h : (Option Addr × Nat) => .slice h.1 r.length h.2) (fun h => [Ch.arr tyRowRow 26 h.1 h.2 r]) (fun h => []) := by
  delta p_slices_Clone_row_Row at H
  refine CT.of Go.Proofs.Tryd.func72 (by kernel_rfl) rfl rfl rfl fun K => ?_
  obtain ⟨_, h0, H⟩ := bnd H
  have hr := Option.some.inj H
  refine T.seq (T.region (L.q 1 rfl (L.nil (E.then (T.seq (T.seq (T.region ?_)))))))
  refine L.q 1 rfl ?_
  refine L.nilc 0 rfl rfl rfl rfl rfl rfl rfl rfl rfl (fun ha hx => ?_) ?_
  · refine L.nil (E.then (T.cond rfl (fun _ => ?_) (fun h => nomatch h)))
    refine T.seq (T.region (L.q 1 rfl (L.nil (E.then (T.ret (E.then_ret ?_))))))
    subst hx
    subst r
    refine E.nil0 tyRowRow 26 ?_
    exact E.ret (none, 0) [0] [] (.tmp rfl .nil) rfl rfl rfl
  · refine L.nil (E.then (T.cond rfl (fun h => nomatch h) (fun _ => ?_)))
    refine T.skip (E.then (T.seq (T.region ?_)))
    refine L.a [] [] (Ac.bs (ty := tyRowRow) (xs := []) .nil rfl rfl rfl rfl rfl rfl rfl) rfl rfl rfl rfl rfl ?_
    intro g1
    refine L.q 1 rfl ?_
    refine L.a [0] [0] (Ac.ap (ty := tyRowRow) h0 rfl rfl rfl rfl rfl rfl rfl) rfl rfl rfl rfl rfl ?_
    rintro ⟨a1, c1⟩
    refine L.q 1 rfl ?_
    refine L.nil (E.then (T.ret ?_))
    subst r
    exact E.ret (a1, c1) [0] [] (.tmp rfl .nil) rfl rfl rfl

theorem c_slices_Clone_row_Row_w {ys : List RowRow} (a_0 : Option Addr) (c_0 : Nat) (a9 : Option Addr) (c9 : Nat) {lo hi : Int} (hv : Vw tyRowRow ys a_0 c_0 a9 c9 lo hi) {r : List RowRow} (H : p_slices_Clone_row_Row (cut ys lo hi) = some r) : CT G 72 [.slice a9 (cut ys lo hi).length c9] [Ch.arr tyRowRow 26 a_0 c_0 ys] [] (fun h : (Option Addr × Nat) => .slice h.1 r.length h.2) (fun h => [Ch.arr tyRowRow 26 h.1 h.2 r, Ch.arr tyRowRow 26 a_0 c_0 ys]) (fun h => []) := by
  delta p_slices_Clone_row_Row at H
  refine CT.of Go.Proofs.Tryd.func72 (by kernel_rfl) rfl rfl rfl fun K => ?_
  obtain ⟨_, h0, H⟩ := bnd H
  have hr := Option.some.inj H
  refine T.seq (T.region (L.q 1 rfl (L.nil (E.then (T.seq (T.seq (T.region ?_)))))))
  refine L.q 1 rfl ?_
  refine L.nilv 0 hv rfl rfl rfl rfl rfl rfl rfl rfl rfl (fun hx => ?_) ?_
  · refine L.nil (E.then (T.cond rfl (fun _ => ?_) (fun h => nomatch h)))
    refine T.seq (T.region (L.q 1 rfl (L.nil (E.then (T.ret (E.then_ret ?_))))))
    rw [hx] at hr
    subst r
    refine E.nil0 tyRowRow 26 ?_
    exact E.ret (none, 0) [0, 0] [] (.tmp rfl .nil) rfl rfl rfl
  · refine L.nil (E.then (T.cond rfl (fun h => nomatch h) (fun _ => ?_)))
    refine T.skip (E.then (T.seq (T.region ?_)))
    refine L.a [] [] (Ac.bs (ty := tyRowRow) (xs := []) .nil rfl rfl rfl rfl rfl rfl rfl) rfl rfl rfl rfl rfl ?_
    intro g1
    refine L.q 1 rfl ?_
    refine L.a [0, 0] [] (Ac.apv (ty := tyRowRow) hv h0 rfl rfl rfl rfl rfl rfl rfl) rfl rfl rfl rfl rfl ?_
    rintro ⟨a1, c1⟩
    refine L.q 1 rfl ?_
    refine L.nil (E.then (T.ret ?_))
    subst r
    exact E.ret (a1, c1) [0, 0] [] (.tmp rfl .nil) rfl rfl rfl

theorem c_grid_Grid_Up {g : GridGrid} {top : Int} {bottom : Int} {n_ : Int} {style : Int} (g_0 : Nat) (a_0_0 : Option Addr) (c_0_0 : Nat) {r : (List RowRow) × GridGrid} (H : p_grid_Grid_Up g top bottom n_ style = some r) : CT G 36 [.pointer (some ⟨g_0, 0, none⟩), .int .i64 top, .int .i64 bottom, .int .i64 n_, .int .i64 style] [Ch.box g_0 104 [.int .i64 g.w, .slice a_0_0 g.l.length c_0_0], Ch.arr tyRowRow 26 a_0_0 c_0_0 g.l] [] (fun h : (Option Addr × Nat) => .slice h.1 r.1.length h.2) (fun h => [Ch.arr tyRowRow 26 h.1 h.2 r.1, Ch.box g_0 104 [.int .i64 r.2.w, .slice a_0_0 r.2.l.length c_0_0], Ch.arr tyRowRow 26 a_0_0 c_0_0 r.2.l]) (fun h => []) := by
  delta p_grid_Grid_Up at H
  refine CT.of Go.Proofs.Tryd.func36 (by kernel_rfl) rfl rfl rfl fun K => ?_
  refine T.seq ?_
  refine T.region ?_
  refine L.q 1 rfl ?_
  refine L.nil ?_
  refine E.then ?_
  refine T.seq ?_
  refine T.region ?_
  refine L.q 3 rfl ?_
  obtain ⟨r1, h2, H3⟩ := bnd H
  rcases r1 with r1 | r1
  · refine L.a [0, 0] [] (Ac.call (c_grid_Grid_region_a0 g_0 a_0_0 c_0_0 h2) rfl rfl rfl rfl) rfl rfl rfl rfl rfl ?_
    rintro ⟨⟩
    refine L.q 5 rfl ?_
    refine L.nil ?_
    refine E.then ?_
    refine T.seq ?_
    refine T.seq ?_
    refine T.region ?_
    refine L.q 2 rfl ?_
    refine L.nil ?_
    refine E.then ?_
    refine T.cond rfl (fun _ => ?_) (fun h => nomatch h)
    refine T.seq ?_
    refine T.region ?_
    refine L.q 1 rfl ?_
    refine L.nil ?_
    refine E.then ?_
    refine T.ret ?_
    refine E.then_ret ?_
    refine E.nil0 tyRowRow 26 ?_
    have hr := Option.some.inj H3
    subst r
    exact E.ret (none, 0) [0, 0, 0] [] (.tmp rfl .nil) rfl rfl rfl
  · refine L.a [0, 0] [] (Ac.call (c_grid_Grid_region_a1 g_0 a_0_0 c_0_0 h2) rfl rfl rfl rfl) rfl rfl rfl rfl rfl ?_
    rintro ⟨⟩
    obtain ⟨_, h5, H6⟩ := bnd H3
    refine L.cap 1 rfl fun h7 => ?_
    have hv8 : Vw tyRowRow g.l a_0_0 c_0_0 (cuta a_0_0 c_0_0 r1.1 (tyRowRow).sz) (c_0_0 - r1.1.toNat) r1.1 r1.2 := vw_new h5 h7
    refine L.q 5 rfl ?_
    refine L.nil ?_
    refine E.then ?_
    refine T.seq ?_
    refine T.seq ?_
    refine T.region ?_
    refine L.q 2 rfl ?_
    refine L.nil ?_
    refine E.then ?_
    refine T.cond rfl (fun h => nomatch h) (fun _ => ?_)
    refine T.skip ?_
    refine E.then ?_
    refine T.seq ?_
    refine T.region ?_
    refine L.q 3 rfl ?_
    obtain ⟨r9, h10, H11⟩ := bnd H6
    refine L.a [] [] (Ac.call (c_grid_clip h10) rfl rfl rfl rfl) rfl rfl rfl rfl rfl ?_
    rintro ⟨⟩
    refine L.q 1 rfl ?_
    refine L.nil ?_
    refine E.then ?_
    refine T.seq ?_
    refine T.region ?_
    refine L.q 2 rfl ?_
    obtain ⟨_, h12, H13⟩ := bnd H11
    refine L.vv hv8 h12 rfl rfl rfl rfl rfl rfl rfl rfl rfl rfl rfl fun a14 c15 hv16 => ?_
    obtain ⟨r17, h18, H19⟩ := bnd H13
    refine L.a [1] [] (Ac.call (c_slices_Clone_row_Row_w a_0_0 c_0_0 a14 c15 hv16 h18) rfl rfl rfl rfl) rfl rfl rfl rfl rfl ?_
    rintro ⟨a20, c21⟩
    refine L.q 1 rfl ?_
    refine L.nil ?_
    refine E.then ?_
    refine T.seq ?_
    refine T.region ?_
    refine L.q 3 rfl ?_
    obtain ⟨_, h23, H24⟩ := bnd H19
    refine L.vv hv8 h23 rfl rfl rfl rfl rfl rfl rfl rfl rfl rfl rfl fun a25 c26 hv27 => ?_
    refine L.a [1] [] (Ac.cpv (ty := tyRowRow) hv8 hv27 rfl rfl rfl rfl rfl rfl rfl) rfl rfl rfl rfl rfl ?_
    intro _
    have hv29 : Vw tyRowRow (cpyv g.l r1.1 r1.2 (r1.1 + r9) (r1.1 + ((cut g.l r1.1 r1.2).length : Int))) a_0_0 c_0_0 (cuta a_0_0 c_0_0 r1.1 (tyRowRow).sz) (c_0_0 - r1.1.toNat) r1.1 r1.2 := Vw.on hv8 (cpyv_len hv8)
    refine L.sl 11 (k' := (cut (cpyv g.l r1.1 r1.2 (r1.1 + r9) (r1.1 + ((cut g.l r1.1 r1.2).length : Int))) r1.1 r1.2).length) (cut_len (cpyv_len hv8)) rfl ?_
    refine L.bx 2 (cs' := [.int .i64 g.w, .slice a_0_0 (cpyv g.l r1.1 r1.2 (r1.1 + r9) (r1.1 + ((cut g.l r1.1 r1.2).length : Int))).length c_0_0]) (by rw [cpyv_len hv8]) rfl ?_
    refine L.nil ?_
    refine E.then ?_
    refine T.seq ?_
    refine T.seq ?_
    refine T.region ?_
    refine L.q 5 rfl ?_
    refine L.nil ?_
    refine E.then ?_
    obtain ⟨e142, H143, H144⟩ := bnd H24
    refine T.join (η := Unit × Unit) (fun h => True) (fun h => [(13, .slice a20 r17.length c21)]) (fun h => [Ch.arr tyRowRow 26 a_0_0 c_0_0 e142.l, Ch.box g_0 104 [.int .i64 e142.w, .slice a_0_0 e142.l.length c_0_0], Ch.arr tyRowRow 26 a20 c21 r17]) (fun h => []) ?_ ?_
    · refine T.block ?_
      refine T.lp (η := Unit) (fun s103 h => [(0, .pointer (some ⟨g_0, 0, none⟩)), (4, .int .i64 style), (11, .slice (cuta a_0_0 c_0_0 r1.1 (tyRowRow).sz) (cut s103.1.l r1.1 r1.2).length (c_0_0 - r1.1.toNat)), (13, .slice a20 r17.length c21), (14, .int .i64 s103.2)]) (fun s103 h => [Ch.arr tyRowRow 26 a_0_0 c_0_0 s103.1.l, Ch.box g_0 104 [.int .i64 s103.1.w, .slice a_0_0 s103.1.l.length c_0_0], Ch.arr tyRowRow 26 a20 c21 r17]) (fun s103 h => []) () [1, 0, 0] [] H143 ⟨rfl, rfl, rfl, rfl, rfl, trivial⟩ rfl rfl ?_
      rintro k s103 ⟨⟩ z146 H145 hag147 hbr148
      refine T.seq ?_
      refine T.seq ?_
      refine T.region ?_
      refine L.q 4 rfl ?_
      refine L.nil ?_
      refine E.then ?_
      refine T.bif rfl H145 (fun hc H150 => ?_) (fun hc H150 => ?_)
      · refine T.skip ?_
        refine E.then ?_
        refine T.seq ?_
        refine T.block ?_
        refine T.region ?_
        refine L.q 5 rfl ?_
        refine L.y (Yl.ldb 1 rfl rfl rfl rfl) rfl rfl rfl ?_
        refine L.q 1 rfl ?_
        obtain ⟨r168, h169, H170⟩ := bnd H150
        refine L.a [] [] (Ac.call (c_row_Blank h169) rfl rfl rfl rfl) rfl rfl rfl rfl rfl ?_
        rintro ⟨a171, c172⟩
        obtain ⟨_, h174, H175⟩ := bnd H170
        refine L.cap 0 rfl fun h176 => ?_
        have hv177 := vw_re hv29 h174 h176
        obtain ⟨x178, h179, H180⟩ := bnd H175
        refine L.addro 0 rfl (pos_of (cut_get h179)) fun b181 e182 => ?_
        obtain rfl : a_0_0 = some ⟨b181, 0, none⟩ := e182
        refine L.y (Yl.iv (ty := tyRowRow) 0 hv177 h179 rfl rfl rfl rfl rfl rfl rfl rfl) rfl rfl rfl ?_
        refine L.a [0] [0] (Ac.se 0 r168 (cut_get h179) rfl rfl rfl rfl rfl rfl (fun _ => ⟨(a171, c172), rfl, [1], rfl⟩)) rfl rfl rfl rfl rfl ?_
        intro _
        have hv184 : Vw tyRowRow (s103.1.l.set (r1.1.toNat + s103.2.toNat) r168) (some ⟨b181, 0, none⟩) c_0_0 (cuta (some ⟨b181, 0, none⟩) c_0_0 r1.1 (tyRowRow).sz) (c_0_0 - r1.1.toNat) r1.1 r1.2 := Vw.on hv177 (List.length_set ..)
        refine L.sl 11 (k' := (cut (s103.1.l.set (r1.1.toNat + s103.2.toNat) r168) r1.1 r1.2).length) (cut_len (List.length_set ..)) rfl ?_
        refine L.bx 1 (cs' := [.int .i64 s103.1.w, .slice (some ⟨b181, 0, none⟩) (s103.1.l.set (r1.1.toNat + s103.2.toNat) r168).length c_0_0]) (by rw [List.length_set ..]) rfl ?_
        refine L.nil ?_
        refine E.block ?_
        refine E.then ?_
        refine T.region ?_
        refine L.q 3 rfl ?_
        refine L.nil ?_
        have hr := Option.some.inj H180
        subst z146
        exact E.give (_, ()) [1, 0, 0] [] (hag147 _ rfl) ⟨rfl, rfl, rfl, rfl, rfl, trivial⟩ rfl rfl
      · refine T.exit ?_
        refine E.then_exit' ?_
        refine E.then_exit' ?_
        refine E.block_here ?_
        have hr := Option.some.inj H150
        subst z146
        have hb := hbr148 _ rfl
        subst e142
        exact E.give ((), ()) [0, 0, 0] [] trivial ⟨rfl, trivial⟩ rfl rfl
    · rintro ⟨_, ⟨⟩⟩ _
      refine T.seq ?_
      refine T.region ?_
      refine L.q 2 rfl ?_
      refine L.nil ?_
      refine E.then ?_
      refine T.ret ?_
      have hr := Option.some.inj H144
      subst r
      exact E.ret (a20, c21) [2, 1, 0] [] (.tmp rfl .nil) rfl rfl rfl

theorem c_glyph_Encode {l : List Int} (a_0 : Option Addr) (c_0 : Nat) {r : ByteArray} (H : p_glyph_Encode l = some r) : CT G 81 [.slice a_0 l.length c_0] [] [Im.sl (Ty.int .i32) a_0 c_0 l] (fun h : Unit => .string r) (fun h => []) (fun h => []) := by
  delta p_glyph_Encode at H
  refine CT.of Go.Proofs.Tryd.func81 (by kernel_rfl) rfl rfl rfl fun K => ?_
  refine T.seq ?_
  refine T.region ?_
  refine L.q 1 rfl ?_
  refine L.nil ?_
  refine E.then ?_
  refine T.seq ?_
  refine T.region ?_
  refine L.q 1 rfl ?_
  refine L.nil ?_
  refine E.then ?_
  refine T.seq ?_
  refine T.seq ?_
  refine T.region ?_
  refine L.q 3 rfl ?_
  refine L.nil ?_
  refine E.then ?_
  obtain ⟨e618, H619, H620⟩ := bnd H
  refine T.join (η := Unit × ((Option Addr × Nat))) (fun h => True) (fun h => (fun a615 c616 => [(3, .slice a615 e618.length c616)]) h.2.1 h.2.2) (fun h => (fun a615 c616 => [Ch.arr (Ty.int .u8) 5 a615 c616 e618]) h.2.1 h.2.2) (fun h => (fun a615 c616 => [Im.sl (Ty.int .i32) a_0 c_0 l]) h.2.1 h.2.2) ?_ ?_
  · refine T.block ?_
    refine T.nil0 (Ty.int .u8) 5 ?_
    refine T.lp (η := (Option Addr × Nat)) (fun s418 h => (fun a414 c415 => [(3, .slice a414 s418.1.length c415), (6, .slice a_0 l.length c_0), (7, .int .i64 (l.length : Int)), (8, .int .i64 s418.2)]) h.1 h.2) (fun s418 h => (fun a414 c415 => [Ch.arr (Ty.int .u8) 5 a414 c415 s418.1]) h.1 h.2) (fun s418 h => (fun a414 c415 => [Im.sl (Ty.int .i32) a_0 c_0 l]) h.1 h.2) (none, 0) [0] [0] H619 ⟨rfl, rfl, rfl, rfl, trivial⟩ rfl rfl ?_
    rintro k s418 ⟨a414, c415⟩ z622 H621 hag623 hbr624
    refine T.seq ?_
    refine T.region ?_
    refine L.q 1 rfl ?_
    refine L.nil ?_
    refine E.then ?_
    refine T.seq ?_
    refine T.bif rfl H621 (fun hc H626 => ?_) (fun hc H626 => ?_)
    · refine T.skip ?_
      refine E.then ?_
      refine T.seq ?_
      obtain ⟨e755, H756, H757⟩ := bnd H626
      refine T.join (η := Unit × ((Option Addr × Nat))) (fun h => True) (fun h => (fun a752 c753 => [(3, .slice a752 e755.length c753), (6, .slice a_0 l.length c_0), (7, .int .i64 (l.length : Int)), (8, .int .i64 s418.2)]) h.2.1 h.2.2) (fun h => (fun a752 c753 => [Ch.arr (Ty.int .u8) 5 a752 c753 e755]) h.2.1 h.2.2) (fun h => (fun a752 c753 => [Im.sl (Ty.int .i32) a_0 c_0 l]) h.2.1 h.2.2) ?_ ?_
      · refine T.block ?_
        refine T.seq ?_
        refine T.region ?_
        obtain ⟨x758, h759, H760⟩ := bnd H756
        refine L.addr 0 rfl (idx_lt h759) fun b761 o762 e763 => ?_
        obtain rfl : a_0 = some ⟨b761, o762, none⟩ := e763
        refine L.y (Yl.ia h759 rfl rfl rfl rfl rfl rfl) rfl rfl rfl ?_
        refine L.el 0 rfl (idx_some h759).2 ?_
        rintro _
        refine L.y (Yl.ldc 0 0 rfl rfl rfl rfl) rfl rfl rfl ?_
        refine L.q 1 rfl ?_
        refine L.nil ?_
        refine E.then ?_
        refine T.seq ?_
        refine T.seq ?_
        obtain ⟨e772, H773, H774⟩ := bnd H760
        refine T.join (η := Unit × Unit) (fun h => True) (fun h => [(3, .slice a414 s418.1.length c415), (5, .int .i32 x758), (6, .slice (some ⟨b761, o762, none⟩) l.length c_0), (7, .int .i64 (l.length : Int)), (8, .int .i64 s418.2), (25, .bool e772)]) (fun h => [Ch.arr (Ty.int .u8) 5 a414 c415 s418.1]) (fun h => [Im.cells b761 (o762 + s418.2.toNat * 1) [.int .i32 x758], Im.sl (Ty.int .i32) (some ⟨b761, o762, none⟩) c_0 l]) ?_ ?_
        · refine T.region ?_
          refine L.q 3 rfl ?_
          refine L.cs 14 H773 rfl (fun hc H775 => ?_) (fun hc H775 => ?_)
          · refine L.q 11 rfl ?_
            refine L.nil ?_
            have hr := Option.some.inj H775
            subst e772
            exact E.give ((), ()) [0] [0, 1] trivial ⟨rfl, rfl, rfl, rfl, rfl, rfl, trivial⟩ rfl rfl
          · refine L.q 4 rfl ?_
            refine L.cs 18 H775 rfl (fun hc H776 => ?_) (fun hc H776 => ?_)
            · refine L.q 7 rfl ?_
              refine L.nil ?_
              have hr := Option.some.inj H776
              subst e772
              exact E.give ((), ()) [0] [0, 1] trivial ⟨rfl, rfl, rfl, rfl, rfl, rfl, trivial⟩ rfl rfl
            · refine L.q 3 rfl ?_
              refine L.cs 21 H776 rfl (fun hc H777 => ?_) (fun hc H777 => ?_)
              · refine L.q 4 rfl ?_
                refine L.nil ?_
                have hr := Option.some.inj H777
                subst e772
                exact E.give ((), ()) [0] [0, 1] trivial ⟨rfl, rfl, rfl, rfl, rfl, rfl, trivial⟩ rfl rfl
              · refine L.q 4 rfl ?_
                refine L.nil ?_
                have hr := Option.some.inj H777
                subst e772
                exact E.give ((), ()) [0] [0, 1] trivial ⟨rfl, rfl, rfl, rfl, rfl, rfl, trivial⟩ rfl rfl
        · rintro ⟨_, ⟨⟩⟩ _
          obtain ⟨e781, H782, H783⟩ := bnd H774
          refine T.join (η := Unit × Unit) (fun h => True) (fun h => [(3, .slice a414 s418.1.length c415), (5, .int .i32 e781), (6, .slice (some ⟨b761, o762, none⟩) l.length c_0), (7, .int .i64 (l.length : Int)), (8, .int .i64 s418.2)]) (fun h => [Ch.arr (Ty.int .u8) 5 a414 c415 s418.1]) (fun h => [Im.cells b761 (o762 + s418.2.toNat * 1) [.int .i32 x758], Im.sl (Ty.int .i32) (some ⟨b761, o762, none⟩) c_0 l]) ?_ ?_
          · refine T.bif rfl H782 (fun hc H784 => ?_) (fun hc H784 => ?_)
            · refine T.region ?_
              refine L.q 1 rfl ?_
              refine L.nil ?_
              have hr := Option.some.inj H784
              subst e781
              exact E.give ((), ()) [0] [0, 1] trivial ⟨rfl, rfl, rfl, rfl, rfl, trivial⟩ rfl rfl
            · refine T.skip ?_
              have hr := Option.some.inj H784
              subst e781
              exact E.give ((), ()) [0] [0, 1] trivial ⟨rfl, rfl, rfl, rfl, rfl, trivial⟩ rfl rfl
          · rintro ⟨_, ⟨⟩⟩ _
            refine T.block ?_
            refine T.seq ?_
            refine T.region ?_
            refine L.q 3 rfl ?_
            refine L.nil ?_
            refine E.then ?_
            refine T.bif rfl H783 (fun hc H785 => ?_) (fun hc H785 => ?_)
            · refine T.region ?_
              refine L.q 3 rfl ?_
              refine L.a [] [] (Ac.bs (ty := (Ty.int .u8)) (xs := [(IntKind.u8.wrap e781)]) (.cons () [] rfl .nil) rfl rfl rfl rfl rfl rfl rfl) rfl rfl rfl rfl rfl ?_
              intro g786
              refine L.frz 0 rfl ?_
              obtain ⟨_, h789, H790⟩ := bnd H785
              refine L.a [0] [0] (Ac.ap (ty := (Ty.int .u8)) h789 rfl rfl rfl rfl rfl rfl rfl) rfl rfl rfl rfl rfl ?_
              rintro ⟨a791, c792⟩
              refine L.q 1 rfl ?_
              refine L.nil ?_
              refine E.block ?_
              refine E.block ?_
              have hr := Option.some.inj H790
              subst e755
              exact E.give ((), (a791, c792)) [0] [2] trivial ⟨rfl, rfl, rfl, rfl, trivial⟩ rfl rfl
            · refine T.seq ?_
              refine T.region ?_
              refine L.q 3 rfl ?_
              refine L.nil ?_
              refine E.then ?_
              refine T.bif rfl H785 (fun hc H794 => ?_) (fun hc H794 => ?_)
              · refine T.region ?_
                refine L.q 9 rfl ?_
                refine L.a [] [] (Ac.bs (ty := (Ty.int .u8)) (xs := [(IntKind.u8.wrap (Go.bits .or .i32 192 (e781.fdiv (2 ^ (min 6 32))))), (IntKind.u8.wrap (Go.bits .or .i32 128 (Go.bits .and .i32 e781 63)))]) (.cons () [] rfl (.cons () [] rfl .nil)) rfl rfl rfl rfl rfl rfl rfl) rfl rfl rfl rfl rfl ?_
                intro g795
                refine L.frz 0 rfl ?_
                obtain ⟨_, h798, H799⟩ := bnd H794
                refine L.a [0] [0] (Ac.ap (ty := (Ty.int .u8)) h798 rfl rfl rfl rfl rfl rfl rfl) rfl rfl rfl rfl rfl ?_
                rintro ⟨a800, c801⟩
                refine L.q 1 rfl ?_
                refine L.nil ?_
                refine E.block ?_
                refine E.block ?_
                have hr := Option.some.inj H799
                subst e755
                exact E.give ((), (a800, c801)) [0] [2] trivial ⟨rfl, rfl, rfl, rfl, trivial⟩ rfl rfl
              · refine T.seq ?_
                refine T.region ?_
                refine L.q 3 rfl ?_
                refine L.nil ?_
                refine E.then ?_
                refine T.bif rfl H794 (fun hc H803 => ?_) (fun hc H803 => ?_)
                · refine T.region ?_
                  refine L.q 14 rfl ?_
                  refine L.a [] [] (Ac.bs (ty := (Ty.int .u8)) (xs := [(IntKind.u8.wrap (Go.bits .or .i32 224 (e781.fdiv (2 ^ (min 12 32))))), (IntKind.u8.wrap (Go.bits .or .i32 128 (Go.bits .and .i32 (e781.fdiv (2 ^ (min 6 32))) 63))), (IntKind.u8.wrap (Go.bits .or .i32 128 (Go.bits .and .i32 e781 63)))]) (.cons () [] rfl (.cons () [] rfl (.cons () [] rfl .nil))) rfl rfl rfl rfl rfl rfl rfl) rfl rfl rfl rfl rfl ?_
                  intro g804
                  refine L.frz 0 rfl ?_
                  obtain ⟨_, h807, H808⟩ := bnd H803
                  refine L.a [0] [0] (Ac.ap (ty := (Ty.int .u8)) h807 rfl rfl rfl rfl rfl rfl rfl) rfl rfl rfl rfl rfl ?_
                  rintro ⟨a809, c810⟩
                  refine L.q 1 rfl ?_
                  refine L.nil ?_
                  refine E.block ?_
                  refine E.block ?_
                  have hr := Option.some.inj H808
                  subst e755
                  exact E.give ((), (a809, c810)) [0] [2] trivial ⟨rfl, rfl, rfl, rfl, trivial⟩ rfl rfl
                · refine T.region ?_
                  refine L.q 19 rfl ?_
                  refine L.a [] [] (Ac.bs (ty := (Ty.int .u8)) (xs := [(IntKind.u8.wrap (Go.bits .or .i32 240 (e781.fdiv (2 ^ (min 18 32))))), (IntKind.u8.wrap (Go.bits .or .i32 128 (Go.bits .and .i32 (e781.fdiv (2 ^ (min 12 32))) 63))), (IntKind.u8.wrap (Go.bits .or .i32 128 (Go.bits .and .i32 (e781.fdiv (2 ^ (min 6 32))) 63))), (IntKind.u8.wrap (Go.bits .or .i32 128 (Go.bits .and .i32 e781 63)))]) (.cons () [] rfl (.cons () [] rfl (.cons () [] rfl (.cons () [] rfl .nil)))) rfl rfl rfl rfl rfl rfl rfl) rfl rfl rfl rfl rfl ?_
                  intro g812
                  refine L.frz 0 rfl ?_
                  obtain ⟨_, h815, H816⟩ := bnd H803
                  refine L.a [0] [0] (Ac.ap (ty := (Ty.int .u8)) h815 rfl rfl rfl rfl rfl rfl rfl) rfl rfl rfl rfl rfl ?_
                  rintro ⟨a817, c818⟩
                  refine L.q 1 rfl ?_
                  refine L.nil ?_
                  refine E.block ?_
                  refine E.block ?_
                  have hr := Option.some.inj H816
                  subst e755
                  exact E.give ((), (a817, c818)) [0] [2] trivial ⟨rfl, rfl, rfl, rfl, trivial⟩ rfl rfl
      · rintro ⟨_, ⟨a752, c753⟩⟩ _
        refine T.region ?_
        refine L.q 2 rfl ?_
        refine L.nil ?_
        have hr := Option.some.inj H757
        subst z622
        exact E.give (_, (a752, c753)) [0] [0] (hag623 _ rfl) ⟨rfl, rfl, rfl, rfl, trivial⟩ rfl rfl
    · refine T.exit ?_
      refine E.then_exit' ?_
      refine E.then_exit' ?_
      refine E.block_here ?_
      have hr := Option.some.inj H626
      subst z622
      have hb := hbr624 _ rfl
      subst e618
      exact E.give ((), (a414, c415)) [0] [0] trivial ⟨rfl, trivial⟩ rfl rfl
  · rintro ⟨_, ⟨a615, c616⟩⟩ _
    refine T.seq ?_
    refine T.region ?_
    refine L.q 1 rfl ?_
    refine L.y (Yl.bs 0 rfl rfl rfl rfl rfl rfl rfl rfl rfl) rfl rfl rfl ?_
    refine L.q 1 rfl ?_
    refine L.nil ?_
    refine E.then ?_
    refine T.ret ?_
    have hr := Option.some.inj H620
    subst r
    exact E.ret () [] [] (.tmp rfl .nil) rfl rfl rfl

theorem c_grid_Grid_Text {g : GridGrid} (g_0 : Nat) (a_0_0 : Option Addr) (c_0_0 : Nat) {r : (List ByteArray)} (H : p_grid_Grid_Text g = some r) : CT G 61 [.pointer (some ⟨g_0, 0, none⟩)] [Ch.box g_0 104 [.int .i64 g.w, .slice a_0_0 g.l.length c_0_0], Ch.arr tyRowRow 26 a_0_0 c_0_0 g.l] [] (fun h : (Option Addr × Nat) => .slice h.1 r.length h.2) (fun h => [Ch.arr Ty.str 9 h.1 h.2 r, Ch.box g_0 104 [.int .i64 g.w, .slice a_0_0 g.l.length c_0_0], Ch.arr tyRowRow 26 a_0_0 c_0_0 g.l]) (fun h => []) := by
  delta p_grid_Grid_Text at H
  refine CT.of Go.Proofs.Tryd.func61 (by kernel_rfl) rfl rfl rfl fun K => ?_
  refine T.seq ?_
  refine T.region ?_
  refine L.q 1 rfl ?_
  refine L.nil ?_
  refine E.then ?_
  refine T.seq ?_
  refine T.region ?_
  refine L.q 1 rfl ?_
  refine L.nil ?_
  refine E.then ?_
  refine T.seq ?_
  refine T.seq ?_
  refine T.region ?_
  refine L.q 3 rfl ?_
  refine L.y (Yl.ldb 0 rfl rfl rfl rfl) rfl rfl rfl ?_
  refine L.q 2 rfl ?_
  refine L.nil ?_
  refine E.then ?_
  obtain ⟨e1085, H1086, H1087⟩ := bnd H
  refine T.join (η := Unit × ((Option Addr × Nat))) (fun h => True) (fun h => (fun a1082 c1083 => [(3, .slice a1082 e1085.length c1083)]) h.2.1 h.2.2) (fun h => (fun a1082 c1083 => [Ch.arr Ty.str 9 a1082 c1083 e1085, Ch.box g_0 104 [.int .i64 g.w, .slice a_0_0 g.l.length c_0_0], Ch.arr tyRowRow 26 a_0_0 c_0_0 g.l]) h.2.1 h.2.2) (fun h => (fun a1082 c1083 => []) h.2.1 h.2.2) ?_ ?_
  · refine T.block ?_
    refine T.nil0 Ty.str 9 ?_
    refine T.lp (η := (Option Addr × Nat)) (fun s726 h => (fun a723 c724 => [(3, .slice a723 s726.2.length c724), (12, .slice a_0_0 g.l.length c_0_0), (13, .int .i64 (g.l.length : Int)), (14, .int .i64 s726.1)]) h.1 h.2) (fun s726 h => (fun a723 c724 => [Ch.arr Ty.str 9 a723 c724 s726.2, Ch.box g_0 104 [.int .i64 g.w, .slice a_0_0 g.l.length c_0_0], Ch.arr tyRowRow 26 a_0_0 c_0_0 g.l]) h.1 h.2) (fun s726 h => (fun a723 c724 => []) h.1 h.2) (none, 0) [0, 0, 0] [] H1086 ⟨rfl, rfl, rfl, rfl, trivial⟩ rfl rfl ?_
    rintro k s726 ⟨a723, c724⟩ z1089 H1088 hag1090 hbr1091
    refine T.seq ?_
    refine T.region ?_
    refine L.q 1 rfl ?_
    refine L.nil ?_
    refine E.then ?_
    refine T.seq ?_
    refine T.bif rfl H1088 (fun hc H1093 => ?_) (fun hc H1093 => ?_)
    · refine T.skip ?_
      refine E.then ?_
      refine T.seq ?_
      refine T.block ?_
      refine T.seq ?_
      refine T.region ?_
      obtain ⟨x1270, h1271, H1272⟩ := bnd H1093
      refine L.addro 2 rfl (idx_lt h1271) fun b1273 e1274 => ?_
      obtain rfl : a_0_0 = some ⟨b1273, 0, none⟩ := e1274
      refine L.y (Yl.ia h1271 rfl rfl rfl rfl rfl rfl) rfl rfl rfl ?_
      refine L.a [2] [] (Ac.lo s726.1.toNat 0 (v := (fun h : (Option Addr × Nat) => (fun a1275 c1276 => .agg #[.slice a1275 x1270.cells.length c1276, .bool x1270.wrapped]) h.1 h.2)) (idx_some h1271).2 rfl rfl rfl (fun _ => rfl)) rfl rfl rfl rfl rfl ?_
      rintro ⟨a1275, c1276⟩
      refine L.a [] [] (Ac.alloc rfl rfl) rfl rfl rfl rfl rfl ?_
      intro g1278
      refine L.a [0] [] (Ac.stb rfl rfl rfl rfl rfl rfl) rfl rfl rfl rfl rfl ?_
      intro _
      refine L.nil ?_
      refine E.then ?_
      refine T.seq ?_
      refine T.region ?_
      refine L.q 1 rfl ?_
      refine L.nil ?_
      refine E.then ?_
      refine T.seq ?_
      refine T.seq ?_
      refine T.region ?_
      refine L.y (Yl.ldb 0 rfl rfl rfl rfl) rfl rfl rfl ?_
      obtain ⟨r1279, h1280, H1281⟩ := bnd H1272
      refine L.a [] [0] (Ac.call (c_row_Row_Glyphs a1275 c1276 h1280) rfl rfl rfl rfl) rfl rfl rfl rfl rfl ?_
      rintro ⟨a1282, c1283⟩
      refine L.q 2 rfl ?_
      refine L.nil ?_
      refine E.then ?_
      obtain ⟨e1397, H1398, H1399⟩ := bnd H1281
      refine T.join (η := Unit × ((Option Addr × Nat))) (fun h => True) (fun h => (fun a1394 c1395 => [(3, .slice a723 s726.2.length c724), (6, .slice a1394 e1397.length c1395), (12, .slice (some ⟨b1273, 0, none⟩) g.l.length c_0_0), (13, .int .i64 (g.l.length : Int)), (14, .int .i64 s726.1)]) h.2.1 h.2.2) (fun h => (fun a1394 c1395 => [Ch.arr (Ty.int .i32) 21 a1394 c1395 e1397, Ch.box g1278 26 [.slice a1275 x1270.cells.length c1276, .bool x1270.wrapped], Ch.box g_0 104 [.int .i64 g.w, .slice (some ⟨b1273, 0, none⟩) g.l.length c_0_0], Ch.arr tyRowRow 26 (some ⟨b1273, 0, none⟩) c_0_0 g.l, Ch.arr Ty.str 9 a723 c724 s726.2]) h.2.1 h.2.2) (fun h => (fun a1394 c1395 => [Im.sl tyRowCell a1275 c1276 x1270.cells]) h.2.1 h.2.2) ?_ ?_
      · refine T.block ?_
        refine T.nil0 (Ty.int .i32) 21 ?_
        refine T.lp (η := (Option Addr × Nat)) (fun s1362 h => (fun a1359 c1360 => [(3, .slice a723 s726.2.length c724), (6, .slice a1359 s1362.2.length c1360), (12, .slice (some ⟨b1273, 0, none⟩) g.l.length c_0_0), (13, .int .i64 (g.l.length : Int)), (14, .int .i64 s726.1), (19, .slice a1282 r1279.length c1283), (20, .int .i64 (r1279.length : Int)), (21, .int .i64 s1362.1)]) h.1 h.2) (fun s1362 h => (fun a1359 c1360 => [Ch.arr (Ty.int .i32) 21 a1359 c1360 s1362.2, Ch.box g1278 26 [.slice a1275 x1270.cells.length c1276, .bool x1270.wrapped], Ch.box g_0 104 [.int .i64 g.w, .slice (some ⟨b1273, 0, none⟩) g.l.length c_0_0], Ch.arr tyRowGlyph 45 a1282 c1283 r1279, Ch.arr tyRowRow 26 (some ⟨b1273, 0, none⟩) c_0_0 g.l, Ch.arr Ty.str 9 a723 c724 s726.2]) h.1 h.2) (fun s1362 h => (fun a1359 c1360 => [Im.sl tyRowCell a1275 c1276 x1270.cells]) h.1 h.2) (none, 0) [0, 1, 3, 0, 0, 0] [0] H1398 ⟨rfl, rfl, rfl, rfl, rfl, rfl, rfl, rfl, trivial⟩ rfl rfl ?_
        rintro k s1362 ⟨a1359, c1360⟩ z1401 H1400 hag1402 hbr1403
        refine T.seq ?_
        refine T.region ?_
        refine L.q 1 rfl ?_
        refine L.nil ?_
        refine E.then ?_
        refine T.seq ?_
        refine T.bif rfl H1400 (fun hc H1405 => ?_) (fun hc H1405 => ?_)
        · refine T.skip ?_
          refine E.then ?_
          refine T.seq ?_
          refine T.block ?_
          refine T.seq ?_
          refine T.region ?_
          obtain ⟨x1420, h1421, H1422⟩ := bnd H1405
          refine L.addro 3 rfl (idx_lt h1421) fun b1423 e1424 => ?_
          obtain rfl : a1282 = some ⟨b1423, 0, none⟩ := e1424
          refine L.y (Yl.ia h1421 rfl rfl rfl rfl rfl rfl) rfl rfl rfl ?_
          refine L.y (Yl.lo (v := .agg #[.int .i32 x1420.rune, .int .i64 x1420.style]) 3 s1362.1.toNat 0 (idx_some h1421).2 rfl rfl rfl rfl (fun _ => rfl)) rfl rfl rfl ?_
          refine L.a [] [] (Ac.alloc rfl rfl) rfl rfl rfl rfl rfl ?_
          intro g1425
          refine L.a [0] [] (Ac.stb rfl rfl rfl rfl rfl rfl) rfl rfl rfl rfl rfl ?_
          intro _
          refine L.nil ?_
          refine E.then ?_
          refine T.region ?_
          refine L.q 2 rfl ?_
          refine L.y (Yl.ldb 0 rfl rfl rfl rfl) rfl rfl rfl ?_
          refine L.a [] [] (Ac.bs (ty := (Ty.int .i32)) (xs := [x1420.rune]) (.cons () [] rfl .nil) rfl rfl rfl rfl rfl rfl rfl) rfl rfl rfl rfl rfl ?_
          intro g1426
          refine L.frz 0 rfl ?_
          obtain ⟨_, h1429, H1430⟩ := bnd H1422
          refine L.a [1] [0] (Ac.ap (ty := (Ty.int .i32)) h1429 rfl rfl rfl rfl rfl rfl rfl) rfl rfl rfl rfl rfl ?_
          rintro ⟨a1431, c1432⟩
          refine L.q 1 rfl ?_
          refine L.nil ?_
          refine E.block ?_
          refine E.then ?_
          refine T.region ?_
          refine L.q 2 rfl ?_
          refine L.nil ?_
          have hr := Option.some.inj H1430
          subst z1401
          exact E.give (_, (a1431, c1432)) [0, 1, 1, 1, 1, 1] [1] (hag1402 _ rfl) ⟨rfl, rfl, rfl, rfl, rfl, rfl, rfl, rfl, trivial⟩ rfl rfl
        · refine T.exit ?_
          refine E.then_exit' ?_
          refine E.then_exit' ?_
          refine E.block_here ?_
          have hr := Option.some.inj H1405
          subst z1401
          have hb := hbr1403 _ rfl
          subst e1397
          exact E.give ((), (a1359, c1360)) [0, 0, 0, 1, 1] [0] trivial ⟨rfl, rfl, rfl, rfl, rfl, trivial⟩ rfl rfl
      · rintro ⟨_, ⟨a1394, c1395⟩⟩ _
        refine T.region ?_
        refine L.q 2 rfl ?_
        obtain ⟨r1434, h1435, H1436⟩ := bnd H1399
        refine L.br (Ac.call (c_glyph_Encode a1394 c1395 h1435) rfl rfl rfl rfl) (Bw.ch 0 rfl (Bw.nil)) rfl rfl rfl ?_
        intro _
        refine L.a [] [] (Ac.bs (ty := Ty.str) (xs := [r1434]) (.cons () [] rfl .nil) rfl rfl rfl rfl rfl rfl rfl) rfl rfl rfl rfl rfl ?_
        intro g1437
        refine L.frz 0 rfl ?_
        obtain ⟨_, h1440, H1441⟩ := bnd H1436
        refine L.a [4] [0] (Ac.ap (ty := Ty.str) h1440 rfl rfl rfl rfl rfl rfl rfl) rfl rfl rfl rfl rfl ?_
        rintro ⟨a1442, c1443⟩
        refine L.q 1 rfl ?_
        refine L.nil ?_
        refine E.block ?_
        refine E.then ?_
        refine T.region ?_
        refine L.q 2 rfl ?_
        refine L.nil ?_
        have hr := Option.some.inj H1441
        subst z1089
        exact E.give (_, (a1442, c1443)) [0, 2, 2] [] (hag1090 _ rfl) ⟨rfl, rfl, rfl, rfl, trivial⟩ rfl rfl
    · refine T.exit ?_
      refine E.then_exit' ?_
      refine E.then_exit' ?_
      refine E.block_here ?_
      have hr := Option.some.inj H1093
      subst z1089
      have hb := hbr1091 _ rfl
      subst e1085
      exact E.give ((), (a723, c724)) [0, 0, 0] [] trivial ⟨rfl, trivial⟩ rfl rfl
  · rintro ⟨_, ⟨a1082, c1083⟩⟩ _
    refine T.seq ?_
    refine T.region ?_
    refine L.q 2 rfl ?_
    refine L.nil ?_
    refine E.then ?_
    refine T.ret ?_
    have hr := Option.some.inj H1087
    subst r
    exact E.ret (a1082, c1083) [0, 0, 0] [] (.tmp rfl .nil) rfl rfl rfl

theorem c_law10_awake {r : Bool} (H : p_law10_awake = some r) : CT G 28 [] [] [Im.sl tyWideSpan (some ⟨0, 0, none⟩) 13 t_wide_nones, Im.sl tyWideSpan (some ⟨1, 0, none⟩) 14 t_wide_twos] (fun h : Unit => .bool r) (fun h => []) (fun h => []) := by
  delta p_law10_awake at H
  refine CT.of Go.Proofs.Tryd.func28 (by kernel_rfl) rfl rfl rfl fun K => ?_
  refine T.seq ?_
  refine T.region ?_
  refine L.q 1 rfl ?_
  refine L.nil ?_
  refine E.then ?_
  refine T.seq ?_
  refine T.region ?_
  obtain ⟨r1, h2, H3⟩ := bnd H
  refine L.a [] [] (Ac.call (c_grid_New h2) rfl rfl rfl rfl) rfl rfl rfl rfl rfl ?_
  rintro ⟨g4, ⟨a5, c6⟩⟩
  refine L.q 1 rfl ?_
  refine L.nil ?_
  refine E.then ?_
  refine T.seq ?_
  refine T.seq ?_
  refine T.region ?_
  refine L.q 1 rfl ?_
  refine L.y (Yl.pn rfl rfl rfl rfl rfl rfl) rfl rfl rfl ?_
  refine L.nil ?_
  refine E.then ?_
  refine T.cond rfl (fun h => nomatch h) (fun _ => ?_)
  refine T.skip ?_
  refine E.then ?_
  refine T.seq ?_
  refine T.seq ?_
  refine T.region ?_
  refine L.a [] [] (Ac.bs (ty := (Ty.int .i32)) (xs := [97, 98, 99]) (.cons () [] rfl (.cons () [] rfl (.cons () [] rfl .nil))) rfl rfl rfl rfl rfl rfl rfl) rfl rfl rfl rfl rfl ?_
  intro g8
  refine L.q 2 rfl ?_
  refine L.nil ?_
  refine E.then ?_
  obtain ⟨e142, H143, H144⟩ := bnd H3
  refine T.join (η := Unit × Unit) (fun h => True) (fun h => [(1, .pointer (some ⟨g4, 0, none⟩))]) (fun h => [Ch.arr tyRowRow 26 a5 c6 e142.l, Ch.box g4 104 [.int .i64 e142.w, .slice a5 e142.l.length c6]]) (fun h => [Im.sl tyWideSpan (some ⟨0, 0, none⟩) 13 t_wide_nones, Im.sl tyWideSpan (some ⟨1, 0, none⟩) 14 t_wide_twos]) ?_ ?_
  · refine T.block ?_
    refine T.lp (η := Unit) (fun s99 h => [(1, .pointer (some ⟨g4, 0, none⟩)), (9, .slice (some ⟨g8, 0, none⟩) [97, 98, 99].length 3), (10, .int .i64 ([97, 98, 99].length : Int)), (11, .int .i64 s99.2)]) (fun s99 h => [Ch.arr tyRowRow 26 a5 c6 s99.1.l, Ch.box g4 104 [.int .i64 s99.1.w, .slice a5 s99.1.l.length c6], Ch.arr (Ty.int .i32) 21 (some ⟨g8, 0, none⟩) 3 [97, 98, 99]]) (fun s99 h => [Im.sl tyWideSpan (some ⟨0, 0, none⟩) 13 t_wide_nones, Im.sl tyWideSpan (some ⟨1, 0, none⟩) 14 t_wide_twos]) () [2, 1, 0] [0, 1] H143 ⟨rfl, rfl, rfl, rfl, trivial⟩ rfl rfl ?_
    rintro k s99 ⟨⟩ z146 H145 hag147 hbr148
    refine T.seq ?_
    refine T.region ?_
    refine L.q 1 rfl ?_
    refine L.nil ?_
    refine E.then ?_
    refine T.seq ?_
    refine T.bif rfl H145 (fun hc H150 => ?_) (fun hc H150 => ?_)
    · refine T.skip ?_
      refine E.then ?_
      refine T.seq ?_
      refine T.block ?_
      refine T.seq ?_
      refine T.region ?_
      refine L.q 1 rfl ?_
      obtain ⟨x170, h171, H172⟩ := bnd H150
      refine L.y (Yl.ia h171 rfl rfl rfl rfl rfl rfl) rfl rfl rfl ?_
      refine L.y (Yl.lo (v := .int .i32 x170) 2 s99.2.toNat 0 (idx_some h171).2 rfl rfl rfl rfl (fun _ => rfl)) rfl rfl rfl ?_
      refine L.q 2 rfl ?_
      refine L.nil ?_
      refine E.then ?_
      refine T.region ?_
      refine L.q 4 rfl ?_
      obtain ⟨r173, h174, H175⟩ := bnd H172
      refine L.a [1, 0] [] (Ac.call (c_grid_Grid_Row g4 a5 c6 h174) rfl rfl rfl rfl) rfl rfl rfl rfl rfl ?_
      rintro ⟨a176, c177⟩
      refine L.q 1 rfl ?_
      obtain ⟨r179, h180, H181⟩ := bnd H175
      refine L.a [] [0, 1, 2] (Ac.call (c_row_Row_Put a176 c177 h180) rfl rfl rfl rfl) rfl rfl rfl rfl rfl ?_
      rintro ⟨a182, c183⟩
      obtain ⟨r185, h186, H187⟩ := bnd H181
      refine L.a [0, 0] [0] (Ac.call (c_grid_Grid_Set g4 a5 c6 a182 c183 h186) rfl rfl rfl rfl) rfl rfl rfl rfl rfl ?_
      rintro ⟨⟩
      refine L.nil ?_
      refine E.block ?_
      refine E.then ?_
      refine T.region ?_
      refine L.q 2 rfl ?_
      refine L.nil ?_
      have hr := Option.some.inj H187
      subst z146
      exact E.give (_, ()) [1, 0, 0] [2, 3] (hag147 _ rfl) ⟨rfl, rfl, rfl, rfl, trivial⟩ rfl rfl
    · refine T.exit ?_
      refine E.then_exit' ?_
      refine E.then_exit' ?_
      refine E.block_here ?_
      have hr := Option.some.inj H150
      subst z146
      have hb := hbr148 _ rfl
      subst e142
      exact E.give ((), ()) [0, 0] [0, 1] trivial ⟨rfl, trivial⟩ rfl rfl
  · rintro ⟨_, ⟨⟩⟩ _
    refine T.seq ?_
    refine T.region ?_
    refine L.q 1 rfl ?_
    obtain ⟨r189, h190, H191⟩ := bnd H144
    refine L.a [1, 0] [] (Ac.call (c_grid_Grid_Up g4 a5 c6 h190) rfl rfl rfl rfl) rfl rfl rfl rfl rfl ?_
    rintro ⟨a192, c193⟩
    refine L.q 1 rfl ?_
    refine L.nil ?_
    refine E.then ?_
    refine T.seq ?_
    refine T.region ?_
    refine L.q 1 rfl ?_
    obtain ⟨r196, h197, H198⟩ := bnd H191
    refine L.a [1, 1] [] (Ac.call (c_grid_Grid_Text g4 a5 c6 h197) rfl rfl rfl rfl) rfl rfl rfl rfl rfl ?_
    rintro ⟨a199, c200⟩
    refine L.q 1 rfl ?_
    refine L.nil ?_
    refine E.then ?_
    refine T.seq ?_
    obtain ⟨e279, H280, H281⟩ := bnd H198
    refine T.join (η := Unit × Unit) (fun h => True) (fun h => [(0, .bool e279)]) (fun h => [Ch.box g4 104 [.int .i64 r189.2.w, .slice a5 r189.2.l.length c6], Ch.arr tyRowRow 26 a5 c6 r189.2.l]) (fun h => [Im.sl tyWideSpan (some ⟨0, 0, none⟩) 13 t_wide_nones, Im.sl tyWideSpan (some ⟨1, 0, none⟩) 14 t_wide_twos]) ?_ ?_
    · refine T.region ?_
      refine L.q 4 rfl ?_
      refine L.cs 32 H280 rfl (fun hc H282 => ?_) (fun hc H282 => ?_)
      · refine L.q 1 rfl ?_
        obtain ⟨x283, h284, H285⟩ := bnd H282
        refine L.addro 3 rfl (idx_lt h284) fun b286 e287 => ?_
        obtain rfl : a192 = some ⟨b286, 0, none⟩ := e287
        refine L.y (Yl.ia h284 rfl rfl rfl rfl rfl rfl) rfl rfl rfl ?_
        refine L.q 1 rfl ?_
        refine L.a [3] [] (Ac.lo ((0 : Int).toNat) 0 (v := (fun h : (Option Addr × Nat) => (fun a288 c289 => .slice a288 x283.cells.length c289) h.1 h.2)) (idx_some h284).2 rfl rfl rfl (fun _ => rfl)) rfl rfl rfl rfl rfl ?_
        rintro ⟨a288, c289⟩
        refine L.q 4 rfl ?_
        refine L.cs 40 H285 rfl (fun hc H291 => ?_) (fun hc H291 => ?_)
        · refine L.q 1 rfl ?_
          obtain ⟨x292, h293, H294⟩ := bnd H291
          refine L.y (Yl.ia h293 rfl rfl rfl rfl rfl rfl) rfl rfl rfl ?_
          refine L.q 1 rfl ?_
          refine L.a [0] [] (Ac.lo ((0 : Int).toNat) 0 (v := (fun h : (Option Addr × Nat) => (fun a295 c296 => .slice a295 x292.cells.length c296) h.1 h.2)) (idx_some h293).2 rfl rfl rfl (fun _ => rfl)) rfl rfl rfl rfl rfl ?_
          rintro ⟨a295, c296⟩
          obtain ⟨x298, h299, H300⟩ := bnd H294
          refine L.addr 0 rfl (idx_lt h299) fun b301 o302 e303 => ?_
          obtain rfl : a295 = some ⟨b301, o302, none⟩ := e303
          refine L.y (Yl.ia h299 rfl rfl rfl rfl rfl rfl) rfl rfl rfl ?_
          refine L.el 0 rfl (idx_some h299).2 ?_
          rintro _
          refine L.q 1 rfl ?_
          refine L.y (Yl.ldc 0 0 rfl rfl rfl rfl) rfl rfl rfl ?_
          refine L.q 3 rfl ?_
          refine L.cs 50 H300 rfl (fun hc H305 => ?_) (fun hc H305 => ?_)
          · refine L.q 5 rfl ?_
            refine L.cs 55 H305 rfl (fun hc H306 => ?_) (fun hc H306 => ?_)
            · refine L.q 1 rfl ?_
              obtain ⟨x307, h308, H309⟩ := bnd H306
              refine L.addro 1 rfl (idx_lt h308) fun b310 e311 => ?_
              obtain rfl : a199 = some ⟨b310, 0, none⟩ := e311
              refine L.y (Yl.ia h308 rfl rfl rfl rfl rfl rfl) rfl rfl rfl ?_
              refine L.y (Yl.lo (v := .string x307) 1 ((0 : Int).toNat) 0 (idx_some h308).2 rfl rfl rfl rfl (fun _ => rfl)) rfl rfl rfl ?_
              refine L.q 3 rfl ?_
              refine L.cs 61 H309 rfl (fun hc H312 => ?_) (fun hc H312 => ?_)
              · refine L.q 1 rfl ?_
                obtain ⟨x313, h314, H315⟩ := bnd H312
                refine L.y (Yl.ia h314 rfl rfl rfl rfl rfl rfl) rfl rfl rfl ?_
                refine L.y (Yl.lo (v := .string x313) 1 ((1 : Int).toNat) 0 (idx_some h314).2 rfl rfl rfl rfl (fun _ => rfl)) rfl rfl rfl ?_
                refine L.q 3 rfl ?_
                refine L.cs 67 H315 rfl (fun hc H316 => ?_) (fun hc H316 => ?_)
                · refine L.q 1 rfl ?_
                  obtain ⟨x317, h318, H319⟩ := bnd H316
                  refine L.y (Yl.ia h318 rfl rfl rfl rfl rfl rfl) rfl rfl rfl ?_
                  refine L.y (Yl.lo (v := .string x317) 1 ((2 : Int).toNat) 0 (idx_some h318).2 rfl rfl rfl rfl (fun _ => rfl)) rfl rfl rfl ?_
                  refine L.q 3 rfl ?_
                  refine L.nil ?_
                  have hr := Option.some.inj H319
                  subst e279
                  exact E.give ((), ()) [2, 2] [3, 4] trivial ⟨rfl, trivial⟩ rfl rfl
                · refine L.q 6 rfl ?_
                  refine L.nil ?_
                  have hr := Option.some.inj H316
                  subst e279
                  exact E.give ((), ()) [2, 2] [3, 4] trivial ⟨rfl, trivial⟩ rfl rfl
              · refine L.q 12 rfl ?_
                refine L.nil ?_
                have hr := Option.some.inj H312
                subst e279
                exact E.give ((), ()) [2, 2] [3, 4] trivial ⟨rfl, trivial⟩ rfl rfl
            · refine L.q 18 rfl ?_
              refine L.nil ?_
              have hr := Option.some.inj H306
              subst e279
              exact E.give ((), ()) [2, 2] [3, 4] trivial ⟨rfl, trivial⟩ rfl rfl
          · refine L.q 23 rfl ?_
            refine L.nil ?_
            have hr := Option.some.inj H305
            subst e279
            exact E.give ((), ()) [2, 2] [3, 4] trivial ⟨rfl, trivial⟩ rfl rfl
        · refine L.q 33 rfl ?_
          refine L.nil ?_
          have hr := Option.some.inj H291
          subst e279
          exact E.give ((), ()) [2, 2] [1, 2] trivial ⟨rfl, trivial⟩ rfl rfl
      · refine L.q 41 rfl ?_
        refine L.nil ?_
        have hr := Option.some.inj H282
        subst e279
        exact E.give ((), ()) [1, 1] [0, 1] trivial ⟨rfl, trivial⟩ rfl rfl
    · rintro ⟨_, ⟨⟩⟩ _
      refine T.ret ?_
      have hr := Option.some.inj H281
      subst r
      exact E.ret () [] [] (.tmp rfl .nil) rfl rfl rfl

theorem c_law10_small {n_ : Int} {r : Int} (H : p_law10_small n_ = some r) : CT G 30 [.int .i64 n_] [] [] (fun h : Unit => .int .i64 r) (fun h => []) (fun h => []) := by
  delta p_law10_small at H
  refine CT.of Go.Proofs.Tryd.func30 (by kernel_rfl) rfl rfl rfl fun K => ?_
  refine T.seq ?_
  refine T.region ?_
  refine L.q 1 rfl ?_
  refine L.nil ?_
  refine E.then ?_
  refine T.seq ?_
  refine T.seq ?_
  obtain ⟨e4, H5, H6⟩ := bnd H
  refine T.join (η := Unit × Unit) (fun h => True) (fun h => [(0, .int .i64 n_), (8, .bool e4)]) (fun h => []) (fun h => []) ?_ ?_
  · refine T.region ?_
    refine L.q 3 rfl ?_
    refine L.cs 5 H5 rfl (fun hc H7 => ?_) (fun hc H7 => ?_)
    · refine L.q 3 rfl ?_
      refine L.nil ?_
      have hr := Option.some.inj H7
      subst e4
      exact E.give ((), ()) [] [] trivial ⟨rfl, rfl, trivial⟩ rfl rfl
    · refine L.q 3 rfl ?_
      refine L.nil ?_
      have hr := Option.some.inj H7
      subst e4
      exact E.give ((), ()) [] [] trivial ⟨rfl, rfl, trivial⟩ rfl rfl
  · rintro ⟨_, ⟨⟩⟩ _
    refine T.bif rfl H6 (fun hc H9 => ?_) (fun hc H9 => ?_)
    · refine T.seq ?_
      refine T.region ?_
      refine L.q 1 rfl ?_
      refine L.nil ?_
      refine E.then ?_
      refine T.ret ?_
      refine E.then_ret ?_
      have hr := Option.some.inj H9
      subst r
      exact E.ret () [] [] (.tmp rfl .nil) rfl rfl rfl
    · refine T.skip ?_
      refine E.then ?_
      refine T.seq ?_
      refine T.region ?_
      refine L.q 3 rfl ?_
      refine L.nil ?_
      refine E.then ?_
      refine T.ret ?_
      have hr := Option.some.inj H9
      subst r
      exact E.ret () [] [] (.tmp rfl .nil) rfl rfl rfl

theorem c_ref10_size {n_ : Int} {r : Int} (H : p_ref10_size n_ = some r) : CT G 63 [.int .i64 n_] [] [] (fun h : Unit => .int .i64 r) (fun h => []) (fun h => []) := by
  delta p_ref10_size at H
  refine CT.of Go.Proofs.Tryd.func63 (by kernel_rfl) rfl rfl rfl fun K => ?_
  refine T.seq ?_
  refine T.region ?_
  refine L.q 1 rfl ?_
  refine L.nil ?_
  refine E.then ?_
  refine T.seq ?_
  refine T.region ?_
  refine L.q 4 rfl ?_
  refine L.nil ?_
  refine E.then ?_
  refine T.ret ?_
  have hr := Option.some.inj H
  subst r
  exact E.ret () [] [] (.tmp rfl .nil) rfl rfl rfl

theorem c_ref10_New {w : Int} {h_ : Int} {r : Ref10Grid} (H : p_ref10_New w h_ = some r) : CT G 31 [.int .i64 w, .int .i64 h_] [] [] (fun h : (Option Addr × Nat) => .agg #[.int .i64 r.w, .slice h.1 r.l.length h.2]) (fun h => []) (fun h => [Im.sl tyRef09Row h.1 h.2 r.l]) := by
  delta p_ref10_New at H
  refine CT.of Go.Proofs.Tryd.func31 (by kernel_rfl) rfl rfl rfl fun K => ?_
  refine T.seq ?_
  refine T.region ?_
  refine L.a [] [] (Ac.alloc rfl rfl) rfl rfl rfl rfl rfl ?_
  intro g1
  refine L.nil ?_
  refine E.then ?_
  refine T.seq ?_
  refine T.region ?_
  refine L.q 1 rfl ?_
  obtain ⟨r2, h3, H4⟩ := bnd H
  refine L.a [] [] (Ac.call (c_ref10_size h3) rfl rfl rfl rfl) rfl rfl rfl rfl rfl ?_
  rintro ⟨⟩
  refine L.q 1 rfl ?_
  refine L.a [] [] (Ac.alloc rfl rfl) rfl rfl rfl rfl rfl ?_
  intro g5
  refine L.a [0] [] (Ac.stb rfl rfl rfl rfl rfl rfl) rfl rfl rfl rfl rfl ?_
  intro _
  refine L.nil ?_
  refine E.then ?_
  refine T.seq ?_
  refine T.seq ?_
  refine T.region ?_
  refine L.q 1 rfl ?_
  refine L.nil ?_
  refine E.then ?_
  obtain ⟨e213, H214, H215⟩ := bnd H4
  refine T.join (η := Unit × ((Option Addr × Nat))) (fun h => True) (fun h => (fun a210 c211 => [(4, .pointer (some ⟨g1, 0, none⟩)), (5, .pointer (some ⟨g5, 0, none⟩))]) h.2.1 h.2.2) (fun h => (fun a210 c211 => [Ch.arr tyRef09Row 30 a210 c211 e213.l, Ch.box g5 59 [.int .i64 e213.w, .slice a210 e213.l.length c211], Ch.box g1 59 [.int .i64 0, .slice none 0 0]]) h.2.1 h.2.2) (fun h => (fun a210 c211 => []) h.2.1 h.2.2) ?_ ?_
  · refine T.block ?_
    refine T.nil0 tyRef09Row 30 ?_
    refine T.lp (η := (Option Addr × Nat)) (fun s147 h => (fun a143 c144 => [(1, .int .i64 h_), (4, .pointer (some ⟨g1, 0, none⟩)), (5, .pointer (some ⟨g5, 0, none⟩)), (6, .int .i64 s147.2)]) h.1 h.2) (fun s147 h => (fun a143 c144 => [Ch.arr tyRef09Row 30 a143 c144 s147.1.l, Ch.box g5 59 [.int .i64 s147.1.w, .slice a143 s147.1.l.length c144], Ch.box g1 59 [.int .i64 0, .slice none 0 0]]) h.1 h.2) (fun s147 h => (fun a143 c144 => []) h.1 h.2) (none, 0) [0, 0, 0] [] H214 ⟨rfl, rfl, rfl, rfl, trivial⟩ rfl rfl ?_
    rintro k s147 ⟨a143, c144⟩ z217 H216 hag218 hbr219
    refine T.seq ?_
    refine T.seq ?_
    refine T.region ?_
    refine L.q 2 rfl ?_
    obtain ⟨r220, h221, H222⟩ := bnd H216
    refine L.a [] [] (Ac.call (c_ref10_size h221) rfl rfl rfl rfl) rfl rfl rfl rfl rfl ?_
    rintro ⟨⟩
    refine L.q 1 rfl ?_
    refine L.nil ?_
    refine E.then ?_
    refine T.bif rfl H222 (fun hc H224 => ?_) (fun hc H224 => ?_)
    · refine T.skip ?_
      refine E.then ?_
      refine T.seq ?_
      refine T.block ?_
      refine T.draw [8] [1, 1] mo (by rfl) rfl ?_
      refine D.q 0 rfl rfl rfl rfl rfl rfl ?_
      refine D.y 1 (Yl.ldb 0 rfl rfl rfl rfl) rfl rfl rfl rfl rfl rfl ?_
      refine D.q 2 rfl rfl rfl rfl rfl rfl ?_
      refine D.y 3 (Yl.ldb 0 rfl rfl rfl rfl) rfl rfl rfl rfl rfl rfl ?_
      obtain ⟨r267, h268, H269⟩ := bnd H224
      refine D.one rfl rfl rfl (Dp.a [] [] (Ac.call (c_ref09_Blank h268) rfl rfl rfl rfl) rfl rfl rfl rfl rfl rfl ?_)
      rintro ⟨a270, c271⟩
      refine D.one rfl rfl rfl (Dp.a [] [0] (Ac.bs (ty := tyRef09Row) (xs := [r267]) (.cons (a270, c271) [0] rfl .nil) rfl rfl rfl rfl rfl rfl rfl) rfl rfl rfl rfl rfl rfl ?_)
      intro g273
      refine D.frz 0 rfl ?_
      obtain ⟨_, h276, H277⟩ := bnd H269
      refine D.one rfl rfl rfl (Dp.a [0] [0] (Ac.ap (ty := tyRef09Row) h276 rfl rfl rfl rfl rfl rfl rfl) rfl rfl rfl rfl rfl rfl ?_)
      rintro ⟨a278, c279⟩
      refine D.q 7 rfl rfl rfl rfl rfl rfl ?_
      refine D.one rfl rfl rfl (Dp.al [0] [] (Ac.stb rfl rfl rfl rfl rfl rfl) rfl rfl rfl rfl rfl rfl rfl ?_)
      intro _
      refine D.nil rfl rfl ?_
      refine E.block ?_
      refine E.then ?_
      refine T.region ?_
      refine L.q 3 rfl ?_
      refine L.nil ?_
      have hr := Option.some.inj H277
      subst z217
      exact E.give (_, (a278, c279)) [2, 0, 0] [] (hag218 _ rfl) ⟨rfl, rfl, rfl, rfl, trivial⟩ rfl rfl
    · refine T.exit ?_
      refine E.then_exit' ?_
      refine E.then_exit' ?_
      refine E.block_here ?_
      have hr := Option.some.inj H224
      subst z217
      have hb := hbr219 _ rfl
      subst e213
      exact E.give ((), (a143, c144)) [0, 0, 0] [] trivial ⟨rfl, rfl, trivial⟩ rfl rfl
  · rintro ⟨_, ⟨a210, c211⟩⟩ _
    refine T.seq ?_
    refine T.region ?_
    refine L.y (Yl.ldb 1 rfl rfl rfl rfl) rfl rfl rfl ?_
    refine L.a [2] [] (Ac.stb rfl rfl rfl rfl rfl rfl) rfl rfl rfl rfl rfl ?_
    intro _
    refine L.nil ?_
    refine E.then ?_
    refine T.ret ?_
    refine E.frz 1 rfl ?_
    have hr := Option.some.inj H215
    subst r
    exact E.ret (a210, c211) [] [0] (.cell 0 rfl rfl rfl .nil) rfl rfl rfl

theorem c_ref10_Set {g : Ref10Grid} {y : Int} {r_ : Ref09Row} (a_0_0 : Option Addr) (c_0_0 : Nat) (a_2_0 : Option Addr) (c_2_0 : Nat) {r : Ref10Grid × Bool} (H : p_ref10_Set g y r_ = some r) : CT G 64 [.agg #[.int .i64 g.w, .slice a_0_0 g.l.length c_0_0], .int .i64 y, .agg #[.slice a_2_0 r_.l.length c_2_0, .bool r_.wrapped]] [] [Im.sl tyRef09Row a_0_0 c_0_0 g.l, Im.sl tyRef09Cell a_2_0 c_2_0 r_.l] (fun h : (Option Addr × Nat) => .tuple #[.agg #[.int .i64 r.1.w, .slice h.1 r.1.l.length h.2], .bool r.2]) (fun h => []) (fun h => [Im.sl tyRef09Row h.1 h.2 r.1.l]) := by
  delta p_ref10_Set at H
  refine CT.of Go.Proofs.Tryd.func64 (by kernel_rfl) rfl rfl rfl fun K => ?_
  refine T.seq ?_
  refine T.region ?_
  refine L.a [] [] (Ac.box rfl rfl) rfl rfl rfl rfl rfl ?_
  intro g1
  refine L.a [] [] (Ac.box rfl rfl) rfl rfl rfl rfl rfl ?_
  intro g2
  refine L.a [] [] (Ac.alloc rfl rfl) rfl rfl rfl rfl rfl ?_
  intro g3
  refine L.q 1 rfl ?_
  refine L.nil ?_
  refine E.then ?_
  refine T.seq ?_
  refine T.seq ?_
  obtain ⟨e7, H8, H9⟩ := bnd H
  refine T.join (η := Unit × Unit) (fun h => True) (fun h => [(1, .int .i64 y), (3, .pointer (some ⟨g1, 0, none⟩)), (5, .pointer (some ⟨g2, 0, none⟩)), (6, .pointer (some ⟨g3, 0, none⟩)), (17, .bool e7)]) (fun h => [Ch.box g3 59 [.int .i64 0, .slice none 0 0], Ch.box g2 30 [.slice a_2_0 r_.l.length c_2_0, .bool r_.wrapped], Ch.box g1 59 [.int .i64 g.w, .slice a_0_0 g.l.length c_0_0]]) (fun h => [Im.sl tyRef09Row a_0_0 c_0_0 g.l, Im.sl tyRef09Cell a_2_0 c_2_0 r_.l]) ?_ ?_
  · refine T.region ?_
    refine L.q 3 rfl ?_
    refine L.cs 11 H8 rfl (fun hc H10 => ?_) (fun hc H10 => ?_)
    · refine L.q 6 rfl ?_
      refine L.nil ?_
      have hr := Option.some.inj H10
      subst e7
      exact E.give ((), ()) [0, 0, 0] [0, 1] trivial ⟨rfl, rfl, rfl, rfl, rfl, trivial⟩ rfl rfl
    · refine L.q 2 rfl ?_
      refine L.y (Yl.ldb 2 rfl rfl rfl rfl) rfl rfl rfl ?_
      refine L.q 3 rfl ?_
      refine L.nil ?_
      have hr := Option.some.inj H10
      subst e7
      exact E.give ((), ()) [0, 0, 0] [0, 1] trivial ⟨rfl, rfl, rfl, rfl, rfl, trivial⟩ rfl rfl
  · rintro ⟨_, ⟨⟩⟩ _
    refine T.bif rfl H9 (fun hc H12 => ?_) (fun hc H12 => ?_)
    · refine T.seq ?_
      refine T.region ?_
      refine L.y (Yl.ldb 2 rfl rfl rfl rfl) rfl rfl rfl ?_
      refine L.a [0] [] (Ac.stb rfl rfl rfl rfl rfl rfl) rfl rfl rfl rfl rfl ?_
      intro _
      refine L.q 1 rfl ?_
      refine L.nil ?_
      refine E.then ?_
      refine T.ret ?_
      refine E.then_ret ?_
      have hr := Option.some.inj H12
      subst r
      exact E.ret (a_0_0, c_0_0) [] [0] (.cell 0 rfl rfl rfl (.tmp rfl .nil)) rfl rfl rfl
    · refine T.skip ?_
      refine E.then ?_
      refine T.seq ?_
      refine T.region ?_
      refine L.a [] [] (Ac.bs (ty := tyRef09Row) (xs := []) .nil rfl rfl rfl rfl rfl rfl rfl) rfl rfl rfl rfl rfl ?_
      intro g13
      refine L.q 1 rfl ?_
      refine L.y (Yl.ldb 3 rfl rfl rfl rfl) rfl rfl rfl ?_
      obtain ⟨_, h15, H16⟩ := bnd H12
      refine L.a [0] [0] (Ac.ap (ty := tyRef09Row) h15 rfl rfl rfl rfl rfl rfl rfl) rfl rfl rfl rfl rfl ?_
      rintro ⟨a17, c18⟩
      refine L.q 1 rfl ?_
      refine L.nil ?_
      refine E.then ?_
      refine T.seq ?_
      refine T.region ?_
      refine L.q 2 rfl ?_
      refine L.y (Yl.ldb 2 rfl rfl rfl rfl) rfl rfl rfl ?_
      refine L.q 1 rfl ?_
      refine L.y (Yl.ldb 3 rfl rfl rfl rfl) rfl rfl rfl ?_
      obtain ⟨r20, h21, H22⟩ := bnd H16
      refine L.a [] [1] (Ac.call (c_ref09_Resize a_2_0 c_2_0 h21) rfl rfl rfl rfl) rfl rfl rfl rfl rfl ?_
      rintro ⟨a23, c24⟩
      obtain ⟨x26, h27, H28⟩ := bnd H22
      refine L.addro 0 rfl (idx_lt h27) fun b29 e30 => ?_
      obtain rfl : a17 = some ⟨b29, 0, none⟩ := e30
      refine L.y (Yl.ia h27 rfl rfl rfl rfl rfl rfl) rfl rfl rfl ?_
      refine L.a [0] [0] (Ac.se 0 r20 (idx_some h27).2 rfl rfl rfl rfl rfl rfl (fun _ => ⟨(a23, c24), rfl, [1], rfl⟩)) rfl rfl rfl rfl rfl ?_
      intro _
      refine L.sl 8 (k' := ((([] : List Ref09Row) ++ g.l).set y.toNat r20).length) (List.length_set ..) rfl ?_
      refine L.nil ?_
      refine E.then ?_
      refine T.seq ?_
      refine T.region ?_
      refine L.q 1 rfl ?_
      refine L.y (Yl.ldb 3 rfl rfl rfl rfl) rfl rfl rfl ?_
      refine L.q 2 rfl ?_
      refine L.a [1] [] (Ac.stb rfl rfl rfl rfl rfl rfl) rfl rfl rfl rfl rfl ?_
      intro _
      refine L.q 1 rfl ?_
      refine L.nil ?_
      refine E.then ?_
      refine T.ret ?_
      refine E.frz 1 rfl ?_
      have hr := Option.some.inj H28
      subst r
      exact E.ret ((some ⟨b29, 0, none⟩), c18) [] [0] (.cell 0 rfl rfl rfl (.tmp rfl .nil)) rfl rfl rfl

theorem c_ref10_Move {g : Ref10Grid} {up : Bool} {top : Int} {bottom : Int} {n_ : Int} {style : Int} (a_0_0 : Option Addr) (c_0_0 : Nat) {r : Ref10Grid × (List Ref09Row)} (H : p_ref10_Move g up top bottom n_ style = some r) : CT G 65 [.agg #[.int .i64 g.w, .slice a_0_0 g.l.length c_0_0], .bool up, .int .i64 top, .int .i64 bottom, .int .i64 n_, .int .i64 style] [] [Im.sl tyRef09Row a_0_0 c_0_0 g.l] (fun h : (Option Addr × Nat) × (Option Addr × Nat) => .tuple #[.agg #[.int .i64 r.1.w, .slice h.1.1 r.1.l.length h.1.2], .slice h.2.1 r.2.length h.2.2]) (fun h => [Ch.arr tyRef09Row 30 h.2.1 h.2.2 r.2]) (fun h => [Im.sl tyRef09Row h.1.1 h.1.2 r.1.l]) := by
  delta p_ref10_Move at H
  refine CT.of Go.Proofs.Tryd.func65 (by kernel_rfl) rfl rfl rfl fun K => ?_
  refine T.seq ?_
  refine T.region ?_
  refine L.a [] [] (Ac.box rfl rfl) rfl rfl rfl rfl rfl ?_
  intro g1
  refine L.a [] [] (Ac.alloc rfl rfl) rfl rfl rfl rfl rfl ?_
  intro g2
  refine L.q 1 rfl ?_
  refine L.nil ?_
  refine E.then ?_
  refine T.seq ?_
  refine T.region ?_
  refine L.q 1 rfl ?_
  refine L.y (Yl.ldb 1 rfl rfl rfl rfl) rfl rfl rfl ?_
  refine L.q 3 rfl ?_
  refine L.nil ?_
  refine E.then ?_
  refine T.seq ?_
  refine T.region ?_
  refine L.q 5 rfl ?_
  refine L.nil ?_
  refine E.then ?_
  refine T.seq ?_
  refine T.region ?_
  refine L.q 5 rfl ?_
  refine L.nil ?_
  refine E.then ?_
  refine T.seq ?_
  refine T.region ?_
  refine L.a [] [] (Ac.bs (ty := tyRef09Row) (xs := []) .nil rfl rfl rfl rfl rfl rfl rfl) rfl rfl rfl rfl rfl ?_
  intro g3
  refine L.q 1 rfl ?_
  refine L.nil ?_
  refine E.then ?_
  refine T.seq ?_
  refine T.seq ?_
  refine T.region ?_
  refine L.q 3 rfl ?_
  refine L.nil ?_
  refine E.then ?_
  refine T.bif rfl H (fun hc H6 => ?_) (fun hc H6 => ?_)
  · refine T.seq ?_
    refine T.region ?_
    refine L.y (Yl.ldb 2 rfl rfl rfl rfl) rfl rfl rfl ?_
    refine L.q 1 rfl ?_
    refine L.a [1] [] (Ac.stb rfl rfl rfl rfl rfl rfl) rfl rfl rfl rfl rfl ?_
    intro _
    refine L.q 1 rfl ?_
    refine L.nil ?_
    refine E.then ?_
    refine T.ret ?_
    refine E.then_ret ?_
    have hr := Option.some.inj H6
    subst r
    exact E.ret ((a_0_0, c_0_0), ((some ⟨g3, 0, none⟩), 0)) [1] [0] (.cell 0 rfl rfl rfl (.tmp rfl .nil)) rfl rfl rfl
  · refine T.skip ?_
    refine E.then ?_
    refine T.seq ?_
    refine T.region ?_
    refine L.a [] [] (Ac.bs (ty := tyRef09Row) (xs := []) .nil rfl rfl rfl rfl rfl rfl rfl) rfl rfl rfl rfl rfl ?_
    intro g7
    refine L.q 1 rfl ?_
    refine L.y (Yl.ldb 3 rfl rfl rfl rfl) rfl rfl rfl ?_
    obtain ⟨_, h9, H10⟩ := bnd H6
    refine L.a [0] [0] (Ac.ap (ty := tyRef09Row) h9 rfl rfl rfl rfl rfl rfl rfl) rfl rfl rfl rfl rfl ?_
    rintro ⟨a11, c12⟩
    refine L.q 1 rfl ?_
    refine L.nil ?_
    refine E.then ?_
    refine T.seq ?_
    refine T.region ?_
    refine L.q 1 rfl ?_
    refine L.y (Yl.ldb 3 rfl rfl rfl rfl) rfl rfl rfl ?_
    refine L.q 1 rfl ?_
    obtain ⟨r14, h15, H16⟩ := bnd H10
    refine L.a [] [] (Ac.call (c_ref09_Blank h15) rfl rfl rfl rfl) rfl rfl rfl rfl rfl ?_
    rintro ⟨a17, c18⟩
    refine L.a [] [] (Ac.alloc rfl rfl) rfl rfl rfl rfl rfl ?_
    intro g20
    refine L.a [0] [] (Ac.stb rfl rfl rfl rfl rfl rfl) rfl rfl rfl rfl rfl ?_
    intro _
    refine L.nil ?_
    refine E.then ?_
    refine T.seq ?_
    refine T.seq ?_
    refine T.region ?_
    refine L.q 1 rfl ?_
    refine L.nil ?_
    refine E.then ?_
    obtain ⟨e2398, H2399, H2400⟩ := bnd H16
    refine T.join (η := Unit × ((Option Addr × Nat))) (fun h => True) (fun h => (fun a2393 c2394 => [(6, .pointer (some ⟨g1, 0, none⟩)), (12, .pointer (some ⟨g2, 0, none⟩)), (15, .slice a2393 e2398.1.length c2394), (16, .slice a11 e2398.2.length c12)]) h.2.1 h.2.2) (fun h => (fun a2393 c2394 => [Ch.arr tyRef09Row 30 a2393 c2394 e2398.1, Ch.arr tyRef09Row 30 a11 c12 e2398.2, Ch.box g20 30 [.slice a17 r14.l.length c18, .bool r14.wrapped], Ch.box g2 59 [.int .i64 0, .slice none 0 0], Ch.box g1 59 [.int .i64 g.w, .slice a_0_0 g.l.length c_0_0]]) h.2.1 h.2.2) (fun h => (fun a2393 c2394 => [Im.sl tyRef09Cell a17 c18 r14.l, Im.sl tyRef09Row a_0_0 c_0_0 g.l]) h.2.1 h.2.2) ?_ ?_
    · refine T.block ?_
      refine T.lp (η := (Option Addr × Nat)) (fun s1608 h => (fun a1602 c1603 => [(1, .bool up), (2, .int .i64 (imax 0 (imin top (IntKind.i64.wrap ((g.l.length : Int) - 1))))), (3, .int .i64 (imax 0 (imin bottom (IntKind.i64.wrap ((g.l.length : Int) - 1))))), (4, .int .i64 n_), (6, .pointer (some ⟨g1, 0, none⟩)), (12, .pointer (some ⟨g2, 0, none⟩)), (15, .slice a1602 s1608.1.length c1603), (16, .slice a11 s1608.2.1.length c12), (17, .pointer (some ⟨g20, 0, none⟩)), (18, .int .i64 s1608.2.2)]) h.1 h.2) (fun s1608 h => (fun a1602 c1603 => [Ch.arr tyRef09Row 30 a1602 c1603 s1608.1, Ch.arr tyRef09Row 30 a11 c12 s1608.2.1, Ch.box g20 30 [.slice a17 r14.l.length c18, .bool r14.wrapped], Ch.box g2 59 [.int .i64 0, .slice none 0 0], Ch.box g1 59 [.int .i64 g.w, .slice a_0_0 g.l.length c_0_0]]) h.1 h.2) (fun s1608 h => (fun a1602 c1603 => [Im.sl tyRef09Cell a17 c18 r14.l, Im.sl tyRef09Row a_0_0 c_0_0 g.l]) h.1 h.2) ((some ⟨g3, 0, none⟩), 0) [2, 1, 0, 0, 0] [0, 1] H2399 ⟨rfl, rfl, rfl, rfl, rfl, rfl, rfl, rfl, rfl, rfl, trivial⟩ rfl rfl ?_
      rintro k s1608 ⟨a1602, c1603⟩ z2402 H2401 hag2403 hbr2404
      refine T.seq ?_
      refine T.seq ?_
      obtain ⟨e2408, H2409, H2410⟩ := bnd H2401
      refine T.join (η := Unit × Unit) (fun h => True) (fun h => [(1, .bool up), (2, .int .i64 (imax 0 (imin top (IntKind.i64.wrap ((g.l.length : Int) - 1))))), (3, .int .i64 (imax 0 (imin bottom (IntKind.i64.wrap ((g.l.length : Int) - 1))))), (4, .int .i64 n_), (6, .pointer (some ⟨g1, 0, none⟩)), (12, .pointer (some ⟨g2, 0, none⟩)), (15, .slice a1602 s1608.1.length c1603), (16, .slice a11 s1608.2.1.length c12), (17, .pointer (some ⟨g20, 0, none⟩)), (18, .int .i64 s1608.2.2), (56, .bool e2408)]) (fun h => [Ch.box g20 30 [.slice a17 r14.l.length c18, .bool r14.wrapped], Ch.box g2 59 [.int .i64 0, .slice none 0 0], Ch.box g1 59 [.int .i64 g.w, .slice a_0_0 g.l.length c_0_0], Ch.arr tyRef09Row 30 a1602 c1603 s1608.1, Ch.arr tyRef09Row 30 a11 c12 s1608.2.1]) (fun h => [Im.sl tyRef09Cell a17 c18 r14.l, Im.sl tyRef09Row a_0_0 c_0_0 g.l]) ?_ ?_
      · refine T.region ?_
        refine L.q 4 rfl ?_
        refine L.cs 50 H2409 rfl (fun hc H2411 => ?_) (fun hc H2411 => ?_)
        · refine L.q 6 rfl ?_
          refine L.nil ?_
          have hr := Option.some.inj H2411
          subst e2408
          exact E.give ((), ()) [2, 2, 2, 0, 0] [0, 1] trivial ⟨rfl, rfl, rfl, rfl, rfl, rfl, rfl, rfl, rfl, rfl, rfl, trivial⟩ rfl rfl
        · refine L.q 6 rfl ?_
          refine L.nil ?_
          have hr := Option.some.inj H2411
          subst e2408
          exact E.give ((), ()) [2, 2, 2, 0, 0] [0, 1] trivial ⟨rfl, rfl, rfl, rfl, rfl, rfl, rfl, rfl, rfl, rfl, rfl, trivial⟩ rfl rfl
      · rintro ⟨_, ⟨⟩⟩ _
        refine T.bif rfl H2410 (fun hc H2413 => ?_) (fun hc H2413 => ?_)
        · refine T.skip ?_
          refine E.then ?_
          refine T.seq ?_
          obtain ⟨e2930, H2931, H2932⟩ := bnd H2413
          refine T.join (η := Unit × ((Option Addr × Nat))) (fun h => True) (fun h => (fun a2925 c2926 => [(1, .bool up), (2, .int .i64 (imax 0 (imin top (IntKind.i64.wrap ((g.l.length : Int) - 1))))), (3, .int .i64 (imax 0 (imin bottom (IntKind.i64.wrap ((g.l.length : Int) - 1))))), (4, .int .i64 n_), (6, .pointer (some ⟨g1, 0, none⟩)), (12, .pointer (some ⟨g2, 0, none⟩)), (15, .slice a2925 e2930.1.length c2926), (16, .slice a11 e2930.2.length c12), (17, .pointer (some ⟨g20, 0, none⟩)), (18, .int .i64 s1608.2.2)]) h.2.1 h.2.2) (fun h => (fun a2925 c2926 => [Ch.arr tyRef09Row 30 a2925 c2926 e2930.1, Ch.arr tyRef09Row 30 a11 c12 e2930.2, Ch.box g20 30 [.slice a17 r14.l.length c18, .bool r14.wrapped], Ch.box g2 59 [.int .i64 0, .slice none 0 0], Ch.box g1 59 [.int .i64 g.w, .slice a_0_0 g.l.length c_0_0]]) h.2.1 h.2.2) (fun h => (fun a2925 c2926 => [Im.sl tyRef09Cell a17 c18 r14.l, Im.sl tyRef09Row a_0_0 c_0_0 g.l]) h.2.1 h.2.2) ?_ ?_
          · refine T.block ?_
            refine T.seq ?_
            refine T.region ?_
            refine L.q 1 rfl ?_
            refine L.nil ?_
            refine E.then ?_
            refine T.bif rfl H2931 (fun hc H2933 => ?_) (fun hc H2933 => ?_)
            · refine T.seq ?_
              refine T.region ?_
              refine L.q 3 rfl ?_
              obtain ⟨x2934, h2935, H2936⟩ := bnd H2933
              refine L.addro 4 rfl (idx_lt h2935) fun b2937 e2938 => ?_
              obtain rfl : a11 = some ⟨b2937, 0, none⟩ := e2938
              refine L.y (Yl.ia h2935 rfl rfl rfl rfl rfl rfl) rfl rfl rfl ?_
              refine L.a [4] [] (Ac.lo ((imax 0 (imin top (IntKind.i64.wrap ((g.l.length : Int) - 1)))).toNat) 0 (v := (fun h : (Option Addr × Nat) => (fun a2939 c2940 => .agg #[.slice a2939 x2934.l.length c2940, .bool x2934.wrapped]) h.1 h.2)) (idx_some h2935).2 rfl rfl rfl (fun _ => rfl)) rfl rfl rfl rfl rfl ?_
              rintro ⟨a2939, c2940⟩
              refine L.a [] [0] (Ac.bs (ty := tyRef09Row) (xs := [x2934]) (.cons (a2939, c2940) [0] rfl .nil) rfl rfl rfl rfl rfl rfl rfl) rfl rfl rfl rfl rfl ?_
              intro g2942
              refine L.frz 0 rfl ?_
              obtain ⟨_, h2945, H2946⟩ := bnd H2936
              refine L.a [4] [0] (Ac.ap (ty := tyRef09Row) h2945 rfl rfl rfl rfl rfl rfl rfl) rfl rfl rfl rfl rfl ?_
              rintro ⟨a2947, c2948⟩
              refine L.q 1 rfl ?_
              refine L.nil ?_
              refine E.then ?_
              refine T.seq ?_
              refine T.seq ?_
              refine T.region ?_
              refine L.q 2 rfl ?_
              refine L.nil ?_
              refine E.then ?_
              obtain ⟨e3028, H3029, H3030⟩ := bnd H2946
              refine T.join (η := Unit × Unit) (fun h => True) (fun h => [(1, .bool up), (2, .int .i64 (imax 0 (imin top (IntKind.i64.wrap ((g.l.length : Int) - 1))))), (3, .int .i64 (imax 0 (imin bottom (IntKind.i64.wrap ((g.l.length : Int) - 1))))), (4, .int .i64 n_), (6, .pointer (some ⟨g1, 0, none⟩)), (12, .pointer (some ⟨g2, 0, none⟩)), (15, .slice a2947 (s1608.1 ++ [x2934]).length c2948), (16, .slice (some ⟨b2937, 0, none⟩) e3028.length c12), (17, .pointer (some ⟨g20, 0, none⟩)), (18, .int .i64 s1608.2.2)]) (fun h => [Ch.arr tyRef09Row 30 (some ⟨b2937, 0, none⟩) c12 e3028, Ch.box g20 30 [.slice a17 r14.l.length c18, .bool r14.wrapped], Ch.box g2 59 [.int .i64 0, .slice none 0 0], Ch.box g1 59 [.int .i64 g.w, .slice a_0_0 g.l.length c_0_0], Ch.arr tyRef09Row 30 a2947 c2948 (s1608.1 ++ [x2934])]) (fun h => [Im.sl tyRef09Row (some ⟨g2942, 0, none⟩) 1 [x2934], Im.sl tyRef09Cell a2939 c2940 x2934.l, Im.sl tyRef09Cell a17 c18 r14.l, Im.sl tyRef09Row a_0_0 c_0_0 g.l]) ?_ ?_
              · refine T.block ?_
                refine T.lp (η := Unit) (fun s3003 h => [(1, .bool up), (2, .int .i64 (imax 0 (imin top (IntKind.i64.wrap ((g.l.length : Int) - 1))))), (3, .int .i64 (imax 0 (imin bottom (IntKind.i64.wrap ((g.l.length : Int) - 1))))), (4, .int .i64 n_), (6, .pointer (some ⟨g1, 0, none⟩)), (12, .pointer (some ⟨g2, 0, none⟩)), (15, .slice a2947 (s1608.1 ++ [x2934]).length c2948), (16, .slice (some ⟨b2937, 0, none⟩) s3003.1.length c12), (17, .pointer (some ⟨g20, 0, none⟩)), (18, .int .i64 s1608.2.2), (19, .int .i64 s3003.2)]) (fun s3003 h => [Ch.arr tyRef09Row 30 (some ⟨b2937, 0, none⟩) c12 s3003.1, Ch.box g20 30 [.slice a17 r14.l.length c18, .bool r14.wrapped], Ch.box g2 59 [.int .i64 0, .slice none 0 0], Ch.box g1 59 [.int .i64 g.w, .slice a_0_0 g.l.length c_0_0], Ch.arr tyRef09Row 30 a2947 c2948 (s1608.1 ++ [x2934])]) (fun s3003 h => [Im.sl tyRef09Row (some ⟨g2942, 0, none⟩) 1 [x2934], Im.sl tyRef09Cell a2939 c2940 x2934.l, Im.sl tyRef09Cell a17 c18 r14.l, Im.sl tyRef09Row a_0_0 c_0_0 g.l]) () [1, 1, 1, 1, 0] [0, 1, 2, 3] H3029 ⟨rfl, rfl, rfl, rfl, rfl, rfl, rfl, rfl, rfl, rfl, rfl, trivial⟩ rfl rfl ?_
                rintro k s3003 ⟨⟩ z3032 H3031 hag3033 hbr3034
                refine T.seq ?_
                refine T.seq ?_
                refine T.region ?_
                refine L.q 3 rfl ?_
                refine L.nil ?_
                refine E.then ?_
                refine T.bif rfl H3031 (fun hc H3036 => ?_) (fun hc H3036 => ?_)
                · refine T.skip ?_
                  refine E.then ?_
                  refine T.seq ?_
                  refine T.block ?_
                  refine T.region ?_
                  refine L.q 5 rfl ?_
                  obtain ⟨x3047, h3048, H3049⟩ := bnd H3036
                  refine L.y (Yl.ia h3048 rfl rfl rfl rfl rfl rfl) rfl rfl rfl ?_
                  refine L.a [0] [] (Ac.lo ((IntKind.i64.wrap (s3003.2 + 1)).toNat) 0 (v := (fun h : (Option Addr × Nat) => (fun a3050 c3051 => .agg #[.slice a3050 x3047.l.length c3051, .bool x3047.wrapped]) h.1 h.2)) (idx_some h3048).2 rfl rfl rfl (fun _ => rfl)) rfl rfl rfl rfl rfl ?_
                  rintro ⟨a3050, c3051⟩
                  obtain ⟨x3053, h3054, H3055⟩ := bnd H3049
                  refine L.y (Yl.ia h3054 rfl rfl rfl rfl rfl rfl) rfl rfl rfl ?_
                  refine L.a [0] [0] (Ac.se 0 x3047 (idx_some h3054).2 rfl rfl rfl rfl rfl rfl (fun _ => ⟨(a3050, c3051), rfl, [1], rfl⟩)) rfl rfl rfl rfl rfl ?_
                  intro _
                  refine L.sl 16 (k' := (s3003.1.set s3003.2.toNat x3047).length) (List.length_set ..) rfl ?_
                  refine L.nil ?_
                  refine E.block ?_
                  refine E.then ?_
                  refine T.region ?_
                  refine L.q 3 rfl ?_
                  refine L.nil ?_
                  have hr := Option.some.inj H3055
                  subst z3032
                  exact E.give (_, ()) [0, 0, 0, 0, 0] [1, 2, 3, 4] (hag3033 _ rfl) ⟨rfl, rfl, rfl, rfl, rfl, rfl, rfl, rfl, rfl, rfl, rfl, trivial⟩ rfl rfl
                · refine T.exit ?_
                  refine E.then_exit' ?_
                  refine E.then_exit' ?_
                  refine E.block_here ?_
                  have hr := Option.some.inj H3036
                  subst z3032
                  have hb := hbr3034 _ rfl
                  subst e3028
                  exact E.give ((), ()) [0, 0, 0, 0, 0] [0, 1, 2, 3] trivial ⟨rfl, rfl, rfl, rfl, rfl, rfl, rfl, rfl, rfl, rfl, trivial⟩ rfl rfl
              · rintro ⟨_, ⟨⟩⟩ _
                refine T.region ?_
                refine L.q 2 rfl ?_
                refine L.y (Yl.ldb 1 rfl rfl rfl rfl) rfl rfl rfl ?_
                obtain ⟨x3057, h3058, H3059⟩ := bnd H3030
                refine L.y (Yl.ia h3058 rfl rfl rfl rfl rfl rfl) rfl rfl rfl ?_
                refine L.a [0] [2] (Ac.se 0 r14 (idx_some h3058).2 rfl rfl rfl rfl rfl rfl (fun _ => ⟨(a17, c18), rfl, [1], rfl⟩)) rfl rfl rfl rfl rfl ?_
                intro _
                refine L.sl 16 (k' := (e3028.set ((imax 0 (imin bottom (IntKind.i64.wrap ((g.l.length : Int) - 1)))).toNat) r14).length) (List.length_set ..) rfl ?_
                refine L.nil ?_
                refine E.block ?_
                have hr := Option.some.inj H3059
                subst e2930
                exact E.give ((), (a2947, c2948)) [4, 0, 0, 0, 0] [2, 3] trivial ⟨rfl, rfl, rfl, rfl, rfl, rfl, rfl, rfl, rfl, rfl, trivial⟩ rfl rfl
            · refine T.seq ?_
              refine T.region ?_
              refine L.q 3 rfl ?_
              obtain ⟨x3061, h3062, H3063⟩ := bnd H2933
              refine L.addro 4 rfl (idx_lt h3062) fun b3064 e3065 => ?_
              obtain rfl : a11 = some ⟨b3064, 0, none⟩ := e3065
              refine L.y (Yl.ia h3062 rfl rfl rfl rfl rfl rfl) rfl rfl rfl ?_
              refine L.a [4] [] (Ac.lo ((imax 0 (imin bottom (IntKind.i64.wrap ((g.l.length : Int) - 1)))).toNat) 0 (v := (fun h : (Option Addr × Nat) => (fun a3066 c3067 => .agg #[.slice a3066 x3061.l.length c3067, .bool x3061.wrapped]) h.1 h.2)) (idx_some h3062).2 rfl rfl rfl (fun _ => rfl)) rfl rfl rfl rfl rfl ?_
              rintro ⟨a3066, c3067⟩
              refine L.a [] [0] (Ac.bs (ty := tyRef09Row) (xs := [x3061]) (.cons (a3066, c3067) [0] rfl .nil) rfl rfl rfl rfl rfl rfl rfl) rfl rfl rfl rfl rfl ?_
              intro g3069
              refine L.frz 0 rfl ?_
              obtain ⟨_, h3072, H3073⟩ := bnd H3063
              refine L.a [4] [0] (Ac.ap (ty := tyRef09Row) h3072 rfl rfl rfl rfl rfl rfl rfl) rfl rfl rfl rfl rfl ?_
              rintro ⟨a3074, c3075⟩
              refine L.q 1 rfl ?_
              refine L.nil ?_
              refine E.then ?_
              refine T.seq ?_
              refine T.seq ?_
              refine T.region ?_
              refine L.q 2 rfl ?_
              refine L.nil ?_
              refine E.then ?_
              obtain ⟨e3155, H3156, H3157⟩ := bnd H3073
              refine T.join (η := Unit × Unit) (fun h => True) (fun h => [(1, .bool up), (2, .int .i64 (imax 0 (imin top (IntKind.i64.wrap ((g.l.length : Int) - 1))))), (3, .int .i64 (imax 0 (imin bottom (IntKind.i64.wrap ((g.l.length : Int) - 1))))), (4, .int .i64 n_), (6, .pointer (some ⟨g1, 0, none⟩)), (12, .pointer (some ⟨g2, 0, none⟩)), (15, .slice a3074 (s1608.1 ++ [x3061]).length c3075), (16, .slice (some ⟨b3064, 0, none⟩) e3155.length c12), (17, .pointer (some ⟨g20, 0, none⟩)), (18, .int .i64 s1608.2.2)]) (fun h => [Ch.arr tyRef09Row 30 (some ⟨b3064, 0, none⟩) c12 e3155, Ch.box g20 30 [.slice a17 r14.l.length c18, .bool r14.wrapped], Ch.box g2 59 [.int .i64 0, .slice none 0 0], Ch.box g1 59 [.int .i64 g.w, .slice a_0_0 g.l.length c_0_0], Ch.arr tyRef09Row 30 a3074 c3075 (s1608.1 ++ [x3061])]) (fun h => [Im.sl tyRef09Row (some ⟨g3069, 0, none⟩) 1 [x3061], Im.sl tyRef09Cell a3066 c3067 x3061.l, Im.sl tyRef09Cell a17 c18 r14.l, Im.sl tyRef09Row a_0_0 c_0_0 g.l]) ?_ ?_
              · refine T.block ?_
                refine T.lp (η := Unit) (fun s3130 h => [(1, .bool up), (2, .int .i64 (imax 0 (imin top (IntKind.i64.wrap ((g.l.length : Int) - 1))))), (3, .int .i64 (imax 0 (imin bottom (IntKind.i64.wrap ((g.l.length : Int) - 1))))), (4, .int .i64 n_), (6, .pointer (some ⟨g1, 0, none⟩)), (12, .pointer (some ⟨g2, 0, none⟩)), (15, .slice a3074 (s1608.1 ++ [x3061]).length c3075), (16, .slice (some ⟨b3064, 0, none⟩) s3130.1.length c12), (17, .pointer (some ⟨g20, 0, none⟩)), (18, .int .i64 s1608.2.2), (20, .int .i64 s3130.2)]) (fun s3130 h => [Ch.arr tyRef09Row 30 (some ⟨b3064, 0, none⟩) c12 s3130.1, Ch.box g20 30 [.slice a17 r14.l.length c18, .bool r14.wrapped], Ch.box g2 59 [.int .i64 0, .slice none 0 0], Ch.box g1 59 [.int .i64 g.w, .slice a_0_0 g.l.length c_0_0], Ch.arr tyRef09Row 30 a3074 c3075 (s1608.1 ++ [x3061])]) (fun s3130 h => [Im.sl tyRef09Row (some ⟨g3069, 0, none⟩) 1 [x3061], Im.sl tyRef09Cell a3066 c3067 x3061.l, Im.sl tyRef09Cell a17 c18 r14.l, Im.sl tyRef09Row a_0_0 c_0_0 g.l]) () [1, 1, 1, 1, 0] [0, 1, 2, 3] H3156 ⟨rfl, rfl, rfl, rfl, rfl, rfl, rfl, rfl, rfl, rfl, rfl, trivial⟩ rfl rfl ?_
                rintro k s3130 ⟨⟩ z3159 H3158 hag3160 hbr3161
                refine T.seq ?_
                refine T.seq ?_
                refine T.region ?_
                refine L.q 3 rfl ?_
                refine L.nil ?_
                refine E.then ?_
                refine T.bif rfl H3158 (fun hc H3163 => ?_) (fun hc H3163 => ?_)
                · refine T.skip ?_
                  refine E.then ?_
                  refine T.seq ?_
                  refine T.block ?_
                  refine T.region ?_
                  refine L.q 5 rfl ?_
                  obtain ⟨x3174, h3175, H3176⟩ := bnd H3163
                  refine L.y (Yl.ia h3175 rfl rfl rfl rfl rfl rfl) rfl rfl rfl ?_
                  refine L.a [0] [] (Ac.lo ((IntKind.i64.wrap (s3130.2 - 1)).toNat) 0 (v := (fun h : (Option Addr × Nat) => (fun a3177 c3178 => .agg #[.slice a3177 x3174.l.length c3178, .bool x3174.wrapped]) h.1 h.2)) (idx_some h3175).2 rfl rfl rfl (fun _ => rfl)) rfl rfl rfl rfl rfl ?_
                  rintro ⟨a3177, c3178⟩
                  obtain ⟨x3180, h3181, H3182⟩ := bnd H3176
                  refine L.y (Yl.ia h3181 rfl rfl rfl rfl rfl rfl) rfl rfl rfl ?_
                  refine L.a [0] [0] (Ac.se 0 x3174 (idx_some h3181).2 rfl rfl rfl rfl rfl rfl (fun _ => ⟨(a3177, c3178), rfl, [1], rfl⟩)) rfl rfl rfl rfl rfl ?_
                  intro _
                  refine L.sl 16 (k' := (s3130.1.set s3130.2.toNat x3174).length) (List.length_set ..) rfl ?_
                  refine L.nil ?_
                  refine E.block ?_
                  refine E.then ?_
                  refine T.region ?_
                  refine L.q 3 rfl ?_
                  refine L.nil ?_
                  have hr := Option.some.inj H3182
                  subst z3159
                  exact E.give (_, ()) [0, 0, 0, 0, 0] [1, 2, 3, 4] (hag3160 _ rfl) ⟨rfl, rfl, rfl, rfl, rfl, rfl, rfl, rfl, rfl, rfl, rfl, trivial⟩ rfl rfl
                · refine T.exit ?_
                  refine E.then_exit' ?_
                  refine E.then_exit' ?_
                  refine E.block_here ?_
                  have hr := Option.some.inj H3163
                  subst z3159
                  have hb := hbr3161 _ rfl
                  subst e3155
                  exact E.give ((), ()) [0, 0, 0, 0, 0] [0, 1, 2, 3] trivial ⟨rfl, rfl, rfl, rfl, rfl, rfl, rfl, rfl, rfl, rfl, trivial⟩ rfl rfl
              · rintro ⟨_, ⟨⟩⟩ _
                refine T.region ?_
                refine L.q 2 rfl ?_
                refine L.y (Yl.ldb 1 rfl rfl rfl rfl) rfl rfl rfl ?_
                obtain ⟨x3184, h3185, H3186⟩ := bnd H3157
                refine L.y (Yl.ia h3185 rfl rfl rfl rfl rfl rfl) rfl rfl rfl ?_
                refine L.a [0] [2] (Ac.se 0 r14 (idx_some h3185).2 rfl rfl rfl rfl rfl rfl (fun _ => ⟨(a17, c18), rfl, [1], rfl⟩)) rfl rfl rfl rfl rfl ?_
                intro _
                refine L.sl 16 (k' := (e3155.set ((imax 0 (imin top (IntKind.i64.wrap ((g.l.length : Int) - 1)))).toNat) r14).length) (List.length_set ..) rfl ?_
                refine L.nil ?_
                refine E.block ?_
                have hr := Option.some.inj H3186
                subst e2930
                exact E.give ((), (a3074, c3075)) [4, 0, 0, 0, 0] [2, 3] trivial ⟨rfl, rfl, rfl, rfl, rfl, rfl, rfl, rfl, rfl, rfl, trivial⟩ rfl rfl
          · rintro ⟨_, ⟨a2925, c2926⟩⟩ _
            refine T.region ?_
            refine L.q 3 rfl ?_
            refine L.nil ?_
            have hr := Option.some.inj H2932
            subst z2402
            exact E.give (_, (a2925, c2926)) [0, 0, 0, 0, 0] [0, 1] (hag2403 _ rfl) ⟨rfl, rfl, rfl, rfl, rfl, rfl, rfl, rfl, rfl, rfl, trivial⟩ rfl rfl
        · refine T.exit ?_
          refine E.then_exit' ?_
          refine E.then_exit' ?_
          refine E.block_here ?_
          have hr := Option.some.inj H2413
          subst z2402
          have hb := hbr2404 _ rfl
          subst e2398
          exact E.give ((), (a1602, c1603)) [3, 3, 0, 0, 0] [0, 1] trivial ⟨rfl, rfl, rfl, rfl, trivial⟩ rfl rfl
    · rintro ⟨_, ⟨a2393, c2394⟩⟩ _
      refine T.seq ?_
      refine T.region ?_
      refine L.q 1 rfl ?_
      refine L.y (Yl.ldb 4 rfl rfl rfl rfl) rfl rfl rfl ?_
      refine L.q 3 rfl ?_
      refine L.a [3] [] (Ac.stb rfl rfl rfl rfl rfl rfl) rfl rfl rfl rfl rfl ?_
      intro _
      refine L.q 1 rfl ?_
      refine L.nil ?_
      refine E.then ?_
      refine T.ret ?_
      refine E.frz 2 rfl ?_
      have hr := Option.some.inj H2400
      subst r
      exact E.ret ((a11, c12), (a2393, c2394)) [1] [0] (.cell 0 rfl rfl rfl (.tmp rfl .nil)) rfl rfl rfl

end Go.Tw.X

set_option linter.unusedVariables false
set_option linter.unusedSimpArgs false
set_option maxRecDepth 10000
namespace Go.Tw.X
open Go Go.Tw
theorem c_law10_Rows {l : List RowRow} {x_ : List Ref09Row} (a_0 : Option Addr) (c_0 : Nat) (a_1 : Option Addr) (c_1 : Nat) {r : Bool} (H : p_law10_Rows l x_ = some r) : CT G 37 [.slice a_0 l.length c_0, .slice a_1 x_.length c_1] [] [Im.sl tyRowRow a_0 c_0 l, Im.sl tyRef09Row a_1 c_1 x_] (fun h : Unit => .bool r) (fun h => []) (fun h => []) := by
  delta p_law10_Rows at H
  refine CT.of Go.Proofs.Tryd.func37 (by kernel_rfl) rfl rfl rfl fun K => ?_
  refine T.seq ?_
  refine T.region ?_
  refine L.q 1 rfl ?_
  refine L.nil ?_
  refine E.then ?_
  refine T.seq ?_
  refine T.seq ?_
  refine T.region ?_
  refine L.q 5 rfl ?_
  refine L.nil ?_
  refine E.then ?_
  refine T.bif rfl H (fun hc H2 => ?_) (fun hc H2 => ?_)
  · refine T.seq ?_
    refine T.region ?_
    refine L.q 1 rfl ?_
    refine L.nil ?_
    refine E.then ?_
    refine T.ret ?_
    refine E.then_ret ?_
    have hr := Option.some.inj H2
    subst r
    exact E.ret () [] [] (.tmp rfl .nil) rfl rfl rfl
  · refine T.skip ?_
    refine E.then ?_
    refine T.seq ?_
    refine T.seq ?_
    refine T.region ?_
    refine L.q 3 rfl ?_
    refine L.nil ?_
    refine E.then ?_
    obtain ⟨y572, H573, H574⟩ := bnd H2
    refine T.join (η := Unit × Unit) (fun h => y572 = .inl h.1) (fun h => (fun e571 => []) h.1) (fun h => (fun e571 => []) h.1) (fun h => (fun e571 => [Im.sl tyRowRow a_0 c_0 l, Im.sl tyRef09Row a_1 c_1 x_]) h.1) ?_ ?_
    · refine T.block ?_
      refine T.lp (η := Unit) (fun s382 h => [(0, .slice a_0 l.length c_0), (1, .slice a_1 x_.length c_1), (12, .int .i64 (x_.length : Int)), (13, .int .i64 s382)]) (fun s382 h => []) (fun s382 h => [Im.sl tyRowRow a_0 c_0 l, Im.sl tyRef09Row a_1 c_1 x_]) () [] [0, 1] H573 ⟨rfl, rfl, rfl, rfl, trivial⟩ rfl rfl ?_
      rintro k s382 ⟨⟩ z576 H575 hag577 hbr578
      refine T.seq ?_
      refine T.region ?_
      refine L.q 1 rfl ?_
      refine L.nil ?_
      refine E.then ?_
      refine T.seq ?_
      refine T.bif rfl H575 (fun hc H580 => ?_) (fun hc H580 => ?_)
      · refine T.skip ?_
        refine E.then ?_
        refine T.seq ?_
        refine T.block ?_
        refine T.seq ?_
        refine T.region ?_
        refine L.q 2 rfl ?_
        refine L.nil ?_
        refine E.then ?_
        refine T.seq ?_
        refine T.draw [] [] mo (by rfl) rfl ?_
        refine D.q 0 rfl rfl rfl rfl rfl rfl ?_
        refine D.q 1 rfl rfl rfl rfl rfl rfl ?_
        obtain ⟨x743, h744, H745⟩ := bnd H580
        refine D.addr 0 rfl (idx_lt h744) fun b746 o747 e748 => ?_
        obtain rfl : a_0 = some ⟨b746, o747, none⟩ := e748
        refine D.y 2 (Yl.ia h744 rfl rfl rfl rfl rfl rfl) rfl rfl rfl rfl rfl rfl ?_
        refine D.el 0 rfl (idx_some h744).2 ?_
        rintro ⟨a749, c750⟩
        refine D.y 3 (Yl.ldc 0 0 rfl rfl rfl rfl) rfl rfl rfl rfl rfl rfl ?_
        refine D.q 4 rfl rfl rfl rfl rfl rfl ?_
        refine D.q 5 rfl rfl rfl rfl rfl rfl ?_
        obtain ⟨x753, h754, H755⟩ := bnd H745
        refine D.addr 3 rfl (idx_lt h754) fun b756 o757 e758 => ?_
        obtain rfl : a_1 = some ⟨b756, o757, none⟩ := e758
        refine D.y 6 (Yl.ia h754 rfl rfl rfl rfl rfl rfl) rfl rfl rfl rfl rfl rfl ?_
        refine D.el 3 rfl (idx_some h754).2 ?_
        rintro ⟨a759, c760⟩
        refine D.y 7 (Yl.ldc 0 0 rfl rfl rfl rfl) rfl rfl rfl rfl rfl rfl ?_
        obtain ⟨r763, h764, H765⟩ := bnd H755
        refine D.one rfl rfl rfl (Dp.a [] [3, 1] (Ac.call (c_law09_Is a749 c750 a759 c760 h764) rfl rfl rfl rfl) rfl rfl rfl rfl rfl rfl ?_)
        rintro ⟨⟩
        refine D.q 9 rfl rfl rfl rfl rfl rfl ?_
        refine D.nil rfl rfl ?_
        refine E.then ?_
        refine T.bif rfl H765 (fun hc H766 => ?_) (fun hc H766 => ?_)
        · refine T.seq ?_
          refine T.region ?_
          refine L.q 1 rfl ?_
          refine L.nil ?_
          refine E.then ?_
          refine T.ret ?_
          refine E.block_ret ?_
          refine E.then_ret ?_
          refine E.then_ret ?_
          refine E.block_ret ?_
          obtain ⟨w767, hz, H768⟩ := inrr_some H766
          subst z576
          have hb := hbr578 _ rfl
          subst y572
          have hw : w767 = r := Option.some.inj H574
          subst w767
          refine E.then_ret ?_
          have hr := Option.some.inj H768
          subst r
          exact E.ret () [] [] (.tmp rfl .nil) rfl rfl rfl
        · refine T.skip ?_
          refine E.block ?_
          refine E.then ?_
          refine T.region ?_
          refine L.q 2 rfl ?_
          refine L.nil ?_
          have hr := Option.some.inj H766
          subst z576
          exact E.give (_, ()) [] [4, 5] (hag577 _ rfl) ⟨rfl, rfl, rfl, rfl, trivial⟩ rfl rfl
      · refine T.exit ?_
        refine E.then_exit' ?_
        refine E.then_exit' ?_
        refine E.block_here ?_
        have hr := Option.some.inj H580
        subst z576
        have hb := hbr578 _ rfl
        subst y572
        exact E.give (_, ()) [] [0, 1] rfl trivial rfl rfl
    · rintro ⟨e571, ⟨⟩⟩ hy
      subst hy
      refine T.seq ?_
      refine T.region ?_
      refine L.q 1 rfl ?_
      refine L.nil ?_
      refine E.then ?_
      refine T.ret ?_
      have hr := Option.some.inj H574
      subst r
      exact E.ret () [] [] (.tmp rfl .nil) rfl rfl rfl

theorem c_slices_Reverse_row_Row {s_ : List RowRow} (a_0 : Option Addr) (c_0 : Nat) {r : (List RowRow)} (H : p_slices_Reverse_row_Row s_ = some r) : CT G 73 [.slice a_0 s_.length c_0] [Ch.arr tyRowRow 26 a_0 c_0 s_] [] (fun h : Unit => .tuple #[]) (fun h => [Ch.arr tyRowRow 26 a_0 c_0 r]) (fun h => []) := by
  delta p_slices_Reverse_row_Row at H
  refine CT.of Go.Proofs.Tryd.func73 (by kernel_rfl) rfl rfl rfl fun K => ?_
  refine T.seq ?_
  refine T.region ?_
  refine L.q 5 rfl ?_
  refine L.nil ?_
  refine E.then ?_
  obtain ⟨e937, H938, H939⟩ := bnd H
  refine T.joinE (η := Unit × Unit) (fun h => True) (fun h => [(0, .slice a_0 e937.length c_0)]) (fun h => [Ch.arr tyRowRow 26 a_0 c_0 e937]) (fun h => []) ?_ ?_
  · refine T.block ?_
    refine T.lp (η := Unit) (fun s627 h => [(0, .slice a_0 s627.1.length c_0), (2, .int .i64 s627.2.1), (3, .int .i64 s627.2.2)]) (fun s627 h => [Ch.arr tyRowRow 26 a_0 c_0 s627.1]) (fun s627 h => []) () [0] [] H938 ⟨rfl, rfl, rfl, trivial⟩ rfl rfl ?_
    rintro k s627 ⟨⟩ z941 H940 hag942 hbr943
    refine T.seq ?_
    refine T.seq ?_
    refine T.region ?_
    refine L.q 3 rfl ?_
    refine L.nil ?_
    refine E.then ?_
    refine T.bif rfl H940 (fun hc H945 => ?_) (fun hc H945 => ?_)
    · refine T.skip ?_
      refine E.then ?_
      refine T.seq ?_
      obtain ⟨e1148, H1149, H1150⟩ := bnd H945
      refine T.join (η := Unit × Unit) (fun h => True) (fun h => [(0, .slice a_0 e1148.length c_0), (2, .int .i64 s627.2.1), (3, .int .i64 s627.2.2)]) (fun h => [Ch.arr tyRowRow 26 a_0 c_0 e1148]) (fun h => []) ?_ ?_
      · refine T.block ?_
        refine T.draw [15] [] mo (by rfl) rfl ?_
        refine D.q 0 rfl rfl rfl rfl rfl rfl ?_
        refine D.q 1 rfl rfl rfl rfl rfl rfl ?_
        refine D.q 2 rfl rfl rfl rfl rfl rfl ?_
        refine D.q 3 rfl rfl rfl rfl rfl rfl ?_
        refine D.q 4 rfl rfl rfl rfl rfl rfl ?_
        refine D.q 5 rfl rfl rfl rfl rfl rfl ?_
        obtain ⟨x1201, h1202, H1203⟩ := bnd H1149
        refine D.addro 0 rfl (idx_lt h1202) fun b1204 e1205 => ?_
        obtain rfl : a_0 = some ⟨b1204, 0, none⟩ := e1205
        refine D.y 6 (Yl.ia h1202 rfl rfl rfl rfl rfl rfl) rfl rfl rfl rfl rfl rfl ?_
        refine D.q 8 rfl rfl rfl rfl rfl rfl ?_
        refine D.q 9 rfl rfl rfl rfl rfl rfl ?_
        obtain ⟨x1206, h1207, H1208⟩ := bnd H1203
        refine D.y 10 (Yl.ia h1207 rfl rfl rfl rfl rfl rfl) rfl rfl rfl rfl rfl rfl ?_
        obtain ⟨x1215, h1216, H1225⟩ := bnd H1208
        obtain ⟨x1219, h1220, H1226⟩ := bnd H1225
        refine D.two rfl rfl rfl ?_ ?_
        · refine Dp.a [0] [] (Ac.lo s627.2.2.toNat 0 (v := (fun h : (Option Addr × Nat) => (fun a1227 c1228 => .agg #[.slice a1227 x1201.cells.length c1228, .bool x1201.wrapped]) h.1 h.2)) (idx_some h1202).2 rfl rfl rfl (fun _ => rfl)) rfl rfl rfl rfl rfl rfl ?_
          rintro ⟨a1227, c1228⟩
          refine D.one rfl rfl rfl (Dp.a [0] [] (Ac.lo s627.2.1.toNat 0 (v := (fun h : (Option Addr × Nat) => (fun a1230 c1231 => .agg #[.slice a1230 x1206.cells.length c1231, .bool x1206.wrapped]) h.1 h.2)) (idx_some h1207).2 rfl rfl rfl (fun _ => rfl)) rfl rfl rfl rfl rfl rfl ?_)
          rintro ⟨a1230, c1231⟩
          refine D.y 12 (Yl.ia h1216 rfl rfl rfl rfl rfl rfl) rfl rfl rfl rfl rfl rfl ?_
          refine D.one rfl rfl rfl (Dp.a [0] [1] (Ac.se 0 x1201 (idx_some h1216).2 rfl rfl rfl rfl rfl rfl (fun _ => ⟨(a1227, c1228), rfl, [1], rfl⟩)) rfl rfl rfl rfl rfl rfl ?_)
          intro _
          refine D.y 14 (Yl.ia h1220 rfl rfl rfl rfl rfl rfl) rfl rfl rfl rfl rfl rfl ?_
          obtain ⟨y1236, hy1237⟩ := set_some (idx_some h1220).2
          refine D.one rfl rfl rfl (Dp.al [0] [0] (Ac.se 0 x1206 hy1237 rfl rfl rfl rfl rfl rfl (fun _ => ⟨(a1230, c1231), rfl, [1], rfl⟩)) rfl rfl rfl rfl rfl rfl rfl ?_)
          intro _
          refine D.nil rfl rfl ?_
          refine E.sl 0 (k' := ((s627.1.set s627.2.1.toNat x1201).set s627.2.2.toNat x1206).length) ((List.length_set ..).trans (List.length_set ..)) rfl ?_
          refine E.block ?_
          have hr := Option.some.inj H1226
          subst e1148
          exact E.give ((), ()) [0] [] trivial ⟨rfl, rfl, rfl, trivial⟩ rfl rfl
        · refine Dp.a [0] [] (Ac.lo s627.2.1.toNat 0 (v := (fun h : (Option Addr × Nat) => (fun a1239 c1240 => .agg #[.slice a1239 x1206.cells.length c1240, .bool x1206.wrapped]) h.1 h.2)) (idx_some h1207).2 rfl rfl rfl (fun _ => rfl)) rfl rfl rfl rfl rfl rfl ?_
          rintro ⟨a1239, c1240⟩
          refine D.one rfl rfl rfl (Dp.a [0] [] (Ac.lo s627.2.2.toNat 0 (v := (fun h : (Option Addr × Nat) => (fun a1242 c1243 => .agg #[.slice a1242 x1201.cells.length c1243, .bool x1201.wrapped]) h.1 h.2)) (idx_some h1202).2 rfl rfl rfl (fun _ => rfl)) rfl rfl rfl rfl rfl rfl ?_)
          rintro ⟨a1242, c1243⟩
          refine D.y 12 (Yl.ia h1216 rfl rfl rfl rfl rfl rfl) rfl rfl rfl rfl rfl rfl ?_
          refine D.one rfl rfl rfl (Dp.a [0] [0] (Ac.se 0 x1201 (idx_some h1216).2 rfl rfl rfl rfl rfl rfl (fun _ => ⟨(a1242, c1243), rfl, [1], rfl⟩)) rfl rfl rfl rfl rfl rfl ?_)
          intro _
          refine D.y 14 (Yl.ia h1220 rfl rfl rfl rfl rfl rfl) rfl rfl rfl rfl rfl rfl ?_
          obtain ⟨y1248, hy1249⟩ := set_some (idx_some h1220).2
          refine D.one rfl rfl rfl (Dp.al [0] [1] (Ac.se 0 x1206 hy1249 rfl rfl rfl rfl rfl rfl (fun _ => ⟨(a1239, c1240), rfl, [1], rfl⟩)) rfl rfl rfl rfl rfl rfl rfl ?_)
          intro _
          refine D.nil rfl rfl ?_
          refine E.sl 0 (k' := ((s627.1.set s627.2.1.toNat x1201).set s627.2.2.toNat x1206).length) ((List.length_set ..).trans (List.length_set ..)) rfl ?_
          refine E.block ?_
          have hr := Option.some.inj H1226
          subst e1148
          exact E.give ((), ()) [0] [] trivial ⟨rfl, rfl, rfl, trivial⟩ rfl rfl
      · rintro ⟨_, ⟨⟩⟩ _
        refine T.region ?_
        refine L.q 6 rfl ?_
        refine L.nil ?_
        have hr := Option.some.inj H1150
        subst z941
        exact E.give (_, ()) [0] [] (hag942 _ rfl) ⟨rfl, rfl, rfl, trivial⟩ rfl rfl
    · refine T.exit ?_
      refine E.then_exit' ?_
      refine E.then_exit' ?_
      refine E.block_here ?_
      have hr := Option.some.inj H945
      subst z941
      have hb := hbr943 _ rfl
      subst e937
      exact E.give ((), ()) [0] [] trivial ⟨rfl, trivial⟩ rfl rfl
  · rintro ⟨_, ⟨⟩⟩ _
    refine E.off ?_
    have hr := Option.some.inj H939
    subst r
    exact E.ret () [0] [] .nil rfl rfl rfl

theorem c_grid_Grid_Down {g : GridGrid} {top : Int} {bottom : Int} {n_ : Int} {style : Int} (g_0 : Nat) (a_0_0 : Option Addr) (c_0_0 : Nat) {r : (List RowRow) × GridGrid} (H : p_grid_Grid_Down g top bottom n_ style = some r) : CT G 38 [.pointer (some ⟨g_0, 0, none⟩), .int .i64 top, .int .i64 bottom, .int .i64 n_, .int .i64 style] [Ch.box g_0 104 [.int .i64 g.w, .slice a_0_0 g.l.length c_0_0], Ch.arr tyRowRow 26 a_0_0 c_0_0 g.l] [] (fun h : (Option Addr × Nat) => .slice h.1 r.1.length h.2) (fun h => [Ch.arr tyRowRow 26 h.1 h.2 r.1, Ch.box g_0 104 [.int .i64 r.2.w, .slice a_0_0 r.2.l.length c_0_0], Ch.arr tyRowRow 26 a_0_0 c_0_0 r.2.l]) (fun h => []) := by
  delta p_grid_Grid_Down at H
  refine CT.of Go.Proofs.Tryd.func38 (by kernel_rfl) rfl rfl rfl fun K => ?_
  refine T.seq ?_
  refine T.region ?_
  refine L.q 1 rfl ?_
  refine L.nil ?_
  refine E.then ?_
  refine T.seq ?_
  refine T.region ?_
  refine L.q 3 rfl ?_
  obtain ⟨r1, h2, H3⟩ := bnd H
  rcases r1 with r1 | r1
  · refine L.a [0, 0] [] (Ac.call (c_grid_Grid_region_a0 g_0 a_0_0 c_0_0 h2) rfl rfl rfl rfl) rfl rfl rfl rfl rfl ?_
    rintro ⟨⟩
    refine L.q 5 rfl ?_
    refine L.nil ?_
    refine E.then ?_
    refine T.seq ?_
    refine T.seq ?_
    refine T.region ?_
    refine L.q 2 rfl ?_
    refine L.nil ?_
    refine E.then ?_
    refine T.cond rfl (fun _ => ?_) (fun h => nomatch h)
    refine T.seq ?_
    refine T.region ?_
    refine L.q 1 rfl ?_
    refine L.nil ?_
    refine E.then ?_
    refine T.ret ?_
    refine E.then_ret ?_
    refine E.nil0 tyRowRow 26 ?_
    have hr := Option.some.inj H3
    subst r
    exact E.ret (none, 0) [0, 0, 0] [] (.tmp rfl .nil) rfl rfl rfl
  · refine L.a [0, 0] [] (Ac.call (c_grid_Grid_region_a1 g_0 a_0_0 c_0_0 h2) rfl rfl rfl rfl) rfl rfl rfl rfl rfl ?_
    rintro ⟨⟩
    obtain ⟨_, h5, H6⟩ := bnd H3
    refine L.cap 1 rfl fun h7 => ?_
    have hv8 : Vw tyRowRow g.l a_0_0 c_0_0 (cuta a_0_0 c_0_0 r1.1 (tyRowRow).sz) (c_0_0 - r1.1.toNat) r1.1 r1.2 := vw_new h5 h7
    refine L.q 5 rfl ?_
    refine L.nil ?_
    refine E.then ?_
    refine T.seq ?_
    refine T.seq ?_
    refine T.region ?_
    refine L.q 2 rfl ?_
    refine L.nil ?_
    refine E.then ?_
    refine T.cond rfl (fun h => nomatch h) (fun _ => ?_)
    refine T.skip ?_
    refine E.then ?_
    refine T.seq ?_
    refine T.region ?_
    refine L.q 3 rfl ?_
    obtain ⟨r9, h10, H11⟩ := bnd H6
    refine L.a [] [] (Ac.call (c_grid_clip h10) rfl rfl rfl rfl) rfl rfl rfl rfl rfl ?_
    rintro ⟨⟩
    refine L.q 1 rfl ?_
    refine L.nil ?_
    refine E.then ?_
    refine T.seq ?_
    refine T.region ?_
    refine L.q 5 rfl ?_
    obtain ⟨_, h12, H13⟩ := bnd H11
    refine L.vv hv8 h12 rfl rfl rfl rfl rfl rfl rfl rfl rfl rfl rfl fun a14 c15 hv16 => ?_
    obtain ⟨r17, h18, H19⟩ := bnd H13
    refine L.a [1] [] (Ac.call (c_slices_Clone_row_Row_w a_0_0 c_0_0 a14 c15 hv16 h18) rfl rfl rfl rfl) rfl rfl rfl rfl rfl ?_
    rintro ⟨a20, c21⟩
    refine L.q 1 rfl ?_
    refine L.nil ?_
    refine E.then ?_
    refine T.seq ?_
    refine T.region ?_
    refine L.q 1 rfl ?_
    obtain ⟨r23, h24, H25⟩ := bnd H19
    refine L.a [0] [] (Ac.call (c_slices_Reverse_row_Row a20 c21 h24) rfl rfl rfl rfl) rfl rfl rfl rfl rfl ?_
    rintro ⟨⟩
    obtain ⟨_, h27, H28⟩ := bnd H25
    refine L.sl 13 (k' := r23.length) (chk_some h27) rfl ?_
    refine L.nil ?_
    refine E.then ?_
    refine T.seq ?_
    refine T.draw [] [0, 1] mo (by rfl) rfl ?_
    refine D.q 0 rfl rfl rfl rfl rfl rfl ?_
    refine D.q 1 rfl rfl rfl rfl rfl rfl ?_
    obtain ⟨_, h65, H66⟩ := bnd H28
    refine D.vv 2 hv8 h65 rfl rfl rfl rfl rfl rfl rfl rfl rfl rfl rfl rfl rfl rfl fun a67 c68 hv69 => ?_
    refine D.q 3 rfl rfl rfl rfl rfl rfl ?_
    refine D.q 4 rfl rfl rfl rfl rfl rfl ?_
    refine D.q 5 rfl rfl rfl rfl rfl rfl ?_
    refine D.q 6 rfl rfl rfl rfl rfl rfl ?_
    refine D.q 7 rfl rfl rfl rfl rfl rfl ?_
    obtain ⟨_, h70, H71⟩ := bnd H66
    refine D.vv 8 hv8 h70 rfl rfl rfl rfl rfl rfl rfl rfl rfl rfl rfl rfl rfl rfl fun a72 c73 hv74 => ?_
    refine D.one rfl rfl rfl (Dp.a [0] [] (Ac.cpv (ty := tyRowRow) hv69 hv74 rfl rfl rfl rfl rfl rfl rfl) rfl rfl rfl rfl rfl rfl ?_)
    intro _
    refine D.nil rfl rfl ?_
    have hv76 : Vw tyRowRow (cpyv g.l (r1.1 + r9) (r1.1 + ((cut g.l r1.1 r1.2).length : Int)) (r1.1 + 0) (r1.1 + (IntKind.i64.wrap (((cut g.l r1.1 r1.2).length : Int) - r9)))) a_0_0 c_0_0 (cuta a_0_0 c_0_0 r1.1 (tyRowRow).sz) (c_0_0 - r1.1.toNat) r1.1 r1.2 := Vw.on hv8 (cpyv_len hv69)
    refine E.sl 11 (k' := (cut (cpyv g.l (r1.1 + r9) (r1.1 + ((cut g.l r1.1 r1.2).length : Int)) (r1.1 + 0) (r1.1 + (IntKind.i64.wrap (((cut g.l r1.1 r1.2).length : Int) - r9)))) r1.1 r1.2).length) (cut_len (cpyv_len hv69)) rfl ?_
    refine E.bx 1 (cs' := [.int .i64 g.w, .slice a_0_0 (cpyv g.l (r1.1 + r9) (r1.1 + ((cut g.l r1.1 r1.2).length : Int)) (r1.1 + 0) (r1.1 + (IntKind.i64.wrap (((cut g.l r1.1 r1.2).length : Int) - r9)))).length c_0_0]) (by rw [(cpyv_len hv69)]) rfl ?_
    refine E.then ?_
    refine T.seq ?_
    refine T.seq ?_
    refine T.region ?_
    refine L.q 2 rfl ?_
    refine L.nil ?_
    refine E.then ?_
    obtain ⟨e189, H190, H191⟩ := bnd H71
    refine T.join (η := Unit × Unit) (fun h => True) (fun h => [(13, .slice a20 r23.length c21)]) (fun h => [Ch.arr tyRowRow 26 a_0_0 c_0_0 e189.l, Ch.box g_0 104 [.int .i64 e189.w, .slice a_0_0 e189.l.length c_0_0], Ch.arr tyRowRow 26 a20 c21 r23]) (fun h => []) ?_ ?_
    · refine T.block ?_
      refine T.lp (η := Unit) (fun s150 h => [(0, .pointer (some ⟨g_0, 0, none⟩)), (4, .int .i64 style), (11, .slice (cuta a_0_0 c_0_0 r1.1 (tyRowRow).sz) (cut s150.1.l r1.1 r1.2).length (c_0_0 - r1.1.toNat)), (13, .slice a20 r23.length c21), (47, .int .i64 r9), (48, .int .i64 s150.2)]) (fun s150 h => [Ch.arr tyRowRow 26 a_0_0 c_0_0 s150.1.l, Ch.box g_0 104 [.int .i64 s150.1.w, .slice a_0_0 s150.1.l.length c_0_0], Ch.arr tyRowRow 26 a20 c21 r23]) (fun s150 h => []) () [2, 0, 0] [] H190 ⟨rfl, rfl, rfl, rfl, rfl, rfl, trivial⟩ rfl rfl ?_
      rintro k s150 ⟨⟩ z193 H192 hag194 hbr195
      refine T.seq ?_
      refine T.region ?_
      refine L.q 1 rfl ?_
      refine L.nil ?_
      refine E.then ?_
      refine T.seq ?_
      refine T.bif rfl H192 (fun hc H197 => ?_) (fun hc H197 => ?_)
      · refine T.skip ?_
        refine E.then ?_
        refine T.seq ?_
        refine T.block ?_
        refine T.seq ?_
        refine T.region ?_
        refine L.q 2 rfl ?_
        refine L.nil ?_
        refine E.then ?_
        refine T.region ?_
        refine L.q 5 rfl ?_
        refine L.y (Yl.ldb 1 rfl rfl rfl rfl) rfl rfl rfl ?_
        refine L.q 1 rfl ?_
        obtain ⟨r215, h216, H217⟩ := bnd H197
        refine L.a [] [] (Ac.call (c_row_Blank h216) rfl rfl rfl rfl) rfl rfl rfl rfl rfl ?_
        rintro ⟨a218, c219⟩
        obtain ⟨_, h221, H222⟩ := bnd H217
        refine L.cap 0 rfl fun h223 => ?_
        have hv224 := vw_re hv76 h221 h223
        obtain ⟨x225, h226, H227⟩ := bnd H222
        refine L.addro 0 rfl (pos_of (cut_get h226)) fun b228 e229 => ?_
        obtain rfl : a_0_0 = some ⟨b228, 0, none⟩ := e229
        refine L.y (Yl.iv (ty := tyRowRow) 0 hv224 h226 rfl rfl rfl rfl rfl rfl rfl rfl) rfl rfl rfl ?_
        refine L.a [0] [0] (Ac.se 0 r215 (cut_get h226) rfl rfl rfl rfl rfl rfl (fun _ => ⟨(a218, c219), rfl, [1], rfl⟩)) rfl rfl rfl rfl rfl ?_
        intro _
        have hv231 : Vw tyRowRow (s150.1.l.set (r1.1.toNat + s150.2.toNat) r215) (some ⟨b228, 0, none⟩) c_0_0 (cuta (some ⟨b228, 0, none⟩) c_0_0 r1.1 (tyRowRow).sz) (c_0_0 - r1.1.toNat) r1.1 r1.2 := Vw.on hv224 (List.length_set ..)
        refine L.sl 11 (k' := (cut (s150.1.l.set (r1.1.toNat + s150.2.toNat) r215) r1.1 r1.2).length) (cut_len (List.length_set ..)) rfl ?_
        refine L.bx 1 (cs' := [.int .i64 s150.1.w, .slice (some ⟨b228, 0, none⟩) (s150.1.l.set (r1.1.toNat + s150.2.toNat) r215).length c_0_0]) (by rw [List.length_set ..]) rfl ?_
        refine L.nil ?_
        refine E.block ?_
        refine E.then ?_
        refine T.region ?_
        refine L.q 2 rfl ?_
        refine L.nil ?_
        have hr := Option.some.inj H227
        subst z193
        exact E.give (_, ()) [1, 0, 0] [] (hag194 _ rfl) ⟨rfl, rfl, rfl, rfl, rfl, rfl, trivial⟩ rfl rfl
      · refine T.exit ?_
        refine E.then_exit' ?_
        refine E.then_exit' ?_
        refine E.block_here ?_
        have hr := Option.some.inj H197
        subst z193
        have hb := hbr195 _ rfl
        subst e189
        exact E.give ((), ()) [0, 0, 0] [] trivial ⟨rfl, trivial⟩ rfl rfl
    · rintro ⟨_, ⟨⟩⟩ _
      refine T.seq ?_
      refine T.region ?_
      refine L.q 2 rfl ?_
      refine L.nil ?_
      refine E.then ?_
      refine T.ret ?_
      have hr := Option.some.inj H191
      subst r
      exact E.ret (a20, c21) [2, 1, 0] [] (.tmp rfl .nil) rfl rfl rfl

theorem c_ref10_Resize {g : Ref10Grid} {w : Int} {h_ : Int} {off : Int} (a_0_0 : Option Addr) (c_0_0 : Nat) {r : Ref10Grid × (List Ref09Row)} (H : p_ref10_Resize g w h_ off = some r) : CT G 66 [.agg #[.int .i64 g.w, .slice a_0_0 g.l.length c_0_0], .int .i64 w, .int .i64 h_, .int .i64 off] [] [Im.sl tyRef09Row a_0_0 c_0_0 g.l] (fun h : (Option Addr × Nat) × (Option Addr × Nat) => .tuple #[.agg #[.int .i64 r.1.w, .slice h.1.1 r.1.l.length h.1.2], .slice h.2.1 r.2.length h.2.2]) (fun h => []) (fun h => [Im.sl tyRef09Row h.1.1 h.1.2 r.1.l, Im.sl tyRef09Row h.2.1 h.2.2 r.2]) := by
  delta p_ref10_Resize at H
  refine CT.of Go.Proofs.Tryd.func66 (by kernel_rfl) rfl rfl rfl fun K => ?_
  refine T.seq ?_
  refine T.region ?_
  refine L.a [] [] (Ac.box rfl rfl) rfl rfl rfl rfl rfl ?_
  intro g1
  refine L.a [] [] (Ac.alloc rfl rfl) rfl rfl rfl rfl rfl ?_
  intro g2
  refine L.q 1 rfl ?_
  refine L.nil ?_
  refine E.then ?_
  refine T.seq ?_
  refine T.region ?_
  refine L.q 2 rfl ?_
  refine L.y (Yl.ldb 1 rfl rfl rfl rfl) rfl rfl rfl ?_
  refine L.q 5 rfl ?_
  refine L.nil ?_
  refine E.then ?_
  refine T.seq ?_
  refine T.region ?_
  refine L.q 1 rfl ?_
  obtain ⟨r3, h4, H5⟩ := bnd H
  refine L.a [] [] (Ac.call (c_ref10_size h4) rfl rfl rfl rfl) rfl rfl rfl rfl rfl ?_
  rintro ⟨⟩
  refine L.q 1 rfl ?_
  refine L.a [] [] (Ac.alloc rfl rfl) rfl rfl rfl rfl rfl ?_
  intro g6
  refine L.a [0] [] (Ac.stb rfl rfl rfl rfl rfl rfl) rfl rfl rfl rfl rfl ?_
  intro _
  refine L.nil ?_
  refine E.then ?_
  refine T.seq ?_
  refine T.seq ?_
  refine T.region ?_
  refine L.q 1 rfl ?_
  refine L.nil ?_
  refine E.then ?_
  obtain ⟨e768, H769, H770⟩ := bnd H5
  refine T.join (η := Unit × ((Option Addr × Nat))) (fun h => True) (fun h => (fun a765 c766 => [(3, .int .i64 (imax 0 (imin off (IntKind.i64.wrap ((g.l.length : Int) - 1))))), (4, .pointer (some ⟨g1, 0, none⟩)), (8, .pointer (some ⟨g2, 0, none⟩)), (10, .pointer (some ⟨g6, 0, none⟩))]) h.2.1 h.2.2) (fun h => (fun a765 c766 => [Ch.arr tyRef09Row 30 a765 c766 e768.l, Ch.box g6 59 [.int .i64 e768.w, .slice a765 e768.l.length c766], Ch.box g2 59 [.int .i64 0, .slice none 0 0], Ch.box g1 59 [.int .i64 g.w, .slice a_0_0 g.l.length c_0_0]]) h.2.1 h.2.2) (fun h => (fun a765 c766 => [Im.sl tyRef09Row a_0_0 c_0_0 g.l]) h.2.1 h.2.2) ?_ ?_
  · refine T.block ?_
    refine T.nil0 tyRef09Row 30 ?_
    refine T.lp (η := (Option Addr × Nat)) (fun s520 h => (fun a516 c517 => [(2, .int .i64 h_), (3, .int .i64 (imax 0 (imin off (IntKind.i64.wrap ((g.l.length : Int) - 1))))), (4, .pointer (some ⟨g1, 0, none⟩)), (8, .pointer (some ⟨g2, 0, none⟩)), (10, .pointer (some ⟨g6, 0, none⟩)), (11, .int .i64 s520.2)]) h.1 h.2) (fun s520 h => (fun a516 c517 => [Ch.arr tyRef09Row 30 a516 c517 s520.1.l, Ch.box g6 59 [.int .i64 s520.1.w, .slice a516 s520.1.l.length c517], Ch.box g2 59 [.int .i64 0, .slice none 0 0], Ch.box g1 59 [.int .i64 g.w, .slice a_0_0 g.l.length c_0_0]]) h.1 h.2) (fun s520 h => (fun a516 c517 => [Im.sl tyRef09Row a_0_0 c_0_0 g.l]) h.1 h.2) (none, 0) [0, 0, 0, 0] [0] H769 ⟨rfl, rfl, rfl, rfl, rfl, rfl, trivial⟩ rfl rfl ?_
    rintro k s520 ⟨a516, c517⟩ z772 H771 hag773 hbr774
    refine T.seq ?_
    refine T.seq ?_
    refine T.region ?_
    refine L.q 2 rfl ?_
    obtain ⟨r775, h776, H777⟩ := bnd H771
    refine L.a [] [] (Ac.call (c_ref10_size h776) rfl rfl rfl rfl) rfl rfl rfl rfl rfl ?_
    rintro ⟨⟩
    refine L.q 1 rfl ?_
    refine L.nil ?_
    refine E.then ?_
    refine T.bif rfl H777 (fun hc H779 => ?_) (fun hc H779 => ?_)
    · refine T.skip ?_
      refine E.then ?_
      refine T.seq ?_
      obtain ⟨e938, H939, H940⟩ := bnd H779
      refine T.join (η := Unit × ((Option Addr × Nat))) (fun h => True) (fun h => (fun a935 c936 => [(2, .int .i64 h_), (3, .int .i64 (imax 0 (imin off (IntKind.i64.wrap ((g.l.length : Int) - 1))))), (4, .pointer (some ⟨g1, 0, none⟩)), (8, .pointer (some ⟨g2, 0, none⟩)), (10, .pointer (some ⟨g6, 0, none⟩)), (11, .int .i64 s520.2)]) h.2.1 h.2.2) (fun h => (fun a935 c936 => [Ch.arr tyRef09Row 30 a935 c936 e938.l, Ch.box g6 59 [.int .i64 e938.w, .slice a935 e938.l.length c936], Ch.box g2 59 [.int .i64 0, .slice none 0 0], Ch.box g1 59 [.int .i64 g.w, .slice a_0_0 g.l.length c_0_0]]) h.2.1 h.2.2) (fun h => (fun a935 c936 => [Im.sl tyRef09Row a_0_0 c_0_0 g.l]) h.2.1 h.2.2) ?_ ?_
      · refine T.block ?_
        refine T.seq ?_
        refine T.region ?_
        refine L.q 4 rfl ?_
        refine L.y (Yl.ldb 3 rfl rfl rfl rfl) rfl rfl rfl ?_
        refine L.q 2 rfl ?_
        refine L.nil ?_
        refine E.then ?_
        refine T.bif rfl H939 (fun hc H941 => ?_) (fun hc H941 => ?_)
        · refine T.draw [15] [1, 1, 1] mo (by rfl) rfl ?_
          refine D.q 0 rfl rfl rfl rfl rfl rfl ?_
          refine D.y 1 (Yl.ldb 0 rfl rfl rfl rfl) rfl rfl rfl rfl rfl rfl ?_
          refine D.q 2 rfl rfl rfl rfl rfl rfl ?_
          refine D.y 3 (Yl.ldb 2 rfl rfl rfl rfl) rfl rfl rfl rfl rfl rfl ?_
          refine D.q 4 rfl rfl rfl rfl rfl rfl ?_
          refine D.q 5 rfl rfl rfl rfl rfl rfl ?_
          refine D.q 6 rfl rfl rfl rfl rfl rfl ?_
          obtain ⟨x966, h967, H968⟩ := bnd H941
          refine D.addr 0 rfl (idx_lt h967) fun b969 o970 e971 => ?_
          obtain rfl : a_0_0 = some ⟨b969, o970, none⟩ := e971
          refine D.y 7 (Yl.ia h967 rfl rfl rfl rfl rfl rfl) rfl rfl rfl rfl rfl rfl ?_
          refine D.el 0 rfl (idx_some h967).2 ?_
          rintro ⟨a972, c973⟩
          refine D.y 8 (Yl.ldc 0 0 rfl rfl rfl rfl) rfl rfl rfl rfl rfl rfl ?_
          refine D.q 9 rfl rfl rfl rfl rfl rfl ?_
          refine D.y 10 (Yl.ldb 0 rfl rfl rfl rfl) rfl rfl rfl rfl rfl rfl ?_
          obtain ⟨r976, h977, H978⟩ := bnd H968
          refine D.one rfl rfl rfl (Dp.a [] [1] (Ac.call (c_ref09_Resize a972 c973 h977) rfl rfl rfl rfl) rfl rfl rfl rfl rfl rfl ?_)
          rintro ⟨a979, c980⟩
          refine D.one rfl rfl rfl (Dp.a [] [0] (Ac.bs (ty := tyRef09Row) (xs := [r976]) (.cons (a979, c980) [0] rfl .nil) rfl rfl rfl rfl rfl rfl rfl) rfl rfl rfl rfl rfl rfl ?_)
          intro g982
          refine D.frz 0 rfl ?_
          obtain ⟨_, h985, H986⟩ := bnd H978
          refine D.one rfl rfl rfl (Dp.a [0] [0] (Ac.ap (ty := tyRef09Row) h985 rfl rfl rfl rfl rfl rfl rfl) rfl rfl rfl rfl rfl rfl ?_)
          rintro ⟨a987, c988⟩
          refine D.q 14 rfl rfl rfl rfl rfl rfl ?_
          refine D.one rfl rfl rfl (Dp.al [0] [] (Ac.stb rfl rfl rfl rfl rfl rfl) rfl rfl rfl rfl rfl rfl rfl ?_)
          intro _
          refine D.nil rfl rfl ?_
          refine E.block ?_
          have hr := Option.some.inj H986
          subst e938
          exact E.give ((), (a987, c988)) [3, 0, 0, 0] [4] trivial ⟨rfl, rfl, rfl, rfl, rfl, rfl, trivial⟩ rfl rfl
        · refine T.draw [8] [1, 1, 1] mo (by rfl) rfl ?_
          refine D.q 0 rfl rfl rfl rfl rfl rfl ?_
          refine D.y 1 (Yl.ldb 0 rfl rfl rfl rfl) rfl rfl rfl rfl rfl rfl ?_
          refine D.q 2 rfl rfl rfl rfl rfl rfl ?_
          refine D.y 3 (Yl.ldb 0 rfl rfl rfl rfl) rfl rfl rfl rfl rfl rfl ?_
          obtain ⟨r1004, h1005, H1006⟩ := bnd H941
          refine D.one rfl rfl rfl (Dp.a [] [] (Ac.call (c_ref09_Blank h1005) rfl rfl rfl rfl) rfl rfl rfl rfl rfl rfl ?_)
          rintro ⟨a1007, c1008⟩
          refine D.one rfl rfl rfl (Dp.a [] [0] (Ac.bs (ty := tyRef09Row) (xs := [r1004]) (.cons (a1007, c1008) [0] rfl .nil) rfl rfl rfl rfl rfl rfl rfl) rfl rfl rfl rfl rfl rfl ?_)
          intro g1010
          refine D.frz 0 rfl ?_
          obtain ⟨_, h1013, H1014⟩ := bnd H1006
          refine D.one rfl rfl rfl (Dp.a [0] [0] (Ac.ap (ty := tyRef09Row) h1013 rfl rfl rfl rfl rfl rfl rfl) rfl rfl rfl rfl rfl rfl ?_)
          rintro ⟨a1015, c1016⟩
          refine D.q 7 rfl rfl rfl rfl rfl rfl ?_
          refine D.one rfl rfl rfl (Dp.al [0] [] (Ac.stb rfl rfl rfl rfl rfl rfl) rfl rfl rfl rfl rfl rfl rfl ?_)
          intro _
          refine D.nil rfl rfl ?_
          refine E.block ?_
          have hr := Option.some.inj H1014
          subst e938
          exact E.give ((), (a1015, c1016)) [3, 0, 0, 0] [2] trivial ⟨rfl, rfl, rfl, rfl, rfl, rfl, trivial⟩ rfl rfl
      · rintro ⟨_, ⟨a935, c936⟩⟩ _
        refine T.region ?_
        refine L.q 3 rfl ?_
        refine L.nil ?_
        have hr := Option.some.inj H940
        subst z772
        exact E.give (_, (a935, c936)) [0, 0, 0, 0] [0] (hag773 _ rfl) ⟨rfl, rfl, rfl, rfl, rfl, rfl, trivial⟩ rfl rfl
    · refine T.exit ?_
      refine E.then_exit' ?_
      refine E.then_exit' ?_
      refine E.block_here ?_
      have hr := Option.some.inj H779
      subst z772
      have hb := hbr774 _ rfl
      subst e768
      exact E.give ((), (a516, c517)) [0, 0, 0, 0] [0] trivial ⟨rfl, rfl, rfl, rfl, trivial⟩ rfl rfl
  · rintro ⟨_, ⟨a765, c766⟩⟩ _
    refine T.seq ?_
    refine T.draw [] [0, 0, 1] mo (by rfl) rfl ?_
    refine D.y 0 (Yl.ldb 1 rfl rfl rfl rfl) rfl rfl rfl rfl rfl rfl ?_
    refine D.q 1 rfl rfl rfl rfl rfl rfl ?_
    refine D.y 2 (Yl.ldb 2 rfl rfl rfl rfl) rfl rfl rfl rfl rfl rfl ?_
    refine D.q 3 rfl rfl rfl rfl rfl rfl ?_
    obtain ⟨_, h1033, H1034⟩ := bnd H770
    refine D.rs 0 4 h1033 rfl rfl rfl rfl rfl rfl rfl rfl rfl rfl rfl rfl rfl rfl rfl ?_
    intro a1035 c1036
    refine D.one rfl rfl rfl (Dp.a [0] [] (Ac.stb rfl rfl rfl rfl rfl rfl) rfl rfl rfl rfl rfl rfl ?_)
    intro _
    refine D.q 6 rfl rfl rfl rfl rfl rfl ?_
    refine D.nil rfl rfl ?_
    refine E.then ?_
    refine T.ret ?_
    refine E.frz 0 rfl ?_
    have hr := Option.some.inj H1034
    subst r
    exact E.ret ((a765, c766), (a1035, c1036)) [] [0, 1] (.cell 2 rfl rfl rfl (.tmp rfl .nil)) rfl rfl rfl

theorem c_grid_Grid_Resize {g : GridGrid} {w : Int} {h_ : Int} {off : Int} (g_0 : Nat) (a_0_0 : Option Addr) (c_0_0 : Nat) {r : (List RowRow) × GridGrid} (H : p_grid_Grid_Resize g w h_ off = some r) : CT G 67 [.pointer (some ⟨g_0, 0, none⟩), .int .i64 w, .int .i64 h_, .int .i64 off] [Ch.box g_0 104 [.int .i64 g.w, .slice a_0_0 g.l.length c_0_0], Ch.arr tyRowRow 26 a_0_0 c_0_0 g.l] [] (fun h : (Option Addr × Nat) × (Option Addr × Nat) => .slice h.1.1 r.1.length h.1.2) (fun h => [Ch.arr tyRowRow 26 h.1.1 h.1.2 r.1, Ch.box g_0 104 [.int .i64 r.2.w, .slice h.2.1 r.2.l.length h.2.2], Ch.arr tyRowRow 26 h.2.1 h.2.2 r.2.l]) (fun h => []) := by
  delta p_grid_Grid_Resize at H
  refine CT.of Go.Proofs.Tryd.func67 (by kernel_rfl) rfl rfl rfl fun K => ?_
  refine T.seq ?_
  refine T.region ?_
  refine L.q 1 rfl ?_
  refine L.nil ?_
  refine E.then ?_
  refine T.seq ?_
  refine T.region ?_
  refine L.q 4 rfl ?_
  refine L.y (Yl.ldb 0 rfl rfl rfl rfl) rfl rfl rfl ?_
  refine L.q 2 rfl ?_
  obtain ⟨r1, h2, H3⟩ := bnd H
  refine L.a [] [] (Ac.call (c_grid_clip h2) rfl rfl rfl rfl) rfl rfl rfl rfl rfl ?_
  rintro ⟨⟩
  refine L.q 1 rfl ?_
  refine L.nil ?_
  refine E.then ?_
  refine T.seq ?_
  refine T.region ?_
  refine L.q 3 rfl ?_
  refine L.y (Yl.ldb 0 rfl rfl rfl rfl) rfl rfl rfl ?_
  refine L.q 1 rfl ?_
  obtain ⟨_, h4, H5⟩ := bnd H3
  refine L.cap 1 rfl fun h9 => ?_
  refine L.y (Yl.sv (ty := tyRowRow) h9 h4 rfl rfl rfl rfl rfl rfl rfl rfl) rfl rfl rfl ?_
  have hv8 : Vw tyRowRow g.l a_0_0 c_0_0 (cuta a_0_0 c_0_0 0 (tyRowRow).sz) (c_0_0 - (0 : Int).toNat) 0 r1 := vw_new h4 h9
  obtain ⟨r10, h11, H12⟩ := bnd H5
  refine L.a [1] [] (Ac.call (c_slices_Clone_row_Row_w a_0_0 c_0_0 (cuta a_0_0 c_0_0 0 (tyRowRow).sz) (c_0_0 - (0 : Int).toNat) hv8 h11) rfl rfl rfl rfl) rfl rfl rfl rfl rfl ?_
  rintro ⟨a13, c14⟩
  refine L.q 1 rfl ?_
  refine L.nil ?_
  refine E.then ?_
  refine T.seq ?_
  refine T.region ?_
  refine L.q 3 rfl ?_
  refine L.y (Yl.ldb 2 rfl rfl rfl rfl) rfl rfl rfl ?_
  refine L.q 1 rfl ?_
  obtain ⟨_, h16, H17⟩ := bnd H12
  refine L.cap 1 rfl fun h21 => ?_
  refine L.y (Yl.sv (ty := tyRowRow) h21 h16 rfl rfl rfl rfl rfl rfl rfl rfl) rfl rfl rfl ?_
  have hv20 : Vw tyRowRow g.l a_0_0 c_0_0 (cuta a_0_0 c_0_0 r1 (tyRowRow).sz) (c_0_0 - r1.toNat) r1 (g.l.length : Int) := vw_new h16 h21
  obtain ⟨r22, h23, H24⟩ := bnd H17
  refine L.a [1] [] (Ac.call (c_slices_Clone_row_Row_w a_0_0 c_0_0 (cuta a_0_0 c_0_0 r1 (tyRowRow).sz) (c_0_0 - r1.toNat) hv20 h23) rfl rfl rfl rfl) rfl rfl rfl rfl rfl ?_
  rintro ⟨a25, c26⟩
  refine L.q 1 rfl ?_
  refine L.nil ?_
  refine E.then ?_
  refine T.seq ?_
  refine T.region ?_
  refine L.q 4 rfl ?_
  obtain ⟨r28, h29, H30⟩ := bnd H24
  refine L.a [] [] (Ac.call (c_grid_size h29) rfl rfl rfl rfl) rfl rfl rfl rfl rfl ?_
  rintro ⟨⟩
  refine L.q 1 rfl ?_
  obtain ⟨_, h31, H32⟩ := bnd H30
  refine L.a [0] [] (Ac.rso h31 rfl rfl rfl rfl rfl rfl rfl) rfl rfl rfl rfl rfl ?_
  intro _
  refine L.q 1 rfl ?_
  refine L.nil ?_
  refine E.then ?_
  refine T.seq ?_
  obtain ⟨e119, H120, H121⟩ := bnd H32
  refine T.join (η := Unit × ((Option Addr × Nat))) (fun h => True) (fun h => (fun a116 c117 => [(0, .pointer (some ⟨g_0, 0, none⟩)), (1, .int .i64 w), (9, .slice a13 r10.length c14), (10, .slice a116 e119.length c117)]) h.2.1 h.2.2) (fun h => (fun a116 c117 => [Ch.arr tyRowRow 26 a116 c117 e119, Ch.box g_0 104 [.int .i64 g.w, .slice a_0_0 g.l.length c_0_0], Ch.arr tyRowRow 26 a_0_0 c_0_0 g.l, Ch.arr tyRowRow 26 a13 c14 r10]) h.2.1 h.2.2) (fun h => (fun a116 c117 => []) h.2.1 h.2.2) ?_ ?_
  · refine T.block ?_
    refine T.lp (η := (Option Addr × Nat)) (fun s92 h => (fun a89 c90 => [(0, .pointer (some ⟨g_0, 0, none⟩)), (1, .int .i64 w), (2, .int .i64 h_), (9, .slice a13 r10.length c14), (10, .slice a89 s92.length c90)]) h.1 h.2) (fun s92 h => (fun a89 c90 => [Ch.arr tyRowRow 26 a89 c90 s92, Ch.box g_0 104 [.int .i64 g.w, .slice a_0_0 g.l.length c_0_0], Ch.arr tyRowRow 26 a_0_0 c_0_0 g.l, Ch.arr tyRowRow 26 a13 c14 r10]) h.1 h.2) (fun s92 h => (fun a89 c90 => []) h.1 h.2) (a25, c26) [0, 2, 0, 0] [] H120 ⟨rfl, rfl, rfl, rfl, rfl, trivial⟩ rfl rfl ?_
    rintro k s92 ⟨a89, c90⟩ z123 H122 hag124 hbr125
    refine T.seq ?_
    refine T.seq ?_
    refine T.region ?_
    refine L.q 3 rfl ?_
    obtain ⟨r126, h127, H128⟩ := bnd H122
    refine L.a [] [] (Ac.call (c_grid_size h127) rfl rfl rfl rfl) rfl rfl rfl rfl rfl ?_
    rintro ⟨⟩
    refine L.q 1 rfl ?_
    refine L.nil ?_
    refine E.then ?_
    refine T.bif rfl H128 (fun hc H130 => ?_) (fun hc H130 => ?_)
    · refine T.skip ?_
      refine E.then ?_
      refine T.block ?_
      refine T.region ?_
      refine L.q 2 rfl ?_
      obtain ⟨r131, h132, H133⟩ := bnd H130
      refine L.a [] [] (Ac.call (c_grid_size h132) rfl rfl rfl rfl) rfl rfl rfl rfl rfl ?_
      rintro ⟨⟩
      obtain ⟨r134, h135, H136⟩ := bnd H133
      refine L.a [] [] (Ac.call (c_row_Blank h135) rfl rfl rfl rfl) rfl rfl rfl rfl rfl ?_
      rintro ⟨a137, c138⟩
      refine L.a [] [0] (Ac.bs (ty := tyRowRow) (xs := [r134]) (.cons (a137, c138) [0] rfl .nil) rfl rfl rfl rfl rfl rfl rfl) rfl rfl rfl rfl rfl ?_
      intro g140
      refine L.frz 0 rfl ?_
      obtain ⟨_, h143, H144⟩ := bnd H136
      refine L.a [0] [0] (Ac.ap (ty := tyRowRow) h143 rfl rfl rfl rfl rfl rfl rfl) rfl rfl rfl rfl rfl ?_
      rintro ⟨a145, c146⟩
      refine L.q 1 rfl ?_
      refine L.nil ?_
      refine E.block ?_
      have hr := Option.some.inj H144
      subst z123
      exact E.give (_, (a145, c146)) [0, 0, 0, 0] [] (hag124 _ rfl) ⟨rfl, rfl, rfl, rfl, rfl, trivial⟩ rfl rfl
    · refine T.exit ?_
      refine E.then_exit' ?_
      refine E.then_exit' ?_
      refine E.block_here ?_
      have hr := Option.some.inj H130
      subst z123
      have hb := hbr125 _ rfl
      subst e119
      exact E.give ((), (a89, c90)) [0, 0, 0, 0] [] trivial ⟨rfl, rfl, rfl, rfl, trivial⟩ rfl rfl
  · rintro ⟨_, ⟨a116, c117⟩⟩ _
    refine T.seq ?_
    refine T.region ?_
    refine L.q 3 rfl ?_
    obtain ⟨r148, h149, H150⟩ := bnd H121
    refine L.a [] [] (Ac.call (c_grid_size h149) rfl rfl rfl rfl) rfl rfl rfl rfl rfl ?_
    rintro ⟨⟩
    refine L.q 3 rfl ?_
    refine L.a [1] [] (Ac.stb rfl rfl rfl rfl rfl rfl) rfl rfl rfl rfl rfl ?_
    intro _
    refine L.q 2 rfl ?_
    refine L.a [0] [] (Ac.stb rfl rfl rfl rfl rfl rfl) rfl rfl rfl rfl rfl ?_
    intro _
    refine L.nil ?_
    refine E.then ?_
    refine T.seq ?_
    refine T.seq ?_
    refine T.region ?_
    refine L.q 3 rfl ?_
    refine L.y (Yl.ldb 0 rfl rfl rfl rfl) rfl rfl rfl ?_
    refine L.q 2 rfl ?_
    refine L.nil ?_
    refine E.then ?_
    obtain ⟨e249, H250, H251⟩ := bnd H150
    refine T.join (η := Unit × ((Option Addr × Nat))) (fun h => True) (fun h => (fun a246 c247 => [(9, .slice a13 r10.length c14)]) h.2.1 h.2.2) (fun h => (fun a246 c247 => [Ch.arr tyRowRow 26 a246 c247 e249.l, Ch.box g_0 104 [.int .i64 e249.w, .slice a246 e249.l.length c247], Ch.arr tyRowRow 26 a13 c14 r10]) h.2.1 h.2.2) (fun h => (fun a246 c247 => []) h.2.1 h.2.2) ?_ ?_
    · refine T.block ?_
      refine T.lp (η := (Option Addr × Nat)) (fun s218 h => (fun a214 c215 => [(0, .pointer (some ⟨g_0, 0, none⟩)), (9, .slice a13 r10.length c14), (65, .int .i64 (e119.length : Int)), (66, .int .i64 s218.2)]) h.1 h.2) (fun s218 h => (fun a214 c215 => [Ch.arr tyRowRow 26 a214 c215 s218.1.l, Ch.box g_0 104 [.int .i64 s218.1.w, .slice a214 s218.1.l.length c215], Ch.arr tyRowRow 26 a13 c14 r10]) h.1 h.2) (fun s218 h => (fun a214 c215 => []) h.1 h.2) (a116, c117) [1, 0, 1] [] H250 ⟨rfl, rfl, rfl, rfl, trivial⟩ rfl rfl ?_
      rintro k s218 ⟨a214, c215⟩ z253 H252 hag254 hbr255
      refine T.seq ?_
      refine T.region ?_
      refine L.q 1 rfl ?_
      refine L.nil ?_
      refine E.then ?_
      refine T.seq ?_
      refine T.bif rfl H252 (fun hc H257 => ?_) (fun hc H257 => ?_)
      · refine T.skip ?_
        refine E.then ?_
        refine T.seq ?_
        refine T.block ?_
        refine T.seq ?_
        refine T.region ?_
        refine L.q 2 rfl ?_
        refine L.nil ?_
        refine E.then ?_
        refine T.region ?_
        refine L.q 5 rfl ?_
        refine L.y (Yl.ldb 1 rfl rfl rfl rfl) rfl rfl rfl ?_
        refine L.q 1 rfl ?_
        obtain ⟨x270, h271, H272⟩ := bnd H257
        refine L.addro 0 rfl (idx_lt h271) fun b273 e274 => ?_
        obtain rfl : a214 = some ⟨b273, 0, none⟩ := e274
        refine L.y (Yl.ia h271 rfl rfl rfl rfl rfl rfl) rfl rfl rfl ?_
        refine L.a [0] [] (Ac.lo s218.2.toNat 0 (v := (fun h : (Option Addr × Nat) => (fun a275 c276 => .agg #[.slice a275 x270.cells.length c276, .bool x270.wrapped]) h.1 h.2)) (idx_some h271).2 rfl rfl rfl (fun _ => rfl)) rfl rfl rfl rfl rfl ?_
        rintro ⟨a275, c276⟩
        obtain ⟨r278, h279, H280⟩ := bnd H272
        refine L.a [1, 0] [0] (Ac.call (c_grid_Grid_Set g_0 (some ⟨b273, 0, none⟩) c215 a275 c276 h279) rfl rfl rfl rfl) rfl rfl rfl rfl rfl ?_
        rintro ⟨⟩
        refine L.nil ?_
        refine E.block ?_
        refine E.then ?_
        refine T.region ?_
        refine L.q 2 rfl ?_
        refine L.nil ?_
        have hr := Option.some.inj H280
        subst z253
        exact E.give (_, ((some ⟨b273, 0, none⟩), c215)) [1, 0, 0] [] (hag254 _ rfl) ⟨rfl, rfl, rfl, rfl, trivial⟩ rfl rfl
      · refine T.exit ?_
        refine E.then_exit' ?_
        refine E.then_exit' ?_
        refine E.block_here ?_
        have hr := Option.some.inj H257
        subst z253
        have hb := hbr255 _ rfl
        subst e249
        exact E.give ((), (a214, c215)) [0, 0, 0] [] trivial ⟨rfl, trivial⟩ rfl rfl
    · rintro ⟨_, ⟨a246, c247⟩⟩ _
      refine T.seq ?_
      refine T.region ?_
      refine L.q 2 rfl ?_
      refine L.nil ?_
      refine E.then ?_
      refine T.ret ?_
      have hr := Option.some.inj H251
      subst r
      exact E.ret ((a13, c14), (a246, c247)) [2, 1, 0] [] (.tmp rfl .nil) rfl rfl rfl

theorem c_law10_do {g : GridGrid} {x_ : Ref10Grid} {a : Law10Act} (g_0 : Nat) (a_0_0 : Option Addr) (c_0_0 : Nat) (a_1_0 : Option Addr) (c_1_0 : Nat) {r : Ref10Grid × Bool × GridGrid} (H : p_law10_do g x_ a = some r) : CT G 32 [.pointer (some ⟨g_0, 0, none⟩), .agg #[.int .i64 x_.w, .slice a_1_0 x_.l.length c_1_0], .agg #[.int .i64 a.kind, .int .i64 a.y, .int .i64 a.top, .int .i64 a.bottom, .int .i64 a.n, .int .i64 a.style, .int .i64 a.w, .int .i64 a.h, .int .i64 a.row.kind, .int .i64 a.row.at_, .int .i64 a.row.n, .int .i64 a.row.style, .int .i32 a.row.rune]] [Ch.box g_0 104 [.int .i64 g.w, .slice a_0_0 g.l.length c_0_0], Ch.arr tyRowRow 26 a_0_0 c_0_0 g.l] [Im.sl tyRef09Row a_1_0 c_1_0 x_.l, Im.sl tyWideSpan (some ⟨0, 0, none⟩) 13 t_wide_nones, Im.sl tyWideSpan (some ⟨1, 0, none⟩) 14 t_wide_twos] (fun h : (Option Addr × Nat) × (Option Addr × Nat) => .tuple #[.agg #[.int .i64 r.1.w, .slice h.1.1 r.1.l.length h.1.2], .bool r.2.1]) (fun h => [Ch.box g_0 104 [.int .i64 r.2.2.w, .slice h.2.1 r.2.2.l.length h.2.2], Ch.arr tyRowRow 26 h.2.1 h.2.2 r.2.2.l]) (fun h => [Im.sl tyRef09Row h.1.1 h.1.2 r.1.l]) := by
  delta p_law10_do at H
  refine CT.of Go.Proofs.Tryd.func32 (by kernel_rfl) rfl rfl rfl fun K => ?_
  refine T.seq ?_
  refine T.region ?_
  refine L.a [] [] (Ac.box rfl rfl) rfl rfl rfl rfl rfl ?_
  intro g1
  refine L.a [] [] (Ac.box rfl rfl) rfl rfl rfl rfl rfl ?_
  intro g2
  refine L.a [] [] (Ac.alloc rfl rfl) rfl rfl rfl rfl rfl ?_
  intro g3
  refine L.q 1 rfl ?_
  refine L.nil ?_
  refine E.then ?_
  refine T.seq ?_
  refine T.seq ?_
  refine T.region ?_
  refine L.q 1 rfl ?_
  refine L.y (Yl.ldb 1 rfl rfl rfl rfl) rfl rfl rfl ?_
  refine L.nil ?_
  refine E.then ?_
  refine T.block ?_
  refine T.seq ?_
  refine T.region ?_
  refine L.q 2 rfl ?_
  refine L.nil ?_
  refine E.then ?_
  refine T.bif rfl H (fun hc H240 => ?_) (fun hc H240 => ?_)
  · refine T.seq ?_
    refine T.region ?_
    refine L.q 2 rfl ?_
    refine L.y (Yl.ldb 1 rfl rfl rfl rfl) rfl rfl rfl ?_
    obtain ⟨r241, h242, H243⟩ := bnd H240
    refine L.a [3, 3] [] (Ac.call (c_grid_Grid_Row g_0 a_0_0 c_0_0 h242) rfl rfl rfl rfl) rfl rfl rfl rfl rfl ?_
    rintro ⟨a244, c245⟩
    refine L.q 1 rfl ?_
    refine L.a [] [] (Ac.alloc rfl rfl) rfl rfl rfl rfl rfl ?_
    intro g247
    refine L.a [] [] (Ac.alloc rfl rfl) rfl rfl rfl rfl rfl ?_
    intro g248
    refine L.a [1] [] (Ac.stb rfl rfl rfl rfl rfl rfl) rfl rfl rfl rfl rfl ?_
    intro _
    refine L.a [1] [] (Ac.stb rfl rfl rfl rfl rfl rfl) rfl rfl rfl rfl rfl ?_
    intro _
    refine L.nil ?_
    refine E.then ?_
    refine T.seq ?_
    refine T.seq ?_
    obtain ⟨e252, H253, H254⟩ := bnd H243
    refine T.join (η := Unit × Unit) (fun h => True) (fun h => [(0, .pointer (some ⟨g_0, 0, none⟩)), (4, .pointer (some ⟨g1, 0, none⟩)), (5, .pointer (some ⟨g2, 0, none⟩)), (6, .pointer (some ⟨g3, 0, none⟩)), (8, .pointer (some ⟨g247, 0, none⟩)), (9, .pointer (some ⟨g248, 0, none⟩)), (37, .bool e252)]) (fun h => [Ch.box g248 30 [.slice none 0 0, .bool false], Ch.box g247 26 [.slice a244 r241.cells.length c245, .bool r241.wrapped], Ch.box g_0 104 [.int .i64 g.w, .slice a_0_0 g.l.length c_0_0], Ch.box g3 59 [.int .i64 0, .slice none 0 0], Ch.box g2 64 [.int .i64 a.kind, .int .i64 a.y, .int .i64 a.top, .int .i64 a.bottom, .int .i64 a.n, .int .i64 a.style, .int .i64 a.w, .int .i64 a.h, .int .i64 a.row.kind, .int .i64 a.row.at_, .int .i64 a.row.n, .int .i64 a.row.style, .int .i32 a.row.rune], Ch.box g1 59 [.int .i64 x_.w, .slice a_1_0 x_.l.length c_1_0], Ch.arr tyRowRow 26 a_0_0 c_0_0 g.l]) (fun h => [Im.sl tyRowCell a244 c245 r241.cells, Im.sl tyRef09Row a_1_0 c_1_0 x_.l, Im.sl tyWideSpan (some ⟨0, 0, none⟩) 13 t_wide_nones, Im.sl tyWideSpan (some ⟨1, 0, none⟩) 14 t_wide_twos]) ?_ ?_
    · refine T.region ?_
      refine L.q 1 rfl ?_
      refine L.y (Yl.ldb 5 rfl rfl rfl rfl) rfl rfl rfl ?_
      refine L.q 2 rfl ?_
      refine L.cs 30 H253 rfl (fun hc H255 => ?_) (fun hc H255 => ?_)
      · refine L.q 1 rfl ?_
        refine L.y (Yl.ldb 5 rfl rfl rfl rfl) rfl rfl rfl ?_
        refine L.q 1 rfl ?_
        refine L.y (Yl.ldb 6 rfl rfl rfl rfl) rfl rfl rfl ?_
        refine L.q 3 rfl ?_
        refine L.nil ?_
        have hr := Option.some.inj H255
        subst e252
        exact E.give ((), ()) [0, 0, 0, 1, 1, 1, 0] [0, 1, 2, 3] trivial ⟨rfl, rfl, rfl, rfl, rfl, rfl, rfl, trivial⟩ rfl rfl
      · refine L.q 7 rfl ?_
        refine L.nil ?_
        have hr := Option.some.inj H255
        subst e252
        exact E.give ((), ()) [0, 0, 0, 1, 1, 1, 0] [0, 1, 2, 3] trivial ⟨rfl, rfl, rfl, rfl, rfl, rfl, rfl, trivial⟩ rfl rfl
    · rintro ⟨_, ⟨⟩⟩ _
      obtain ⟨e282, H283, H284⟩ := bnd H254
      refine T.join (η := Unit × ((Option Addr × Nat))) (fun h => True) (fun h => (fun a279 c280 => [(0, .pointer (some ⟨g_0, 0, none⟩)), (4, .pointer (some ⟨g1, 0, none⟩)), (5, .pointer (some ⟨g2, 0, none⟩)), (6, .pointer (some ⟨g3, 0, none⟩)), (8, .pointer (some ⟨g247, 0, none⟩)), (9, .pointer (some ⟨g248, 0, none⟩))]) h.2.1 h.2.2) (fun h => (fun a279 c280 => [Ch.box g248 30 [.slice a279 e282.l.length c280, .bool e282.wrapped], Ch.box g247 26 [.slice a244 r241.cells.length c245, .bool r241.wrapped], Ch.box g_0 104 [.int .i64 g.w, .slice a_0_0 g.l.length c_0_0], Ch.box g3 59 [.int .i64 0, .slice none 0 0], Ch.box g2 64 [.int .i64 a.kind, .int .i64 a.y, .int .i64 a.top, .int .i64 a.bottom, .int .i64 a.n, .int .i64 a.style, .int .i64 a.w, .int .i64 a.h, .int .i64 a.row.kind, .int .i64 a.row.at_, .int .i64 a.row.n, .int .i64 a.row.style, .int .i32 a.row.rune], Ch.box g1 59 [.int .i64 x_.w, .slice a_1_0 x_.l.length c_1_0], Ch.arr tyRowRow 26 a_0_0 c_0_0 g.l]) h.2.1 h.2.2) (fun h => (fun a279 c280 => [Im.sl tyRef09Cell a279 c280 e282.l, Im.sl tyRowCell a244 c245 r241.cells, Im.sl tyRef09Row a_1_0 c_1_0 x_.l, Im.sl tyWideSpan (some ⟨0, 0, none⟩) 13 t_wide_nones, Im.sl tyWideSpan (some ⟨1, 0, none⟩) 14 t_wide_twos]) h.2.1 h.2.2) ?_ ?_
      · refine T.bif rfl H283 (fun hc H285 => ?_) (fun hc H285 => ?_)
        · refine T.region ?_
          refine L.q 1 rfl ?_
          refine L.y (Yl.ldb 5 rfl rfl rfl rfl) rfl rfl rfl ?_
          refine L.q 1 rfl ?_
          refine L.y (Yl.ldb 4 rfl rfl rfl rfl) rfl rfl rfl ?_
          obtain ⟨x286, h287, H288⟩ := bnd H285
          refine L.addr 1 rfl (idx_lt h287) fun b289 o290 e291 => ?_
          obtain rfl : a_1_0 = some ⟨b289, o290, none⟩ := e291
          refine L.y (Yl.ia h287 rfl rfl rfl rfl rfl rfl) rfl rfl rfl ?_
          refine L.el 1 rfl (idx_some h287).2 ?_
          rintro ⟨a292, c293⟩
          refine L.y (Yl.ldc 0 0 rfl rfl rfl rfl) rfl rfl rfl ?_
          refine L.a [0] [] (Ac.stb rfl rfl rfl rfl rfl rfl) rfl rfl rfl rfl rfl ?_
          intro _
          refine L.nil ?_
          have hr := Option.some.inj H288
          subst e282
          exact E.give ((), (a292, c293)) [0, 0, 0, 0, 0, 0, 0] [1, 2, 3, 4, 5] trivial ⟨rfl, rfl, rfl, rfl, rfl, rfl, trivial⟩ rfl rfl
        · refine T.skip ?_
          refine E.know [Im.sl tyRef09Cell none 0 []] (fun A w _ _ f hf => by rw [List.mem_singleton.1 hf]; exact Im.sl_nil A w) ?_
          have hr := Option.some.inj H285
          subst e282
          exact E.give ((), (none, 0)) [0, 0, 0, 0, 0, 0, 0] [0, 1, 2, 3, 4] trivial ⟨rfl, rfl, rfl, rfl, rfl, rfl, trivial⟩ rfl rfl
      · rintro ⟨_, ⟨a279, c280⟩⟩ _
        refine T.seq ?_
        refine T.seq ?_
        refine T.region ?_
        refine L.y (Yl.ldb 1 rfl rfl rfl rfl) rfl rfl rfl ?_
        refine L.y (Yl.ldb 0 rfl rfl rfl rfl) rfl rfl rfl ?_
        obtain ⟨r297, h298, H299⟩ := bnd H284
        refine L.a [] [1, 0] (Ac.call (c_law09_Is a244 c245 a279 c280 h298) rfl rfl rfl rfl) rfl rfl rfl rfl rfl ?_
        rintro ⟨⟩
        refine L.q 1 rfl ?_
        refine L.nil ?_
        refine E.then ?_
        refine T.bif rfl H299 (fun hc H301 => ?_) (fun hc H301 => ?_)
        · refine T.seq ?_
          refine T.region ?_
          refine L.y (Yl.ldb 5 rfl rfl rfl rfl) rfl rfl rfl ?_
          refine L.a [3] [] (Ac.stb rfl rfl rfl rfl rfl rfl) rfl rfl rfl rfl rfl ?_
          intro _
          refine L.q 1 rfl ?_
          refine L.nil ?_
          refine E.then ?_
          refine T.ret ?_
          refine E.then_ret ?_
          refine E.block_ret ?_
          refine E.then_ret ?_
          have hr := Option.some.inj H301
          subst r
          exact E.ret ((a_1_0, c_1_0), (a_0_0, c_0_0)) [3, 5] [2] (.cell 0 rfl rfl rfl (.tmp rfl .nil)) rfl rfl rfl
        · refine T.skip ?_
          refine E.then ?_
          refine T.seq ?_
          refine T.region ?_
          refine L.y (Yl.ldb 1 rfl rfl rfl rfl) rfl rfl rfl ?_
          refine L.y (Yl.ldb 0 rfl rfl rfl rfl) rfl rfl rfl ?_
          refine L.q 1 rfl ?_
          refine L.y (Yl.ldb 4 rfl rfl rfl rfl) rfl rfl rfl ?_
          obtain ⟨r302, h303, H304⟩ := bnd H301
          refine L.a [] [1, 0, 3, 4] (Ac.call (c_law09_Do a244 c245 a279 c280 h303) rfl rfl rfl rfl) rfl rfl rfl rfl rfl ?_
          rintro ⟨⟨a305, c306⟩, ⟨a307, c308⟩⟩
          refine L.q 3 rfl ?_
          refine L.a [] [] (Ac.alloc rfl rfl) rfl rfl rfl rfl rfl ?_
          intro g311
          refine L.a [] [] (Ac.alloc rfl rfl) rfl rfl rfl rfl rfl ?_
          intro g312
          refine L.a [1] [] (Ac.stb rfl rfl rfl rfl rfl rfl) rfl rfl rfl rfl rfl ?_
          intro _
          refine L.a [1] [] (Ac.stb rfl rfl rfl rfl rfl rfl) rfl rfl rfl rfl rfl ?_
          intro _
          refine L.nil ?_
          refine E.then ?_
          refine T.seq ?_
          refine T.region ?_
          refine L.y (Yl.ldb 7 rfl rfl rfl rfl) rfl rfl rfl ?_
          refine L.q 1 rfl ?_
          refine L.y (Yl.ldb 6 rfl rfl rfl rfl) rfl rfl rfl ?_
          refine L.y (Yl.ldb 0 rfl rfl rfl rfl) rfl rfl rfl ?_
          obtain ⟨r313, h314, H315⟩ := bnd H304
          refine L.a [] [4, 1] (Ac.call (c_ref10_Set a_1_0 c_1_0 a307 c308 h314) rfl rfl rfl rfl) rfl rfl rfl rfl rfl ?_
          rintro ⟨a316, c317⟩
          refine L.q 3 rfl ?_
          refine L.a [] [] (Ac.alloc rfl rfl) rfl rfl rfl rfl rfl ?_
          intro g319
          refine L.a [0] [] (Ac.stb rfl rfl rfl rfl rfl rfl) rfl rfl rfl rfl rfl ?_
          intro _
          refine L.q 1 rfl ?_
          refine L.nil ?_
          refine E.then ?_
          refine T.seq ?_
          refine T.draw [8] [0, 0, 0, 0, 0, 1, 1, 1] mo (by rfl) rfl ?_
          refine D.y 0 (Yl.ldb 0 rfl rfl rfl rfl) rfl rfl rfl rfl rfl rfl ?_
          refine D.q 1 rfl rfl rfl rfl rfl rfl ?_
          refine D.q 2 rfl rfl rfl rfl rfl rfl ?_
          refine D.y 3 (Yl.ldb 6 rfl rfl rfl rfl) rfl rfl rfl rfl rfl rfl ?_
          refine D.y 4 (Yl.ldb 2 rfl rfl rfl rfl) rfl rfl rfl rfl rfl rfl ?_
          refine D.q 6 rfl rfl rfl rfl rfl rfl ?_
          obtain ⟨r332, h333, H334⟩ := bnd H315
          refine D.one rfl rfl rfl (Dp.a [0, 0] [1] (Ac.call (c_grid_Grid_Set g_0 a_0_0 c_0_0 a305 c306 h333) rfl rfl rfl rfl) rfl rfl rfl rfl rfl rfl ?_)
          rintro ⟨⟩
          refine D.q 7 rfl rfl rfl rfl rfl rfl ?_
          refine D.one rfl rfl rfl (Dp.al [5] [] (Ac.stb rfl rfl rfl rfl rfl rfl) rfl rfl rfl rfl rfl rfl rfl ?_)
          intro _
          refine D.q 9 rfl rfl rfl rfl rfl rfl ?_
          refine D.nil rfl rfl ?_
          refine E.then ?_
          refine T.ret ?_
          refine E.block_ret ?_
          refine E.then_ret ?_
          have hr := Option.some.inj H334
          subst r
          exact E.ret ((a316, c317), (a_0_0, c_0_0)) [8, 8] [0] (.cell 0 rfl rfl rfl (.tmp rfl .nil)) rfl rfl rfl
  · refine T.seq ?_
    refine T.seq ?_
    refine T.region ?_
    refine L.q 2 rfl ?_
    refine L.nil ?_
    refine E.then ?_
    obtain ⟨e339, H340, H341⟩ := bnd H240
    refine T.join (η := Unit × Unit) (fun h => True) (fun h => [(0, .pointer (some ⟨g_0, 0, none⟩)), (4, .pointer (some ⟨g1, 0, none⟩)), (5, .pointer (some ⟨g2, 0, none⟩)), (6, .pointer (some ⟨g3, 0, none⟩)), (73, .bool e339)]) (fun h => [Ch.box g3 59 [.int .i64 0, .slice none 0 0], Ch.box g2 64 [.int .i64 a.kind, .int .i64 a.y, .int .i64 a.top, .int .i64 a.bottom, .int .i64 a.n, .int .i64 a.style, .int .i64 a.w, .int .i64 a.h, .int .i64 a.row.kind, .int .i64 a.row.at_, .int .i64 a.row.n, .int .i64 a.row.style, .int .i32 a.row.rune], Ch.box g1 59 [.int .i64 x_.w, .slice a_1_0 x_.l.length c_1_0], Ch.box g_0 104 [.int .i64 g.w, .slice a_0_0 g.l.length c_0_0], Ch.arr tyRowRow 26 a_0_0 c_0_0 g.l]) (fun h => [Im.sl tyRef09Row a_1_0 c_1_0 x_.l, Im.sl tyWideSpan (some ⟨0, 0, none⟩) 13 t_wide_nones, Im.sl tyWideSpan (some ⟨1, 0, none⟩) 14 t_wide_twos]) ?_ ?_
    · refine T.bif rfl H340 (fun hc H342 => ?_) (fun hc H342 => ?_)
      · refine T.skip ?_
        have hr := Option.some.inj H342
        subst e339
        exact E.give ((), ()) [0, 0, 0, 0, 0] [0, 1, 2] trivial ⟨rfl, rfl, rfl, rfl, rfl, trivial⟩ rfl rfl
      · refine T.region ?_
        refine L.q 2 rfl ?_
        refine L.nil ?_
        have hr := Option.some.inj H342
        subst e339
        exact E.give ((), ()) [0, 0, 0, 0, 0] [0, 1, 2] trivial ⟨rfl, rfl, rfl, rfl, rfl, trivial⟩ rfl rfl
    · rintro ⟨_, ⟨⟩⟩ _
      refine T.bif rfl H341 (fun hc H343 => ?_) (fun hc H343 => ?_)
      · refine T.seq ?_
        refine T.region ?_
        refine L.y (Yl.ldb 2 rfl rfl rfl rfl) rfl rfl rfl ?_
        refine L.q 1 rfl ?_
        refine L.y (Yl.ldb 1 rfl rfl rfl rfl) rfl rfl rfl ?_
        refine L.q 2 rfl ?_
        refine L.y (Yl.ldb 1 rfl rfl rfl rfl) rfl rfl rfl ?_
        refine L.q 1 rfl ?_
        refine L.y (Yl.ldb 1 rfl rfl rfl rfl) rfl rfl rfl ?_
        refine L.q 1 rfl ?_
        refine L.y (Yl.ldb 1 rfl rfl rfl rfl) rfl rfl rfl ?_
        refine L.q 1 rfl ?_
        refine L.y (Yl.ldb 1 rfl rfl rfl rfl) rfl rfl rfl ?_
        obtain ⟨r344, h345, H346⟩ := bnd H343
        refine L.a [] [0] (Ac.call (c_ref10_Move a_1_0 c_1_0 h345) rfl rfl rfl rfl) rfl rfl rfl rfl rfl ?_
        rintro ⟨⟨a347, c348⟩, ⟨a349, c350⟩⟩
        refine L.q 3 rfl ?_
        refine L.a [] [] (Ac.alloc rfl rfl) rfl rfl rfl rfl rfl ?_
        intro g353
        refine L.a [0] [] (Ac.stb rfl rfl rfl rfl rfl rfl) rfl rfl rfl rfl rfl ?_
        intro _
        refine L.q 1 rfl ?_
        refine L.nil ?_
        refine E.then ?_
        refine T.seq ?_
        refine T.seq ?_
        refine T.region ?_
        refine L.q 1 rfl ?_
        refine L.y (Yl.ldb 3 rfl rfl rfl rfl) rfl rfl rfl ?_
        refine L.q 1 rfl ?_
        refine L.nil ?_
        refine E.then ?_
        refine T.bif rfl H346 (fun hc H395 => ?_) (fun hc H395 => ?_)
        · refine T.seq ?_
          refine T.draw [13] [0, 0, 0, 0, 0] mo (by rfl) rfl ?_
          refine D.y 0 (Yl.ldb 0 rfl rfl rfl rfl) rfl rfl rfl rfl rfl rfl ?_
          refine D.q 1 rfl rfl rfl rfl rfl rfl ?_
          refine D.q 2 rfl rfl rfl rfl rfl rfl ?_
          refine D.y 3 (Yl.ldb 3 rfl rfl rfl rfl) rfl rfl rfl rfl rfl rfl ?_
          refine D.q 4 rfl rfl rfl rfl rfl rfl ?_
          refine D.y 5 (Yl.ldb 3 rfl rfl rfl rfl) rfl rfl rfl rfl rfl rfl ?_
          refine D.q 6 rfl rfl rfl rfl rfl rfl ?_
          refine D.y 7 (Yl.ldb 3 rfl rfl rfl rfl) rfl rfl rfl rfl rfl rfl ?_
          refine D.q 8 rfl rfl rfl rfl rfl rfl ?_
          refine D.y 9 (Yl.ldb 3 rfl rfl rfl rfl) rfl rfl rfl rfl rfl rfl ?_
          refine D.q 11 rfl rfl rfl rfl rfl rfl ?_
          obtain ⟨r426, h427, H428⟩ := bnd H395
          refine D.one rfl rfl rfl (Dp.a [0, 0] [] (Ac.call (c_grid_Grid_Up g_0 a_0_0 c_0_0 h427) rfl rfl rfl rfl) rfl rfl rfl rfl rfl rfl ?_)
          rintro ⟨a429, c430⟩
          obtain ⟨r433, h434, H435⟩ := bnd H428
          refine D.one rfl rfl rfl (Dp.br (Ac.call (c_law10_Rows a429 c430 a349 c350 h434) rfl rfl rfl rfl) (Bw.ch 5 rfl (Bw.ch 1 rfl (Bw.nil))) rfl rfl rfl rfl ?_)
          intro _
          refine D.one rfl rfl rfl (Dp.al [2] [] (Ac.stb rfl rfl rfl rfl rfl rfl) rfl rfl rfl rfl rfl rfl rfl ?_)
          intro _
          refine D.q 14 rfl rfl rfl rfl rfl rfl ?_
          refine D.nil rfl rfl ?_
          refine E.then ?_
          refine T.ret ?_
          refine E.then_ret ?_
          refine E.block_ret ?_
          refine E.then_ret ?_
          have hr := Option.some.inj H435
          subst r
          exact E.ret ((a347, c348), (a_0_0, c_0_0)) [6, 6] [0] (.cell 0 rfl rfl rfl (.tmp rfl .nil)) rfl rfl rfl
        · refine T.skip ?_
          refine E.then ?_
          refine T.seq ?_
          refine T.draw [13] [0, 0, 0, 0, 0] mo (by rfl) rfl ?_
          refine D.y 0 (Yl.ldb 0 rfl rfl rfl rfl) rfl rfl rfl rfl rfl rfl ?_
          refine D.q 1 rfl rfl rfl rfl rfl rfl ?_
          refine D.q 2 rfl rfl rfl rfl rfl rfl ?_
          refine D.y 3 (Yl.ldb 3 rfl rfl rfl rfl) rfl rfl rfl rfl rfl rfl ?_
          refine D.q 4 rfl rfl rfl rfl rfl rfl ?_
          refine D.y 5 (Yl.ldb 3 rfl rfl rfl rfl) rfl rfl rfl rfl rfl rfl ?_
          refine D.q 6 rfl rfl rfl rfl rfl rfl ?_
          refine D.y 7 (Yl.ldb 3 rfl rfl rfl rfl) rfl rfl rfl rfl rfl rfl ?_
          refine D.q 8 rfl rfl rfl rfl rfl rfl ?_
          refine D.y 9 (Yl.ldb 3 rfl rfl rfl rfl) rfl rfl rfl rfl rfl rfl ?_
          refine D.q 11 rfl rfl rfl rfl rfl rfl ?_
          obtain ⟨r466, h467, H468⟩ := bnd H395
          refine D.one rfl rfl rfl (Dp.a [0, 0] [] (Ac.call (c_grid_Grid_Down g_0 a_0_0 c_0_0 h467) rfl rfl rfl rfl) rfl rfl rfl rfl rfl rfl ?_)
          rintro ⟨a469, c470⟩
          obtain ⟨r473, h474, H475⟩ := bnd H468
          refine D.one rfl rfl rfl (Dp.br (Ac.call (c_law10_Rows a469 c470 a349 c350 h474) rfl rfl rfl rfl) (Bw.ch 5 rfl (Bw.ch 1 rfl (Bw.nil))) rfl rfl rfl rfl ?_)
          intro _
          refine D.one rfl rfl rfl (Dp.al [2] [] (Ac.stb rfl rfl rfl rfl rfl rfl) rfl rfl rfl rfl rfl rfl rfl ?_)
          intro _
          refine D.q 14 rfl rfl rfl rfl rfl rfl ?_
          refine D.nil rfl rfl ?_
          refine E.then ?_
          refine T.ret ?_
          refine E.block_ret ?_
          refine E.then_ret ?_
          have hr := Option.some.inj H475
          subst r
          exact E.ret ((a347, c348), (a_0_0, c_0_0)) [6, 6] [0] (.cell 0 rfl rfl rfl (.tmp rfl .nil)) rfl rfl rfl
      · refine T.skip ?_
        refine E.block ?_
        refine E.then ?_
        refine T.seq ?_
        obtain ⟨e1053, H1054, H1055⟩ := bnd H343
        refine T.join (η := Unit × (Nat × (Option Addr × Nat) × (Option Addr × Nat))) (fun h => True) (fun h => (fun g1045 a1046 c1047 a1050 c1051 => [(0, .pointer (some ⟨g_0, 0, none⟩)), (5, .pointer (some ⟨g2, 0, none⟩)), (6, .pointer (some ⟨g3, 0, none⟩)), (16, .pointer (some ⟨g1045, 0, none⟩)), (17, .slice a1050 e1053.2.length c1051)]) h.2.1 h.2.2.1.1 h.2.2.1.2 h.2.2.2.1 h.2.2.2.2) (fun h => (fun g1045 a1046 c1047 a1050 c1051 => [Ch.box g3 59 [.int .i64 0, .slice none 0 0], Ch.box g2 64 [.int .i64 a.kind, .int .i64 a.y, .int .i64 a.top, .int .i64 a.bottom, .int .i64 a.n, .int .i64 a.style, .int .i64 a.w, .int .i64 a.h, .int .i64 a.row.kind, .int .i64 a.row.at_, .int .i64 a.row.n, .int .i64 a.row.style, .int .i32 a.row.rune], Ch.box g1 59 [.int .i64 x_.w, .slice a_1_0 x_.l.length c_1_0], Ch.box g_0 104 [.int .i64 g.w, .slice a_0_0 g.l.length c_0_0], Ch.box g1045 59 [.int .i64 e1053.1.w, .slice a1046 e1053.1.l.length c1047], Ch.arr tyRowRow 26 a_0_0 c_0_0 g.l]) h.2.1 h.2.2.1.1 h.2.2.1.2 h.2.2.2.1 h.2.2.2.2) (fun h => (fun g1045 a1046 c1047 a1050 c1051 => [Im.sl tyRef09Row a1046 c1047 e1053.1.l, Im.sl tyRef09Row a1050 c1051 e1053.2, Im.sl tyRef09Row a_1_0 c_1_0 x_.l, Im.sl tyWideSpan (some ⟨0, 0, none⟩) 13 t_wide_nones, Im.sl tyWideSpan (some ⟨1, 0, none⟩) 14 t_wide_twos]) h.2.1 h.2.2.1.1 h.2.2.1.2 h.2.2.2.1 h.2.2.2.2) ?_ ?_
        · refine T.draw [14] [0, 0, 0, 0, 0] mo (by rfl) rfl ?_
          refine D.y 0 (Yl.ldb 2 rfl rfl rfl rfl) rfl rfl rfl rfl rfl rfl ?_
          refine D.q 1 rfl rfl rfl rfl rfl rfl ?_
          refine D.y 2 (Yl.ldb 1 rfl rfl rfl rfl) rfl rfl rfl rfl rfl rfl ?_
          refine D.q 4 rfl rfl rfl rfl rfl rfl ?_
          refine D.y 5 (Yl.ldb 1 rfl rfl rfl rfl) rfl rfl rfl rfl rfl rfl ?_
          refine D.q 7 rfl rfl rfl rfl rfl rfl ?_
          refine D.y 8 (Yl.ldb 1 rfl rfl rfl rfl) rfl rfl rfl rfl rfl rfl ?_
          obtain ⟨r1198, h1199, H1267⟩ := bnd H1054
          obtain ⟨r1201, h1202, H1268⟩ := bnd H1267
          obtain ⟨r1204, h1205, H1269⟩ := bnd H1268
          refine D.two rfl rfl rfl ?_ ?_
          · refine Dp.a [] [] (Ac.call (c_law10_small h1199) rfl rfl rfl rfl) rfl rfl rfl rfl rfl rfl ?_
            rintro ⟨⟩
            refine D.two rfl rfl rfl ?_ ?_
            · refine Dp.a [] [] (Ac.call (c_law10_small h1202) rfl rfl rfl rfl) rfl rfl rfl rfl rfl rfl ?_
              rintro ⟨⟩
              refine D.two rfl rfl rfl ?_ ?_
              · refine Dp.a [] [0] (Ac.call (c_ref10_Resize a_1_0 c_1_0 h1205) rfl rfl rfl rfl) rfl rfl rfl rfl rfl rfl ?_
                rintro ⟨⟨a1306, c1307⟩, ⟨a1308, c1309⟩⟩
                refine D.q 10 rfl rfl rfl rfl rfl rfl ?_
                refine D.q 11 rfl rfl rfl rfl rfl rfl ?_
                refine D.q 12 rfl rfl rfl rfl rfl rfl ?_
                refine D.one rfl rfl rfl (Dp.a [] [] (Ac.alloc rfl rfl) rfl rfl rfl rfl rfl rfl ?_)
                intro g1312
                refine D.one rfl rfl rfl (Dp.al [5] [] (Ac.stb rfl rfl rfl rfl rfl rfl) rfl rfl rfl rfl rfl rfl rfl ?_)
                intro _
                refine D.q 15 rfl rfl rfl rfl rfl rfl ?_
                refine D.nil rfl rfl ?_
                have hr := Option.some.inj H1269
                subst e1053
                exact E.give ((), (g1312, (a1306, c1307), (a1308, c1309))) [1, 1, 1, 1, 0, 0] [0, 1, 2, 3, 4] trivial ⟨rfl, rfl, rfl, rfl, rfl, trivial⟩ rfl rfl
              · refine Dp.a [] [] (Ac.alloc rfl rfl) rfl rfl rfl rfl rfl rfl ?_
                intro g1313
                refine D.one rfl rfl rfl (Dp.a [] [0] (Ac.call (c_ref10_Resize a_1_0 c_1_0 h1205) rfl rfl rfl rfl) rfl rfl rfl rfl rfl rfl ?_)
                rintro ⟨⟨a1315, c1316⟩, ⟨a1317, c1318⟩⟩
                refine D.q 10 rfl rfl rfl rfl rfl rfl ?_
                refine D.q 11 rfl rfl rfl rfl rfl rfl ?_
                refine D.q 12 rfl rfl rfl rfl rfl rfl ?_
                refine D.one rfl rfl rfl (Dp.al [5] [] (Ac.stb rfl rfl rfl rfl rfl rfl) rfl rfl rfl rfl rfl rfl rfl ?_)
                intro _
                refine D.q 15 rfl rfl rfl rfl rfl rfl ?_
                refine D.nil rfl rfl ?_
                have hr := Option.some.inj H1269
                subst e1053
                exact E.give ((), (g1313, (a1315, c1316), (a1317, c1318))) [1, 1, 1, 1, 0, 0] [0, 1, 2, 3, 4] trivial ⟨rfl, rfl, rfl, rfl, rfl, trivial⟩ rfl rfl
            · refine Dp.a [] [] (Ac.alloc rfl rfl) rfl rfl rfl rfl rfl rfl ?_
              intro g1321
              refine D.one rfl rfl rfl (Dp.a [] [] (Ac.call (c_law10_small h1202) rfl rfl rfl rfl) rfl rfl rfl rfl rfl rfl ?_)
              rintro ⟨⟩
              refine D.one rfl rfl rfl (Dp.a [] [0] (Ac.call (c_ref10_Resize a_1_0 c_1_0 h1205) rfl rfl rfl rfl) rfl rfl rfl rfl rfl rfl ?_)
              rintro ⟨⟨a1324, c1325⟩, ⟨a1326, c1327⟩⟩
              refine D.q 10 rfl rfl rfl rfl rfl rfl ?_
              refine D.q 11 rfl rfl rfl rfl rfl rfl ?_
              refine D.q 12 rfl rfl rfl rfl rfl rfl ?_
              refine D.one rfl rfl rfl (Dp.al [5] [] (Ac.stb rfl rfl rfl rfl rfl rfl) rfl rfl rfl rfl rfl rfl rfl ?_)
              intro _
              refine D.q 15 rfl rfl rfl rfl rfl rfl ?_
              refine D.nil rfl rfl ?_
              have hr := Option.some.inj H1269
              subst e1053
              exact E.give ((), (g1321, (a1324, c1325), (a1326, c1327))) [1, 1, 1, 1, 0, 0] [0, 1, 2, 3, 4] trivial ⟨rfl, rfl, rfl, rfl, rfl, trivial⟩ rfl rfl
          · refine Dp.a [] [] (Ac.alloc rfl rfl) rfl rfl rfl rfl rfl rfl ?_
            intro g1330
            refine D.one rfl rfl rfl (Dp.a [] [] (Ac.call (c_law10_small h1199) rfl rfl rfl rfl) rfl rfl rfl rfl rfl rfl ?_)
            rintro ⟨⟩
            refine D.one rfl rfl rfl (Dp.a [] [] (Ac.call (c_law10_small h1202) rfl rfl rfl rfl) rfl rfl rfl rfl rfl rfl ?_)
            rintro ⟨⟩
            refine D.one rfl rfl rfl (Dp.a [] [0] (Ac.call (c_ref10_Resize a_1_0 c_1_0 h1205) rfl rfl rfl rfl) rfl rfl rfl rfl rfl rfl ?_)
            rintro ⟨⟨a1334, c1335⟩, ⟨a1336, c1337⟩⟩
            refine D.q 10 rfl rfl rfl rfl rfl rfl ?_
            refine D.q 11 rfl rfl rfl rfl rfl rfl ?_
            refine D.q 12 rfl rfl rfl rfl rfl rfl ?_
            refine D.one rfl rfl rfl (Dp.al [5] [] (Ac.stb rfl rfl rfl rfl rfl rfl) rfl rfl rfl rfl rfl rfl rfl ?_)
            intro _
            refine D.q 15 rfl rfl rfl rfl rfl rfl ?_
            refine D.nil rfl rfl ?_
            have hr := Option.some.inj H1269
            subst e1053
            exact E.give ((), (g1330, (a1334, c1335), (a1336, c1337))) [1, 1, 1, 1, 0, 0] [0, 1, 2, 3, 4] trivial ⟨rfl, rfl, rfl, rfl, rfl, trivial⟩ rfl rfl
        · rintro ⟨_, ⟨g1045, ⟨a1046, c1047⟩, ⟨a1050, c1051⟩⟩⟩ _
          refine T.seq ?_
          refine T.draw [13] [0, 0, 0, 1] mo (by rfl) rfl ?_
          refine D.y 0 (Yl.ldb 3 rfl rfl rfl rfl) rfl rfl rfl rfl rfl rfl ?_
          refine D.q 1 rfl rfl rfl rfl rfl rfl ?_
          refine D.q 2 rfl rfl rfl rfl rfl rfl ?_
          refine D.y 3 (Yl.ldb 1 rfl rfl rfl rfl) rfl rfl rfl rfl rfl rfl ?_
          refine D.q 5 rfl rfl rfl rfl rfl rfl ?_
          refine D.y 6 (Yl.ldb 1 rfl rfl rfl rfl) rfl rfl rfl rfl rfl rfl ?_
          refine D.q 8 rfl rfl rfl rfl rfl rfl ?_
          refine D.y 9 (Yl.ldb 1 rfl rfl rfl rfl) rfl rfl rfl rfl rfl rfl ?_
          refine D.q 11 rfl rfl rfl rfl rfl rfl ?_
          obtain ⟨r1394, h1395, H1396⟩ := bnd H1055
          refine D.one rfl rfl rfl (Dp.a [] [] (Ac.call (c_law10_small h1395) rfl rfl rfl rfl) rfl rfl rfl rfl rfl rfl ?_)
          rintro ⟨⟩
          obtain ⟨r1397, h1398, H1399⟩ := bnd H1396
          refine D.one rfl rfl rfl (Dp.a [] [] (Ac.call (c_law10_small h1398) rfl rfl rfl rfl) rfl rfl rfl rfl rfl rfl ?_)
          rintro ⟨⟩
          obtain ⟨r1400, h1401, H1402⟩ := bnd H1399
          refine D.one rfl rfl rfl (Dp.a [0, 0] [] (Ac.call (c_grid_Grid_Resize g_0 a_0_0 c_0_0 h1401) rfl rfl rfl rfl) rfl rfl rfl rfl rfl rfl ?_)
          rintro ⟨⟨a1403, c1404⟩, ⟨a1405, c1406⟩⟩
          obtain ⟨r1409, h1410, H1411⟩ := bnd H1402
          refine D.one rfl rfl rfl (Dp.br (Ac.call (c_law10_Rows a1403 c1404 a1050 c1051 h1410) rfl rfl rfl rfl) (Bw.ch 4 rfl (Bw.im 1 rfl (Bw.nil))) rfl rfl rfl rfl ?_)
          intro _
          refine D.one rfl rfl rfl (Dp.al [0] [] (Ac.stb rfl rfl rfl rfl rfl rfl) rfl rfl rfl rfl rfl rfl rfl ?_)
          intro _
          refine D.q 14 rfl rfl rfl rfl rfl rfl ?_
          refine D.nil rfl rfl ?_
          refine E.then ?_
          refine T.ret ?_
          have hr := Option.some.inj H1411
          subst r
          exact E.ret ((a1046, c1047), (a1405, c1406)) [5, 5] [0] (.cell 0 rfl rfl rfl (.tmp rfl .nil)) rfl rfl rfl

end Go.Tw.X

set_option linter.unusedVariables false
set_option linter.unusedSimpArgs false
set_option maxRecDepth 10000
namespace Go.Tw.X
open Go Go.Tw
theorem c_grid_Grid_Size {g : GridGrid} (g_0 : Nat) (a_0_0 : Option Addr) (c_0_0 : Nat) {r : Int × Int} (H : p_grid_Grid_Size g = some r) : CT G 34 [.pointer (some ⟨g_0, 0, none⟩)] [Ch.box g_0 104 [.int .i64 g.w, .slice a_0_0 g.l.length c_0_0], Ch.arr tyRowRow 26 a_0_0 c_0_0 g.l] [] (fun h : Unit => .tuple #[.int .i64 r.1, .int .i64 r.2]) (fun h => [Ch.box g_0 104 [.int .i64 g.w, .slice a_0_0 g.l.length c_0_0], Ch.arr tyRowRow 26 a_0_0 c_0_0 g.l]) (fun h => []) := by
  delta p_grid_Grid_Size at H
  refine CT.of Go.Proofs.Tryd.func34 (by kernel_rfl) rfl rfl rfl fun K => ?_
  refine T.seq ?_
  refine T.region ?_
  refine L.q 2 rfl ?_
  refine L.nil ?_
  refine E.then ?_
  refine T.seq ?_
  refine T.draw [] [0, 0] mo (by rfl) rfl ?_
  refine D.q 0 rfl rfl rfl rfl rfl rfl ?_
  refine D.q 1 rfl rfl rfl rfl rfl rfl ?_
  refine D.q 2 rfl rfl rfl rfl rfl rfl ?_
  refine D.y 3 (Yl.ldb 0 rfl rfl rfl rfl) rfl rfl rfl rfl rfl rfl ?_
  refine D.q 4 rfl rfl rfl rfl rfl rfl ?_
  refine D.q 5 rfl rfl rfl rfl rfl rfl ?_
  refine D.q 6 rfl rfl rfl rfl rfl rfl ?_
  refine D.y 7 (Yl.ldb 0 rfl rfl rfl rfl) rfl rfl rfl rfl rfl rfl ?_
  refine D.q 8 rfl rfl rfl rfl rfl rfl ?_
  refine D.q 9 rfl rfl rfl rfl rfl rfl ?_
  refine D.q 10 rfl rfl rfl rfl rfl rfl ?_
  refine D.nil rfl rfl ?_
  refine E.then ?_
  refine T.ret ?_
  have hr := Option.some.inj H
  subst r
  exact E.ret () [0, 0] [] (.tmp rfl (.tmp rfl .nil)) rfl rfl rfl

theorem c_grid_each {l : List RowRow} (a_0 : Option Addr) (c_0 : Nat) {r : (List RowRow)} (H : p_grid_each l = some r) : CT G 84 [.slice a_0 l.length c_0] [] [Im.sl tyRowRow a_0 c_0 l] (fun h : Nat => .func (.func 86) #[] #[.pointer (some ⟨h, 0, none⟩)]) (fun h => [Ch.box h 69 [.slice a_0 r.length c_0]]) (fun h => [Im.sl tyRowRow a_0 c_0 r]) := by
  delta p_grid_each at H
  refine CT.of Go.Proofs.Tryd.func84 (by kernel_rfl) rfl rfl rfl fun K => ?_
  refine T.seq ?_
  refine T.region ?_
  refine L.a [] [] (Ac.box rfl rfl) rfl rfl rfl rfl rfl ?_
  intro g1
  refine L.q 1 rfl ?_
  refine L.nil ?_
  refine E.then ?_
  refine T.seq ?_
  refine T.region ?_
  refine L.q 2 rfl ?_
  refine L.nil ?_
  refine E.then ?_
  refine T.ret ?_
  have hr := Option.some.inj H
  subst r
  exact E.ret g1 [0] [0] (.tmp rfl .nil) rfl rfl rfl

theorem c_grid_each_1 {σ η : Type} {Y : σ → RowRow → Option (σ × Bool)} {y0 : σ} {x1 : List RowRow} {yl : Nat} {C : σ → η → Ch} (hY : ∀ s (h : η) (x : RowRow) (t : (Option Addr × Nat)) z, Y s x = some z → YT G yl [.agg #[.slice t.1 x.cells.length t.2, .bool x.wrapped]] [C s h] [Im.sl tyRowCell t.1 t.2 x.cells] (fun _ : η => .bool z.2) (fun h2 => [C z.1 h2]) (fun _ => [])) (h0 : η) (g_1 : Nat) (a_1_0 : Option Addr) (c_1_0 : Nat) {r : σ} (H : p_grid_each_1 Y y0 x1 = some r) : CT G 86 [.func (.yield yl) #[] #[], .pointer (some ⟨g_1, 0, none⟩)] [C y0 h0, Ch.box g_1 69 [.slice a_1_0 x1.length c_1_0]] [Im.sl tyRowRow a_1_0 c_1_0 x1] (fun h : η => .tuple #[]) (fun h => [C r h, Ch.box g_1 69 [.slice a_1_0 x1.length c_1_0]]) (fun h => []) := by
  delta p_grid_each_1 at H
  refine CT.of Go.Proofs.Tryd.func86 (by kernel_rfl) rfl rfl rfl fun K => ?_
  refine T.seq ?_
  refine T.region ?_
  refine L.y (Yl.ldb 1 rfl rfl rfl rfl) rfl rfl rfl ?_
  refine L.q 2 rfl ?_
  refine L.nil ?_
  refine E.then ?_
  obtain ⟨y152, H153, H154⟩ := bnd H
  refine T.joinE (η := σ × (η)) (fun h => y152 = .inl h.1) (fun h => (fun e151 => (fun h150 => []) h.2) h.1) (fun h => (fun e151 => (fun h150 => [C e151 h150, Ch.box g_1 69 [.slice a_1_0 x1.length c_1_0]]) h.2) h.1) (fun h => (fun e151 => (fun h150 => [Im.sl tyRowRow a_1_0 c_1_0 x1]) h.2) h.1) ?_ ?_
  · refine T.block ?_
    refine T.lp (η := η) (fun s102 h => (fun h101 => [(0, .func (.yield yl) #[] #[]), (5, .slice a_1_0 x1.length c_1_0), (6, .int .i64 (x1.length : Int)), (7, .int .i64 s102.1)]) h) (fun s102 h => (fun h101 => [C s102.2 h101, Ch.box g_1 69 [.slice a_1_0 x1.length c_1_0]]) h) (fun s102 h => (fun h101 => [Im.sl tyRowRow a_1_0 c_1_0 x1]) h) h0 [0, 0] [0] H153 ⟨rfl, rfl, rfl, rfl, trivial⟩ rfl rfl ?_
    rintro k s102 h101 z156 H155 hag157 hbr158
    refine T.seq ?_
    refine T.region ?_
    refine L.q 1 rfl ?_
    refine L.nil ?_
    refine E.then ?_
    refine T.seq ?_
    refine T.bif rfl H155 (fun hc H160 => ?_) (fun hc H160 => ?_)
    · refine T.skip ?_
      refine E.then ?_
      refine T.seq ?_
      refine T.block ?_
      refine T.seq ?_
      refine T.region ?_
      obtain ⟨x183, h184, H185⟩ := bnd H160
      refine L.addr 0 rfl (idx_lt h184) fun b186 o187 e188 => ?_
      obtain rfl : a_1_0 = some ⟨b186, o187, none⟩ := e188
      refine L.y (Yl.ia h184 rfl rfl rfl rfl rfl rfl) rfl rfl rfl ?_
      refine L.el 0 rfl (idx_some h184).2 ?_
      rintro ⟨a189, c190⟩
      refine L.y (Yl.ldc 0 0 rfl rfl rfl rfl) rfl rfl rfl ?_
      refine L.a [] [] (Ac.alloc rfl rfl) rfl rfl rfl rfl rfl ?_
      intro g193
      refine L.a [0] [] (Ac.stb rfl rfl rfl rfl rfl rfl) rfl rfl rfl rfl rfl ?_
      intro _
      refine L.nil ?_
      refine E.then ?_
      refine T.seq ?_
      refine T.region ?_
      refine L.q 1 rfl ?_
      refine L.y (Yl.ldb 0 rfl rfl rfl rfl) rfl rfl rfl ?_
      obtain ⟨r194, h195, H196⟩ := bnd H185
      refine L.a [] [1] (Ac.call (c_grid_own a189 c190 h195) rfl rfl rfl rfl) rfl rfl rfl rfl rfl ?_
      rintro ⟨a197, c198⟩
      obtain ⟨z200, h201, H202⟩ := bnd H196
      refine L.yd [1] [0] (hY _ _ _ (a197, c198) _ h201) rfl rfl rfl rfl rfl rfl rfl rfl ?_
      intro h203
      refine L.q 1 rfl ?_
      refine L.nil ?_
      refine E.then ?_
      refine T.bif rfl H202 (fun hc H204 => ?_) (fun hc H204 => ?_)
      · refine T.ret ?_
        refine E.block_ret ?_
        refine E.then_ret ?_
        refine E.then_ret ?_
        refine E.block_ret ?_
        obtain ⟨w205, hz, H206⟩ := inrr_some H204
        subst z156
        have hb := hbr158 _ rfl
        subst y152
        have hw : w205 = r := Option.some.inj H154
        subst w205
        refine E.then_ret ?_
        have hr := Option.some.inj H206
        subst r
        exact E.ret h203 [0, 1] [] .nil rfl rfl rfl
      · refine T.skip ?_
        refine E.block ?_
        refine E.then ?_
        refine T.region ?_
        refine L.q 2 rfl ?_
        refine L.nil ?_
        have hr := Option.some.inj H204
        subst z156
        exact E.give (_, h203) [0, 1] [3] (hag157 _ rfl) ⟨rfl, rfl, rfl, rfl, trivial⟩ rfl rfl
    · refine T.exit ?_
      refine E.then_exit' ?_
      refine E.then_exit' ?_
      refine E.block_here ?_
      have hr := Option.some.inj H160
      subst z156
      have hb := hbr158 _ rfl
      subst y152
      exact E.give (_, h101) [0, 0] [0] rfl trivial rfl rfl
  · rintro ⟨e151, h150⟩ hy
    subst hy
    refine E.off ?_
    have hr := Option.some.inj H154
    subst r
    exact E.ret h150 [0, 0] [] .nil rfl rfl rfl

theorem c_grid_copies {l : List RowRow} (a_0 : Option Addr) (c_0 : Nat) {r : (List RowRow)} (H : p_grid_copies l = some r) : CT G 69 [.slice a_0 l.length c_0] [] [Im.sl tyRowRow a_0 c_0 l] (fun h : (Option Addr × Nat) => .slice h.1 r.length h.2) (fun h => [Ch.arr tyRowRow 26 h.1 h.2 r]) (fun h => []) := by
  delta p_grid_copies at H
  refine CT.of Go.Proofs.Tryd.func69 (by kernel_rfl) rfl rfl rfl fun K => ?_
  refine T.dfs0 ?_
  refine T.seq ?_
  refine T.region ?_
  refine L.q 1 rfl ?_
  refine L.nil ?_
  refine E.then ?_
  refine T.seq ?_
  refine T.region ?_
  refine L.a [] [] (Ac.alloc rfl rfl) rfl rfl rfl rfl rfl ?_
  intro g1
  refine L.nil ?_
  refine E.then ?_
  refine T.seq ?_
  refine T.seq ?_
  refine T.region ?_
  refine L.q 1 rfl ?_
  obtain ⟨r2, h3, H4⟩ := bnd H
  refine L.a [] [0] (Ac.call (c_grid_each a_0 c_0 h3) rfl rfl rfl rfl) rfl rfl rfl rfl rfl ?_
  rintro g5
  refine L.nil ?_
  refine E.then ?_
  refine T.block ?_
  refine T.nil0 tyRowRow 26 ?_
  obtain ⟨r54, h55, H56⟩ := bnd H4
  refine T.rf2 (σ := (List RowRow)) (η := (Option Addr × Nat)) (X := RowRow) (θ := (Option Addr × Nat)) (s1 := r54) (hx := fun x => x) (fun x t => [.agg #[.slice t.1 x.cells.length t.2, .bool x.wrapped]]) (fun x t => [Im.sl tyRowCell t.1 t.2 x.cells]) (fun _ => none) (fun s40 h => (fun a23 c24 => [Ch.arr tyRowRow 26 a23 c24 s40, Ch.box g1 69 [.slice a23 s40.length c24]]) h.1 h.2) (fun s40 h => (fun a23 c24 => [Im.sl tyRowRow a_0 c_0 r2, Im.sl tyRowRow a_0 c_0 l]) h.1 h.2) 3 [0, 1, 0] [0, 1] [0] rfl rfl (fun _ _ => rfl) rfl (fun yl C hY => c_grid_each_1 hY (none, 0) g5 a_0 c_0 h55) (fun _ _ _ _ => rfl) rfl rfl rfl rfl rfl ?_ rfl ?_
  · rintro yl K2 s40 ⟨a23, c24⟩ x9 ⟨a7, c8⟩ z41 H42
    refine T.region ?_
    refine L.a [] [] (Ac.alloc rfl rfl) rfl rfl rfl rfl rfl ?_
    intro g44
    refine L.a [0] [] (Ac.stb rfl rfl rfl rfl rfl rfl) rfl rfl rfl rfl rfl ?_
    intro _
    refine L.nil ?_
    refine E.begin fun K3 => ?_
    refine T.block ?_
    refine T.region ?_
    refine L.y (Yl.ldb 2 rfl rfl rfl rfl) rfl rfl rfl ?_
    refine L.y (Yl.ldb 0 rfl rfl rfl rfl) rfl rfl rfl ?_
    refine L.a [] [0] (Ac.bs (ty := tyRowRow) (xs := [x9]) (.cons (a7, c8) [0] rfl .nil) rfl rfl rfl rfl rfl rfl rfl) rfl rfl rfl rfl rfl ?_
    intro g45
    refine L.frz 0 rfl ?_
    obtain ⟨_, h48, H49⟩ := bnd H42
    refine L.a [1] [0] (Ac.ap (ty := tyRowRow) h48 rfl rfl rfl rfl rfl rfl rfl) rfl rfl rfl rfl rfl ?_
    rintro ⟨a50, c51⟩
    refine L.a [2] [] (Ac.stb rfl rfl rfl rfl rfl rfl) rfl rfl rfl rfl rfl ?_
    intro _
    refine L.nil ?_
    refine E.block ?_
    have hr := Option.some.inj H49
    subst z41
    exact E.on (a50, c51) [1, 0] [2, 3] rfl rfl rfl rfl
  · rintro h57 D59
    refine E.block ?_
    refine E.then ?_
    refine T.seq ?_
    refine T.region ?_
    refine L.y (Yl.ldb 2 rfl rfl rfl rfl) rfl rfl rfl ?_
    refine L.q 1 rfl ?_
    refine L.nil ?_
    refine E.then ?_
    refine T.ret ?_
    have hr := Option.some.inj H56
    subst r
    exact E.retd (h57.1, h57.2) 0 [0] [] rfl (.tmp rfl .nil) rfl rfl rfl

theorem c_grid_each_v2 {l : List RowRow} (a_0 : Option Addr) (c_0 : Nat) {r : (List RowRow)} (H : p_grid_each_v2 l = some r) : CT G 84 [.slice a_0 l.length c_0] [Ch.arr tyRowRow 26 a_0 c_0 l] [] (fun h : Nat => .func (.func 86) #[] #[.pointer (some ⟨h, 0, none⟩)]) (fun h => [Ch.box h 69 [.slice a_0 r.length c_0], Ch.arr tyRowRow 26 a_0 c_0 r]) (fun h => []) := by
  delta p_grid_each_v2 at H
  refine CT.of Go.Proofs.Tryd.func84 (by kernel_rfl) rfl rfl rfl fun K => ?_
  refine T.seq ?_
  refine T.region ?_
  refine L.a [] [] (Ac.box rfl rfl) rfl rfl rfl rfl rfl ?_
  intro g1
  refine L.q 1 rfl ?_
  refine L.nil ?_
  refine E.then ?_
  refine T.seq ?_
  refine T.region ?_
  refine L.q 2 rfl ?_
  refine L.nil ?_
  refine E.then ?_
  refine T.ret ?_
  have hr := Option.some.inj H
  subst r
  exact E.ret g1 [0, 0] [] (.tmp rfl .nil) rfl rfl rfl

theorem c_grid_each_1_v2 {σ η : Type} {Y : σ → RowRow → Option (σ × Bool)} {y0 : σ} {x1 : List RowRow} {yl : Nat} {C : σ → η → Ch} (hY : ∀ s (h : η) (x : RowRow) (t : (Option Addr × Nat)) z, Y s x = some z → YT G yl [.agg #[.slice t.1 x.cells.length t.2, .bool x.wrapped]] [C s h] [Im.sl tyRowCell t.1 t.2 x.cells] (fun _ : η => .bool z.2) (fun h2 => [C z.1 h2]) (fun _ => [])) (h0 : η) (g_1 : Nat) (a_1_0 : Option Addr) (c_1_0 : Nat) {r : σ} (H : p_grid_each_1_v2 Y y0 x1 = some r) : CT G 86 [.func (.yield yl) #[] #[], .pointer (some ⟨g_1, 0, none⟩)] [C y0 h0, Ch.box g_1 69 [.slice a_1_0 x1.length c_1_0], Ch.arr tyRowRow 26 a_1_0 c_1_0 x1] [] (fun h : η => .tuple #[]) (fun h => [C r h, Ch.box g_1 69 [.slice a_1_0 x1.length c_1_0], Ch.arr tyRowRow 26 a_1_0 c_1_0 x1]) (fun h => []) := by
  delta p_grid_each_1_v2 at H
  refine CT.of Go.Proofs.Tryd.func86 (by kernel_rfl) rfl rfl rfl fun K => ?_
  refine T.seq ?_
  refine T.region ?_
  refine L.y (Yl.ldb 1 rfl rfl rfl rfl) rfl rfl rfl ?_
  refine L.q 2 rfl ?_
  refine L.nil ?_
  refine E.then ?_
  obtain ⟨y140, H141, H142⟩ := bnd H
  refine T.joinE (η := σ × (η)) (fun h => y140 = .inl h.1) (fun h => (fun e139 => (fun h138 => []) h.2) h.1) (fun h => (fun e139 => (fun h138 => [C e139 h138, Ch.box g_1 69 [.slice a_1_0 x1.length c_1_0], Ch.arr tyRowRow 26 a_1_0 c_1_0 x1]) h.2) h.1) (fun h => (fun e139 => (fun h138 => []) h.2) h.1) ?_ ?_
  · refine T.block ?_
    refine T.lp (η := η) (fun s94 h => (fun h93 => [(0, .func (.yield yl) #[] #[]), (5, .slice a_1_0 x1.length c_1_0), (6, .int .i64 (x1.length : Int)), (7, .int .i64 s94.1)]) h) (fun s94 h => (fun h93 => [C s94.2 h93, Ch.box g_1 69 [.slice a_1_0 x1.length c_1_0], Ch.arr tyRowRow 26 a_1_0 c_1_0 x1]) h) (fun s94 h => (fun h93 => []) h) h0 [0, 0, 0] [] H141 ⟨rfl, rfl, rfl, rfl, trivial⟩ rfl rfl ?_
    rintro k s94 h93 z144 H143 hag145 hbr146
    refine T.seq ?_
    refine T.region ?_
    refine L.q 1 rfl ?_
    refine L.nil ?_
    refine E.then ?_
    refine T.seq ?_
    refine T.bif rfl H143 (fun hc H148 => ?_) (fun hc H148 => ?_)
    · refine T.skip ?_
      refine E.then ?_
      refine T.seq ?_
      refine T.block ?_
      refine T.seq ?_
      refine T.region ?_
      obtain ⟨x169, h170, H171⟩ := bnd H148
      refine L.addro 2 rfl (idx_lt h170) fun b172 e173 => ?_
      obtain rfl : a_1_0 = some ⟨b172, 0, none⟩ := e173
      refine L.y (Yl.ia h170 rfl rfl rfl rfl rfl rfl) rfl rfl rfl ?_
      refine L.a [2] [] (Ac.lo s94.1.toNat 0 (v := (fun h : (Option Addr × Nat) => (fun a174 c175 => .agg #[.slice a174 x169.cells.length c175, .bool x169.wrapped]) h.1 h.2)) (idx_some h170).2 rfl rfl rfl (fun _ => rfl)) rfl rfl rfl rfl rfl ?_
      rintro ⟨a174, c175⟩
      refine L.a [] [] (Ac.alloc rfl rfl) rfl rfl rfl rfl rfl ?_
      intro g177
      refine L.a [0] [] (Ac.stb rfl rfl rfl rfl rfl rfl) rfl rfl rfl rfl rfl ?_
      intro _
      refine L.nil ?_
      refine E.then ?_
      refine T.seq ?_
      refine T.region ?_
      refine L.q 1 rfl ?_
      refine L.y (Yl.ldb 0 rfl rfl rfl rfl) rfl rfl rfl ?_
      obtain ⟨r178, h179, H180⟩ := bnd H171
      refine L.a [] [0] (Ac.call (c_grid_own a174 c175 h179) rfl rfl rfl rfl) rfl rfl rfl rfl rfl ?_
      rintro ⟨a181, c182⟩
      obtain ⟨z184, h185, H186⟩ := bnd H180
      refine L.yd [2] [0] (hY _ _ _ (a181, c182) _ h185) rfl rfl rfl rfl rfl rfl rfl rfl ?_
      intro h187
      refine L.q 1 rfl ?_
      refine L.nil ?_
      refine E.then ?_
      refine T.bif rfl H186 (fun hc H188 => ?_) (fun hc H188 => ?_)
      · refine T.ret ?_
        refine E.block_ret ?_
        refine E.then_ret ?_
        refine E.then_ret ?_
        refine E.block_ret ?_
        obtain ⟨w189, hz, H190⟩ := inrr_some H188
        subst z144
        have hb := hbr146 _ rfl
        subst y140
        have hw : w189 = r := Option.some.inj H142
        subst w189
        refine E.then_ret ?_
        have hr := Option.some.inj H190
        subst r
        exact E.ret h187 [0, 2, 1] [] .nil rfl rfl rfl
      · refine T.skip ?_
        refine E.block ?_
        refine E.then ?_
        refine T.region ?_
        refine L.q 2 rfl ?_
        refine L.nil ?_
        have hr := Option.some.inj H188
        subst z144
        exact E.give (_, h187) [0, 2, 1] [] (hag145 _ rfl) ⟨rfl, rfl, rfl, rfl, trivial⟩ rfl rfl
    · refine T.exit ?_
      refine E.then_exit' ?_
      refine E.then_exit' ?_
      refine E.block_here ?_
      have hr := Option.some.inj H148
      subst z144
      have hb := hbr146 _ rfl
      subst y140
      exact E.give (_, h93) [0, 0, 0] [] rfl trivial rfl rfl
  · rintro ⟨e139, h138⟩ hy
    subst hy
    refine E.off ?_
    have hr := Option.some.inj H142
    subst r
    exact E.ret h138 [0, 0, 0] [] .nil rfl rfl rfl

theorem c_grid_copies_v2 {l : List RowRow} (a_0 : Option Addr) (c_0 : Nat) {r : (List RowRow) × (List RowRow)} (H : p_grid_copies_v2 l = some r) : CT G 69 [.slice a_0 l.length c_0] [Ch.arr tyRowRow 26 a_0 c_0 l] [] (fun h : (Option Addr × Nat) => .slice h.1 r.1.length h.2) (fun h => [Ch.arr tyRowRow 26 h.1 h.2 r.1, Ch.arr tyRowRow 26 a_0 c_0 r.2]) (fun h => []) := by
  delta p_grid_copies_v2 at H
  refine CT.of Go.Proofs.Tryd.func69 (by kernel_rfl) rfl rfl rfl fun K => ?_
  refine T.dfs0 ?_
  refine T.seq ?_
  refine T.region ?_
  refine L.q 1 rfl ?_
  refine L.nil ?_
  refine E.then ?_
  refine T.seq ?_
  refine T.region ?_
  refine L.a [] [] (Ac.alloc rfl rfl) rfl rfl rfl rfl rfl ?_
  intro g1
  refine L.nil ?_
  refine E.then ?_
  refine T.seq ?_
  refine T.seq ?_
  refine T.region ?_
  refine L.q 1 rfl ?_
  obtain ⟨r2, h3, H4⟩ := bnd H
  refine L.a [2] [] (Ac.call (c_grid_each_v2 a_0 c_0 h3) rfl rfl rfl rfl) rfl rfl rfl rfl rfl ?_
  rintro g5
  refine L.nil ?_
  refine E.then ?_
  refine T.block ?_
  refine T.nil0 tyRowRow 26 ?_
  obtain ⟨r54, h55, H56⟩ := bnd H4
  refine T.rf2 (σ := (List RowRow)) (η := (Option Addr × Nat)) (X := RowRow) (θ := (Option Addr × Nat)) (s1 := r54) (hx := fun x => x) (fun x t => [.agg #[.slice t.1 x.cells.length t.2, .bool x.wrapped]]) (fun x t => [Im.sl tyRowCell t.1 t.2 x.cells]) (fun _ => none) (fun s40 h => (fun a23 c24 => [Ch.arr tyRowRow 26 a23 c24 s40, Ch.box g1 69 [.slice a23 s40.length c24]]) h.1 h.2) (fun s40 h => (fun a23 c24 => []) h.1 h.2) 4 [0, 2, 0, 0] [] [] rfl rfl (fun _ _ => rfl) rfl (fun yl C hY => c_grid_each_1_v2 hY (none, 0) g5 a_0 c_0 h55) (fun _ _ _ _ => rfl) rfl rfl rfl rfl rfl ?_ rfl ?_
  · rintro yl K2 s40 ⟨a23, c24⟩ x9 ⟨a7, c8⟩ z41 H42
    refine T.region ?_
    refine L.a [] [] (Ac.alloc rfl rfl) rfl rfl rfl rfl rfl ?_
    intro g44
    refine L.a [0] [] (Ac.stb rfl rfl rfl rfl rfl rfl) rfl rfl rfl rfl rfl ?_
    intro _
    refine L.nil ?_
    refine E.begin fun K3 => ?_
    refine T.block ?_
    refine T.region ?_
    refine L.y (Yl.ldb 2 rfl rfl rfl rfl) rfl rfl rfl ?_
    refine L.y (Yl.ldb 0 rfl rfl rfl rfl) rfl rfl rfl ?_
    refine L.a [] [0] (Ac.bs (ty := tyRowRow) (xs := [x9]) (.cons (a7, c8) [0] rfl .nil) rfl rfl rfl rfl rfl rfl rfl) rfl rfl rfl rfl rfl ?_
    intro g45
    refine L.frz 0 rfl ?_
    obtain ⟨_, h48, H49⟩ := bnd H42
    refine L.a [1] [0] (Ac.ap (ty := tyRowRow) h48 rfl rfl rfl rfl rfl rfl rfl) rfl rfl rfl rfl rfl ?_
    rintro ⟨a50, c51⟩
    refine L.a [2] [] (Ac.stb rfl rfl rfl rfl rfl rfl) rfl rfl rfl rfl rfl ?_
    intro _
    refine L.nil ?_
    refine E.block ?_
    have hr := Option.some.inj H49
    subst z41
    exact E.on (a50, c51) [1, 0] [] rfl rfl rfl rfl
  · rintro h57 D59
    refine E.block ?_
    refine E.then ?_
    refine T.seq ?_
    refine T.region ?_
    refine L.y (Yl.ldb 2 rfl rfl rfl rfl) rfl rfl rfl ?_
    refine L.q 1 rfl ?_
    refine L.nil ?_
    refine E.then ?_
    refine T.ret ?_
    have hr := Option.some.inj H56
    subst r
    exact E.retd (h57.1, h57.2) 0 [0, 2] [] rfl (.tmp rfl .nil) rfl rfl rfl

theorem c_grid_Grid_Rows {g : GridGrid} (g_0 : Nat) (a_0_0 : Option Addr) (c_0_0 : Nat) {r : (List RowRow) × GridGrid} (H : p_grid_Grid_Rows g = some r) : CT G 35 [.pointer (some ⟨g_0, 0, none⟩)] [Ch.box g_0 104 [.int .i64 g.w, .slice a_0_0 g.l.length c_0_0], Ch.arr tyRowRow 26 a_0_0 c_0_0 g.l] [] (fun h : (Option Addr × Nat) => .slice h.1 r.1.length h.2) (fun h => [Ch.arr tyRowRow 26 h.1 h.2 r.1, Ch.box g_0 104 [.int .i64 r.2.w, .slice a_0_0 r.2.l.length c_0_0], Ch.arr tyRowRow 26 a_0_0 c_0_0 r.2.l]) (fun h => []) := by
  delta p_grid_Grid_Rows at H
  refine CT.of Go.Proofs.Tryd.func35 (by kernel_rfl) rfl rfl rfl fun K => ?_
  refine T.seq ?_
  refine T.region ?_
  refine L.q 1 rfl ?_
  refine L.nil ?_
  refine E.then ?_
  refine T.seq ?_
  refine T.region ?_
  refine L.q 3 rfl ?_
  refine L.y (Yl.ldb 0 rfl rfl rfl rfl) rfl rfl rfl ?_
  obtain ⟨r1, h2, H3⟩ := bnd H
  refine L.a [1] [] (Ac.call (c_grid_copies_v2 a_0_0 c_0_0 h2) rfl rfl rfl rfl) rfl rfl rfl rfl rfl ?_
  rintro ⟨a4, c5⟩
  obtain ⟨_, h8, H9⟩ := bnd H3
  refine L.bx 2 (cs' := [.int .i64 g.w, .slice a_0_0 r1.2.length c_0_0]) (by rw [chk_some h8]) rfl ?_
  refine L.q 1 rfl ?_
  refine L.nil ?_
  refine E.then ?_
  refine T.ret ?_
  have hr := Option.some.inj H9
  subst r
  exact E.ret (a4, c5) [1, 0, 0] [] (.tmp rfl .nil) rfl rfl rfl

theorem c_ref09_Glyphs {r_ : Ref09Row} (a_0_0 : Option Addr) (c_0_0 : Nat) {r : (List Ref09Glyph)} (H : p_ref09_Glyphs r_ = some r) : CT G 82 [.agg #[.slice a_0_0 r_.l.length c_0_0, .bool r_.wrapped]] [] [Im.sl tyRef09Cell a_0_0 c_0_0 r_.l] (fun h : (Option Addr × Nat) => .slice h.1 r.length h.2) (fun h => [Ch.arr tyRef09Glyph 126 h.1 h.2 r]) (fun h => []) := by
  delta p_ref09_Glyphs at H
  refine CT.of Go.Proofs.Tryd.func82 (by kernel_rfl) rfl rfl rfl fun K => ?_
  refine T.seq ?_
  refine T.region ?_
  refine L.a [] [] (Ac.box rfl rfl) rfl rfl rfl rfl rfl ?_
  intro g1
  refine L.q 1 rfl ?_
  refine L.nil ?_
  refine E.then ?_
  refine T.seq ?_
  refine T.region ?_
  refine L.q 1 rfl ?_
  refine L.y (Yl.ldb 0 rfl rfl rfl rfl) rfl rfl rfl ?_
  refine L.q 2 rfl ?_
  refine L.nil ?_
  refine E.then ?_
  refine T.seq ?_
  obtain ⟨e106, H107, H108⟩ := bnd H
  refine T.join (η := Unit × Unit) (fun h => True) (fun h => [(1, .pointer (some ⟨g1, 0, none⟩)), (3, .int .i64 e106)]) (fun h => [Ch.box g1 30 [.slice a_0_0 r_.l.length c_0_0, .bool r_.wrapped]]) (fun h => [Im.sl tyRef09Cell a_0_0 c_0_0 r_.l]) ?_ ?_
  · refine T.block ?_
    refine T.lp (η := Unit) (fun s71 h => [(1, .pointer (some ⟨g1, 0, none⟩)), (3, .int .i64 s71)]) (fun s71 h => [Ch.box g1 30 [.slice a_0_0 r_.l.length c_0_0, .bool r_.wrapped]]) (fun s71 h => [Im.sl tyRef09Cell a_0_0 c_0_0 r_.l]) () [0] [0] H107 ⟨rfl, rfl, trivial⟩ rfl rfl ?_
    rintro k s71 ⟨⟩ z110 H109 hag111 hbr112
    refine T.seq ?_
    refine T.seq ?_
    obtain ⟨e132, H133, H134⟩ := bnd H109
    refine T.join (η := Unit × Unit) (fun h => True) (fun h => [(1, .pointer (some ⟨g1, 0, none⟩)), (3, .int .i64 s71), (26, .bool e132)]) (fun h => [Ch.box g1 30 [.slice a_0_0 r_.l.length c_0_0, .bool r_.wrapped]]) (fun h => [Im.sl tyRef09Cell a_0_0 c_0_0 r_.l]) ?_ ?_
    · refine T.region ?_
      refine L.q 3 rfl ?_
      refine L.cs 12 H133 rfl (fun hc H135 => ?_) (fun hc H135 => ?_)
      · refine L.q 1 rfl ?_
        refine L.y (Yl.ldb 0 rfl rfl rfl rfl) rfl rfl rfl ?_
        refine L.q 3 rfl ?_
        refine L.cs 17 H135 rfl (fun hc H136 => ?_) (fun hc H136 => ?_)
        · refine L.q 1 rfl ?_
          refine L.y (Yl.ldb 0 rfl rfl rfl rfl) rfl rfl rfl ?_
          refine L.q 2 rfl ?_
          obtain ⟨x137, h138, H139⟩ := bnd H136
          refine L.addr 0 rfl (idx_lt h138) fun b140 o141 e142 => ?_
          obtain rfl : a_0_0 = some ⟨b140, o141, none⟩ := e142
          refine L.y (Yl.ia h138 rfl rfl rfl rfl rfl rfl) rfl rfl rfl ?_
          refine L.el 0 rfl (idx_some h138).2 ?_
          rintro _
          refine L.y (Yl.ldc 0 0 rfl rfl rfl rfl) rfl rfl rfl ?_
          refine L.q 3 rfl ?_
          refine L.nil ?_
          have hr := Option.some.inj H139
          subst e132
          exact E.give ((), ()) [0] [1] trivial ⟨rfl, rfl, rfl, trivial⟩ rfl rfl
        · refine L.q 9 rfl ?_
          refine L.nil ?_
          have hr := Option.some.inj H136
          subst e132
          exact E.give ((), ()) [0] [0] trivial ⟨rfl, rfl, rfl, trivial⟩ rfl rfl
      · refine L.q 14 rfl ?_
        refine L.nil ?_
        have hr := Option.some.inj H135
        subst e132
        exact E.give ((), ()) [0] [0] trivial ⟨rfl, rfl, rfl, trivial⟩ rfl rfl
    · rintro ⟨_, ⟨⟩⟩ _
      refine T.bif rfl H134 (fun hc H145 => ?_) (fun hc H145 => ?_)
      · refine T.skip ?_
        refine E.then ?_
        refine T.block ?_
        refine T.region ?_
        refine L.q 3 rfl ?_
        refine L.nil ?_
        refine E.block ?_
        have hr := Option.some.inj H145
        subst z110
        exact E.give (_, ()) [0] [0] (hag111 _ rfl) ⟨rfl, rfl, trivial⟩ rfl rfl
      · refine T.exit ?_
        refine E.then_exit' ?_
        refine E.then_exit' ?_
        refine E.block_here ?_
        have hr := Option.some.inj H145
        subst z110
        have hb := hbr112 _ rfl
        subst e106
        exact E.give ((), ()) [0] [0] trivial ⟨rfl, rfl, trivial⟩ rfl rfl
  · rintro ⟨_, ⟨⟩⟩ _
    refine T.seq ?_
    refine T.region ?_
    refine L.a [] [] (Ac.bs (ty := tyRef09Glyph) (xs := []) .nil rfl rfl rfl rfl rfl rfl rfl) rfl rfl rfl rfl rfl ?_
    intro g146
    refine L.q 1 rfl ?_
    refine L.nil ?_
    refine E.then ?_
    refine T.seq ?_
    refine T.seq ?_
    refine T.region ?_
    refine L.q 1 rfl ?_
    refine L.y (Yl.ldb 1 rfl rfl rfl rfl) rfl rfl rfl ?_
    refine L.q 1 rfl ?_
    obtain ⟨_, h148, H149⟩ := bnd H108
    refine L.rs 0 h148 rfl rfl rfl rfl rfl rfl rfl rfl rfl rfl rfl rfl ?_
    intro a150 c151
    refine L.q 2 rfl ?_
    refine L.nil ?_
    refine E.then ?_
    obtain ⟨e416, H417, H418⟩ := bnd H149
    refine T.join (η := Unit × ((Option Addr × Nat))) (fun h => True) (fun h => (fun a413 c414 => [(4, .slice a413 e416.length c414)]) h.2.1 h.2.2) (fun h => (fun a413 c414 => [Ch.arr tyRef09Glyph 126 a413 c414 e416, Ch.box g1 30 [.slice a_0_0 r_.l.length c_0_0, .bool r_.wrapped]]) h.2.1 h.2.2) (fun h => (fun a413 c414 => [Im.sl tyRef09Cell a150 c151 (cut r_.l 0 e106), Im.sl tyRef09Cell a_0_0 c_0_0 r_.l]) h.2.1 h.2.2) ?_ ?_
    · refine T.block ?_
      refine T.lp (η := (Option Addr × Nat)) (fun s330 h => (fun a327 c328 => [(4, .slice a327 s330.2.length c328), (33, .slice a150 (cut r_.l 0 e106).length c151), (34, .int .i64 ((cut r_.l 0 e106).length : Int)), (35, .int .i64 s330.1)]) h.1 h.2) (fun s330 h => (fun a327 c328 => [Ch.arr tyRef09Glyph 126 a327 c328 s330.2, Ch.box g1 30 [.slice a_0_0 r_.l.length c_0_0, .bool r_.wrapped]]) h.1 h.2) (fun s330 h => (fun a327 c328 => [Im.sl tyRef09Cell a150 c151 (cut r_.l 0 e106), Im.sl tyRef09Cell a_0_0 c_0_0 r_.l]) h.1 h.2) ((some ⟨g146, 0, none⟩), 0) [0, 0] [0, 1] H417 ⟨rfl, rfl, rfl, rfl, trivial⟩ rfl rfl ?_
      rintro k s330 ⟨a327, c328⟩ z420 H419 hag421 hbr422
      refine T.seq ?_
      refine T.region ?_
      refine L.q 1 rfl ?_
      refine L.nil ?_
      refine E.then ?_
      refine T.seq ?_
      refine T.bif rfl H419 (fun hc H424 => ?_) (fun hc H424 => ?_)
      · refine T.skip ?_
        refine E.then ?_
        refine T.seq ?_
        obtain ⟨e477, H478, H479⟩ := bnd H424
        refine T.join (η := Unit × ((Option Addr × Nat))) (fun h => True) (fun h => (fun a474 c475 => [(4, .slice a474 e477.length c475), (33, .slice a150 (cut r_.l 0 e106).length c151), (34, .int .i64 ((cut r_.l 0 e106).length : Int)), (35, .int .i64 s330.1)]) h.2.1 h.2.2) (fun h => (fun a474 c475 => [Ch.arr tyRef09Glyph 126 a474 c475 e477, Ch.box g1 30 [.slice a_0_0 r_.l.length c_0_0, .bool r_.wrapped]]) h.2.1 h.2.2) (fun h => (fun a474 c475 => [Im.sl tyRef09Cell a150 c151 (cut r_.l 0 e106), Im.sl tyRef09Cell a_0_0 c_0_0 r_.l]) h.2.1 h.2.2) ?_ ?_
        · refine T.block ?_
          refine T.seq ?_
          refine T.region ?_
          obtain ⟨x480, h481, H482⟩ := bnd H478
          refine L.addr 0 rfl (idx_lt h481) fun b483 o484 e485 => ?_
          obtain rfl : a150 = some ⟨b483, o484, none⟩ := e485
          refine L.y (Yl.ia h481 rfl rfl rfl rfl rfl rfl) rfl rfl rfl ?_
          refine L.el 0 rfl (idx_some h481).2 ?_
          rintro _
          refine L.y (Yl.ldc 0 0 rfl rfl rfl rfl) rfl rfl rfl ?_
          refine L.a [] [] (Ac.alloc rfl rfl) rfl rfl rfl rfl rfl ?_
          intro g487
          refine L.a [0] [] (Ac.stb rfl rfl rfl rfl rfl rfl) rfl rfl rfl rfl rfl ?_
          intro _
          refine L.nil ?_
          refine E.then ?_
          refine T.seq ?_
          obtain ⟨e491, H492, H493⟩ := bnd H482
          refine T.join (η := Unit × Unit) (fun h => True) (fun h => [(4, .slice a327 s330.2.length c328), (6, .pointer (some ⟨g487, 0, none⟩)), (33, .slice (some ⟨b483, o484, none⟩) (cut r_.l 0 e106).length c151), (34, .int .i64 ((cut r_.l 0 e106).length : Int)), (35, .int .i64 s330.1), (46, .bool e491)]) (fun h => [Ch.box g487 84 [.int .i64 x480.rune, .int .i64 x480.style, .int .i64 x480.part], Ch.box g1 30 [.slice a_0_0 r_.l.length c_0_0, .bool r_.wrapped], Ch.arr tyRef09Glyph 126 a327 c328 s330.2]) (fun h => [Im.cells b483 (o484 + s330.1.toNat * 3) [.int .i64 x480.rune, .int .i64 x480.style, .int .i64 x480.part], Im.sl tyRef09Cell (some ⟨b483, o484, none⟩) c151 (cut r_.l 0 e106), Im.sl tyRef09Cell a_0_0 c_0_0 r_.l]) ?_ ?_
          · refine T.region ?_
            refine L.q 1 rfl ?_
            refine L.y (Yl.ldb 0 rfl rfl rfl rfl) rfl rfl rfl ?_
            refine L.q 2 rfl ?_
            refine L.cs 42 H492 rfl (fun hc H494 => ?_) (fun hc H494 => ?_)
            · refine L.q 4 rfl ?_
              refine L.nil ?_
              have hr := Option.some.inj H494
              subst e491
              exact E.give ((), ()) [0, 1, 0] [0, 1, 2] trivial ⟨rfl, rfl, rfl, rfl, rfl, rfl, trivial⟩ rfl rfl
            · refine L.q 1 rfl ?_
              refine L.y (Yl.ldb 0 rfl rfl rfl rfl) rfl rfl rfl ?_
              refine L.q 2 rfl ?_
              refine L.nil ?_
              have hr := Option.some.inj H494
              subst e491
              exact E.give ((), ()) [0, 1, 0] [0, 1, 2] trivial ⟨rfl, rfl, rfl, rfl, rfl, rfl, trivial⟩ rfl rfl
          · rintro ⟨_, ⟨⟩⟩ _
            refine T.bif rfl H493 (fun hc H495 => ?_) (fun hc H495 => ?_)
            · refine T.region ?_
              refine L.q 2 rfl ?_
              refine L.y (Yl.ldb 0 rfl rfl rfl rfl) rfl rfl rfl ?_
              refine L.q 1 rfl ?_
              refine L.y (Yl.ldb 0 rfl rfl rfl rfl) rfl rfl rfl ?_
              refine L.q 1 rfl ?_
              refine L.a [] [] (Ac.bs (ty := tyRef09Glyph) (xs := [(Ref09Glyph.mk x480.rune x480.style)]) (.cons () [] rfl .nil) rfl rfl rfl rfl rfl rfl rfl) rfl rfl rfl rfl rfl ?_
              intro g496
              refine L.frz 0 rfl ?_
              obtain ⟨_, h499, H500⟩ := bnd H495
              refine L.a [2] [0] (Ac.ap (ty := tyRef09Glyph) h499 rfl rfl rfl rfl rfl rfl rfl) rfl rfl rfl rfl rfl ?_
              rintro ⟨a501, c502⟩
              refine L.q 1 rfl ?_
              refine L.nil ?_
              refine E.block ?_
              have hr := Option.some.inj H500
              subst e477
              exact E.give ((), (a501, c502)) [0, 1] [2, 3] trivial ⟨rfl, rfl, rfl, rfl, trivial⟩ rfl rfl
            · refine T.skip ?_
              refine E.block ?_
              have hr := Option.some.inj H495
              subst e477
              exact E.give ((), (a327, c328)) [2, 1] [1, 2] trivial ⟨rfl, rfl, rfl, rfl, trivial⟩ rfl rfl
        · rintro ⟨_, ⟨a474, c475⟩⟩ _
          refine T.region ?_
          refine L.q 2 rfl ?_
          refine L.nil ?_
          have hr := Option.some.inj H479
          subst z420
          exact E.give (_, (a474, c475)) [0, 0] [0, 1] (hag421 _ rfl) ⟨rfl, rfl, rfl, rfl, trivial⟩ rfl rfl
      · refine T.exit ?_
        refine E.then_exit' ?_
        refine E.then_exit' ?_
        refine E.block_here ?_
        have hr := Option.some.inj H424
        subst z420
        have hb := hbr422 _ rfl
        subst e416
        exact E.give ((), (a327, c328)) [0, 0] [0, 1] trivial ⟨rfl, trivial⟩ rfl rfl
    · rintro ⟨_, ⟨a413, c414⟩⟩ _
      refine T.seq ?_
      refine T.region ?_
      refine L.q 2 rfl ?_
      refine L.nil ?_
      refine E.then ?_
      refine T.ret ?_
      have hr := Option.some.inj H418
      subst r
      exact E.ret (a413, c414) [0] [] (.tmp rfl .nil) rfl rfl rfl

theorem c_ref05_Encode {r_ : Int} {r : ByteArray} (H : p_ref05_Encode r_ = some r) : CT G 83 [.int .i64 r_] [] [] (fun h : Unit => .string r) (fun h => []) (fun h => []) := by
  delta p_ref05_Encode at H
  refine CT.of Go.Proofs.Tryd.func83 (by kernel_rfl) rfl rfl rfl fun K => ?_
  refine T.seq ?_
  refine T.region ?_
  refine L.q 1 rfl ?_
  refine L.nil ?_
  refine E.then ?_
  refine T.seq ?_
  refine T.seq ?_
  obtain ⟨e8, H9, H10⟩ := bnd H
  refine T.join (η := Unit × Unit) (fun h => True) (fun h => [(0, .int .i64 r_), (16, .bool e8)]) (fun h => []) (fun h => []) ?_ ?_
  · refine T.region ?_
    refine L.q 3 rfl ?_
    refine L.cs 5 H9 rfl (fun hc H11 => ?_) (fun hc H11 => ?_)
    · refine L.q 11 rfl ?_
      refine L.nil ?_
      have hr := Option.some.inj H11
      subst e8
      exact E.give ((), ()) [] [] trivial ⟨rfl, rfl, trivial⟩ rfl rfl
    · refine L.q 4 rfl ?_
      refine L.cs 9 H11 rfl (fun hc H12 => ?_) (fun hc H12 => ?_)
      · refine L.q 7 rfl ?_
        refine L.nil ?_
        have hr := Option.some.inj H12
        subst e8
        exact E.give ((), ()) [] [] trivial ⟨rfl, rfl, trivial⟩ rfl rfl
      · refine L.q 3 rfl ?_
        refine L.cs 12 H12 rfl (fun hc H13 => ?_) (fun hc H13 => ?_)
        · refine L.q 4 rfl ?_
          refine L.nil ?_
          have hr := Option.some.inj H13
          subst e8
          exact E.give ((), ()) [] [] trivial ⟨rfl, rfl, trivial⟩ rfl rfl
        · refine L.q 4 rfl ?_
          refine L.nil ?_
          have hr := Option.some.inj H13
          subst e8
          exact E.give ((), ()) [] [] trivial ⟨rfl, rfl, trivial⟩ rfl rfl
  · rintro ⟨_, ⟨⟩⟩ _
    obtain ⟨e17, H18, H19⟩ := bnd H10
    refine T.join (η := Unit × Unit) (fun h => True) (fun h => [(0, .int .i64 e17)]) (fun h => []) (fun h => []) ?_ ?_
    · refine T.bif rfl H18 (fun hc H20 => ?_) (fun hc H20 => ?_)
      · refine T.region ?_
        refine L.q 1 rfl ?_
        refine L.nil ?_
        have hr := Option.some.inj H20
        subst e17
        exact E.give ((), ()) [] [] trivial ⟨rfl, trivial⟩ rfl rfl
      · refine T.skip ?_
        have hr := Option.some.inj H20
        subst e17
        exact E.give ((), ()) [] [] trivial ⟨rfl, trivial⟩ rfl rfl
    · rintro ⟨_, ⟨⟩⟩ _
      refine T.seq ?_
      refine T.seq ?_
      refine T.region ?_
      refine L.q 2 rfl ?_
      refine L.nil ?_
      refine E.then ?_
      refine T.bif rfl H19 (fun hc H24 => ?_) (fun hc H24 => ?_)
      · refine T.seq ?_
        refine T.region ?_
        refine L.q 2 rfl ?_
        refine L.a [] [] (Ac.bs (ty := (Ty.int .u8)) (xs := [(IntKind.u8.wrap e17)]) (.cons () [] rfl .nil) rfl rfl rfl rfl rfl rfl rfl) rfl rfl rfl rfl rfl ?_
        intro g25
        refine L.y (Yl.bs 0 rfl rfl rfl rfl rfl rfl rfl rfl rfl) rfl rfl rfl ?_
        refine L.q 1 rfl ?_
        refine L.nil ?_
        refine E.then ?_
        refine T.ret ?_
        refine E.then_ret ?_
        have hr := Option.some.inj H24
        subst r
        exact E.ret () [] [] (.tmp rfl .nil) rfl rfl rfl
      · refine T.skip ?_
        refine E.then ?_
        refine T.seq ?_
        refine T.seq ?_
        refine T.region ?_
        refine L.q 2 rfl ?_
        refine L.nil ?_
        refine E.then ?_
        refine T.bif rfl H24 (fun hc H30 => ?_) (fun hc H30 => ?_)
        · refine T.seq ?_
          refine T.region ?_
          refine L.q 8 rfl ?_
          refine L.a [] [] (Ac.bs (ty := (Ty.int .u8)) (xs := [(IntKind.u8.wrap (IntKind.i64.wrap (192 + (IntKind.i64.wrap (e17.tdiv 64))))), (IntKind.u8.wrap (IntKind.i64.wrap (128 + (e17.tmod 64))))]) (.cons () [] rfl (.cons () [] rfl .nil)) rfl rfl rfl rfl rfl rfl rfl) rfl rfl rfl rfl rfl ?_
          intro g31
          refine L.y (Yl.bs 0 rfl rfl rfl rfl rfl rfl rfl rfl rfl) rfl rfl rfl ?_
          refine L.q 1 rfl ?_
          refine L.nil ?_
          refine E.then ?_
          refine T.ret ?_
          refine E.then_ret ?_
          have hr := Option.some.inj H30
          subst r
          exact E.ret () [] [] (.tmp rfl .nil) rfl rfl rfl
        · refine T.skip ?_
          refine E.then ?_
          refine T.seq ?_
          refine T.seq ?_
          refine T.region ?_
          refine L.q 2 rfl ?_
          refine L.nil ?_
          refine E.then ?_
          refine T.bif rfl H30 (fun hc H36 => ?_) (fun hc H36 => ?_)
          · refine T.seq ?_
            refine T.region ?_
            refine L.q 13 rfl ?_
            refine L.a [] [] (Ac.bs (ty := (Ty.int .u8)) (xs := [(IntKind.u8.wrap (IntKind.i64.wrap (224 + (IntKind.i64.wrap (e17.tdiv 4096))))), (IntKind.u8.wrap (IntKind.i64.wrap (128 + ((IntKind.i64.wrap (e17.tdiv 64)).tmod 64)))), (IntKind.u8.wrap (IntKind.i64.wrap (128 + (e17.tmod 64))))]) (.cons () [] rfl (.cons () [] rfl (.cons () [] rfl .nil))) rfl rfl rfl rfl rfl rfl rfl) rfl rfl rfl rfl rfl ?_
            intro g37
            refine L.y (Yl.bs 0 rfl rfl rfl rfl rfl rfl rfl rfl rfl) rfl rfl rfl ?_
            refine L.q 1 rfl ?_
            refine L.nil ?_
            refine E.then ?_
            refine T.ret ?_
            refine E.then_ret ?_
            have hr := Option.some.inj H36
            subst r
            exact E.ret () [] [] (.tmp rfl .nil) rfl rfl rfl
          · refine T.skip ?_
            refine E.then ?_
            refine T.seq ?_
            refine T.region ?_
            refine L.q 18 rfl ?_
            refine L.a [] [] (Ac.bs (ty := (Ty.int .u8)) (xs := [(IntKind.u8.wrap (IntKind.i64.wrap (240 + (IntKind.i64.wrap (e17.tdiv 262144))))), (IntKind.u8.wrap (IntKind.i64.wrap (128 + ((IntKind.i64.wrap (e17.tdiv 4096)).tmod 64)))), (IntKind.u8.wrap (IntKind.i64.wrap (128 + ((IntKind.i64.wrap (e17.tdiv 64)).tmod 64)))), (IntKind.u8.wrap (IntKind.i64.wrap (128 + (e17.tmod 64))))]) (.cons () [] rfl (.cons () [] rfl (.cons () [] rfl (.cons () [] rfl .nil)))) rfl rfl rfl rfl rfl rfl rfl) rfl rfl rfl rfl rfl ?_
            intro g39
            refine L.y (Yl.bs 0 rfl rfl rfl rfl rfl rfl rfl rfl rfl) rfl rfl rfl ?_
            refine L.q 1 rfl ?_
            refine L.nil ?_
            refine E.then ?_
            refine T.ret ?_
            have hr := Option.some.inj H36
            subst r
            exact E.ret () [] [] (.tmp rfl .nil) rfl rfl rfl

theorem c_ref10_Text {r_ : Ref09Row} (a_0_0 : Option Addr) (c_0_0 : Nat) {r : ByteArray} (H : p_ref10_Text r_ = some r) : CT G 68 [.agg #[.slice a_0_0 r_.l.length c_0_0, .bool r_.wrapped]] [] [Im.sl tyRef09Cell a_0_0 c_0_0 r_.l] (fun h : Unit => .string r) (fun h => []) (fun h => []) := by
  delta p_ref10_Text at H
  refine CT.of Go.Proofs.Tryd.func68 (by kernel_rfl) rfl rfl rfl fun K => ?_
  refine T.seq ?_
  refine T.region ?_
  refine L.a [] [] (Ac.box rfl rfl) rfl rfl rfl rfl rfl ?_
  intro g1
  refine L.q 1 rfl ?_
  refine L.nil ?_
  refine E.then ?_
  refine T.seq ?_
  refine T.region ?_
  refine L.q 1 rfl ?_
  refine L.nil ?_
  refine E.then ?_
  refine T.seq ?_
  refine T.seq ?_
  refine T.region ?_
  refine L.y (Yl.ldb 0 rfl rfl rfl rfl) rfl rfl rfl ?_
  obtain ⟨r2, h3, H4⟩ := bnd H
  refine L.a [] [0] (Ac.call (c_ref09_Glyphs a_0_0 c_0_0 h3) rfl rfl rfl rfl) rfl rfl rfl rfl rfl ?_
  rintro ⟨a5, c6⟩
  refine L.q 2 rfl ?_
  refine L.nil ?_
  refine E.then ?_
  obtain ⟨e88, H89, H90⟩ := bnd H4
  refine T.join (η := Unit × Unit) (fun h => True) (fun h => [(3, .string e88)]) (fun h => [Ch.box g1 30 [.slice a_0_0 r_.l.length c_0_0, .bool r_.wrapped]]) (fun h => [Im.sl tyRef09Cell a_0_0 c_0_0 r_.l]) ?_ ?_
  · refine T.block ?_
    refine T.lp (η := Unit) (fun s62 h => [(3, .string s62.1), (7, .slice a5 r2.length c6), (8, .int .i64 (r2.length : Int)), (9, .int .i64 s62.2)]) (fun s62 h => [Ch.box g1 30 [.slice a_0_0 r_.l.length c_0_0, .bool r_.wrapped], Ch.arr tyRef09Glyph 126 a5 c6 r2]) (fun s62 h => [Im.sl tyRef09Cell a_0_0 c_0_0 r_.l]) () [1, 0] [0] H89 ⟨rfl, rfl, rfl, rfl, trivial⟩ rfl rfl ?_
    rintro k s62 ⟨⟩ z92 H91 hag93 hbr94
    refine T.seq ?_
    refine T.region ?_
    refine L.q 1 rfl ?_
    refine L.nil ?_
    refine E.then ?_
    refine T.seq ?_
    refine T.bif rfl H91 (fun hc H96 => ?_) (fun hc H96 => ?_)
    · refine T.skip ?_
      refine E.then ?_
      refine T.seq ?_
      refine T.block ?_
      refine T.seq ?_
      refine T.region ?_
      obtain ⟨x108, h109, H110⟩ := bnd H96
      refine L.addro 1 rfl (idx_lt h109) fun b111 e112 => ?_
      obtain rfl : a5 = some ⟨b111, 0, none⟩ := e112
      refine L.y (Yl.ia h109 rfl rfl rfl rfl rfl rfl) rfl rfl rfl ?_
      refine L.y (Yl.lo (v := .agg #[.int .i64 x108.rune, .int .i64 x108.style]) 1 s62.2.toNat 0 (idx_some h109).2 rfl rfl rfl rfl (fun _ => rfl)) rfl rfl rfl ?_
      refine L.a [] [] (Ac.alloc rfl rfl) rfl rfl rfl rfl rfl ?_
      intro g113
      refine L.a [0] [] (Ac.stb rfl rfl rfl rfl rfl rfl) rfl rfl rfl rfl rfl ?_
      intro _
      refine L.nil ?_
      refine E.then ?_
      refine T.region ?_
      refine L.q 2 rfl ?_
      refine L.y (Yl.ldb 0 rfl rfl rfl rfl) rfl rfl rfl ?_
      obtain ⟨r114, h115, H116⟩ := bnd H110
      refine L.a [] [] (Ac.call (c_ref05_Encode h115) rfl rfl rfl rfl) rfl rfl rfl rfl rfl ?_
      rintro ⟨⟩
      obtain ⟨_, h117, H118⟩ := bnd H116
      refine L.y (Yl.sa h117 rfl rfl rfl) rfl rfl rfl ?_
      refine L.q 1 rfl ?_
      refine L.nil ?_
      refine E.block ?_
      refine E.then ?_
      refine T.region ?_
      refine L.q 2 rfl ?_
      refine L.nil ?_
      have hr := Option.some.inj H118
      subst z92
      exact E.give (_, ()) [1, 1] [0] (hag93 _ rfl) ⟨rfl, rfl, rfl, rfl, trivial⟩ rfl rfl
    · refine T.exit ?_
      refine E.then_exit' ?_
      refine E.then_exit' ?_
      refine E.block_here ?_
      have hr := Option.some.inj H96
      subst z92
      have hb := hbr94 _ rfl
      subst e88
      exact E.give ((), ()) [0] [0] trivial ⟨rfl, trivial⟩ rfl rfl
  · rintro ⟨_, ⟨⟩⟩ _
    refine T.seq ?_
    refine T.region ?_
    refine L.q 2 rfl ?_
    refine L.nil ?_
    refine E.then ?_
    refine T.ret ?_
    have hr := Option.some.inj H90
    subst r
    exact E.ret () [] [] (.tmp rfl .nil) rfl rfl rfl

theorem c_law10_Is {g : GridGrid} {x_ : Ref10Grid} (g_0 : Nat) (a_0_0 : Option Addr) (c_0_0 : Nat) (a_1_0 : Option Addr) (c_1_0 : Nat) {r : Bool × GridGrid} (H : p_law10_Is g x_ = some r) : CT G 33 [.pointer (some ⟨g_0, 0, none⟩), .agg #[.int .i64 x_.w, .slice a_1_0 x_.l.length c_1_0]] [Ch.box g_0 104 [.int .i64 g.w, .slice a_0_0 g.l.length c_0_0], Ch.arr tyRowRow 26 a_0_0 c_0_0 g.l] [Im.sl tyRef09Row a_1_0 c_1_0 x_.l] (fun h : Unit => .bool r.1) (fun h => [Ch.box g_0 104 [.int .i64 r.2.w, .slice a_0_0 r.2.l.length c_0_0], Ch.arr tyRowRow 26 a_0_0 c_0_0 r.2.l]) (fun h => []) := by
  delta p_law10_Is at H
  refine CT.of Go.Proofs.Tryd.func33 (by kernel_rfl) rfl rfl rfl fun K => ?_
  refine T.seq ?_
  refine T.region ?_
  refine L.a [] [] (Ac.box rfl rfl) rfl rfl rfl rfl rfl ?_
  intro g1
  refine L.q 1 rfl ?_
  refine L.nil ?_
  refine E.then ?_
  refine T.seq ?_
  refine T.region ?_
  refine L.q 1 rfl ?_
  obtain ⟨r2, h3, H4⟩ := bnd H
  refine L.a [1, 1] [] (Ac.call (c_grid_Grid_Size g_0 a_0_0 c_0_0 h3) rfl rfl rfl rfl) rfl rfl rfl rfl rfl ?_
  rintro ⟨⟩
  refine L.q 5 rfl ?_
  refine L.nil ?_
  refine E.then ?_
  refine T.seq ?_
  refine T.region ?_
  refine L.q 1 rfl ?_
  obtain ⟨r5, h6, H7⟩ := bnd H4
  refine L.a [0, 0] [] (Ac.call (c_grid_Grid_Text g_0 a_0_0 c_0_0 h6) rfl rfl rfl rfl) rfl rfl rfl rfl rfl ?_
  rintro ⟨a8, c9⟩
  refine L.q 1 rfl ?_
  refine L.nil ?_
  refine E.then ?_
  refine T.seq ?_
  refine T.seq ?_
  obtain ⟨e122, H123, H124⟩ := bnd H7
  refine T.join (η := Unit × Unit) (fun h => True) (fun h => [(0, .pointer (some ⟨g_0, 0, none⟩)), (3, .pointer (some ⟨g1, 0, none⟩)), (7, .slice a8 r5.length c9), (56, .bool e122.1)]) (fun h => [Ch.arr tyRowRow 26 a_0_0 c_0_0 e122.2.l, Ch.box g_0 104 [.int .i64 e122.2.w, .slice a_0_0 e122.2.l.length c_0_0], Ch.box g1 59 [.int .i64 x_.w, .slice a_1_0 x_.l.length c_1_0], Ch.arr Ty.str 9 a8 c9 r5]) (fun h => [Im.sl tyRef09Row a_1_0 c_1_0 x_.l]) ?_ ?_
  · refine T.draw [] [0, 2] mo (by rfl) rfl ?_
    refine D.q 0 rfl rfl rfl rfl rfl rfl ?_
    refine D.q 1 rfl rfl rfl rfl rfl rfl ?_
    refine D.y 2 (Yl.ldb 1 rfl rfl rfl rfl) rfl rfl rfl rfl rfl rfl ?_
    refine D.q 3 rfl rfl rfl rfl rfl rfl ?_
    refine D.q 4 rfl rfl rfl rfl rfl rfl ?_
    refine D.cs 21 H123 rfl (fun hc H152 => ?_) (fun hc H152 => ?_)
    · refine D.sk 5 rfl rfl rfl rfl rfl ?_
      refine D.sk 6 rfl rfl rfl rfl rfl ?_
      refine D.sk 7 rfl rfl rfl rfl rfl ?_
      refine D.sk 8 rfl rfl rfl rfl rfl ?_
      refine D.sk 9 rfl rfl rfl rfl rfl ?_
      refine D.q 10 rfl rfl rfl rfl rfl rfl ?_
      refine D.q 11 rfl rfl rfl rfl rfl rfl ?_
      refine D.sk 12 rfl rfl rfl rfl rfl ?_
      refine D.sk 13 rfl rfl rfl rfl rfl ?_
      refine D.sk 14 rfl rfl rfl rfl rfl ?_
      refine D.sk 15 rfl rfl rfl rfl rfl ?_
      refine D.sk 16 rfl rfl rfl rfl rfl ?_
      refine D.sk 17 rfl rfl rfl rfl rfl ?_
      refine D.q 18 rfl rfl rfl rfl rfl rfl ?_
      refine D.q 19 rfl rfl rfl rfl rfl rfl ?_
      refine D.sk 20 rfl rfl rfl rfl rfl ?_
      refine D.sk 21 rfl rfl rfl rfl rfl ?_
      refine D.sk 22 rfl rfl rfl rfl rfl ?_
      refine D.sk 23 rfl rfl rfl rfl rfl ?_
      refine D.q 24 rfl rfl rfl rfl rfl rfl ?_
      refine D.q 25 rfl rfl rfl rfl rfl rfl ?_
      refine D.sk 26 rfl rfl rfl rfl rfl ?_
      refine D.sk 27 rfl rfl rfl rfl rfl ?_
      refine D.sk 28 rfl rfl rfl rfl rfl ?_
      refine D.sk 29 rfl rfl rfl rfl rfl ?_
      refine D.sk 30 rfl rfl rfl rfl rfl ?_
      refine D.q 31 rfl rfl rfl rfl rfl rfl ?_
      refine D.q 32 rfl rfl rfl rfl rfl rfl ?_
      refine D.sk 33 rfl rfl rfl rfl rfl ?_
      refine D.sk 34 rfl rfl rfl rfl rfl ?_
      refine D.sk 35 rfl rfl rfl rfl rfl ?_
      refine D.sk 36 rfl rfl rfl rfl rfl ?_
      refine D.sk 37 rfl rfl rfl rfl rfl ?_
      refine D.sk 38 rfl rfl rfl rfl rfl ?_
      refine D.q 39 rfl rfl rfl rfl rfl rfl ?_
      refine D.nil rfl rfl ?_
      have hr := Option.some.inj H152
      subst e122
      exact E.give ((), ()) [3, 2, 1, 0] [0] trivial ⟨rfl, rfl, rfl, rfl, trivial⟩ rfl rfl
    · refine D.q 5 rfl rfl rfl rfl rfl rfl ?_
      refine D.q 6 rfl rfl rfl rfl rfl rfl ?_
      refine D.y 7 (Yl.ldb 1 rfl rfl rfl rfl) rfl rfl rfl rfl rfl rfl ?_
      refine D.q 8 rfl rfl rfl rfl rfl rfl ?_
      refine D.q 9 rfl rfl rfl rfl rfl rfl ?_
      refine D.q 10 rfl rfl rfl rfl rfl rfl ?_
      refine D.q 11 rfl rfl rfl rfl rfl rfl ?_
      refine D.cs 28 H152 rfl (fun hc H153 => ?_) (fun hc H153 => ?_)
      · refine D.sk 12 rfl rfl rfl rfl rfl ?_
        refine D.sk 13 rfl rfl rfl rfl rfl ?_
        refine D.sk 14 rfl rfl rfl rfl rfl ?_
        refine D.sk 15 rfl rfl rfl rfl rfl ?_
        refine D.sk 16 rfl rfl rfl rfl rfl ?_
        refine D.sk 17 rfl rfl rfl rfl rfl ?_
        refine D.q 18 rfl rfl rfl rfl rfl rfl ?_
        refine D.q 19 rfl rfl rfl rfl rfl rfl ?_
        refine D.sk 20 rfl rfl rfl rfl rfl ?_
        refine D.sk 21 rfl rfl rfl rfl rfl ?_
        refine D.sk 22 rfl rfl rfl rfl rfl ?_
        refine D.sk 23 rfl rfl rfl rfl rfl ?_
        refine D.q 24 rfl rfl rfl rfl rfl rfl ?_
        refine D.q 25 rfl rfl rfl rfl rfl rfl ?_
        refine D.sk 26 rfl rfl rfl rfl rfl ?_
        refine D.sk 27 rfl rfl rfl rfl rfl ?_
        refine D.sk 28 rfl rfl rfl rfl rfl ?_
        refine D.sk 29 rfl rfl rfl rfl rfl ?_
        refine D.sk 30 rfl rfl rfl rfl rfl ?_
        refine D.q 31 rfl rfl rfl rfl rfl rfl ?_
        refine D.q 32 rfl rfl rfl rfl rfl rfl ?_
        refine D.sk 33 rfl rfl rfl rfl rfl ?_
        refine D.sk 34 rfl rfl rfl rfl rfl ?_
        refine D.sk 35 rfl rfl rfl rfl rfl ?_
        refine D.sk 36 rfl rfl rfl rfl rfl ?_
        refine D.sk 37 rfl rfl rfl rfl rfl ?_
        refine D.sk 38 rfl rfl rfl rfl rfl ?_
        refine D.q 39 rfl rfl rfl rfl rfl rfl ?_
        refine D.nil rfl rfl ?_
        have hr := Option.some.inj H153
        subst e122
        exact E.give ((), ()) [3, 2, 1, 0] [0] trivial ⟨rfl, rfl, rfl, rfl, trivial⟩ rfl rfl
      · refine D.q 12 rfl rfl rfl rfl rfl rfl ?_
        refine D.q 14 rfl rfl rfl rfl rfl rfl ?_
        refine D.y 15 (Yl.ldb 1 rfl rfl rfl rfl) rfl rfl rfl rfl rfl rfl ?_
        obtain ⟨r154, h155, H156⟩ := bnd H153
        refine D.one rfl rfl rfl (Dp.a [0, 0] [] (Ac.call (c_grid_Grid_Rows g_0 a_0_0 c_0_0 h155) rfl rfl rfl rfl) rfl rfl rfl rfl rfl rfl ?_)
        rintro ⟨a157, c158⟩
        obtain ⟨r161, h162, H163⟩ := bnd H156
        refine D.one rfl rfl rfl (Dp.br (Ac.call (c_law10_Rows a157 c158 a_1_0 c_1_0 h162) rfl rfl rfl rfl) (Bw.ch 2 rfl (Bw.im 0 rfl (Bw.nil))) rfl rfl rfl rfl ?_)
        intro _
        refine D.q 17 rfl rfl rfl rfl rfl rfl ?_
        refine D.q 18 rfl rfl rfl rfl rfl rfl ?_
        refine D.q 19 rfl rfl rfl rfl rfl rfl ?_
        refine D.cs 36 H163 rfl (fun hc H164 => ?_) (fun hc H164 => ?_)
        · refine D.sk 20 rfl rfl rfl rfl rfl ?_
          refine D.sk 21 rfl rfl rfl rfl rfl ?_
          refine D.sk 22 rfl rfl rfl rfl rfl ?_
          refine D.sk 23 rfl rfl rfl rfl rfl ?_
          refine D.q 24 rfl rfl rfl rfl rfl rfl ?_
          refine D.q 25 rfl rfl rfl rfl rfl rfl ?_
          refine D.sk 26 rfl rfl rfl rfl rfl ?_
          refine D.sk 27 rfl rfl rfl rfl rfl ?_
          refine D.sk 28 rfl rfl rfl rfl rfl ?_
          refine D.sk 29 rfl rfl rfl rfl rfl ?_
          refine D.sk 30 rfl rfl rfl rfl rfl ?_
          refine D.q 31 rfl rfl rfl rfl rfl rfl ?_
          refine D.q 32 rfl rfl rfl rfl rfl rfl ?_
          refine D.sk 33 rfl rfl rfl rfl rfl ?_
          refine D.sk 34 rfl rfl rfl rfl rfl ?_
          refine D.sk 35 rfl rfl rfl rfl rfl ?_
          refine D.sk 36 rfl rfl rfl rfl rfl ?_
          refine D.sk 37 rfl rfl rfl rfl rfl ?_
          refine D.sk 38 rfl rfl rfl rfl rfl ?_
          refine D.q 39 rfl rfl rfl rfl rfl rfl ?_
          refine D.nil rfl rfl ?_
          have hr := Option.some.inj H164
          subst e122
          exact E.give ((), ()) [4, 3, 1, 0] [0] trivial ⟨rfl, rfl, rfl, rfl, trivial⟩ rfl rfl
        · refine D.q 20 rfl rfl rfl rfl rfl rfl ?_
          refine D.q 21 rfl rfl rfl rfl rfl rfl ?_
          refine D.q 22 rfl rfl rfl rfl rfl rfl ?_
          refine D.q 23 rfl rfl rfl rfl rfl rfl ?_
          refine D.q 24 rfl rfl rfl rfl rfl rfl ?_
          refine D.q 25 rfl rfl rfl rfl rfl rfl ?_
          refine D.cs 42 H164 rfl (fun hc H165 => ?_) (fun hc H165 => ?_)
          · refine D.sk 26 rfl rfl rfl rfl rfl ?_
            refine D.sk 27 rfl rfl rfl rfl rfl ?_
            refine D.sk 28 rfl rfl rfl rfl rfl ?_
            refine D.sk 29 rfl rfl rfl rfl rfl ?_
            refine D.sk 30 rfl rfl rfl rfl rfl ?_
            refine D.q 31 rfl rfl rfl rfl rfl rfl ?_
            refine D.q 32 rfl rfl rfl rfl rfl rfl ?_
            refine D.sk 33 rfl rfl rfl rfl rfl ?_
            refine D.sk 34 rfl rfl rfl rfl rfl ?_
            refine D.sk 35 rfl rfl rfl rfl rfl ?_
            refine D.sk 36 rfl rfl rfl rfl rfl ?_
            refine D.sk 37 rfl rfl rfl rfl rfl ?_
            refine D.sk 38 rfl rfl rfl rfl rfl ?_
            refine D.q 39 rfl rfl rfl rfl rfl rfl ?_
            refine D.nil rfl rfl ?_
            have hr := Option.some.inj H165
            subst e122
            exact E.give ((), ()) [4, 3, 1, 0] [0] trivial ⟨rfl, rfl, rfl, rfl, trivial⟩ rfl rfl
          · refine D.q 26 rfl rfl rfl rfl rfl rfl ?_
            obtain ⟨r166, h167, H168⟩ := bnd H165
            refine D.one rfl rfl rfl (Dp.a [1, 1] [] (Ac.call (c_grid_Grid_Row g_0 a_0_0 c_0_0 h167) rfl rfl rfl rfl) rfl rfl rfl rfl rfl rfl ?_)
            rintro ⟨a169, c170⟩
            refine D.q 28 rfl rfl rfl rfl rfl rfl ?_
            refine D.q 29 rfl rfl rfl rfl rfl rfl ?_
            refine D.q 30 rfl rfl rfl rfl rfl rfl ?_
            refine D.q 31 rfl rfl rfl rfl rfl rfl ?_
            refine D.q 32 rfl rfl rfl rfl rfl rfl ?_
            refine D.cs 49 H168 rfl (fun hc H172 => ?_) (fun hc H172 => ?_)
            · refine D.sk 33 rfl rfl rfl rfl rfl ?_
              refine D.sk 34 rfl rfl rfl rfl rfl ?_
              refine D.sk 35 rfl rfl rfl rfl rfl ?_
              refine D.sk 36 rfl rfl rfl rfl rfl ?_
              refine D.sk 37 rfl rfl rfl rfl rfl ?_
              refine D.sk 38 rfl rfl rfl rfl rfl ?_
              refine D.q 39 rfl rfl rfl rfl rfl rfl ?_
              refine D.nil rfl rfl ?_
              have hr := Option.some.inj H172
              subst e122
              exact E.give ((), ()) [3, 2, 1, 0] [1] trivial ⟨rfl, rfl, rfl, rfl, trivial⟩ rfl rfl
            · refine D.q 33 rfl rfl rfl rfl rfl rfl ?_
              refine D.q 34 rfl rfl rfl rfl rfl rfl ?_
              obtain ⟨r173, h174, H175⟩ := bnd H172
              refine D.one rfl rfl rfl (Dp.a [0, 0] [] (Ac.call (c_grid_Grid_Row g_0 a_0_0 c_0_0 h174) rfl rfl rfl rfl) rfl rfl rfl rfl rfl rfl ?_)
              rintro ⟨a176, c177⟩
              refine D.q 36 rfl rfl rfl rfl rfl rfl ?_
              refine D.q 37 rfl rfl rfl rfl rfl rfl ?_
              refine D.q 38 rfl rfl rfl rfl rfl rfl ?_
              refine D.q 39 rfl rfl rfl rfl rfl rfl ?_
              refine D.nil rfl rfl ?_
              have hr := Option.some.inj H175
              subst e122
              exact E.give ((), ()) [3, 2, 1, 0] [2] trivial ⟨rfl, rfl, rfl, rfl, trivial⟩ rfl rfl
  · rintro ⟨_, ⟨⟩⟩ _
    refine T.bif rfl H124 (fun hc H180 => ?_) (fun hc H180 => ?_)
    · refine T.seq ?_
      refine T.region ?_
      refine L.q 1 rfl ?_
      refine L.nil ?_
      refine E.then ?_
      refine T.ret ?_
      refine E.then_ret ?_
      have hr := Option.some.inj H180
      subst r
      exact E.ret () [1, 0] [] (.tmp rfl .nil) rfl rfl rfl
    · refine T.skip ?_
      refine E.then ?_
      refine T.seq ?_
      refine T.seq ?_
      refine T.region ?_
      refine L.q 1 rfl ?_
      refine L.y (Yl.ldb 2 rfl rfl rfl rfl) rfl rfl rfl ?_
      refine L.q 2 rfl ?_
      refine L.nil ?_
      refine E.then ?_
      obtain ⟨y936, H937, H938⟩ := bnd H180
      refine T.join (η := Unit × Unit) (fun h => y936 = .inl h.1) (fun h => (fun e935 => []) h.1) (fun h => (fun e935 => [Ch.box g_0 104 [.int .i64 e122.2.w, .slice a_0_0 e122.2.l.length c_0_0], Ch.box g1 59 [.int .i64 x_.w, .slice a_1_0 x_.l.length c_1_0], Ch.arr tyRowRow 26 a_0_0 c_0_0 e122.2.l]) h.1) (fun h => (fun e935 => [Im.sl tyRef09Row a_1_0 c_1_0 x_.l]) h.1) ?_ ?_
      · refine T.block ?_
        refine T.lp (η := Unit) (fun s684 h => [(0, .pointer (some ⟨g_0, 0, none⟩)), (7, .slice a8 r5.length c9), (58, .slice a_1_0 x_.l.length c_1_0), (59, .int .i64 (x_.l.length : Int)), (60, .int .i64 s684)]) (fun s684 h => [Ch.box g_0 104 [.int .i64 e122.2.w, .slice a_0_0 e122.2.l.length c_0_0], Ch.box g1 59 [.int .i64 x_.w, .slice a_1_0 x_.l.length c_1_0], Ch.arr tyRowRow 26 a_0_0 c_0_0 e122.2.l, Ch.arr Ty.str 9 a8 c9 r5]) (fun s684 h => [Im.sl tyRef09Row a_1_0 c_1_0 x_.l]) () [1, 1, 0, 0] [0] H937 ⟨rfl, rfl, rfl, rfl, rfl, trivial⟩ rfl rfl ?_
        rintro k s684 ⟨⟩ z940 H939 hag941 hbr942
        refine T.seq ?_
        refine T.region ?_
        refine L.q 1 rfl ?_
        refine L.nil ?_
        refine E.then ?_
        refine T.seq ?_
        refine T.bif rfl H939 (fun hc H944 => ?_) (fun hc H944 => ?_)
        · refine T.skip ?_
          refine E.then ?_
          refine T.seq ?_
          refine T.block ?_
          refine T.seq ?_
          refine T.region ?_
          refine L.q 1 rfl ?_
          obtain ⟨x1069, h1070, H1071⟩ := bnd H944
          refine L.addr 0 rfl (idx_lt h1070) fun b1072 o1073 e1074 => ?_
          obtain rfl : a_1_0 = some ⟨b1072, o1073, none⟩ := e1074
          refine L.y (Yl.ia h1070 rfl rfl rfl rfl rfl rfl) rfl rfl rfl ?_
          refine L.el 0 rfl (idx_some h1070).2 ?_
          rintro ⟨a1075, c1076⟩
          refine L.y (Yl.ldc 0 0 rfl rfl rfl rfl) rfl rfl rfl ?_
          refine L.a [] [] (Ac.alloc rfl rfl) rfl rfl rfl rfl rfl ?_
          intro g1079
          refine L.q 1 rfl ?_
          refine L.a [0] [] (Ac.stb rfl rfl rfl rfl rfl rfl) rfl rfl rfl rfl rfl ?_
          intro _
          refine L.nil ?_
          refine E.then ?_
          refine T.seq ?_
          obtain ⟨e1153, H1154, H1155⟩ := bnd H1071
          refine T.join (η := Unit × Unit) (fun h => True) (fun h => [(0, .pointer (some ⟨g_0, 0, none⟩)), (7, .slice a8 r5.length c9), (58, .slice (some ⟨b1072, o1073, none⟩) x_.l.length c_1_0), (59, .int .i64 (x_.l.length : Int)), (60, .int .i64 s684), (79, .bool e1153)]) (fun h => [Ch.box g1079 30 [.slice a1075 x1069.l.length c1076, .bool x1069.wrapped], Ch.box g_0 104 [.int .i64 e122.2.w, .slice a_0_0 e122.2.l.length c_0_0], Ch.box g1 59 [.int .i64 x_.w, .slice (some ⟨b1072, o1073, none⟩) x_.l.length c_1_0], Ch.arr tyRowRow 26 a_0_0 c_0_0 e122.2.l, Ch.arr Ty.str 9 a8 c9 r5]) (fun h => [Im.cells b1072 (o1073 + s684.toNat * 2) [.slice a1075 x1069.l.length c1076, .bool x1069.wrapped], Im.sl tyRef09Cell a1075 c1076 x1069.l, Im.sl tyRef09Row (some ⟨b1072, o1073, none⟩) c_1_0 x_.l]) ?_ ?_
          · refine T.draw [] [0, 1, 2] mo (by rfl) rfl ?_
            refine D.q 0 rfl rfl rfl rfl rfl rfl ?_
            refine D.q 1 rfl rfl rfl rfl rfl rfl ?_
            refine D.y 3 (Yl.ldb 0 rfl rfl rfl rfl) rfl rfl rfl rfl rfl rfl ?_
            obtain ⟨r1174, h1175, H1176⟩ := bnd H1154
            refine D.one rfl rfl rfl (Dp.a [0, 0] [] (Ac.call (c_grid_Grid_Row g_0 a_0_0 c_0_0 h1175) rfl rfl rfl rfl) rfl rfl rfl rfl rfl rfl ?_)
            rintro ⟨a1177, c1178⟩
            obtain ⟨r1180, h1181, H1182⟩ := bnd H1176
            refine D.one rfl rfl rfl (Dp.a [] [0, 2] (Ac.call (c_law09_Is a1177 c1178 a1075 c1076 h1181) rfl rfl rfl rfl) rfl rfl rfl rfl rfl rfl ?_)
            rintro ⟨⟩
            refine D.q 5 rfl rfl rfl rfl rfl rfl ?_
            refine D.q 6 rfl rfl rfl rfl rfl rfl ?_
            refine D.cs 71 H1182 rfl (fun hc H1183 => ?_) (fun hc H1183 => ?_)
            · refine D.sk 7 rfl rfl rfl rfl rfl ?_
              refine D.sk 8 rfl rfl rfl rfl rfl ?_
              refine D.sk 9 rfl rfl rfl rfl rfl ?_
              refine D.sk 10 rfl rfl rfl rfl rfl ?_
              refine D.sk 11 rfl rfl rfl rfl rfl ?_
              refine D.sk 12 rfl rfl rfl rfl rfl ?_
              refine D.sk 13 rfl rfl rfl rfl rfl ?_
              refine D.q 14 rfl rfl rfl rfl rfl rfl ?_
              refine D.nil rfl rfl ?_
              have hr := Option.some.inj H1183
              subst e1153
              exact E.give ((), ()) [0, 2, 0, 1, 0] [1, 2, 3] trivial ⟨rfl, rfl, rfl, rfl, rfl, rfl, trivial⟩ rfl rfl
            · refine D.q 7 rfl rfl rfl rfl rfl rfl ?_
              refine D.q 8 rfl rfl rfl rfl rfl rfl ?_
              obtain ⟨x1184, h1185, H1186⟩ := bnd H1183
              refine D.addro 2 rfl (idx_lt h1185) fun b1187 e1188 => ?_
              obtain rfl : a8 = some ⟨b1187, 0, none⟩ := e1188
              refine D.y 9 (Yl.ia h1185 rfl rfl rfl rfl rfl rfl) rfl rfl rfl rfl rfl rfl ?_
              refine D.y 10 (Yl.lo (v := .string x1184) 2 s684.toNat 0 (idx_some h1185).2 rfl rfl rfl rfl (fun _ => rfl)) rfl rfl rfl rfl rfl rfl ?_
              refine D.y 11 (Yl.ldb 0 rfl rfl rfl rfl) rfl rfl rfl rfl rfl rfl ?_
              obtain ⟨r1189, h1190, H1191⟩ := bnd H1186
              refine D.one rfl rfl rfl (Dp.a [] [2] (Ac.call (c_ref10_Text a1075 c1076 h1190) rfl rfl rfl rfl) rfl rfl rfl rfl rfl rfl ?_)
              rintro ⟨⟩
              refine D.q 13 rfl rfl rfl rfl rfl rfl ?_
              refine D.q 14 rfl rfl rfl rfl rfl rfl ?_
              refine D.nil rfl rfl ?_
              have hr := Option.some.inj H1191
              subst e1153
              exact E.give ((), ()) [0, 2, 0, 1, 0] [1, 2, 3] trivial ⟨rfl, rfl, rfl, rfl, rfl, rfl, trivial⟩ rfl rfl
          · rintro ⟨_, ⟨⟩⟩ _
            refine T.bif rfl H1155 (fun hc H1192 => ?_) (fun hc H1192 => ?_)
            · refine T.seq ?_
              refine T.region ?_
              refine L.q 1 rfl ?_
              refine L.nil ?_
              refine E.then ?_
              refine T.ret ?_
              refine E.block_ret ?_
              refine E.then_ret ?_
              refine E.then_ret ?_
              refine E.block_ret ?_
              obtain ⟨w1193, hz, H1194⟩ := inrr_some H1192
              subst z940
              have hb := hbr942 _ rfl
              subst y936
              have hw : w1193 = r := Option.some.inj H938
              subst w1193
              refine E.then_ret ?_
              have hr := Option.some.inj H1194
              subst r
              exact E.ret () [1, 2] [] (.tmp rfl .nil) rfl rfl rfl
            · refine T.skip ?_
              refine E.block ?_
              refine E.then ?_
              refine T.region ?_
              refine L.q 2 rfl ?_
              refine L.nil ?_
              have hr := Option.some.inj H1192
              subst z940
              exact E.give (_, ()) [1, 1, 1, 1] [2] (hag941 _ rfl) ⟨rfl, rfl, rfl, rfl, rfl, trivial⟩ rfl rfl
        · refine T.exit ?_
          refine E.then_exit' ?_
          refine E.then_exit' ?_
          refine E.block_here ?_
          have hr := Option.some.inj H944
          subst z940
          have hb := hbr942 _ rfl
          subst y936
          exact E.give (_, ()) [0, 0, 0] [0] rfl trivial rfl rfl
      · rintro ⟨e935, ⟨⟩⟩ hy
        subst hy
        refine T.seq ?_
        refine T.region ?_
        refine L.q 1 rfl ?_
        refine L.nil ?_
        refine E.then ?_
        refine T.ret ?_
        have hr := Option.some.inj H938
        subst r
        exact E.ret () [0, 1] [] (.tmp rfl .nil) rfl rfl rfl

end Go.Tw.X

import Derived.Test.YtkkapeoinhkncaaDoorWk1
import Derived.Test.YtkkapeoinhkncaaDoorFw2
set_option maxHeartbeats 2000000
set_option linter.unusedVariables false
set_option linter.unusedSimpArgs false
set_option maxRecDepth 10000
namespace Go.Tw.X
open Go Go.Tw
theorem c_slices_EqualFunc_row_Row_Row_Same {s1_ : List RowRow} {s2_ : List RowRow} (a_0 : Option Addr) (c_0 : Nat) (a_1 : Option Addr) (c_1 : Nat) {r : Bool} (H : p_slices_EqualFunc_row_Row_Row_Same s1_ s2_ = some r) : CT G 53 [.slice a_0 s1_.length c_0, .slice a_1 s2_.length c_1, .func (.func 54) #[] #[]] [] [Im.sl tyRowRow a_0 c_0 s1_, Im.sl tyRowRow a_1 c_1 s2_] (fun h : Unit => .bool r) (fun h => []) (fun h => []) := by
  delta p_slices_EqualFunc_row_Row_Row_Same at H
  refine CT.of Go.Proofs.Tryd.func53 (by kernel_rfl) rfl rfl rfl fun K => ?_
  refine T.seq ?_
  refine T.region ?_
  refine L.q 1 rfl ?_
  refine L.nil ?_
  refine E.then ?_
  refine T.seq ?_
  refine T.seq ?_
  refine T.region ?_
  refine L.q 5 rfl ?_
  refine L.nil ?_
  refine E.then ?_
  refine T.bif rfl H (fun hc H2 => ?_) (fun hc H2 => ?_)
  · refine T.seq ?_
    refine T.region ?_
    refine L.q 1 rfl ?_
    refine L.nil ?_
    refine E.then ?_
    refine T.ret ?_
    refine E.then_ret ?_
    have hr := Option.some.inj H2
    subst r
    exact E.ret () [] [] (.tmp rfl .nil) rfl rfl rfl
  · refine T.skip ?_
    refine E.then ?_
    refine T.seq ?_
    refine T.seq ?_
    refine T.region ?_
    refine L.q 3 rfl ?_
    refine L.nil ?_
    refine E.then ?_
    obtain ⟨y170, H171, H172⟩ := bnd H2
    refine T.join (η := Unit × Unit) (fun h => y170 = .inl h.1) (fun h => (fun e169 => []) h.1) (fun h => (fun e169 => []) h.1) (fun h => (fun e169 => [Im.sl tyRowRow a_0 c_0 s1_, Im.sl tyRowRow a_1 c_1 s2_]) h.1) ?_ ?_
    · refine T.block ?_
      refine T.lp (η := Unit) (fun s114 h => [(1, .slice a_1 s2_.length c_1), (2, .func (.func 54) #[] #[]), (15, .slice a_0 s1_.length c_0), (16, .int .i64 (s1_.length : Int)), (17, .int .i64 s114)]) (fun s114 h => []) (fun s114 h => [Im.sl tyRowRow a_0 c_0 s1_, Im.sl tyRowRow a_1 c_1 s2_]) () [] [0, 1] H171 ⟨rfl, rfl, rfl, rfl, rfl, trivial⟩ rfl rfl ?_
      rintro k s114 ⟨⟩ z174 H173 hag175 hbr176
      refine T.seq ?_
      refine T.region ?_
      refine L.q 1 rfl ?_
      refine L.nil ?_
      refine E.then ?_
      refine T.seq ?_
      refine T.bif rfl H173 (fun hc H178 => ?_) (fun hc H178 => ?_)
      · refine T.skip ?_
        refine E.then ?_
        refine T.seq ?_
        refine T.block ?_
        refine T.seq ?_
        refine T.region ?_
        refine L.q 1 rfl ?_
        obtain ⟨x205, h206, H207⟩ := bnd H178
        refine L.addr 0 rfl (idx_lt h206) fun b208 o209 e210 => ?_
        obtain rfl : a_0 = some ⟨b208, o209, none⟩ := e210
        refine L.y (Yl.ia h206 rfl rfl rfl rfl rfl rfl) rfl rfl rfl ?_
        refine L.el 0 rfl (idx_some h206).2 ?_
        rintro ⟨a211, c212⟩
        refine L.y (Yl.ldc 0 0 rfl rfl rfl rfl) rfl rfl rfl ?_
        refine L.a [] [] (Ac.alloc rfl rfl) rfl rfl rfl rfl rfl ?_
        intro g215
        refine L.q 1 rfl ?_
        refine L.a [0] [] (Ac.stb rfl rfl rfl rfl rfl rfl) rfl rfl rfl rfl rfl ?_
        intro _
        refine L.nil ?_
        refine E.then ?_
        refine T.seq ?_
        refine T.region ?_
        refine L.q 2 rfl ?_
        obtain ⟨x216, h217, H218⟩ := bnd H207
        refine L.addr 3 rfl (idx_lt h217) fun b219 o220 e221 => ?_
        obtain rfl : a_1 = some ⟨b219, o220, none⟩ := e221
        refine L.y (Yl.ia h217 rfl rfl rfl rfl rfl rfl) rfl rfl rfl ?_
        refine L.el 3 rfl (idx_some h217).2 ?_
        rintro ⟨a222, c223⟩
        refine L.y (Yl.ldc 0 0 rfl rfl rfl rfl) rfl rfl rfl ?_
        refine L.a [] [] (Ac.alloc rfl rfl) rfl rfl rfl rfl rfl ?_
        intro g226
        refine L.a [0] [] (Ac.stb rfl rfl rfl rfl rfl rfl) rfl rfl rfl rfl rfl ?_
        intro _
        refine L.nil ?_
        refine E.then ?_
        refine T.seq ?_
        refine T.region ?_
        refine L.q 1 rfl ?_
        refine L.y (Yl.ldb 1 rfl rfl rfl rfl) rfl rfl rfl ?_
        refine L.y (Yl.ldb 0 rfl rfl rfl rfl) rfl rfl rfl ?_
        obtain ⟨r227, h228, H229⟩ := bnd H218
        refine L.a [] [3, 1] (Ac.call (c_row_Row_Same a211 c212 a222 c223 h228) rfl rfl rfl rfl) rfl rfl rfl rfl rfl ?_
        rintro ⟨⟩
        refine L.q 1 rfl ?_
        refine L.nil ?_
        refine E.then ?_
        refine T.bif rfl H229 (fun hc H230 => ?_) (fun hc H230 => ?_)
        · refine T.seq ?_
          refine T.region ?_
          refine L.q 1 rfl ?_
          refine L.nil ?_
          refine E.then ?_
          refine T.ret ?_
          refine E.block_ret ?_
          refine E.then_ret ?_
          refine E.then_ret ?_
          refine E.block_ret ?_
          obtain ⟨w231, hz, H232⟩ := inrr_some H230
          subst z174
          have hb := hbr176 _ rfl
          subst y170
          have hw : w231 = r := Option.some.inj H172
          subst w231
          refine E.then_ret ?_
          have hr := Option.some.inj H232
          subst r
          exact E.ret () [] [] (.tmp rfl .nil) rfl rfl rfl
        · refine T.skip ?_
          refine E.block ?_
          refine E.then ?_
          refine T.region ?_
          refine L.q 2 rfl ?_
          refine L.nil ?_
          have hr := Option.some.inj H230
          subst z174
          exact E.give (_, ()) [] [4, 5] (hag175 _ rfl) ⟨rfl, rfl, rfl, rfl, rfl, trivial⟩ rfl rfl
      · refine T.exit ?_
        refine E.then_exit' ?_
        refine E.then_exit' ?_
        refine E.block_here ?_
        have hr := Option.some.inj H178
        subst z174
        have hb := hbr176 _ rfl
        subst y170
        exact E.give (_, ()) [] [0, 1] rfl trivial rfl rfl
    · rintro ⟨e169, ⟨⟩⟩ hy
      subst hy
      refine T.seq ?_
      refine T.region ?_
      refine L.q 1 rfl ?_
      refine L.nil ?_
      refine E.then ?_
      refine T.ret ?_
      have hr := Option.some.inj H172
      subst r
      exact E.ret () [] [] (.tmp rfl .nil) rfl rfl rfl

theorem c_slices_Equal_row_Glyph {s1_ : List RowGlyph} {s2_ : List RowGlyph} (a_0 : Option Addr) (c_0 : Nat) (a_1 : Option Addr) (c_1 : Nat) {r : Bool} (H : p_slices_Equal_row_Glyph s1_ s2_ = some r) : CT G 55 [.slice a_0 s1_.length c_0, .slice a_1 s2_.length c_1] [] [Im.sl tyRowGlyph a_0 c_0 s1_, Im.sl tyRowGlyph a_1 c_1 s2_] (fun h : Unit => .bool r) (fun h => []) (fun h => []) := by
  delta p_slices_Equal_row_Glyph at H
  refine CT.of Go.Proofs.Tryd.func55 (by kernel_rfl) rfl rfl rfl fun K => ?_
  refine T.seq ?_
  refine T.region ?_
  refine L.q 1 rfl ?_
  refine L.nil ?_
  refine E.then ?_
  refine T.seq ?_
  refine T.seq ?_
  refine T.region ?_
  refine L.q 5 rfl ?_
  refine L.nil ?_
  refine E.then ?_
  refine T.bif rfl H (fun hc H2 => ?_) (fun hc H2 => ?_)
  · refine T.seq ?_
    refine T.region ?_
    refine L.q 1 rfl ?_
    refine L.nil ?_
    refine E.then ?_
    refine T.ret ?_
    refine E.then_ret ?_
    have hr := Option.some.inj H2
    subst r
    exact E.ret () [] [] (.tmp rfl .nil) rfl rfl rfl
  · refine T.skip ?_
    refine E.then ?_
    refine T.seq ?_
    refine T.seq ?_
    refine T.region ?_
    refine L.q 3 rfl ?_
    refine L.nil ?_
    refine E.then ?_
    obtain ⟨y356, H357, H358⟩ := bnd H2
    refine T.join (η := Unit × Unit) (fun h => y356 = .inl h.1) (fun h => (fun e355 => []) h.1) (fun h => (fun e355 => []) h.1) (fun h => (fun e355 => [Im.sl tyRowGlyph a_0 c_0 s1_, Im.sl tyRowGlyph a_1 c_1 s2_]) h.1) ?_ ?_
    · refine T.block ?_
      refine T.lp (η := Unit) (fun s238 h => [(0, .slice a_0 s1_.length c_0), (1, .slice a_1 s2_.length c_1), (12, .int .i64 (s1_.length : Int)), (13, .int .i64 s238)]) (fun s238 h => []) (fun s238 h => [Im.sl tyRowGlyph a_0 c_0 s1_, Im.sl tyRowGlyph a_1 c_1 s2_]) () [] [0, 1] H357 ⟨rfl, rfl, rfl, rfl, trivial⟩ rfl rfl ?_
      rintro k s238 ⟨⟩ z360 H359 hag361 hbr362
      refine T.seq ?_
      refine T.region ?_
      refine L.q 1 rfl ?_
      refine L.nil ?_
      refine E.then ?_
      refine T.seq ?_
      refine T.bif rfl H359 (fun hc H364 => ?_) (fun hc H364 => ?_)
      · refine T.skip ?_
        refine E.then ?_
        refine T.seq ?_
        refine T.block ?_
        refine T.seq ?_
        refine T.region ?_
        refine L.q 2 rfl ?_
        refine L.nil ?_
        refine E.then ?_
        refine T.seq ?_
        refine T.draw [] [] mo (by rfl) rfl ?_
        refine D.q 0 rfl rfl rfl rfl rfl rfl ?_
        refine D.q 1 rfl rfl rfl rfl rfl rfl ?_
        obtain ⟨x464, h465, H466⟩ := bnd H364
        refine D.addr 0 rfl (idx_lt h465) fun b467 o468 e469 => ?_
        obtain rfl : a_0 = some ⟨b467, o468, none⟩ := e469
        refine D.y 2 (Yl.ia h465 rfl rfl rfl rfl rfl rfl) rfl rfl rfl rfl rfl rfl ?_
        refine D.el 0 rfl (idx_some h465).2 ?_
        rintro _
        refine D.y 3 (Yl.ldc 0 0 rfl rfl rfl rfl) rfl rfl rfl rfl rfl rfl ?_
        refine D.q 4 rfl rfl rfl rfl rfl rfl ?_
        refine D.q 5 rfl rfl rfl rfl rfl rfl ?_
        obtain ⟨x471, h472, H473⟩ := bnd H466
        refine D.addr 2 rfl (idx_lt h472) fun b474 o475 e476 => ?_
        obtain rfl : a_1 = some ⟨b474, o475, none⟩ := e476
        refine D.y 6 (Yl.ia h472 rfl rfl rfl rfl rfl rfl) rfl rfl rfl rfl rfl rfl ?_
        refine D.el 2 rfl (idx_some h472).2 ?_
        rintro _
        refine D.y 7 (Yl.ldc 0 0 rfl rfl rfl rfl) rfl rfl rfl rfl rfl rfl ?_
        refine D.q 8 rfl rfl rfl rfl rfl rfl ?_
        refine D.nil rfl rfl ?_
        refine E.then ?_
        refine T.bif rfl H473 (fun hc H478 => ?_) (fun hc H478 => ?_)
        · refine T.seq ?_
          refine T.region ?_
          refine L.q 1 rfl ?_
          refine L.nil ?_
          refine E.then ?_
          refine T.ret ?_
          refine E.block_ret ?_
          refine E.then_ret ?_
          refine E.then_ret ?_
          refine E.block_ret ?_
          obtain ⟨w479, hz, H480⟩ := inrr_some H478
          subst z360
          have hb := hbr362 _ rfl
          subst y356
          have hw : w479 = r := Option.some.inj H358
          subst w479
          refine E.then_ret ?_
          have hr := Option.some.inj H480
          subst r
          exact E.ret () [] [] (.tmp rfl .nil) rfl rfl rfl
        · refine T.skip ?_
          refine E.block ?_
          refine E.then ?_
          refine T.region ?_
          refine L.q 2 rfl ?_
          refine L.nil ?_
          have hr := Option.some.inj H478
          subst z360
          exact E.give (_, ()) [] [2, 3] (hag361 _ rfl) ⟨rfl, rfl, rfl, rfl, trivial⟩ rfl rfl
      · refine T.exit ?_
        refine E.then_exit' ?_
        refine E.then_exit' ?_
        refine E.block_here ?_
        have hr := Option.some.inj H364
        subst z360
        have hb := hbr362 _ rfl
        subst y356
        exact E.give (_, ()) [] [0, 1] rfl trivial rfl rfl
    · rintro ⟨e355, ⟨⟩⟩ hy
      subst hy
      refine T.seq ?_
      refine T.region ?_
      refine L.q 1 rfl ?_
      refine L.nil ?_
      refine E.then ?_
      refine T.ret ?_
      have hr := Option.some.inj H358
      subst r
      exact E.ret () [] [] (.tmp rfl .nil) rfl rfl rfl

theorem c_snap_Snap_Same {s_ : SnapSnap} {t_ : SnapSnap} (a_0_0 : Option Addr) (c_0_0 : Nat) (a_0_1 : Option Addr) (c_0_1 : Nat) (a_1_0 : Option Addr) (c_1_0 : Nat) (a_1_1 : Option Addr) (c_1_1 : Nat) {r : Bool} (H : p_snap_Snap_Same s_ t_ = some r) : CT G 22 [.agg #[.int .i64 s_.k, .int .i64 s_.w, .int .i64 s_.h, .int .i64 s_.x, .int .i64 s_.y, .string s_.title, .slice a_0_0 s_.rows.length c_0_0, .int .i64 s_.len, .int .i64 s_.chain, .slice a_0_1 s_.begun.length c_0_1], .agg #[.int .i64 t_.k, .int .i64 t_.w, .int .i64 t_.h, .int .i64 t_.x, .int .i64 t_.y, .string t_.title, .slice a_1_0 t_.rows.length c_1_0, .int .i64 t_.len, .int .i64 t_.chain, .slice a_1_1 t_.begun.length c_1_1]] [] [Im.sl tyRowRow a_0_0 c_0_0 s_.rows, Im.sl tyRowGlyph a_0_1 c_0_1 s_.begun, Im.sl tyRowRow a_1_0 c_1_0 t_.rows, Im.sl tyRowGlyph a_1_1 c_1_1 t_.begun] (fun h : Unit => .bool r) (fun h => []) (fun h => []) := by
  delta p_snap_Snap_Same at H
  refine CT.of Go.Proofs.Tryd.func22 (by kernel_rfl) rfl rfl rfl fun K => ?_
  refine T.seq ?_
  refine T.region ?_
  refine L.a [] [] (Ac.box rfl rfl) rfl rfl rfl rfl rfl ?_
  intro g1
  refine L.a [] [] (Ac.box rfl rfl) rfl rfl rfl rfl rfl ?_
  intro g2
  refine L.q 1 rfl ?_
  refine L.nil ?_
  refine E.then ?_
  refine T.seq ?_
  obtain ⟨e34, H35, H36⟩ := bnd H
  refine T.join (η := Unit × Unit) (fun h => True) (fun h => [(4, .bool e34)]) (fun h => [Ch.box g2 25 [.int .i64 t_.k, .int .i64 t_.w, .int .i64 t_.h, .int .i64 t_.x, .int .i64 t_.y, .string t_.title, .slice a_1_0 t_.rows.length c_1_0, .int .i64 t_.len, .int .i64 t_.chain, .slice a_1_1 t_.begun.length c_1_1], Ch.box g1 25 [.int .i64 s_.k, .int .i64 s_.w, .int .i64 s_.h, .int .i64 s_.x, .int .i64 s_.y, .string s_.title, .slice a_0_0 s_.rows.length c_0_0, .int .i64 s_.len, .int .i64 s_.chain, .slice a_0_1 s_.begun.length c_0_1]]) (fun h => [Im.sl tyRowRow a_0_0 c_0_0 s_.rows, Im.sl tyRowGlyph a_0_1 c_0_1 s_.begun, Im.sl tyRowRow a_1_0 c_1_0 t_.rows, Im.sl tyRowGlyph a_1_1 c_1_1 t_.begun]) ?_ ?_
  · refine T.rega rfl ?_
    refine L.q 1 rfl ?_
    refine L.y (Yl.ldb 1 rfl rfl rfl rfl) rfl rfl rfl ?_
    refine L.q 1 rfl ?_
    refine L.y (Yl.ldb 0 rfl rfl rfl rfl) rfl rfl rfl ?_
    refine L.q 2 rfl ?_
    refine L.cs 10 H35 rfl (fun hc H37 => ?_) (fun hc H37 => ?_)
    · refine L.q 1 rfl ?_
      refine L.y (Yl.ldb 1 rfl rfl rfl rfl) rfl rfl rfl ?_
      refine L.q 1 rfl ?_
      refine L.y (Yl.ldb 0 rfl rfl rfl rfl) rfl rfl rfl ?_
      refine L.q 3 rfl ?_
      refine L.cs 17 H37 rfl (fun hc H38 => ?_) (fun hc H38 => ?_)
      · refine L.q 1 rfl ?_
        refine L.y (Yl.ldb 1 rfl rfl rfl rfl) rfl rfl rfl ?_
        refine L.q 1 rfl ?_
        refine L.y (Yl.ldb 0 rfl rfl rfl rfl) rfl rfl rfl ?_
        refine L.q 3 rfl ?_
        refine L.cs 24 H38 rfl (fun hc H39 => ?_) (fun hc H39 => ?_)
        · refine L.q 1 rfl ?_
          refine L.y (Yl.ldb 1 rfl rfl rfl rfl) rfl rfl rfl ?_
          refine L.q 1 rfl ?_
          refine L.y (Yl.ldb 0 rfl rfl rfl rfl) rfl rfl rfl ?_
          refine L.q 3 rfl ?_
          refine L.cs 31 H39 rfl (fun hc H40 => ?_) (fun hc H40 => ?_)
          · refine L.q 1 rfl ?_
            refine L.y (Yl.ldb 1 rfl rfl rfl rfl) rfl rfl rfl ?_
            refine L.q 1 rfl ?_
            refine L.y (Yl.ldb 0 rfl rfl rfl rfl) rfl rfl rfl ?_
            refine L.q 3 rfl ?_
            refine L.cs 38 H40 rfl (fun hc H41 => ?_) (fun hc H41 => ?_)
            · refine L.q 1 rfl ?_
              refine L.y (Yl.ldb 1 rfl rfl rfl rfl) rfl rfl rfl ?_
              refine L.q 1 rfl ?_
              refine L.y (Yl.ldb 0 rfl rfl rfl rfl) rfl rfl rfl ?_
              refine L.q 3 rfl ?_
              refine L.cs 45 H41 rfl (fun hc H42 => ?_) (fun hc H42 => ?_)
              · refine L.q 1 rfl ?_
                refine L.y (Yl.ldb 1 rfl rfl rfl rfl) rfl rfl rfl ?_
                refine L.q 1 rfl ?_
                refine L.y (Yl.ldb 0 rfl rfl rfl rfl) rfl rfl rfl ?_
                refine L.q 3 rfl ?_
                refine L.cs 52 H42 rfl (fun hc H43 => ?_) (fun hc H43 => ?_)
                · refine L.q 1 rfl ?_
                  refine L.y (Yl.ldb 1 rfl rfl rfl rfl) rfl rfl rfl ?_
                  refine L.q 1 rfl ?_
                  refine L.y (Yl.ldb 0 rfl rfl rfl rfl) rfl rfl rfl ?_
                  refine L.q 3 rfl ?_
                  refine L.cs 59 H43 rfl (fun hc H44 => ?_) (fun hc H44 => ?_)
                  · refine L.q 1 rfl ?_
                    refine L.y (Yl.ldb 1 rfl rfl rfl rfl) rfl rfl rfl ?_
                    refine L.q 1 rfl ?_
                    refine L.y (Yl.ldb 0 rfl rfl rfl rfl) rfl rfl rfl ?_
                    obtain ⟨r45, h46, H47⟩ := bnd H44
                    refine L.a [] [0, 2] (Ac.call (c_slices_EqualFunc_row_Row_Row_Same a_0_0 c_0_0 a_1_0 c_1_0 h46) rfl rfl rfl rfl) rfl rfl rfl rfl rfl ?_
                    rintro ⟨⟩
                    refine L.q 2 rfl ?_
                    refine L.cs 66 H47 rfl (fun hc H48 => ?_) (fun hc H48 => ?_)
                    · refine L.q 1 rfl ?_
                      refine L.y (Yl.ldb 1 rfl rfl rfl rfl) rfl rfl rfl ?_
                      refine L.q 1 rfl ?_
                      refine L.y (Yl.ldb 0 rfl rfl rfl rfl) rfl rfl rfl ?_
                      obtain ⟨r49, h50, H51⟩ := bnd H48
                      refine L.a [] [1, 3] (Ac.call (c_slices_Equal_row_Glyph a_0_1 c_0_1 a_1_1 c_1_1 h50) rfl rfl rfl rfl) rfl rfl rfl rfl rfl ?_
                      rintro ⟨⟩
                      refine L.q 2 rfl ?_
                      refine L.nil ?_
                      have hr := Option.some.inj H51
                      subst e34
                      exact E.give ((), ()) [0, 0] [0, 1, 2, 3] trivial ⟨rfl, trivial⟩ rfl rfl
                    · refine L.q 7 rfl ?_
                      refine L.nil ?_
                      have hr := Option.some.inj H48
                      subst e34
                      exact E.give ((), ()) [0, 0] [0, 1, 2, 3] trivial ⟨rfl, trivial⟩ rfl rfl
                  · refine L.q 14 rfl ?_
                    refine L.nil ?_
                    have hr := Option.some.inj H44
                    subst e34
                    exact E.give ((), ()) [0, 0] [0, 1, 2, 3] trivial ⟨rfl, trivial⟩ rfl rfl
                · refine L.q 21 rfl ?_
                  refine L.nil ?_
                  have hr := Option.some.inj H43
                  subst e34
                  exact E.give ((), ()) [0, 0] [0, 1, 2, 3] trivial ⟨rfl, trivial⟩ rfl rfl
              · refine L.q 28 rfl ?_
                refine L.nil ?_
                have hr := Option.some.inj H42
                subst e34
                exact E.give ((), ()) [0, 0] [0, 1, 2, 3] trivial ⟨rfl, trivial⟩ rfl rfl
            · refine L.q 35 rfl ?_
              refine L.nil ?_
              have hr := Option.some.inj H41
              subst e34
              exact E.give ((), ()) [0, 0] [0, 1, 2, 3] trivial ⟨rfl, trivial⟩ rfl rfl
          · refine L.q 42 rfl ?_
            refine L.nil ?_
            have hr := Option.some.inj H40
            subst e34
            exact E.give ((), ()) [0, 0] [0, 1, 2, 3] trivial ⟨rfl, trivial⟩ rfl rfl
        · refine L.q 49 rfl ?_
          refine L.nil ?_
          have hr := Option.some.inj H39
          subst e34
          exact E.give ((), ()) [0, 0] [0, 1, 2, 3] trivial ⟨rfl, trivial⟩ rfl rfl
      · refine L.q 56 rfl ?_
        refine L.nil ?_
        have hr := Option.some.inj H38
        subst e34
        exact E.give ((), ()) [0, 0] [0, 1, 2, 3] trivial ⟨rfl, trivial⟩ rfl rfl
    · refine L.q 63 rfl ?_
      refine L.nil ?_
      have hr := Option.some.inj H37
      subst e34
      exact E.give ((), ()) [0, 0] [0, 1, 2, 3] trivial ⟨rfl, trivial⟩ rfl rfl
  · rintro ⟨_, ⟨⟩⟩ _
    refine T.ret ?_
    have hr := Option.some.inj H36
    subst r
    exact E.ret () [] [] (.tmp rfl .nil) rfl rfl rfl

theorem c_law17_awake {r : Bool} (H : p_law17_awake = some r) : CT G 7 [] [] [Im.sl (Ty.int .u32) (some ⟨0, 0, none⟩) 16 t_sum_half] (fun h : Unit => .bool r) (fun h => []) (fun h => []) := by
  delta p_law17_awake at H
  refine CT.of Go.Proofs.Tryd.func7 (by kernel_rfl) rfl rfl rfl fun K => ?_
  refine T.seq ?_
  refine T.region ?_
  refine L.q 1 rfl ?_
  refine L.nil ?_
  refine E.then ?_
  refine T.seq ?_
  refine T.region ?_
  obtain ⟨r1, h2, H3⟩ := bnd H
  refine L.a [] [] (Ac.call (c_row_Blank h2) rfl rfl rfl rfl) rfl rfl rfl rfl rfl ?_
  rintro ⟨a4, c5⟩
  refine L.a [] [0] (Ac.bs (ty := tyRowRow) (xs := [r1]) (.cons (a4, c5) [0] rfl .nil) rfl rfl rfl rfl rfl rfl rfl) rfl rfl rfl rfl rfl ?_
  intro g7
  refine L.q 1 rfl ?_
  refine L.a [] [] (Ac.alloc rfl rfl) rfl rfl rfl rfl rfl ?_
  intro g9
  refine L.a [0] [] (Ac.stb rfl rfl rfl rfl rfl rfl) rfl rfl rfl rfl rfl ?_
  intro _
  refine L.nil ?_
  refine E.then ?_
  refine T.seq ?_
  refine T.region ?_
  refine L.q 1 rfl ?_
  refine L.y (Yl.ldb 0 rfl rfl rfl rfl) rfl rfl rfl ?_
  refine L.know [Im.sl tyRowRow none 0 []] (fun A w _ _ f hf => by rw [List.mem_singleton.1 hf]; exact Im.sl_nil A w) ?_
  refine L.know [Im.sl tyRowGlyph none 0 []] (fun A w _ _ f hf => by rw [List.mem_singleton.1 hf]; exact Im.sl_nil A w) ?_
  refine L.frz 1 rfl ?_
  refine L.know [Im.sl tyRowGlyph none 0 []] (fun A w _ _ f hf => by rw [List.mem_singleton.1 hf]; exact Im.sl_nil A w) ?_
  obtain ⟨r14, h15, H16⟩ := bnd H3
  refine L.a [] [3, 2, 1, 0, 5] (Ac.call (c_delta_Diff none 0 none 0 (some ⟨g7, 0, none⟩) 1 none 0 h15) rfl rfl rfl rfl) rfl rfl rfl rfl rfl ?_
  rintro ⟨⟩
  refine L.q 1 rfl ?_
  refine L.nil ?_
  refine E.then ?_
  refine T.seq ?_
  refine T.region ?_
  refine L.q 2 rfl ?_
  refine L.know [Im.sl tyRowRow none 0 []] (fun A w _ _ f hf => by rw [List.mem_singleton.1 hf]; exact Im.sl_nil A w) ?_
  refine L.know [Im.sl tyRowGlyph none 0 []] (fun A w _ _ f hf => by rw [List.mem_singleton.1 hf]; exact Im.sl_nil A w) ?_
  obtain ⟨r19, h20, H21⟩ := bnd H16
  refine L.a [] [1, 0, 7] (Ac.call (c_delta_Apply none 0 none 0 h20) rfl rfl rfl rfl) rfl rfl rfl rfl rfl ?_
  rintro ⟨⟨a22, c23⟩, ⟨a24, c25⟩⟩
  refine L.q 3 rfl ?_
  refine L.a [] [] (Ac.alloc rfl rfl) rfl rfl rfl rfl rfl ?_
  intro g28
  refine L.a [0] [] (Ac.stb rfl rfl rfl rfl rfl rfl) rfl rfl rfl rfl rfl ?_
  intro _
  refine L.q 1 rfl ?_
  refine L.nil ?_
  refine E.then ?_
  refine T.seq ?_
  obtain ⟨e42, H43, H44⟩ := bnd H21
  refine T.join (η := Unit × Unit) (fun h => True) (fun h => [(0, .bool e42)]) (fun h => [Ch.box g28 25 [.int .i64 r19.1.k, .int .i64 r19.1.w, .int .i64 r19.1.h, .int .i64 r19.1.x, .int .i64 r19.1.y, .string r19.1.title, .slice a22 r19.1.rows.length c23, .int .i64 r19.1.len, .int .i64 r19.1.chain, .slice a24 r19.1.begun.length c25], Ch.box g9 25 [.int .i64 1, .int .i64 1, .int .i64 1, .int .i64 0, .int .i64 0, .string (ByteArray.mk #[]), .slice (some ⟨g7, 0, none⟩) [r1].length 1, .int .i64 0, .int .i64 0, .slice none 0 0]]) (fun h => [Im.sl tyRowRow a22 c23 r19.1.rows, Im.sl tyRowGlyph a24 c25 r19.1.begun, Im.sl tyRowGlyph none 0 [], Im.sl tyRowRow none 0 [], Im.sl tyRowGlyph none 0 [], Im.sl tyRowRow (some ⟨g7, 0, none⟩) 1 [r1], Im.sl tyRowGlyph none 0 [], Im.sl tyRowRow none 0 [], Im.sl tyRowCell a4 c5 r1.cells, Im.sl (Ty.int .u32) (some ⟨0, 0, none⟩) 16 t_sum_half]) ?_ ?_
  · refine T.region ?_
    refine L.q 3 rfl ?_
    refine L.cs 19 H43 rfl (fun hc H45 => ?_) (fun hc H45 => ?_)
    · refine L.q 4 rfl ?_
      refine L.cs 23 H45 rfl (fun hc H46 => ?_) (fun hc H46 => ?_)
      · refine L.y (Yl.ldb 0 rfl rfl rfl rfl) rfl rfl rfl ?_
        refine L.y (Yl.ldb 1 rfl rfl rfl rfl) rfl rfl rfl ?_
        refine L.know [Im.sl tyRowGlyph none 0 []] (fun A w _ _ f hf => by rw [List.mem_singleton.1 hf]; exact Im.sl_nil A w) ?_
        obtain ⟨r48, h49, H50⟩ := bnd H46
        refine L.a [] [1, 2, 6, 0] (Ac.call (c_snap_Snap_Same a22 c23 a24 c25 (some ⟨g7, 0, none⟩) 1 none 0 h49) rfl rfl rfl rfl) rfl rfl rfl rfl rfl ?_
        rintro ⟨⟩
        refine L.q 2 rfl ?_
        refine L.nil ?_
        have hr := Option.some.inj H50
        subst e42
        exact E.give ((), ()) [0, 0] [1, 2, 3, 4, 5, 6, 7, 8, 9, 10] trivial ⟨rfl, trivial⟩ rfl rfl
      · refine L.q 5 rfl ?_
        refine L.nil ?_
        have hr := Option.some.inj H46
        subst e42
        exact E.give ((), ()) [0, 0] [0, 1, 2, 3, 4, 5, 6, 7, 8, 9] trivial ⟨rfl, trivial⟩ rfl rfl
    · refine L.q 9 rfl ?_
      refine L.nil ?_
      have hr := Option.some.inj H45
      subst e42
      exact E.give ((), ()) [0, 0] [0, 1, 2, 3, 4, 5, 6, 7, 8, 9] trivial ⟨rfl, trivial⟩ rfl rfl
  · rintro ⟨_, ⟨⟩⟩ _
    refine T.ret ?_
    have hr := Option.some.inj H44
    subst r
    exact E.ret () [] [] (.tmp rfl .nil) rfl rfl rfl

theorem c_law01_Cut {s_ : ByteArray} {n_ : Int} {r : ByteArray} (H : p_law01_Cut s_ n_ = some r) : CT G 19 [.string s_, .int .i64 n_] [] [] (fun h : Unit => .string r) (fun h => []) (fun h => []) := by
  delta p_law01_Cut at H
  refine CT.of Go.Proofs.Tryd.func19 (by kernel_rfl) rfl rfl rfl fun K => ?_
  refine T.seq ?_
  refine T.region ?_
  refine L.q 1 rfl ?_
  refine L.nil ?_
  refine E.then ?_
  refine T.seq ?_
  refine T.seq ?_
  refine T.region ?_
  refine L.q 4 rfl ?_
  refine L.nil ?_
  refine E.then ?_
  refine T.bif rfl H (fun hc H4 => ?_) (fun hc H4 => ?_)
  · refine T.seq ?_
    refine T.region ?_
    refine L.q 2 rfl ?_
    obtain ⟨_, h5, H6⟩ := bnd H4
    refine L.y (Yl.sc h5 rfl rfl rfl rfl rfl rfl) rfl rfl rfl ?_
    refine L.q 1 rfl ?_
    refine L.nil ?_
    refine E.then ?_
    refine T.ret ?_
    refine E.then_ret ?_
    have hr := Option.some.inj H6
    subst r
    exact E.ret () [] [] (.tmp rfl .nil) rfl rfl rfl
  · refine T.skip ?_
    refine E.then ?_
    refine T.seq ?_
    refine T.region ?_
    refine L.q 2 rfl ?_
    refine L.nil ?_
    refine E.then ?_
    refine T.ret ?_
    have hr := Option.some.inj H4
    subst r
    exact E.ret () [] [] (.tmp rfl .nil) rfl rfl rfl

theorem c_law09_Any {l : List RowCell} {wrapped : Bool} (a_0 : Option Addr) (c_0 : Nat) {r : RowRow} (H : p_law09_Any l wrapped = some r) : CT G 24 [.slice a_0 l.length c_0, .bool wrapped] [] [Im.sl tyRowCell a_0 c_0 l] (fun h : (Option Addr × Nat) => .agg #[.slice h.1 r.cells.length h.2, .bool r.wrapped]) (fun h => []) (fun h => [Im.sl tyRowCell h.1 h.2 r.cells]) := by
  delta p_law09_Any at H
  refine CT.of Go.Proofs.Tryd.func24 (by kernel_rfl) rfl rfl rfl fun K => ?_
  refine T.seq ?_
  refine T.region ?_
  refine L.a [] [] (Ac.alloc rfl rfl) rfl rfl rfl rfl rfl ?_
  intro g1
  refine L.nil ?_
  refine E.then ?_
  refine T.seq ?_
  refine T.region ?_
  refine L.a [] [] (Ac.bs (ty := tyRowCell) (xs := []) .nil rfl rfl rfl rfl rfl rfl rfl) rfl rfl rfl rfl rfl ?_
  intro g2
  refine L.q 4 rfl ?_
  obtain ⟨_, h4, H5⟩ := bnd H
  refine L.rs 0 h4 rfl rfl rfl rfl rfl rfl rfl rfl rfl rfl rfl rfl ?_
  intro a6 c7
  obtain ⟨_, h9, H10⟩ := bnd H5
  refine L.a [0] [0] (Ac.ap (ty := tyRowCell) h9 rfl rfl rfl rfl rfl rfl rfl) rfl rfl rfl rfl rfl ?_
  rintro ⟨a11, c12⟩
  refine L.q 2 rfl ?_
  refine L.a [1] [] (Ac.stb rfl rfl rfl rfl rfl rfl) rfl rfl rfl rfl rfl ?_
  intro _
  refine L.nil ?_
  refine E.then ?_
  refine T.ret ?_
  refine E.frz 1 rfl ?_
  have hr := Option.some.inj H10
  subst r
  exact E.ret (a11, c12) [] [0] (.cell 0 rfl rfl rfl .nil) rfl rfl rfl

theorem c_law16_Cut {s_ : SnapSnap} (a_0_0 : Option Addr) (c_0_0 : Nat) (a_0_1 : Option Addr) (c_0_1 : Nat) {r : SnapSnap} (H : p_law16_Cut s_ = some r) : CT G 8 [.agg #[.int .i64 s_.k, .int .i64 s_.w, .int .i64 s_.h, .int .i64 s_.x, .int .i64 s_.y, .string s_.title, .slice a_0_0 s_.rows.length c_0_0, .int .i64 s_.len, .int .i64 s_.chain, .slice a_0_1 s_.begun.length c_0_1]] [] [Im.sl tyRowRow a_0_0 c_0_0 s_.rows, Im.sl tyRowGlyph a_0_1 c_0_1 s_.begun] (fun h : (Option Addr × Nat) × (Option Addr × Nat) => .agg #[.int .i64 r.k, .int .i64 r.w, .int .i64 r.h, .int .i64 r.x, .int .i64 r.y, .string r.title, .slice h.1.1 r.rows.length h.1.2, .int .i64 r.len, .int .i64 r.chain, .slice h.2.1 r.begun.length h.2.2]) (fun h => []) (fun h => [Im.sl tyRowRow h.1.1 h.1.2 r.rows, Im.sl tyRowGlyph h.2.1 h.2.2 r.begun]) := by
  delta p_law16_Cut at H
  refine CT.of Go.Proofs.Tryd.func8 (by kernel_rfl) rfl rfl rfl fun K => ?_
  refine T.seq ?_
  refine T.region ?_
  refine L.a [] [] (Ac.box rfl rfl) rfl rfl rfl rfl rfl ?_
  intro g1
  refine L.a [] [] (Ac.alloc rfl rfl) rfl rfl rfl rfl rfl ?_
  intro g2
  refine L.nil ?_
  refine E.then ?_
  refine T.seq ?_
  refine T.region ?_
  refine L.q 1 rfl ?_
  refine L.y (Yl.ldb 1 rfl rfl rfl rfl) rfl rfl rfl ?_
  obtain ⟨r3, h4, H5⟩ := bnd H
  refine L.a [] [] (Ac.call (c_law01_Cut h4) rfl rfl rfl rfl) rfl rfl rfl rfl rfl ?_
  rintro ⟨⟩
  refine L.q 1 rfl ?_
  refine L.a [1] [] (Ac.stb rfl rfl rfl rfl rfl rfl) rfl rfl rfl rfl rfl ?_
  intro _
  refine L.nil ?_
  refine E.then ?_
  refine T.seq ?_
  refine T.region ?_
  refine L.a [] [] (Ac.bs (ty := tyRowGlyph) (xs := []) .nil rfl rfl rfl rfl rfl rfl rfl) rfl rfl rfl rfl rfl ?_
  intro g6
  refine L.q 1 rfl ?_
  refine L.y (Yl.ldb 1 rfl rfl rfl rfl) rfl rfl rfl ?_
  refine L.q 1 rfl ?_
  refine L.y (Yl.ldb 1 rfl rfl rfl rfl) rfl rfl rfl ?_
  refine L.q 2 rfl ?_
  obtain ⟨_, h8, H9⟩ := bnd H5
  refine L.rs 1 h8 rfl rfl rfl rfl rfl rfl rfl rfl rfl rfl rfl rfl ?_
  intro a10 c11
  obtain ⟨_, h13, H14⟩ := bnd H9
  refine L.a [0] [0] (Ac.ap (ty := tyRowGlyph) h13 rfl rfl rfl rfl rfl rfl rfl) rfl rfl rfl rfl rfl ?_
  rintro ⟨a15, c16⟩
  refine L.q 1 rfl ?_
  refine L.a [1] [] (Ac.stb rfl rfl rfl rfl rfl rfl) rfl rfl rfl rfl rfl ?_
  intro _
  refine L.nil ?_
  refine E.then ?_
  refine T.seq ?_
  refine T.region ?_
  refine L.q 1 rfl ?_
  refine L.nil ?_
  refine E.then ?_
  refine T.seq ?_
  refine T.seq ?_
  refine T.region ?_
  refine L.q 1 rfl ?_
  refine L.nil ?_
  refine E.then ?_
  obtain ⟨e441, H442, H443⟩ := bnd H14
  refine T.join (η := Unit × ((Option Addr × Nat))) (fun h => True) (fun h => (fun a438 c439 => [(1, .pointer (some ⟨g1, 0, none⟩)), (2, .pointer (some ⟨g2, 0, none⟩)), (3, .slice a438 e441.length c439)]) h.2.1 h.2.2) (fun h => (fun a438 c439 => [Ch.arr tyRowRow 57 a438 c439 e441, Ch.box g1 25 [.int .i64 s_.k, .int .i64 s_.w, .int .i64 s_.h, .int .i64 s_.x, .int .i64 s_.y, .string r3, .slice a_0_0 s_.rows.length c_0_0, .int .i64 s_.len, .int .i64 s_.chain, .slice a15 (([] : List RowGlyph) ++ (cut s_.begun 0 (imin (s_.begun.length : Int) 30))).length c16], Ch.box g2 25 [.int .i64 0, .int .i64 0, .int .i64 0, .int .i64 0, .int .i64 0, .string (ByteArray.mk #[]), .slice none 0 0, .int .i64 0, .int .i64 0, .slice none 0 0], Ch.arr tyRowGlyph 112 a15 c16 (([] : List RowGlyph) ++ (cut s_.begun 0 (imin (s_.begun.length : Int) 30)))]) h.2.1 h.2.2) (fun h => (fun a438 c439 => [Im.sl tyRowGlyph a10 c11 (cut s_.begun 0 (imin (s_.begun.length : Int) 30)), Im.sl tyRowRow a_0_0 c_0_0 s_.rows, Im.sl tyRowGlyph a_0_1 c_0_1 s_.begun]) h.2.1 h.2.2) ?_ ?_
  · refine T.block ?_
    refine T.nil0 tyRowRow 57 ?_
    refine T.lp (η := (Option Addr × Nat)) (fun s303 h => (fun a299 c300 => [(1, .pointer (some ⟨g1, 0, none⟩)), (2, .pointer (some ⟨g2, 0, none⟩)), (3, .slice a299 s303.1.length c300), (4, .int .i64 s303.2)]) h.1 h.2) (fun s303 h => (fun a299 c300 => [Ch.arr tyRowRow 57 a299 c300 s303.1, Ch.box g1 25 [.int .i64 s_.k, .int .i64 s_.w, .int .i64 s_.h, .int .i64 s_.x, .int .i64 s_.y, .string r3, .slice a_0_0 s_.rows.length c_0_0, .int .i64 s_.len, .int .i64 s_.chain, .slice a15 (([] : List RowGlyph) ++ (cut s_.begun 0 (imin (s_.begun.length : Int) 30))).length c16], Ch.box g2 25 [.int .i64 0, .int .i64 0, .int .i64 0, .int .i64 0, .int .i64 0, .string (ByteArray.mk #[]), .slice none 0 0, .int .i64 0, .int .i64 0, .slice none 0 0], Ch.arr tyRowGlyph 112 a15 c16 (([] : List RowGlyph) ++ (cut s_.begun 0 (imin (s_.begun.length : Int) 30)))]) h.1 h.2) (fun s303 h => (fun a299 c300 => [Im.sl tyRowGlyph a10 c11 (cut s_.begun 0 (imin (s_.begun.length : Int) 30)), Im.sl tyRowRow a_0_0 c_0_0 s_.rows, Im.sl tyRowGlyph a_0_1 c_0_1 s_.begun]) h.1 h.2) (none, 0) [0, 0, 1, 0] [0, 1, 2] H442 ⟨rfl, rfl, rfl, rfl, trivial⟩ rfl rfl ?_
    rintro k s303 ⟨a299, c300⟩ z445 H444 hag446 hbr447
    refine T.seq ?_
    refine T.seq ?_
    obtain ⟨e451, H452, H453⟩ := bnd H444
    refine T.join (η := Unit × Unit) (fun h => True) (fun h => [(1, .pointer (some ⟨g1, 0, none⟩)), (2, .pointer (some ⟨g2, 0, none⟩)), (3, .slice a299 s303.1.length c300), (4, .int .i64 s303.2), (27, .bool e451)]) (fun h => [Ch.box g1 25 [.int .i64 s_.k, .int .i64 s_.w, .int .i64 s_.h, .int .i64 s_.x, .int .i64 s_.y, .string r3, .slice a_0_0 s_.rows.length c_0_0, .int .i64 s_.len, .int .i64 s_.chain, .slice a15 (([] : List RowGlyph) ++ (cut s_.begun 0 (imin (s_.begun.length : Int) 30))).length c16], Ch.box g2 25 [.int .i64 0, .int .i64 0, .int .i64 0, .int .i64 0, .int .i64 0, .string (ByteArray.mk #[]), .slice none 0 0, .int .i64 0, .int .i64 0, .slice none 0 0], Ch.arr tyRowRow 57 a299 c300 s303.1, Ch.arr tyRowGlyph 112 a15 c16 (([] : List RowGlyph) ++ (cut s_.begun 0 (imin (s_.begun.length : Int) 30)))]) (fun h => [Im.sl tyRowGlyph a10 c11 (cut s_.begun 0 (imin (s_.begun.length : Int) 30)), Im.sl tyRowRow a_0_0 c_0_0 s_.rows, Im.sl tyRowGlyph a_0_1 c_0_1 s_.begun]) ?_ ?_
    · refine T.region ?_
      refine L.q 2 rfl ?_
      refine L.y (Yl.ldb 1 rfl rfl rfl rfl) rfl rfl rfl ?_
      refine L.q 3 rfl ?_
      refine L.cs 24 H452 rfl (fun hc H454 => ?_) (fun hc H454 => ?_)
      · refine L.q 3 rfl ?_
        refine L.nil ?_
        have hr := Option.some.inj H454
        subst e451
        exact E.give ((), ()) [1, 1, 0, 0] [0, 1, 2] trivial ⟨rfl, rfl, rfl, rfl, rfl, trivial⟩ rfl rfl
      · refine L.q 3 rfl ?_
        refine L.nil ?_
        have hr := Option.some.inj H454
        subst e451
        exact E.give ((), ()) [1, 1, 0, 0] [0, 1, 2] trivial ⟨rfl, rfl, rfl, rfl, rfl, trivial⟩ rfl rfl
    · rintro ⟨_, ⟨⟩⟩ _
      refine T.bif rfl H453 (fun hc H456 => ?_) (fun hc H456 => ?_)
      · refine T.skip ?_
        refine E.then ?_
        refine T.seq ?_
        refine T.block ?_
        refine T.draw [] [0, 0, 1] mo (by rfl) rfl ?_
        refine D.q 0 rfl rfl rfl rfl rfl rfl ?_
        refine D.q 1 rfl rfl rfl rfl rfl rfl ?_
        refine D.y 2 (Yl.ldb 0 rfl rfl rfl rfl) rfl rfl rfl rfl rfl rfl ?_
        refine D.q 3 rfl rfl rfl rfl rfl rfl ?_
        obtain ⟨x550, h551, H552⟩ := bnd H456
        refine D.addr 1 rfl (idx_lt h551) fun b553 o554 e555 => ?_
        obtain rfl : a_0_0 = some ⟨b553, o554, none⟩ := e555
        refine D.y 4 (Yl.ia h551 rfl rfl rfl rfl rfl rfl) rfl rfl rfl rfl rfl rfl ?_
        refine D.el 1 rfl (idx_some h551).2 ?_
        rintro ⟨a556, c557⟩
        refine D.q 5 rfl rfl rfl rfl rfl rfl ?_
        refine D.y 6 (Yl.ldc 0 0 rfl rfl rfl rfl) rfl rfl rfl rfl rfl rfl ?_
        refine D.q 7 rfl rfl rfl rfl rfl rfl ?_
        refine D.y 8 (Yl.ldb 0 rfl rfl rfl rfl) rfl rfl rfl rfl rfl rfl ?_
        refine D.q 9 rfl rfl rfl rfl rfl rfl ?_
        obtain ⟨x560, h561, H562⟩ := bnd H552
        refine D.y 10 (Yl.ia h561 rfl rfl rfl rfl rfl rfl) rfl rfl rfl rfl rfl rfl ?_
        refine D.el 3 rfl (idx_some h561).2 ?_
        rintro ⟨a563, c564⟩
        refine D.q 11 rfl rfl rfl rfl rfl rfl ?_
        refine D.y 12 (Yl.ldc 0 1 rfl rfl rfl rfl) rfl rfl rfl rfl rfl rfl ?_
        obtain ⟨r567, h568, H569⟩ := bnd H562
        refine D.one rfl rfl rfl (Dp.a [] [3] (Ac.call (c_law09_Any a556 c557 h568) rfl rfl rfl rfl) rfl rfl rfl rfl rfl rfl ?_)
        rintro ⟨a570, c571⟩
        refine D.one rfl rfl rfl (Dp.a [] [0] (Ac.bs (ty := tyRowRow) (xs := [r567]) (.cons (a570, c571) [0] rfl .nil) rfl rfl rfl rfl rfl rfl rfl) rfl rfl rfl rfl rfl rfl ?_)
        intro g573
        refine D.frz 0 rfl ?_
        obtain ⟨_, h576, H577⟩ := bnd H569
        refine D.one rfl rfl rfl (Dp.a [0] [0] (Ac.ap (ty := tyRowRow) h576 rfl rfl rfl rfl rfl rfl rfl) rfl rfl rfl rfl rfl rfl ?_)
        rintro ⟨a578, c579⟩
        refine D.q 16 rfl rfl rfl rfl rfl rfl ?_
        refine D.nil rfl rfl ?_
        refine E.block ?_
        refine E.then ?_
        refine T.region ?_
        refine L.q 3 rfl ?_
        refine L.nil ?_
        have hr := Option.some.inj H577
        subst z445
        exact E.give (_, (a578, c579)) [3, 0, 0, 0] [6, 7, 8] (hag446 _ rfl) ⟨rfl, rfl, rfl, rfl, trivial⟩ rfl rfl
      · refine T.exit ?_
        refine E.then_exit' ?_
        refine E.then_exit' ?_
        refine E.block_here ?_
        have hr := Option.some.inj H456
        subst z445
        have hb := hbr447 _ rfl
        subst e441
        exact E.give ((), (a299, c300)) [2, 0, 0, 0] [0, 1, 2] trivial ⟨rfl, rfl, rfl, trivial⟩ rfl rfl
  · rintro ⟨_, ⟨a438, c439⟩⟩ _
    refine T.seq ?_
    refine T.region ?_
    refine L.q 2 rfl ?_
    refine L.a [1] [] (Ac.stb rfl rfl rfl rfl rfl rfl) rfl rfl rfl rfl rfl ?_
    intro _
    refine L.nil ?_
    refine E.then ?_
    refine T.seq ?_
    refine T.region ?_
    refine L.y (Yl.ldb 0 rfl rfl rfl rfl) rfl rfl rfl ?_
    refine L.a [2] [] (Ac.stb rfl rfl rfl rfl rfl rfl) rfl rfl rfl rfl rfl ?_
    intro _
    refine L.nil ?_
    refine E.then ?_
    refine T.ret ?_
    refine E.frz 2 rfl ?_
    refine E.frz 2 rfl ?_
    have hr := Option.some.inj H443
    subst r
    exact E.ret ((a438, c439), (a15, c16)) [] [1, 0] (.cell 0 rfl rfl rfl .nil) rfl rfl rfl

theorem c_law14_Told {l : List RowGlyph} (a_0 : Option Addr) (c_0 : Nat) {r : (List Ref09Glyph)} (H : p_law14_Told l = some r) : CT G 25 [.slice a_0 l.length c_0] [] [Im.sl tyRowGlyph a_0 c_0 l] (fun h : (Option Addr × Nat) => .slice h.1 r.length h.2) (fun h => [Ch.arr tyRef09Glyph 84 h.1 h.2 r]) (fun h => []) := by
  delta p_law14_Told at H
  refine CT.of Go.Proofs.Tryd.func25 (by kernel_rfl) rfl rfl rfl fun K => ?_
  refine T.seq ?_
  refine T.region ?_
  refine L.q 1 rfl ?_
  refine L.nil ?_
  refine E.then ?_
  refine T.seq ?_
  refine T.region ?_
  refine L.q 1 rfl ?_
  refine L.nil ?_
  refine E.then ?_
  refine T.seq ?_
  refine T.seq ?_
  refine T.region ?_
  refine L.q 3 rfl ?_
  refine L.nil ?_
  refine E.then ?_
  obtain ⟨e125, H126, H127⟩ := bnd H
  refine T.join (η := Unit × ((Option Addr × Nat))) (fun h => True) (fun h => (fun a122 c123 => [(3, .slice a122 e125.length c123)]) h.2.1 h.2.2) (fun h => (fun a122 c123 => [Ch.arr tyRef09Glyph 84 a122 c123 e125]) h.2.1 h.2.2) (fun h => (fun a122 c123 => [Im.sl tyRowGlyph a_0 c_0 l]) h.2.1 h.2.2) ?_ ?_
  · refine T.block ?_
    refine T.nil0 tyRef09Glyph 84 ?_
    refine T.lp (η := (Option Addr × Nat)) (fun s86 h => (fun a82 c83 => [(3, .slice a82 s86.1.length c83), (6, .slice a_0 l.length c_0), (7, .int .i64 (l.length : Int)), (8, .int .i64 s86.2)]) h.1 h.2) (fun s86 h => (fun a82 c83 => [Ch.arr tyRef09Glyph 84 a82 c83 s86.1]) h.1 h.2) (fun s86 h => (fun a82 c83 => [Im.sl tyRowGlyph a_0 c_0 l]) h.1 h.2) (none, 0) [0] [0] H126 ⟨rfl, rfl, rfl, rfl, trivial⟩ rfl rfl ?_
    rintro k s86 ⟨a82, c83⟩ z129 H128 hag130 hbr131
    refine T.seq ?_
    refine T.region ?_
    refine L.q 1 rfl ?_
    refine L.nil ?_
    refine E.then ?_
    refine T.seq ?_
    refine T.bif rfl H128 (fun hc H133 => ?_) (fun hc H133 => ?_)
    · refine T.skip ?_
      refine E.then ?_
      refine T.seq ?_
      refine T.block ?_
      refine T.seq ?_
      refine T.region ?_
      obtain ⟨x150, h151, H152⟩ := bnd H133
      refine L.addr 0 rfl (idx_lt h151) fun b153 o154 e155 => ?_
      obtain rfl : a_0 = some ⟨b153, o154, none⟩ := e155
      refine L.y (Yl.ia h151 rfl rfl rfl rfl rfl rfl) rfl rfl rfl ?_
      refine L.el 0 rfl (idx_some h151).2 ?_
      rintro _
      refine L.y (Yl.ldc 0 0 rfl rfl rfl rfl) rfl rfl rfl ?_
      refine L.a [] [] (Ac.alloc rfl rfl) rfl rfl rfl rfl rfl ?_
      intro g157
      refine L.a [0] [] (Ac.stb rfl rfl rfl rfl rfl rfl) rfl rfl rfl rfl rfl ?_
      intro _
      refine L.nil ?_
      refine E.then ?_
      refine T.region ?_
      refine L.q 2 rfl ?_
      refine L.y (Yl.ldb 0 rfl rfl rfl rfl) rfl rfl rfl ?_
      refine L.q 2 rfl ?_
      refine L.y (Yl.ldb 0 rfl rfl rfl rfl) rfl rfl rfl ?_
      refine L.q 1 rfl ?_
      refine L.a [] [] (Ac.bs (ty := tyRef09Glyph) (xs := [(Ref09Glyph.mk (IntKind.i64.wrap x150.rune) x150.style)]) (.cons () [] rfl .nil) rfl rfl rfl rfl rfl rfl rfl) rfl rfl rfl rfl rfl ?_
      intro g158
      refine L.frz 0 rfl ?_
      obtain ⟨_, h161, H162⟩ := bnd H152
      refine L.a [1] [0] (Ac.ap (ty := tyRef09Glyph) h161 rfl rfl rfl rfl rfl rfl rfl) rfl rfl rfl rfl rfl ?_
      rintro ⟨a163, c164⟩
      refine L.q 1 rfl ?_
      refine L.nil ?_
      refine E.block ?_
      refine E.then ?_
      refine T.region ?_
      refine L.q 2 rfl ?_
      refine L.nil ?_
      have hr := Option.some.inj H162
      subst z129
      exact E.give (_, (a163, c164)) [0] [2] (hag130 _ rfl) ⟨rfl, rfl, rfl, rfl, trivial⟩ rfl rfl
    · refine T.exit ?_
      refine E.then_exit' ?_
      refine E.then_exit' ?_
      refine E.block_here ?_
      have hr := Option.some.inj H133
      subst z129
      have hb := hbr131 _ rfl
      subst e125
      exact E.give ((), (a82, c83)) [0] [0] trivial ⟨rfl, trivial⟩ rfl rfl
  · rintro ⟨_, ⟨a122, c123⟩⟩ _
    refine T.seq ?_
    refine T.region ?_
    refine L.q 2 rfl ?_
    refine L.nil ?_
    refine E.then ?_
    refine T.ret ?_
    have hr := Option.some.inj H127
    subst r
    exact E.ret (a122, c123) [0] [] (.tmp rfl .nil) rfl rfl rfl

theorem c_law09_Told {r_ : RowRow} (a_0_0 : Option Addr) (c_0_0 : Nat) {r : Ref09Row} (H : p_law09_Told r_ = some r) : CT G 26 [.agg #[.slice a_0_0 r_.cells.length c_0_0, .bool r_.wrapped]] [] [Im.sl tyRowCell a_0_0 c_0_0 r_.cells] (fun h : (Option Addr × Nat) => .agg #[.slice h.1 r.l.length h.2, .bool r.wrapped]) (fun h => []) (fun h => [Im.sl tyRef09Cell h.1 h.2 r.l]) := by
  delta p_law09_Told at H
  refine CT.of Go.Proofs.Tryd.func26 (by kernel_rfl) rfl rfl rfl fun K => ?_
  refine T.seq ?_
  refine T.region ?_
  refine L.a [] [] (Ac.box rfl rfl) rfl rfl rfl rfl rfl ?_
  intro g1
  refine L.a [] [] (Ac.alloc rfl rfl) rfl rfl rfl rfl rfl ?_
  intro g2
  refine L.nil ?_
  refine E.then ?_
  refine T.seq ?_
  refine T.region ?_
  refine L.q 1 rfl ?_
  refine L.y (Yl.ldb 1 rfl rfl rfl rfl) rfl rfl rfl ?_
  refine L.q 1 rfl ?_
  refine L.a [] [] (Ac.alloc rfl rfl) rfl rfl rfl rfl rfl ?_
  intro g3
  refine L.a [0] [] (Ac.stb rfl rfl rfl rfl rfl rfl) rfl rfl rfl rfl rfl ?_
  intro _
  refine L.nil ?_
  refine E.then ?_
  refine T.seq ?_
  refine T.seq ?_
  refine T.region ?_
  refine L.q 1 rfl ?_
  refine L.y (Yl.ldb 2 rfl rfl rfl rfl) rfl rfl rfl ?_
  refine L.q 2 rfl ?_
  refine L.nil ?_
  refine E.then ?_
  obtain ⟨e128, H129, H130⟩ := bnd H
  refine T.join (η := Unit × ((Option Addr × Nat))) (fun h => True) (fun h => (fun a125 c126 => [(2, .pointer (some ⟨g2, 0, none⟩)), (3, .pointer (some ⟨g3, 0, none⟩))]) h.2.1 h.2.2) (fun h => (fun a125 c126 => [Ch.arr tyRef09Cell 86 a125 c126 e128.l, Ch.box g3 63 [.slice a125 e128.l.length c126, .bool e128.wrapped], Ch.box g2 63 [.slice none 0 0, .bool false], Ch.box g1 57 [.slice a_0_0 r_.cells.length c_0_0, .bool r_.wrapped]]) h.2.1 h.2.2) (fun h => (fun a125 c126 => [Im.sl tyRowCell a_0_0 c_0_0 r_.cells]) h.2.1 h.2.2) ?_ ?_
  · refine T.block ?_
    refine T.nil0 tyRef09Cell 86 ?_
    refine T.lp (η := (Option Addr × Nat)) (fun s89 h => (fun a85 c86 => [(2, .pointer (some ⟨g2, 0, none⟩)), (3, .pointer (some ⟨g3, 0, none⟩)), (10, .slice a_0_0 r_.cells.length c_0_0), (11, .int .i64 (r_.cells.length : Int)), (12, .int .i64 s89.2)]) h.1 h.2) (fun s89 h => (fun a85 c86 => [Ch.arr tyRef09Cell 86 a85 c86 s89.1.l, Ch.box g3 63 [.slice a85 s89.1.l.length c86, .bool s89.1.wrapped], Ch.box g2 63 [.slice none 0 0, .bool false], Ch.box g1 57 [.slice a_0_0 r_.cells.length c_0_0, .bool r_.wrapped]]) h.1 h.2) (fun s89 h => (fun a85 c86 => [Im.sl tyRowCell a_0_0 c_0_0 r_.cells]) h.1 h.2) (none, 0) [0, 0, 0, 0] [0] H129 ⟨rfl, rfl, rfl, rfl, rfl, trivial⟩ rfl rfl ?_
    rintro k s89 ⟨a85, c86⟩ z132 H131 hag133 hbr134
    refine T.seq ?_
    refine T.region ?_
    refine L.q 1 rfl ?_
    refine L.nil ?_
    refine E.then ?_
    refine T.seq ?_
    refine T.bif rfl H131 (fun hc H136 => ?_) (fun hc H136 => ?_)
    · refine T.skip ?_
      refine E.then ?_
      refine T.seq ?_
      refine T.block ?_
      refine T.seq ?_
      refine T.region ?_
      obtain ⟨x153, h154, H155⟩ := bnd H136
      refine L.addr 0 rfl (idx_lt h154) fun b156 o157 e158 => ?_
      obtain rfl : a_0_0 = some ⟨b156, o157, none⟩ := e158
      refine L.y (Yl.ia h154 rfl rfl rfl rfl rfl rfl) rfl rfl rfl ?_
      refine L.el 0 rfl (idx_some h154).2 ?_
      rintro _
      refine L.y (Yl.ldc 0 0 rfl rfl rfl rfl) rfl rfl rfl ?_
      refine L.a [] [] (Ac.alloc rfl rfl) rfl rfl rfl rfl rfl ?_
      intro g160
      refine L.a [0] [] (Ac.stb rfl rfl rfl rfl rfl rfl) rfl rfl rfl rfl rfl ?_
      intro _
      refine L.nil ?_
      refine E.then ?_
      refine T.region ?_
      refine L.q 1 rfl ?_
      refine L.y (Yl.ldb 2 rfl rfl rfl rfl) rfl rfl rfl ?_
      refine L.q 1 rfl ?_
      refine L.y (Yl.ldb 0 rfl rfl rfl rfl) rfl rfl rfl ?_
      refine L.q 2 rfl ?_
      refine L.y (Yl.ldb 0 rfl rfl rfl rfl) rfl rfl rfl ?_
      refine L.q 1 rfl ?_
      refine L.y (Yl.ldb 0 rfl rfl rfl rfl) rfl rfl rfl ?_
      refine L.q 1 rfl ?_
      refine L.a [] [] (Ac.bs (ty := tyRef09Cell) (xs := [(Ref09Cell.mk (IntKind.i64.wrap x153.rune) x153.style x153.part)]) (.cons () [] rfl .nil) rfl rfl rfl rfl rfl rfl rfl) rfl rfl rfl rfl rfl ?_
      intro g161
      refine L.frz 0 rfl ?_
      obtain ⟨_, h164, H165⟩ := bnd H155
      refine L.a [1] [0] (Ac.ap (ty := tyRef09Cell) h164 rfl rfl rfl rfl rfl rfl rfl) rfl rfl rfl rfl rfl ?_
      rintro ⟨a166, c167⟩
      refine L.q 1 rfl ?_
      refine L.a [2] [] (Ac.stb rfl rfl rfl rfl rfl rfl) rfl rfl rfl rfl rfl ?_
      intro _
      refine L.nil ?_
      refine E.block ?_
      refine E.then ?_
      refine T.region ?_
      refine L.q 2 rfl ?_
      refine L.nil ?_
      have hr := Option.some.inj H165
      subst z132
      exact E.give (_, (a166, c167)) [1, 0, 1, 1] [2] (hag133 _ rfl) ⟨rfl, rfl, rfl, rfl, rfl, trivial⟩ rfl rfl
    · refine T.exit ?_
      refine E.then_exit' ?_
      refine E.then_exit' ?_
      refine E.block_here ?_
      have hr := Option.some.inj H136
      subst z132
      have hb := hbr134 _ rfl
      subst e128
      exact E.give ((), (a85, c86)) [0, 0, 0, 0] [0] trivial ⟨rfl, rfl, trivial⟩ rfl rfl
  · rintro ⟨_, ⟨a125, c126⟩⟩ _
    refine T.seq ?_
    refine T.region ?_
    refine L.y (Yl.ldb 1 rfl rfl rfl rfl) rfl rfl rfl ?_
    refine L.a [2] [] (Ac.stb rfl rfl rfl rfl rfl rfl) rfl rfl rfl rfl rfl ?_
    intro _
    refine L.nil ?_
    refine E.then ?_
    refine T.ret ?_
    refine E.frz 1 rfl ?_
    have hr := Option.some.inj H130
    subst r
    exact E.ret (a125, c126) [] [0] (.cell 0 rfl rfl rfl .nil) rfl rfl rfl

theorem c_law16_Told {s_ : SnapSnap} (a_0_0 : Option Addr) (c_0_0 : Nat) (a_0_1 : Option Addr) (c_0_1 : Nat) {r : Ref16Snap} (H : p_law16_Told s_ = some r) : CT G 9 [.agg #[.int .i64 s_.k, .int .i64 s_.w, .int .i64 s_.h, .int .i64 s_.x, .int .i64 s_.y, .string s_.title, .slice a_0_0 s_.rows.length c_0_0, .int .i64 s_.len, .int .i64 s_.chain, .slice a_0_1 s_.begun.length c_0_1]] [] [Im.sl tyRowRow a_0_0 c_0_0 s_.rows, Im.sl tyRowGlyph a_0_1 c_0_1 s_.begun] (fun h : (Option Addr × Nat) × (Option Addr × Nat) => .agg #[.int .i64 r.k, .int .i64 r.w, .int .i64 r.h, .int .i64 r.x, .int .i64 r.y, .string r.title, .slice h.1.1 r.rows.length h.1.2, .int .i64 r.len, .int .i64 r.chain, .slice h.2.1 r.begun.length h.2.2]) (fun h => []) (fun h => [Im.sl tyRef09Row h.1.1 h.1.2 r.rows, Im.sl tyRef09Glyph h.2.1 h.2.2 r.begun]) := by
  delta p_law16_Told at H
  refine CT.of Go.Proofs.Tryd.func9 (by kernel_rfl) rfl rfl rfl fun K => ?_
  refine T.seq ?_
  refine T.region ?_
  refine L.a [] [] (Ac.box rfl rfl) rfl rfl rfl rfl rfl ?_
  intro g1
  refine L.a [] [] (Ac.alloc rfl rfl) rfl rfl rfl rfl rfl ?_
  intro g2
  refine L.nil ?_
  refine E.then ?_
  refine T.seq ?_
  obtain ⟨e83, H84, H85⟩ := bnd H
  refine T.join (η := Unit × (Nat × (Option Addr × Nat) × (Option Addr × Nat))) (fun h => True) (fun h => (fun g76 a77 c78 a80 c81 => [(1, .pointer (some ⟨g1, 0, none⟩)), (2, .pointer (some ⟨g2, 0, none⟩)), (3, .pointer (some ⟨g76, 0, none⟩))]) h.2.1 h.2.2.1.1 h.2.2.1.2 h.2.2.2.1 h.2.2.2.2) (fun h => (fun g76 a77 c78 a80 c81 => [Ch.arr tyRef09Row 63 a77 c78 e83.rows, Ch.arr tyRef09Glyph 84 a80 c81 e83.begun, Ch.box g2 32 [.int .i64 0, .int .i64 0, .int .i64 0, .int .i64 0, .int .i64 0, .string (ByteArray.mk #[]), .slice none 0 0, .int .i64 0, .int .i64 0, .slice none 0 0], Ch.box g1 25 [.int .i64 s_.k, .int .i64 s_.w, .int .i64 s_.h, .int .i64 s_.x, .int .i64 s_.y, .string s_.title, .slice a_0_0 s_.rows.length c_0_0, .int .i64 s_.len, .int .i64 s_.chain, .slice a_0_1 s_.begun.length c_0_1], Ch.box g76 32 [.int .i64 e83.k, .int .i64 e83.w, .int .i64 e83.h, .int .i64 e83.x, .int .i64 e83.y, .string e83.title, .slice a77 e83.rows.length c78, .int .i64 e83.len, .int .i64 e83.chain, .slice a80 e83.begun.length c81]]) h.2.1 h.2.2.1.1 h.2.2.1.2 h.2.2.2.1 h.2.2.2.2) (fun h => (fun g76 a77 c78 a80 c81 => [Im.sl tyRowRow a_0_0 c_0_0 s_.rows, Im.sl tyRowGlyph a_0_1 c_0_1 s_.begun]) h.2.1 h.2.2.1.1 h.2.2.1.2 h.2.2.2.1 h.2.2.2.2) ?_ ?_
  · refine T.draw [21] [0, 0] mo (by rfl) rfl ?_
    refine D.q 0 rfl rfl rfl rfl rfl rfl ?_
    refine D.y 1 (Yl.ldb 1 rfl rfl rfl rfl) rfl rfl rfl rfl rfl rfl ?_
    refine D.q 2 rfl rfl rfl rfl rfl rfl ?_
    refine D.y 3 (Yl.ldb 1 rfl rfl rfl rfl) rfl rfl rfl rfl rfl rfl ?_
    refine D.q 4 rfl rfl rfl rfl rfl rfl ?_
    refine D.y 5 (Yl.ldb 1 rfl rfl rfl rfl) rfl rfl rfl rfl rfl rfl ?_
    refine D.q 6 rfl rfl rfl rfl rfl rfl ?_
    refine D.y 7 (Yl.ldb 1 rfl rfl rfl rfl) rfl rfl rfl rfl rfl rfl ?_
    refine D.q 8 rfl rfl rfl rfl rfl rfl ?_
    refine D.y 9 (Yl.ldb 1 rfl rfl rfl rfl) rfl rfl rfl rfl rfl rfl ?_
    refine D.q 10 rfl rfl rfl rfl rfl rfl ?_
    refine D.y 11 (Yl.ldb 1 rfl rfl rfl rfl) rfl rfl rfl rfl rfl rfl ?_
    refine D.q 12 rfl rfl rfl rfl rfl rfl ?_
    refine D.y 13 (Yl.ldb 1 rfl rfl rfl rfl) rfl rfl rfl rfl rfl rfl ?_
    refine D.q 14 rfl rfl rfl rfl rfl rfl ?_
    refine D.y 15 (Yl.ldb 1 rfl rfl rfl rfl) rfl rfl rfl rfl rfl rfl ?_
    refine D.q 16 rfl rfl rfl rfl rfl rfl ?_
    refine D.y 17 (Yl.ldb 1 rfl rfl rfl rfl) rfl rfl rfl rfl rfl rfl ?_
    obtain ⟨r104, h105, H112⟩ := bnd H84
    refine D.two rfl rfl rfl ?_ ?_
    · refine Dp.a [] [1] (Ac.call (c_law14_Told a_0_1 c_0_1 h105) rfl rfl rfl rfl) rfl rfl rfl rfl rfl rfl ?_
      rintro ⟨a114, c115⟩
      refine D.q 19 rfl rfl rfl rfl rfl rfl ?_
      refine D.one rfl rfl rfl (Dp.a [] [] (Ac.alloc rfl rfl) rfl rfl rfl rfl rfl rfl ?_)
      intro g117
      refine D.one rfl rfl rfl (Dp.al [2] [] (Ac.stb rfl rfl rfl rfl rfl rfl) rfl rfl rfl rfl rfl rfl rfl ?_)
      intro _
      refine D.nil rfl rfl ?_
      refine E.nil0 tyRef09Row 63 ?_
      have hr := Option.some.inj H112
      subst e83
      exact E.give ((), (g117, (none, 0), (a114, c115))) [0, 3, 1, 1, 0] [0, 1] trivial ⟨rfl, rfl, rfl, trivial⟩ rfl rfl
    · refine Dp.a [] [] (Ac.alloc rfl rfl) rfl rfl rfl rfl rfl rfl ?_
      intro g119
      refine D.one rfl rfl rfl (Dp.a [] [1] (Ac.call (c_law14_Told a_0_1 c_0_1 h105) rfl rfl rfl rfl) rfl rfl rfl rfl rfl rfl ?_)
      rintro ⟨a121, c122⟩
      refine D.q 19 rfl rfl rfl rfl rfl rfl ?_
      refine D.one rfl rfl rfl (Dp.al [3] [] (Ac.stb rfl rfl rfl rfl rfl rfl) rfl rfl rfl rfl rfl rfl rfl ?_)
      intro _
      refine D.nil rfl rfl ?_
      refine E.nil0 tyRef09Row 63 ?_
      have hr := Option.some.inj H112
      subst e83
      exact E.give ((), (g119, (none, 0), (a121, c122))) [0, 3, 1, 1, 0] [0, 1] trivial ⟨rfl, rfl, rfl, trivial⟩ rfl rfl
  · rintro ⟨_, ⟨g76, ⟨a77, c78⟩, ⟨a80, c81⟩⟩⟩ _
    refine T.seq ?_
    refine T.seq ?_
    refine T.region ?_
    refine L.q 1 rfl ?_
    refine L.y (Yl.ldb 3 rfl rfl rfl rfl) rfl rfl rfl ?_
    refine L.q 2 rfl ?_
    refine L.nil ?_
    refine E.then ?_
    obtain ⟨e389, H390, H391⟩ := bnd H85
    refine T.join (η := Unit × ((Option Addr × Nat))) (fun h => True) (fun h => (fun a385 c386 => [(2, .pointer (some ⟨g2, 0, none⟩)), (3, .pointer (some ⟨g76, 0, none⟩))]) h.2.1 h.2.2) (fun h => (fun a385 c386 => [Ch.arr tyRef09Row 63 a385 c386 e389.rows, Ch.arr tyRef09Glyph 84 a80 c81 e389.begun, Ch.box g2 32 [.int .i64 0, .int .i64 0, .int .i64 0, .int .i64 0, .int .i64 0, .string (ByteArray.mk #[]), .slice none 0 0, .int .i64 0, .int .i64 0, .slice none 0 0], Ch.box g1 25 [.int .i64 s_.k, .int .i64 s_.w, .int .i64 s_.h, .int .i64 s_.x, .int .i64 s_.y, .string s_.title, .slice a_0_0 s_.rows.length c_0_0, .int .i64 s_.len, .int .i64 s_.chain, .slice a_0_1 s_.begun.length c_0_1], Ch.box g76 32 [.int .i64 e389.k, .int .i64 e389.w, .int .i64 e389.h, .int .i64 e389.x, .int .i64 e389.y, .string e389.title, .slice a385 e389.rows.length c386, .int .i64 e389.len, .int .i64 e389.chain, .slice a80 e389.begun.length c81]]) h.2.1 h.2.2) (fun h => (fun a385 c386 => [Im.sl tyRowRow a_0_0 c_0_0 s_.rows, Im.sl tyRowGlyph a_0_1 c_0_1 s_.begun]) h.2.1 h.2.2) ?_ ?_
    · refine T.block ?_
      refine T.lp (η := (Option Addr × Nat)) (fun s303 h => (fun a298 c299 => [(2, .pointer (some ⟨g2, 0, none⟩)), (3, .pointer (some ⟨g76, 0, none⟩)), (27, .slice a_0_0 s_.rows.length c_0_0), (28, .int .i64 (s_.rows.length : Int)), (29, .int .i64 s303.2)]) h.1 h.2) (fun s303 h => (fun a298 c299 => [Ch.arr tyRef09Row 63 a298 c299 s303.1.rows, Ch.arr tyRef09Glyph 84 a80 c81 s303.1.begun, Ch.box g2 32 [.int .i64 0, .int .i64 0, .int .i64 0, .int .i64 0, .int .i64 0, .string (ByteArray.mk #[]), .slice none 0 0, .int .i64 0, .int .i64 0, .slice none 0 0], Ch.box g1 25 [.int .i64 s_.k, .int .i64 s_.w, .int .i64 s_.h, .int .i64 s_.x, .int .i64 s_.y, .string s_.title, .slice a_0_0 s_.rows.length c_0_0, .int .i64 s_.len, .int .i64 s_.chain, .slice a_0_1 s_.begun.length c_0_1], Ch.box g76 32 [.int .i64 s303.1.k, .int .i64 s303.1.w, .int .i64 s303.1.h, .int .i64 s303.1.x, .int .i64 s303.1.y, .string s303.1.title, .slice a298 s303.1.rows.length c299, .int .i64 s303.1.len, .int .i64 s303.1.chain, .slice a80 s303.1.begun.length c81]]) h.1 h.2) (fun s303 h => (fun a298 c299 => [Im.sl tyRowRow a_0_0 c_0_0 s_.rows, Im.sl tyRowGlyph a_0_1 c_0_1 s_.begun]) h.1 h.2) (a77, c78) [0, 0, 0, 0, 0] [0, 1] H390 ⟨rfl, rfl, rfl, rfl, rfl, trivial⟩ rfl rfl ?_
      rintro k s303 ⟨a298, c299⟩ z393 H392 hag394 hbr395
      refine T.seq ?_
      refine T.region ?_
      refine L.q 1 rfl ?_
      refine L.nil ?_
      refine E.then ?_
      refine T.seq ?_
      refine T.bif rfl H392 (fun hc H397 => ?_) (fun hc H397 => ?_)
      · refine T.skip ?_
        refine E.then ?_
        refine T.seq ?_
        refine T.block ?_
        refine T.seq ?_
        refine T.region ?_
        obtain ⟨x437, h438, H439⟩ := bnd H397
        refine L.addr 0 rfl (idx_lt h438) fun b440 o441 e442 => ?_
        obtain rfl : a_0_0 = some ⟨b440, o441, none⟩ := e442
        refine L.y (Yl.ia h438 rfl rfl rfl rfl rfl rfl) rfl rfl rfl ?_
        refine L.el 0 rfl (idx_some h438).2 ?_
        rintro ⟨a443, c444⟩
        refine L.y (Yl.ldc 0 0 rfl rfl rfl rfl) rfl rfl rfl ?_
        refine L.a [] [] (Ac.alloc rfl rfl) rfl rfl rfl rfl rfl ?_
        intro g447
        refine L.a [0] [] (Ac.stb rfl rfl rfl rfl rfl rfl) rfl rfl rfl rfl rfl ?_
        intro _
        refine L.nil ?_
        refine E.then ?_
        refine T.draw [7] [0, 1, 1, 1, 1] mo (by rfl) rfl ?_
        refine D.q 0 rfl rfl rfl rfl rfl rfl ?_
        refine D.y 1 (Yl.ldb 4 rfl rfl rfl rfl) rfl rfl rfl rfl rfl rfl ?_
        refine D.y 2 (Yl.ldb 0 rfl rfl rfl rfl) rfl rfl rfl rfl rfl rfl ?_
        obtain ⟨r462, h463, H464⟩ := bnd H439
        refine D.one rfl rfl rfl (Dp.a [] [1] (Ac.call (c_law09_Told a443 c444 h463) rfl rfl rfl rfl) rfl rfl rfl rfl rfl rfl ?_)
        rintro ⟨a465, c466⟩
        refine D.one rfl rfl rfl (Dp.a [] [0] (Ac.bs (ty := tyRef09Row) (xs := [r462]) (.cons (a465, c466) [0] rfl .nil) rfl rfl rfl rfl rfl rfl rfl) rfl rfl rfl rfl rfl rfl ?_)
        intro g468
        refine D.frz 0 rfl ?_
        obtain ⟨_, h471, H472⟩ := bnd H464
        refine D.one rfl rfl rfl (Dp.a [0] [0] (Ac.ap (ty := tyRef09Row) h471 rfl rfl rfl rfl rfl rfl rfl) rfl rfl rfl rfl rfl rfl ?_)
        rintro ⟨a473, c474⟩
        refine D.q 6 rfl rfl rfl rfl rfl rfl ?_
        refine D.one rfl rfl rfl (Dp.al [4] [] (Ac.stb rfl rfl rfl rfl rfl rfl) rfl rfl rfl rfl rfl rfl rfl ?_)
        intro _
        refine D.nil rfl rfl ?_
        refine E.block ?_
        refine E.then ?_
        refine T.region ?_
        refine L.q 2 rfl ?_
        refine L.nil ?_
        have hr := Option.some.inj H472
        subst z393
        exact E.give (_, (a473, c474)) [5, 2, 2, 2, 0] [4, 5] (hag394 _ rfl) ⟨rfl, rfl, rfl, rfl, rfl, trivial⟩ rfl rfl
      · refine T.exit ?_
        refine E.then_exit' ?_
        refine E.then_exit' ?_
        refine E.block_here ?_
        have hr := Option.some.inj H397
        subst z393
        have hb := hbr395 _ rfl
        subst e389
        exact E.give ((), (a298, c299)) [0, 0, 0, 0, 0] [0, 1] trivial ⟨rfl, rfl, trivial⟩ rfl rfl
    · rintro ⟨_, ⟨a385, c386⟩⟩ _
      refine T.seq ?_
      refine T.region ?_
      refine L.y (Yl.ldb 4 rfl rfl rfl rfl) rfl rfl rfl ?_
      refine L.a [2] [] (Ac.stb rfl rfl rfl rfl rfl rfl) rfl rfl rfl rfl rfl ?_
      intro _
      refine L.nil ?_
      refine E.then ?_
      refine T.ret ?_
      refine E.frz 1 rfl ?_
      refine E.frz 1 rfl ?_
      have hr := Option.some.inj H391
      subst r
      exact E.ret ((a385, c386), (a80, c81)) [] [1, 0] (.cell 0 rfl rfl rfl .nil) rfl rfl rfl

theorem c_ref16_Empty {s_ : Ref16Snap} (a_0_0 : Option Addr) (c_0_0 : Nat) (a_0_1 : Option Addr) (c_0_1 : Nat) {r : Bool} (H : p_ref16_Empty s_ = some r) : CT G 42 [.agg #[.int .i64 s_.k, .int .i64 s_.w, .int .i64 s_.h, .int .i64 s_.x, .int .i64 s_.y, .string s_.title, .slice a_0_0 s_.rows.length c_0_0, .int .i64 s_.len, .int .i64 s_.chain, .slice a_0_1 s_.begun.length c_0_1]] [] [Im.sl tyRef09Row a_0_0 c_0_0 s_.rows, Im.sl tyRef09Glyph a_0_1 c_0_1 s_.begun] (fun h : Unit => .bool r) (fun h => []) (fun h => []) := by
  delta p_ref16_Empty at H
  refine CT.of Go.Proofs.Tryd.func42 (by kernel_rfl) rfl rfl rfl fun K => ?_
  refine T.seq ?_
  refine T.region ?_
  refine L.a [] [] (Ac.box rfl rfl) rfl rfl rfl rfl rfl ?_
  intro g1
  refine L.q 1 rfl ?_
  refine L.nil ?_
  refine E.then ?_
  refine T.seq ?_
  obtain ⟨e21, H22, H23⟩ := bnd H
  refine T.join (η := Unit × Unit) (fun h => True) (fun h => [(2, .bool e21)]) (fun h => [Ch.box g1 32 [.int .i64 s_.k, .int .i64 s_.w, .int .i64 s_.h, .int .i64 s_.x, .int .i64 s_.y, .string s_.title, .slice a_0_0 s_.rows.length c_0_0, .int .i64 s_.len, .int .i64 s_.chain, .slice a_0_1 s_.begun.length c_0_1]]) (fun h => [Im.sl tyRef09Row a_0_0 c_0_0 s_.rows, Im.sl tyRef09Glyph a_0_1 c_0_1 s_.begun]) ?_ ?_
  · refine T.region ?_
    refine L.q 1 rfl ?_
    refine L.y (Yl.ldb 0 rfl rfl rfl rfl) rfl rfl rfl ?_
    refine L.q 2 rfl ?_
    refine L.cs 6 H22 rfl (fun hc H24 => ?_) (fun hc H24 => ?_)
    · refine L.q 1 rfl ?_
      refine L.y (Yl.ldb 0 rfl rfl rfl rfl) rfl rfl rfl ?_
      refine L.q 3 rfl ?_
      refine L.cs 11 H24 rfl (fun hc H25 => ?_) (fun hc H25 => ?_)
      · refine L.q 1 rfl ?_
        refine L.y (Yl.ldb 0 rfl rfl rfl rfl) rfl rfl rfl ?_
        refine L.q 3 rfl ?_
        refine L.cs 16 H25 rfl (fun hc H26 => ?_) (fun hc H26 => ?_)
        · refine L.q 1 rfl ?_
          refine L.y (Yl.ldb 0 rfl rfl rfl rfl) rfl rfl rfl ?_
          refine L.q 3 rfl ?_
          refine L.cs 21 H26 rfl (fun hc H27 => ?_) (fun hc H27 => ?_)
          · refine L.q 1 rfl ?_
            refine L.y (Yl.ldb 0 rfl rfl rfl rfl) rfl rfl rfl ?_
            refine L.q 3 rfl ?_
            refine L.cs 26 H27 rfl (fun hc H28 => ?_) (fun hc H28 => ?_)
            · refine L.q 1 rfl ?_
              refine L.y (Yl.ldb 0 rfl rfl rfl rfl) rfl rfl rfl ?_
              refine L.q 3 rfl ?_
              refine L.cs 31 H28 rfl (fun hc H29 => ?_) (fun hc H29 => ?_)
              · refine L.q 1 rfl ?_
                refine L.y (Yl.ldb 0 rfl rfl rfl rfl) rfl rfl rfl ?_
                refine L.q 4 rfl ?_
                refine L.cs 37 H29 rfl (fun hc H30 => ?_) (fun hc H30 => ?_)
                · refine L.q 1 rfl ?_
                  refine L.y (Yl.ldb 0 rfl rfl rfl rfl) rfl rfl rfl ?_
                  refine L.q 3 rfl ?_
                  refine L.cs 42 H30 rfl (fun hc H31 => ?_) (fun hc H31 => ?_)
                  · refine L.q 1 rfl ?_
                    refine L.y (Yl.ldb 0 rfl rfl rfl rfl) rfl rfl rfl ?_
                    refine L.q 3 rfl ?_
                    refine L.cs 47 H31 rfl (fun hc H32 => ?_) (fun hc H32 => ?_)
                    · refine L.q 1 rfl ?_
                      refine L.y (Yl.ldb 0 rfl rfl rfl rfl) rfl rfl rfl ?_
                      refine L.q 4 rfl ?_
                      refine L.nil ?_
                      have hr := Option.some.inj H32
                      subst e21
                      exact E.give ((), ()) [0] [0, 1] trivial ⟨rfl, trivial⟩ rfl rfl
                    · refine L.q 6 rfl ?_
                      refine L.nil ?_
                      have hr := Option.some.inj H32
                      subst e21
                      exact E.give ((), ()) [0] [0, 1] trivial ⟨rfl, trivial⟩ rfl rfl
                  · refine L.q 11 rfl ?_
                    refine L.nil ?_
                    have hr := Option.some.inj H31
                    subst e21
                    exact E.give ((), ()) [0] [0, 1] trivial ⟨rfl, trivial⟩ rfl rfl
                · refine L.q 16 rfl ?_
                  refine L.nil ?_
                  have hr := Option.some.inj H30
                  subst e21
                  exact E.give ((), ()) [0] [0, 1] trivial ⟨rfl, trivial⟩ rfl rfl
              · refine L.q 22 rfl ?_
                refine L.nil ?_
                have hr := Option.some.inj H29
                subst e21
                exact E.give ((), ()) [0] [0, 1] trivial ⟨rfl, trivial⟩ rfl rfl
            · refine L.q 27 rfl ?_
              refine L.nil ?_
              have hr := Option.some.inj H28
              subst e21
              exact E.give ((), ()) [0] [0, 1] trivial ⟨rfl, trivial⟩ rfl rfl
          · refine L.q 32 rfl ?_
            refine L.nil ?_
            have hr := Option.some.inj H27
            subst e21
            exact E.give ((), ()) [0] [0, 1] trivial ⟨rfl, trivial⟩ rfl rfl
        · refine L.q 37 rfl ?_
          refine L.nil ?_
          have hr := Option.some.inj H26
          subst e21
          exact E.give ((), ()) [0] [0, 1] trivial ⟨rfl, trivial⟩ rfl rfl
      · refine L.q 42 rfl ?_
        refine L.nil ?_
        have hr := Option.some.inj H25
        subst e21
        exact E.give ((), ()) [0] [0, 1] trivial ⟨rfl, trivial⟩ rfl rfl
    · refine L.q 47 rfl ?_
      refine L.nil ?_
      have hr := Option.some.inj H24
      subst e21
      exact E.give ((), ()) [0] [0, 1] trivial ⟨rfl, trivial⟩ rfl rfl
  · rintro ⟨_, ⟨⟩⟩ _
    refine T.ret ?_
    have hr := Option.some.inj H23
    subst r
    exact E.ret () [] [] (.tmp rfl .nil) rfl rfl rfl

end Go.Tw.X

set_option maxHeartbeats 2000000
set_option linter.unusedVariables false
set_option linter.unusedSimpArgs false
set_option maxRecDepth 10000
namespace Go.Tw.X
open Go Go.Tw
theorem c_ref16_May {s_ : Ref16Snap} (a_0_0 : Option Addr) (c_0_0 : Nat) (a_0_1 : Option Addr) (c_0_1 : Nat) {r : Bool} (H : p_ref16_May s_ = some r) : CT G 15 [.agg #[.int .i64 s_.k, .int .i64 s_.w, .int .i64 s_.h, .int .i64 s_.x, .int .i64 s_.y, .string s_.title, .slice a_0_0 s_.rows.length c_0_0, .int .i64 s_.len, .int .i64 s_.chain, .slice a_0_1 s_.begun.length c_0_1]] [] [Im.sl tyRef09Row a_0_0 c_0_0 s_.rows, Im.sl tyRef09Glyph a_0_1 c_0_1 s_.begun] (fun h : Unit => .bool r) (fun h => []) (fun h => []) := by
  delta p_ref16_May at H
  refine CT.of Go.Proofs.Tryd.func15 (by kernel_rfl) rfl rfl rfl fun K => ?_
  refine T.seq ?_
  refine T.region ?_
  refine L.a [] [] (Ac.box rfl rfl) rfl rfl rfl rfl rfl ?_
  intro g1
  refine L.q 1 rfl ?_
  refine L.nil ?_
  refine E.then ?_
  refine T.seq ?_
  refine T.seq ?_
  refine T.region ?_
  refine L.y (Yl.ldb 0 rfl rfl rfl rfl) rfl rfl rfl ?_
  obtain ⟨r2, h3, H4⟩ := bnd H
  refine L.a [] [0, 1] (Ac.call (c_ref16_Empty a_0_0 c_0_0 a_0_1 c_0_1 h3) rfl rfl rfl rfl) rfl rfl rfl rfl rfl ?_
  rintro ⟨⟩
  refine L.nil ?_
  refine E.then ?_
  refine T.bif rfl H4 (fun hc H6 => ?_) (fun hc H6 => ?_)
  · refine T.seq ?_
    refine T.region ?_
    refine L.q 1 rfl ?_
    refine L.nil ?_
    refine E.then ?_
    refine T.ret ?_
    refine E.then_ret ?_
    have hr := Option.some.inj H6
    subst r
    exact E.ret () [] [] (.tmp rfl .nil) rfl rfl rfl
  · refine T.skip ?_
    refine E.then ?_
    refine T.seq ?_
    refine T.seq ?_
    obtain ⟨e28, H29, H30⟩ := bnd H6
    refine T.join (η := Unit × Unit) (fun h => True) (fun h => [(1, .pointer (some ⟨g1, 0, none⟩)), (70, .bool e28)]) (fun h => [Ch.box g1 32 [.int .i64 s_.k, .int .i64 s_.w, .int .i64 s_.h, .int .i64 s_.x, .int .i64 s_.y, .string s_.title, .slice a_0_0 s_.rows.length c_0_0, .int .i64 s_.len, .int .i64 s_.chain, .slice a_0_1 s_.begun.length c_0_1]]) (fun h => [Im.sl tyRef09Row a_0_0 c_0_0 s_.rows, Im.sl tyRef09Glyph a_0_1 c_0_1 s_.begun]) ?_ ?_
    · refine T.region ?_
      refine L.q 1 rfl ?_
      refine L.y (Yl.ldb 0 rfl rfl rfl rfl) rfl rfl rfl ?_
      refine L.q 2 rfl ?_
      refine L.cs 14 H29 rfl (fun hc H31 => ?_) (fun hc H31 => ?_)
      · refine L.q 56 rfl ?_
        refine L.nil ?_
        have hr := Option.some.inj H31
        subst e28
        exact E.give ((), ()) [0] [0, 1] trivial ⟨rfl, rfl, trivial⟩ rfl rfl
      · refine L.q 1 rfl ?_
        refine L.y (Yl.ldb 0 rfl rfl rfl rfl) rfl rfl rfl ?_
        refine L.q 3 rfl ?_
        refine L.cs 19 H31 rfl (fun hc H32 => ?_) (fun hc H32 => ?_)
        · refine L.q 51 rfl ?_
          refine L.nil ?_
          have hr := Option.some.inj H32
          subst e28
          exact E.give ((), ()) [0] [0, 1] trivial ⟨rfl, rfl, trivial⟩ rfl rfl
        · refine L.q 1 rfl ?_
          refine L.y (Yl.ldb 0 rfl rfl rfl rfl) rfl rfl rfl ?_
          refine L.q 3 rfl ?_
          refine L.cs 24 H32 rfl (fun hc H33 => ?_) (fun hc H33 => ?_)
          · refine L.q 46 rfl ?_
            refine L.nil ?_
            have hr := Option.some.inj H33
            subst e28
            exact E.give ((), ()) [0] [0, 1] trivial ⟨rfl, rfl, trivial⟩ rfl rfl
          · refine L.q 1 rfl ?_
            refine L.y (Yl.ldb 0 rfl rfl rfl rfl) rfl rfl rfl ?_
            refine L.q 3 rfl ?_
            refine L.cs 29 H33 rfl (fun hc H34 => ?_) (fun hc H34 => ?_)
            · refine L.q 41 rfl ?_
              refine L.nil ?_
              have hr := Option.some.inj H34
              subst e28
              exact E.give ((), ()) [0] [0, 1] trivial ⟨rfl, rfl, trivial⟩ rfl rfl
            · refine L.q 1 rfl ?_
              refine L.y (Yl.ldb 0 rfl rfl rfl rfl) rfl rfl rfl ?_
              refine L.q 3 rfl ?_
              refine L.cs 34 H34 rfl (fun hc H35 => ?_) (fun hc H35 => ?_)
              · refine L.q 36 rfl ?_
                refine L.nil ?_
                have hr := Option.some.inj H35
                subst e28
                exact E.give ((), ()) [0] [0, 1] trivial ⟨rfl, rfl, trivial⟩ rfl rfl
              · refine L.q 1 rfl ?_
                refine L.y (Yl.ldb 0 rfl rfl rfl rfl) rfl rfl rfl ?_
                refine L.q 3 rfl ?_
                refine L.cs 39 H35 rfl (fun hc H36 => ?_) (fun hc H36 => ?_)
                · refine L.q 31 rfl ?_
                  refine L.nil ?_
                  have hr := Option.some.inj H36
                  subst e28
                  exact E.give ((), ()) [0] [0, 1] trivial ⟨rfl, rfl, trivial⟩ rfl rfl
                · refine L.q 1 rfl ?_
                  refine L.y (Yl.ldb 0 rfl rfl rfl rfl) rfl rfl rfl ?_
                  refine L.q 3 rfl ?_
                  refine L.cs 44 H36 rfl (fun hc H37 => ?_) (fun hc H37 => ?_)
                  · refine L.q 26 rfl ?_
                    refine L.nil ?_
                    have hr := Option.some.inj H37
                    subst e28
                    exact E.give ((), ()) [0] [0, 1] trivial ⟨rfl, rfl, trivial⟩ rfl rfl
                  · refine L.q 1 rfl ?_
                    refine L.y (Yl.ldb 0 rfl rfl rfl rfl) rfl rfl rfl ?_
                    refine L.q 1 rfl ?_
                    refine L.y (Yl.ldb 0 rfl rfl rfl rfl) rfl rfl rfl ?_
                    refine L.q 3 rfl ?_
                    refine L.cs 51 H37 rfl (fun hc H38 => ?_) (fun hc H38 => ?_)
                    · refine L.q 19 rfl ?_
                      refine L.nil ?_
                      have hr := Option.some.inj H38
                      subst e28
                      exact E.give ((), ()) [0] [0, 1] trivial ⟨rfl, rfl, trivial⟩ rfl rfl
                    · refine L.q 1 rfl ?_
                      refine L.y (Yl.ldb 0 rfl rfl rfl rfl) rfl rfl rfl ?_
                      refine L.q 3 rfl ?_
                      refine L.cs 56 H38 rfl (fun hc H39 => ?_) (fun hc H39 => ?_)
                      · refine L.q 14 rfl ?_
                        refine L.nil ?_
                        have hr := Option.some.inj H39
                        subst e28
                        exact E.give ((), ()) [0] [0, 1] trivial ⟨rfl, rfl, trivial⟩ rfl rfl
                      · refine L.q 1 rfl ?_
                        refine L.y (Yl.ldb 0 rfl rfl rfl rfl) rfl rfl rfl ?_
                        refine L.q 1 rfl ?_
                        refine L.y (Yl.ldb 0 rfl rfl rfl rfl) rfl rfl rfl ?_
                        refine L.q 3 rfl ?_
                        refine L.cs 63 H39 rfl (fun hc H40 => ?_) (fun hc H40 => ?_)
                        · refine L.q 7 rfl ?_
                          refine L.nil ?_
                          have hr := Option.some.inj H40
                          subst e28
                          exact E.give ((), ()) [0] [0, 1] trivial ⟨rfl, rfl, trivial⟩ rfl rfl
                        · refine L.q 1 rfl ?_
                          refine L.y (Yl.ldb 0 rfl rfl rfl rfl) rfl rfl rfl ?_
                          refine L.q 2 rfl ?_
                          refine L.y (Yl.ldb 0 rfl rfl rfl rfl) rfl rfl rfl ?_
                          refine L.q 2 rfl ?_
                          refine L.nil ?_
                          have hr := Option.some.inj H40
                          subst e28
                          exact E.give ((), ()) [0] [0, 1] trivial ⟨rfl, rfl, trivial⟩ rfl rfl
    · rintro ⟨_, ⟨⟩⟩ _
      refine T.bif rfl H30 (fun hc H42 => ?_) (fun hc H42 => ?_)
      · refine T.seq ?_
        refine T.region ?_
        refine L.q 1 rfl ?_
        refine L.nil ?_
        refine E.then ?_
        refine T.ret ?_
        refine E.then_ret ?_
        have hr := Option.some.inj H42
        subst r
        exact E.ret () [] [] (.tmp rfl .nil) rfl rfl rfl
      · refine T.skip ?_
        refine E.then ?_
        refine T.seq ?_
        refine T.seq ?_
        obtain ⟨e54, H55, H56⟩ := bnd H42
        refine T.join (η := Unit × Unit) (fun h => True) (fun h => [(1, .pointer (some ⟨g1, 0, none⟩)), (100, .bool e54)]) (fun h => [Ch.box g1 32 [.int .i64 s_.k, .int .i64 s_.w, .int .i64 s_.h, .int .i64 s_.x, .int .i64 s_.y, .string s_.title, .slice a_0_0 s_.rows.length c_0_0, .int .i64 s_.len, .int .i64 s_.chain, .slice a_0_1 s_.begun.length c_0_1]]) (fun h => [Im.sl tyRef09Row a_0_0 c_0_0 s_.rows, Im.sl tyRef09Glyph a_0_1 c_0_1 s_.begun]) ?_ ?_
        · refine T.region ?_
          refine L.q 1 rfl ?_
          refine L.y (Yl.ldb 0 rfl rfl rfl rfl) rfl rfl rfl ?_
          refine L.q 3 rfl ?_
          refine L.cs 75 H55 rfl (fun hc H57 => ?_) (fun hc H57 => ?_)
          · refine L.q 25 rfl ?_
            refine L.nil ?_
            have hr := Option.some.inj H57
            subst e54
            exact E.give ((), ()) [0] [0, 1] trivial ⟨rfl, rfl, trivial⟩ rfl rfl
          · refine L.q 1 rfl ?_
            refine L.y (Yl.ldb 0 rfl rfl rfl rfl) rfl rfl rfl ?_
            refine L.q 3 rfl ?_
            refine L.cs 80 H57 rfl (fun hc H58 => ?_) (fun hc H58 => ?_)
            · refine L.q 20 rfl ?_
              refine L.nil ?_
              have hr := Option.some.inj H58
              subst e54
              exact E.give ((), ()) [0] [0, 1] trivial ⟨rfl, rfl, trivial⟩ rfl rfl
            · refine L.q 1 rfl ?_
              refine L.y (Yl.ldb 0 rfl rfl rfl rfl) rfl rfl rfl ?_
              refine L.q 3 rfl ?_
              refine L.cs 85 H58 rfl (fun hc H59 => ?_) (fun hc H59 => ?_)
              · refine L.q 15 rfl ?_
                refine L.nil ?_
                have hr := Option.some.inj H59
                subst e54
                exact E.give ((), ()) [0] [0, 1] trivial ⟨rfl, rfl, trivial⟩ rfl rfl
              · refine L.q 1 rfl ?_
                refine L.y (Yl.ldb 0 rfl rfl rfl rfl) rfl rfl rfl ?_
                refine L.q 3 rfl ?_
                refine L.cs 90 H59 rfl (fun hc H60 => ?_) (fun hc H60 => ?_)
                · refine L.q 10 rfl ?_
                  refine L.nil ?_
                  have hr := Option.some.inj H60
                  subst e54
                  exact E.give ((), ()) [0] [0, 1] trivial ⟨rfl, rfl, trivial⟩ rfl rfl
                · refine L.q 1 rfl ?_
                  refine L.y (Yl.ldb 0 rfl rfl rfl rfl) rfl rfl rfl ?_
                  refine L.q 3 rfl ?_
                  refine L.cs 95 H60 rfl (fun hc H61 => ?_) (fun hc H61 => ?_)
                  · refine L.q 5 rfl ?_
                    refine L.nil ?_
                    have hr := Option.some.inj H61
                    subst e54
                    exact E.give ((), ()) [0] [0, 1] trivial ⟨rfl, rfl, trivial⟩ rfl rfl
                  · refine L.q 1 rfl ?_
                    refine L.y (Yl.ldb 0 rfl rfl rfl rfl) rfl rfl rfl ?_
                    refine L.q 3 rfl ?_
                    refine L.nil ?_
                    have hr := Option.some.inj H61
                    subst e54
                    exact E.give ((), ()) [0] [0, 1] trivial ⟨rfl, rfl, trivial⟩ rfl rfl
        · rintro ⟨_, ⟨⟩⟩ _
          refine T.bif rfl H56 (fun hc H63 => ?_) (fun hc H63 => ?_)
          · refine T.seq ?_
            refine T.region ?_
            refine L.q 1 rfl ?_
            refine L.nil ?_
            refine E.then ?_
            refine T.ret ?_
            refine E.then_ret ?_
            have hr := Option.some.inj H63
            subst r
            exact E.ret () [] [] (.tmp rfl .nil) rfl rfl rfl
          · refine T.skip ?_
            refine E.then ?_
            refine T.seq ?_
            refine T.seq ?_
            refine T.region ?_
            refine L.q 1 rfl ?_
            refine L.y (Yl.ldb 0 rfl rfl rfl rfl) rfl rfl rfl ?_
            refine L.q 2 rfl ?_
            refine L.nil ?_
            refine E.then ?_
            obtain ⟨y207, H208, H209⟩ := bnd H63
            refine T.join (η := Unit × Unit) (fun h => y207 = .inl h.1) (fun h => (fun e206 => [(1, .pointer (some ⟨g1, 0, none⟩))]) h.1) (fun h => (fun e206 => [Ch.box g1 32 [.int .i64 s_.k, .int .i64 s_.w, .int .i64 s_.h, .int .i64 s_.x, .int .i64 s_.y, .string s_.title, .slice a_0_0 s_.rows.length c_0_0, .int .i64 s_.len, .int .i64 s_.chain, .slice a_0_1 s_.begun.length c_0_1]]) h.1) (fun h => (fun e206 => [Im.sl tyRef09Row a_0_0 c_0_0 s_.rows, Im.sl tyRef09Glyph a_0_1 c_0_1 s_.begun]) h.1) ?_ ?_
            · refine T.block ?_
              refine T.lp (η := Unit) (fun s159 h => [(1, .pointer (some ⟨g1, 0, none⟩)), (102, .slice a_0_1 s_.begun.length c_0_1), (103, .int .i64 (s_.begun.length : Int)), (104, .int .i64 s159)]) (fun s159 h => [Ch.box g1 32 [.int .i64 s_.k, .int .i64 s_.w, .int .i64 s_.h, .int .i64 s_.x, .int .i64 s_.y, .string s_.title, .slice a_0_0 s_.rows.length c_0_0, .int .i64 s_.len, .int .i64 s_.chain, .slice a_0_1 s_.begun.length c_0_1]]) (fun s159 h => [Im.sl tyRef09Row a_0_0 c_0_0 s_.rows, Im.sl tyRef09Glyph a_0_1 c_0_1 s_.begun]) () [0] [0, 1] H208 ⟨rfl, rfl, rfl, rfl, trivial⟩ rfl rfl ?_
              rintro k s159 ⟨⟩ z211 H210 hag212 hbr213
              refine T.seq ?_
              refine T.region ?_
              refine L.q 1 rfl ?_
              refine L.nil ?_
              refine E.then ?_
              refine T.seq ?_
              refine T.bif rfl H210 (fun hc H215 => ?_) (fun hc H215 => ?_)
              · refine T.skip ?_
                refine E.then ?_
                refine T.seq ?_
                refine T.block ?_
                refine T.seq ?_
                refine T.region ?_
                obtain ⟨x238, h239, H240⟩ := bnd H215
                refine L.addr 1 rfl (idx_lt h239) fun b241 o242 e243 => ?_
                obtain rfl : a_0_1 = some ⟨b241, o242, none⟩ := e243
                refine L.y (Yl.ia h239 rfl rfl rfl rfl rfl rfl) rfl rfl rfl ?_
                refine L.el 1 rfl (idx_some h239).2 ?_
                rintro _
                refine L.y (Yl.ldc 0 0 rfl rfl rfl rfl) rfl rfl rfl ?_
                refine L.a [] [] (Ac.alloc rfl rfl) rfl rfl rfl rfl rfl ?_
                intro g245
                refine L.a [0] [] (Ac.stb rfl rfl rfl rfl rfl rfl) rfl rfl rfl rfl rfl ?_
                intro _
                refine L.nil ?_
                refine E.then ?_
                refine T.seq ?_
                obtain ⟨e253, H254, H255⟩ := bnd H240
                refine T.join (η := Unit × Unit) (fun h => True) (fun h => [(1, .pointer (some ⟨g1, 0, none⟩)), (102, .slice (some ⟨b241, o242, none⟩) s_.begun.length c_0_1), (103, .int .i64 (s_.begun.length : Int)), (104, .int .i64 s159), (125, .bool e253)]) (fun h => [Ch.box g245 84 [.int .i64 x238.rune, .int .i64 x238.style], Ch.box g1 32 [.int .i64 s_.k, .int .i64 s_.w, .int .i64 s_.h, .int .i64 s_.x, .int .i64 s_.y, .string s_.title, .slice a_0_0 s_.rows.length c_0_0, .int .i64 s_.len, .int .i64 s_.chain, .slice (some ⟨b241, o242, none⟩) s_.begun.length c_0_1]]) (fun h => [Im.cells b241 (o242 + s159.toNat * 2) [.int .i64 x238.rune, .int .i64 x238.style], Im.sl tyRef09Row a_0_0 c_0_0 s_.rows, Im.sl tyRef09Glyph (some ⟨b241, o242, none⟩) c_0_1 s_.begun]) ?_ ?_
                · refine T.region ?_
                  refine L.q 1 rfl ?_
                  refine L.y (Yl.ldb 0 rfl rfl rfl rfl) rfl rfl rfl ?_
                  refine L.q 2 rfl ?_
                  refine L.cs 111 H254 rfl (fun hc H256 => ?_) (fun hc H256 => ?_)
                  · refine L.q 14 rfl ?_
                    refine L.nil ?_
                    have hr := Option.some.inj H256
                    subst e253
                    exact E.give ((), ()) [0, 0] [0, 1, 2] trivial ⟨rfl, rfl, rfl, rfl, rfl, trivial⟩ rfl rfl
                  · refine L.q 1 rfl ?_
                    refine L.y (Yl.ldb 0 rfl rfl rfl rfl) rfl rfl rfl ?_
                    refine L.q 3 rfl ?_
                    refine L.cs 116 H256 rfl (fun hc H257 => ?_) (fun hc H257 => ?_)
                    · refine L.q 9 rfl ?_
                      refine L.nil ?_
                      have hr := Option.some.inj H257
                      subst e253
                      exact E.give ((), ()) [0, 0] [0, 1, 2] trivial ⟨rfl, rfl, rfl, rfl, rfl, trivial⟩ rfl rfl
                    · refine L.q 1 rfl ?_
                      refine L.y (Yl.ldb 0 rfl rfl rfl rfl) rfl rfl rfl ?_
                      refine L.q 3 rfl ?_
                      refine L.cs 121 H257 rfl (fun hc H258 => ?_) (fun hc H258 => ?_)
                      · refine L.q 4 rfl ?_
                        refine L.nil ?_
                        have hr := Option.some.inj H258
                        subst e253
                        exact E.give ((), ()) [0, 0] [0, 1, 2] trivial ⟨rfl, rfl, rfl, rfl, rfl, trivial⟩ rfl rfl
                      · refine L.q 1 rfl ?_
                        refine L.y (Yl.ldb 0 rfl rfl rfl rfl) rfl rfl rfl ?_
                        refine L.q 2 rfl ?_
                        refine L.nil ?_
                        have hr := Option.some.inj H258
                        subst e253
                        exact E.give ((), ()) [0, 0] [0, 1, 2] trivial ⟨rfl, rfl, rfl, rfl, rfl, trivial⟩ rfl rfl
                · rintro ⟨_, ⟨⟩⟩ _
                  refine T.bif rfl H255 (fun hc H259 => ?_) (fun hc H259 => ?_)
                  · refine T.seq ?_
                    refine T.region ?_
                    refine L.q 1 rfl ?_
                    refine L.nil ?_
                    refine E.then ?_
                    refine T.ret ?_
                    refine E.block_ret ?_
                    refine E.then_ret ?_
                    refine E.then_ret ?_
                    refine E.block_ret ?_
                    obtain ⟨w260, hz, H261⟩ := inrr_some H259
                    subst z211
                    have hb := hbr213 _ rfl
                    subst y207
                    have hw : w260 = r := Option.some.inj H209
                    subst w260
                    refine E.then_ret ?_
                    have hr := Option.some.inj H261
                    subst r
                    exact E.ret () [] [] (.tmp rfl .nil) rfl rfl rfl
                  · refine T.skip ?_
                    refine E.block ?_
                    refine E.then ?_
                    refine T.region ?_
                    refine L.q 2 rfl ?_
                    refine L.nil ?_
                    have hr := Option.some.inj H259
                    subst z211
                    exact E.give (_, ()) [1] [1, 2] (hag212 _ rfl) ⟨rfl, rfl, rfl, rfl, trivial⟩ rfl rfl
              · refine T.exit ?_
                refine E.then_exit' ?_
                refine E.then_exit' ?_
                refine E.block_here ?_
                have hr := Option.some.inj H215
                subst z211
                have hb := hbr213 _ rfl
                subst y207
                exact E.give (_, ()) [0] [0, 1] rfl ⟨rfl, trivial⟩ rfl rfl
            · rintro ⟨e206, ⟨⟩⟩ hy
              subst hy
              refine T.seq ?_
              refine T.seq ?_
              refine T.region ?_
              refine L.q 1 rfl ?_
              refine L.y (Yl.ldb 0 rfl rfl rfl rfl) rfl rfl rfl ?_
              refine L.q 2 rfl ?_
              refine L.nil ?_
              refine E.then ?_
              obtain ⟨y1827, H1828, H1829⟩ := bnd H209
              refine T.join (η := Unit × Unit) (fun h => y1827 = .inl h.1) (fun h => (fun e1826 => []) h.1) (fun h => (fun e1826 => [Ch.box g1 32 [.int .i64 s_.k, .int .i64 s_.w, .int .i64 s_.h, .int .i64 s_.x, .int .i64 s_.y, .string s_.title, .slice a_0_0 s_.rows.length c_0_0, .int .i64 s_.len, .int .i64 s_.chain, .slice a_0_1 s_.begun.length c_0_1]]) h.1) (fun h => (fun e1826 => [Im.sl tyRef09Row a_0_0 c_0_0 s_.rows, Im.sl tyRef09Glyph a_0_1 c_0_1 s_.begun]) h.1) ?_ ?_
              · refine T.block ?_
                refine T.lp (η := Unit) (fun s1305 h => [(1, .pointer (some ⟨g1, 0, none⟩)), (128, .slice a_0_0 s_.rows.length c_0_0), (129, .int .i64 (s_.rows.length : Int)), (130, .int .i64 s1305)]) (fun s1305 h => [Ch.box g1 32 [.int .i64 s_.k, .int .i64 s_.w, .int .i64 s_.h, .int .i64 s_.x, .int .i64 s_.y, .string s_.title, .slice a_0_0 s_.rows.length c_0_0, .int .i64 s_.len, .int .i64 s_.chain, .slice a_0_1 s_.begun.length c_0_1]]) (fun s1305 h => [Im.sl tyRef09Row a_0_0 c_0_0 s_.rows, Im.sl tyRef09Glyph a_0_1 c_0_1 s_.begun]) () [0] [0, 1] H1828 ⟨rfl, rfl, rfl, rfl, trivial⟩ rfl rfl ?_
                rintro k s1305 ⟨⟩ z1831 H1830 hag1832 hbr1833
                refine T.seq ?_
                refine T.region ?_
                refine L.q 1 rfl ?_
                refine L.nil ?_
                refine E.then ?_
                refine T.seq ?_
                refine T.bif rfl H1830 (fun hc H1835 => ?_) (fun hc H1835 => ?_)
                · refine T.skip ?_
                  refine E.then ?_
                  refine T.seq ?_
                  refine T.block ?_
                  refine T.seq ?_
                  refine T.region ?_
                  obtain ⟨x2095, h2096, H2097⟩ := bnd H1835
                  refine L.addr 0 rfl (idx_lt h2096) fun b2098 o2099 e2100 => ?_
                  obtain rfl : a_0_0 = some ⟨b2098, o2099, none⟩ := e2100
                  refine L.y (Yl.ia h2096 rfl rfl rfl rfl rfl rfl) rfl rfl rfl ?_
                  refine L.el 0 rfl (idx_some h2096).2 ?_
                  rintro ⟨a2101, c2102⟩
                  refine L.y (Yl.ldc 0 0 rfl rfl rfl rfl) rfl rfl rfl ?_
                  refine L.a [] [] (Ac.alloc rfl rfl) rfl rfl rfl rfl rfl ?_
                  intro g2105
                  refine L.a [0] [] (Ac.stb rfl rfl rfl rfl rfl rfl) rfl rfl rfl rfl rfl ?_
                  intro _
                  refine L.nil ?_
                  refine E.then ?_
                  refine T.seq ?_
                  refine T.seq ?_
                  refine T.region ?_
                  refine L.q 1 rfl ?_
                  refine L.y (Yl.ldb 0 rfl rfl rfl rfl) rfl rfl rfl ?_
                  refine L.q 2 rfl ?_
                  refine L.y (Yl.ldb 1 rfl rfl rfl rfl) rfl rfl rfl ?_
                  refine L.q 1 rfl ?_
                  refine L.nil ?_
                  refine E.then ?_
                  refine T.bif rfl H2097 (fun hc H2107 => ?_) (fun hc H2107 => ?_)
                  · refine T.seq ?_
                    refine T.region ?_
                    refine L.q 1 rfl ?_
                    refine L.nil ?_
                    refine E.then ?_
                    refine T.ret ?_
                    refine E.then_ret ?_
                    refine E.block_ret ?_
                    refine E.then_ret ?_
                    refine E.then_ret ?_
                    refine E.block_ret ?_
                    obtain ⟨w2108, hz, H2109⟩ := inrr_some H2107
                    subst z1831
                    have hb := hbr1833 _ rfl
                    subst y1827
                    have hw : w2108 = r := Option.some.inj H1829
                    subst w2108
                    refine E.then_ret ?_
                    have hr := Option.some.inj H2109
                    subst r
                    exact E.ret () [] [] (.tmp rfl .nil) rfl rfl rfl
                  · refine T.skip ?_
                    refine E.then ?_
                    refine T.seq ?_
                    refine T.region ?_
                    refine L.q 1 rfl ?_
                    refine L.y (Yl.ldb 0 rfl rfl rfl rfl) rfl rfl rfl ?_
                    refine L.q 2 rfl ?_
                    refine L.nil ?_
                    refine E.then ?_
                    obtain ⟨y2289, H2290, H2291⟩ := bnd H2107
                    refine T.joinE (η := Unit × Unit) (fun h => y2289 = .inl h.1) (fun h => (fun e2288 => [(1, .pointer (some ⟨g1, 0, none⟩)), (128, .slice (some ⟨b2098, o2099, none⟩) s_.rows.length c_0_0), (129, .int .i64 (s_.rows.length : Int)), (130, .int .i64 s1305)]) h.1) (fun h => (fun e2288 => [Ch.box g2105 63 [.slice a2101 x2095.l.length c2102, .bool x2095.wrapped], Ch.box g1 32 [.int .i64 s_.k, .int .i64 s_.w, .int .i64 s_.h, .int .i64 s_.x, .int .i64 s_.y, .string s_.title, .slice (some ⟨b2098, o2099, none⟩) s_.rows.length c_0_0, .int .i64 s_.len, .int .i64 s_.chain, .slice a_0_1 s_.begun.length c_0_1]]) h.1) (fun h => (fun e2288 => [Im.cells b2098 (o2099 + s1305.toNat * 2) [.slice a2101 x2095.l.length c2102, .bool x2095.wrapped], Im.sl tyRef09Cell a2101 c2102 x2095.l, Im.sl tyRef09Row (some ⟨b2098, o2099, none⟩) c_0_0 s_.rows, Im.sl tyRef09Glyph a_0_1 c_0_1 s_.begun]) h.1) ?_ ?_
                    · refine T.block ?_
                      refine T.lp (η := Unit) (fun s2229 h => [(1, .pointer (some ⟨g1, 0, none⟩)), (128, .slice (some ⟨b2098, o2099, none⟩) s_.rows.length c_0_0), (129, .int .i64 (s_.rows.length : Int)), (130, .int .i64 s1305), (141, .slice a2101 x2095.l.length c2102), (142, .int .i64 (x2095.l.length : Int)), (143, .int .i64 s2229)]) (fun s2229 h => [Ch.box g2105 63 [.slice a2101 x2095.l.length c2102, .bool x2095.wrapped], Ch.box g1 32 [.int .i64 s_.k, .int .i64 s_.w, .int .i64 s_.h, .int .i64 s_.x, .int .i64 s_.y, .string s_.title, .slice (some ⟨b2098, o2099, none⟩) s_.rows.length c_0_0, .int .i64 s_.len, .int .i64 s_.chain, .slice a_0_1 s_.begun.length c_0_1]]) (fun s2229 h => [Im.cells b2098 (o2099 + s1305.toNat * 2) [.slice a2101 x2095.l.length c2102, .bool x2095.wrapped], Im.sl tyRef09Cell a2101 c2102 x2095.l, Im.sl tyRef09Row (some ⟨b2098, o2099, none⟩) c_0_0 s_.rows, Im.sl tyRef09Glyph a_0_1 c_0_1 s_.begun]) () [0, 0] [0, 1, 2, 3] H2290 ⟨rfl, rfl, rfl, rfl, rfl, rfl, rfl, trivial⟩ rfl rfl ?_
                      rintro k s2229 ⟨⟩ z2293 H2292 hag2294 hbr2295
                      refine T.seq ?_
                      refine T.region ?_
                      refine L.q 1 rfl ?_
                      refine L.nil ?_
                      refine E.then ?_
                      refine T.seq ?_
                      refine T.bif rfl H2292 (fun hc H2297 => ?_) (fun hc H2297 => ?_)
                      · refine T.skip ?_
                        refine E.then ?_
                        refine T.seq ?_
                        refine T.block ?_
                        refine T.seq ?_
                        refine T.region ?_
                        obtain ⟨x2326, h2327, H2328⟩ := bnd H2297
                        refine L.addr 1 rfl (idx_lt h2327) fun b2329 o2330 e2331 => ?_
                        obtain rfl : a2101 = some ⟨b2329, o2330, none⟩ := e2331
                        refine L.y (Yl.ia h2327 rfl rfl rfl rfl rfl rfl) rfl rfl rfl ?_
                        refine L.el 1 rfl (idx_some h2327).2 ?_
                        rintro _
                        refine L.y (Yl.ldc 0 0 rfl rfl rfl rfl) rfl rfl rfl ?_
                        refine L.a [] [] (Ac.alloc rfl rfl) rfl rfl rfl rfl rfl ?_
                        intro g2333
                        refine L.a [0] [] (Ac.stb rfl rfl rfl rfl rfl rfl) rfl rfl rfl rfl rfl ?_
                        intro _
                        refine L.nil ?_
                        refine E.then ?_
                        refine T.seq ?_
                        obtain ⟨e2345, H2346, H2347⟩ := bnd H2328
                        refine T.join (η := Unit × Unit) (fun h => True) (fun h => [(1, .pointer (some ⟨g1, 0, none⟩)), (128, .slice (some ⟨b2098, o2099, none⟩) s_.rows.length c_0_0), (129, .int .i64 (s_.rows.length : Int)), (130, .int .i64 s1305), (141, .slice (some ⟨b2329, o2330, none⟩) x2095.l.length c2102), (142, .int .i64 (x2095.l.length : Int)), (143, .int .i64 s2229), (174, .bool e2345)]) (fun h => [Ch.box g2333 86 [.int .i64 x2326.rune, .int .i64 x2326.style, .int .i64 x2326.part], Ch.box g2105 63 [.slice (some ⟨b2329, o2330, none⟩) x2095.l.length c2102, .bool x2095.wrapped], Ch.box g1 32 [.int .i64 s_.k, .int .i64 s_.w, .int .i64 s_.h, .int .i64 s_.x, .int .i64 s_.y, .string s_.title, .slice (some ⟨b2098, o2099, none⟩) s_.rows.length c_0_0, .int .i64 s_.len, .int .i64 s_.chain, .slice a_0_1 s_.begun.length c_0_1]]) (fun h => [Im.cells b2329 (o2330 + s2229.toNat * 3) [.int .i64 x2326.rune, .int .i64 x2326.style, .int .i64 x2326.part], Im.cells b2098 (o2099 + s1305.toNat * 2) [.slice (some ⟨b2329, o2330, none⟩) x2095.l.length c2102, .bool x2095.wrapped], Im.sl tyRef09Cell (some ⟨b2329, o2330, none⟩) c2102 x2095.l, Im.sl tyRef09Row (some ⟨b2098, o2099, none⟩) c_0_0 s_.rows, Im.sl tyRef09Glyph a_0_1 c_0_1 s_.begun]) ?_ ?_
                        · refine T.region ?_
                          refine L.q 1 rfl ?_
                          refine L.y (Yl.ldb 0 rfl rfl rfl rfl) rfl rfl rfl ?_
                          refine L.q 2 rfl ?_
                          refine L.cs 150 H2346 rfl (fun hc H2348 => ?_) (fun hc H2348 => ?_)
                          · refine L.q 24 rfl ?_
                            refine L.nil ?_
                            have hr := Option.some.inj H2348
                            subst e2345
                            exact E.give ((), ()) [0, 0, 0] [0, 1, 2, 3, 4] trivial ⟨rfl, rfl, rfl, rfl, rfl, rfl, rfl, rfl, trivial⟩ rfl rfl
                          · refine L.q 1 rfl ?_
                            refine L.y (Yl.ldb 0 rfl rfl rfl rfl) rfl rfl rfl ?_
                            refine L.q 3 rfl ?_
                            refine L.cs 155 H2348 rfl (fun hc H2349 => ?_) (fun hc H2349 => ?_)
                            · refine L.q 19 rfl ?_
                              refine L.nil ?_
                              have hr := Option.some.inj H2349
                              subst e2345
                              exact E.give ((), ()) [0, 0, 0] [0, 1, 2, 3, 4] trivial ⟨rfl, rfl, rfl, rfl, rfl, rfl, rfl, rfl, trivial⟩ rfl rfl
                            · refine L.q 1 rfl ?_
                              refine L.y (Yl.ldb 0 rfl rfl rfl rfl) rfl rfl rfl ?_
                              refine L.q 3 rfl ?_
                              refine L.cs 160 H2349 rfl (fun hc H2350 => ?_) (fun hc H2350 => ?_)
                              · refine L.q 14 rfl ?_
                                refine L.nil ?_
                                have hr := Option.some.inj H2350
                                subst e2345
                                exact E.give ((), ()) [0, 0, 0] [0, 1, 2, 3, 4] trivial ⟨rfl, rfl, rfl, rfl, rfl, rfl, rfl, rfl, trivial⟩ rfl rfl
                              · refine L.q 1 rfl ?_
                                refine L.y (Yl.ldb 0 rfl rfl rfl rfl) rfl rfl rfl ?_
                                refine L.q 3 rfl ?_
                                refine L.cs 165 H2350 rfl (fun hc H2351 => ?_) (fun hc H2351 => ?_)
                                · refine L.q 9 rfl ?_
                                  refine L.nil ?_
                                  have hr := Option.some.inj H2351
                                  subst e2345
                                  exact E.give ((), ()) [0, 0, 0] [0, 1, 2, 3, 4] trivial ⟨rfl, rfl, rfl, rfl, rfl, rfl, rfl, rfl, trivial⟩ rfl rfl
                                · refine L.q 1 rfl ?_
                                  refine L.y (Yl.ldb 0 rfl rfl rfl rfl) rfl rfl rfl ?_
                                  refine L.q 3 rfl ?_
                                  refine L.cs 170 H2351 rfl (fun hc H2352 => ?_) (fun hc H2352 => ?_)
                                  · refine L.q 4 rfl ?_
                                    refine L.nil ?_
                                    have hr := Option.some.inj H2352
                                    subst e2345
                                    exact E.give ((), ()) [0, 0, 0] [0, 1, 2, 3, 4] trivial ⟨rfl, rfl, rfl, rfl, rfl, rfl, rfl, rfl, trivial⟩ rfl rfl
                                  · refine L.q 1 rfl ?_
                                    refine L.y (Yl.ldb 0 rfl rfl rfl rfl) rfl rfl rfl ?_
                                    refine L.q 2 rfl ?_
                                    refine L.nil ?_
                                    have hr := Option.some.inj H2352
                                    subst e2345
                                    exact E.give ((), ()) [0, 0, 0] [0, 1, 2, 3, 4] trivial ⟨rfl, rfl, rfl, rfl, rfl, rfl, rfl, rfl, trivial⟩ rfl rfl
                        · rintro ⟨_, ⟨⟩⟩ _
                          refine T.bif rfl H2347 (fun hc H2353 => ?_) (fun hc H2353 => ?_)
                          · refine T.seq ?_
                            refine T.region ?_
                            refine L.q 1 rfl ?_
                            refine L.nil ?_
                            refine E.then ?_
                            refine T.ret ?_
                            refine E.block_ret ?_
                            refine E.then_ret ?_
                            refine E.then_ret ?_
                            refine E.block_ret ?_
                            obtain ⟨w2354, hz, H2355⟩ := inrr_some H2353
                            subst z2293
                            have hb := hbr2295 _ rfl
                            subst y2289
                            have hw : w2354 = z1831 := Option.some.inj H2291
                            subst w2354
                            refine E.then_ret ?_
                            refine E.block_ret ?_
                            refine E.then_ret ?_
                            refine E.then_ret ?_
                            refine E.block_ret ?_
                            obtain ⟨w2356, hz, H2357⟩ := inrr_some H2355
                            subst z1831
                            have hb := hbr1833 _ rfl
                            subst y1827
                            have hw : w2356 = r := Option.some.inj H1829
                            subst w2356
                            refine E.then_ret ?_
                            have hr := Option.some.inj H2357
                            subst r
                            exact E.ret () [] [] (.tmp rfl .nil) rfl rfl rfl
                          · refine T.skip ?_
                            refine E.block ?_
                            refine E.then ?_
                            refine T.region ?_
                            refine L.q 2 rfl ?_
                            refine L.nil ?_
                            have hr := Option.some.inj H2353
                            subst z2293
                            exact E.give (_, ()) [1, 1] [1, 2, 3, 4] (hag2294 _ rfl) ⟨rfl, rfl, rfl, rfl, rfl, rfl, rfl, trivial⟩ rfl rfl
                      · refine T.exit ?_
                        refine E.then_exit' ?_
                        refine E.then_exit' ?_
                        refine E.block_here ?_
                        have hr := Option.some.inj H2297
                        subst z2293
                        have hb := hbr2295 _ rfl
                        subst y2289
                        exact E.give (_, ()) [0, 0] [0, 1, 2, 3] rfl ⟨rfl, rfl, rfl, rfl, trivial⟩ rfl rfl
                    · rintro ⟨e2288, ⟨⟩⟩ hy
                      subst hy
                      refine E.block ?_
                      refine E.then ?_
                      refine T.region ?_
                      refine L.q 2 rfl ?_
                      refine L.nil ?_
                      have hr := Option.some.inj H2291
                      subst z1831
                      exact E.give (_, ()) [1] [2, 3] (hag1832 _ rfl) ⟨rfl, rfl, rfl, rfl, trivial⟩ rfl rfl
                · refine T.exit ?_
                  refine E.then_exit' ?_
                  refine E.then_exit' ?_
                  refine E.block_here ?_
                  have hr := Option.some.inj H1835
                  subst z1831
                  have hb := hbr1833 _ rfl
                  subst y1827
                  exact E.give (_, ()) [0] [0, 1] rfl trivial rfl rfl
              · rintro ⟨e1826, ⟨⟩⟩ hy
                subst hy
                refine T.seq ?_
                refine T.region ?_
                refine L.q 1 rfl ?_
                refine L.nil ?_
                refine E.then ?_
                refine T.ret ?_
                have hr := Option.some.inj H1829
                subst r
                exact E.ret () [] [] (.tmp rfl .nil) rfl rfl rfl

theorem c_ref01_Num {n_ : Int} {r : ByteArray} (H : p_ref01_Num n_ = some r) : CT G 37 [.int .i64 n_] [] [] (fun h : Unit => .string r) (fun h => []) (fun h => []) := by
  delta p_ref01_Num at H
  refine CT.of Go.Proofs.Tryd.func37 (by kernel_rfl) rfl rfl rfl fun K => ?_
  refine T.seq ?_
  refine T.region ?_
  refine L.q 1 rfl ?_
  refine L.nil ?_
  refine E.then ?_
  refine T.seq ?_
  refine T.region ?_
  refine L.q 4 rfl ?_
  refine L.nil ?_
  refine E.then ?_
  refine T.seq ?_
  refine T.region ?_
  refine L.a [] [] (Ac.bs (ty := (Ty.int .u8)) (xs := []) .nil rfl rfl rfl rfl rfl rfl rfl) rfl rfl rfl rfl rfl ?_
  intro g1
  refine L.q 1 rfl ?_
  refine L.nil ?_
  refine E.then ?_
  refine T.seq ?_
  obtain ⟨e54, H55, H56⟩ := bnd H
  refine T.join (η := Unit × ((Option Addr × Nat))) (fun h => True) (fun h => (fun a51 c52 => [(0, .int .i64 e54.1), (3, .slice a51 e54.2.length c52)]) h.2.1 h.2.2) (fun h => (fun a51 c52 => [Ch.arr (Ty.int .u8) 5 a51 c52 e54.2]) h.2.1 h.2.2) (fun h => (fun a51 c52 => []) h.2.1 h.2.2) ?_ ?_
  · refine T.block ?_
    refine T.lp (η := (Option Addr × Nat)) (fun s38 h => (fun a35 c36 => [(0, .int .i64 s38.1), (3, .slice a35 s38.2.length c36)]) h.1 h.2) (fun s38 h => (fun a35 c36 => [Ch.arr (Ty.int .u8) 5 a35 c36 s38.2]) h.1 h.2) (fun s38 h => (fun a35 c36 => []) h.1 h.2) ((some ⟨g1, 0, none⟩), 0) [0] [] H55 ⟨rfl, rfl, trivial⟩ rfl rfl ?_
    rintro k s38 ⟨a35, c36⟩ z58 H57 hag59 hbr60
    refine T.seq ?_
    refine T.seq ?_
    refine T.region ?_
    refine L.q 2 rfl ?_
    refine L.nil ?_
    refine E.then ?_
    refine T.bif rfl H57 (fun hc H62 => ?_) (fun hc H62 => ?_)
    · refine T.skip ?_
      refine E.then ?_
      refine T.block ?_
      refine T.seq ?_
      refine T.region ?_
      refine L.q 5 rfl ?_
      refine L.a [] [] (Ac.bs (ty := (Ty.int .u8)) (xs := [(IntKind.u8.wrap (IntKind.i64.wrap (128 + (s38.1.tmod 128))))]) (.cons () [] rfl .nil) rfl rfl rfl rfl rfl rfl rfl) rfl rfl rfl rfl rfl ?_
      intro g63
      refine L.frz 0 rfl ?_
      obtain ⟨_, h66, H67⟩ := bnd H62
      refine L.a [0] [0] (Ac.ap (ty := (Ty.int .u8)) h66 rfl rfl rfl rfl rfl rfl rfl) rfl rfl rfl rfl rfl ?_
      rintro ⟨a68, c69⟩
      refine L.q 1 rfl ?_
      refine L.nil ?_
      refine E.then ?_
      refine T.region ?_
      refine L.q 3 rfl ?_
      refine L.nil ?_
      refine E.block ?_
      have hr := Option.some.inj H67
      subst z58
      exact E.give (_, (a68, c69)) [0] [] (hag59 _ rfl) ⟨rfl, rfl, trivial⟩ rfl rfl
    · refine T.exit ?_
      refine E.then_exit' ?_
      refine E.then_exit' ?_
      refine E.block_here ?_
      have hr := Option.some.inj H62
      subst z58
      have hb := hbr60 _ rfl
      subst e54
      exact E.give ((), (a35, c36)) [0] [] trivial ⟨rfl, rfl, trivial⟩ rfl rfl
  · rintro ⟨_, ⟨a51, c52⟩⟩ _
    refine T.seq ?_
    refine T.region ?_
    refine L.q 3 rfl ?_
    refine L.a [] [] (Ac.bs (ty := (Ty.int .u8)) (xs := [(IntKind.u8.wrap e54.1)]) (.cons () [] rfl .nil) rfl rfl rfl rfl rfl rfl rfl) rfl rfl rfl rfl rfl ?_
    intro g71
    refine L.frz 0 rfl ?_
    obtain ⟨_, h74, H75⟩ := bnd H56
    refine L.a [0] [0] (Ac.ap (ty := (Ty.int .u8)) h74 rfl rfl rfl rfl rfl rfl rfl) rfl rfl rfl rfl rfl ?_
    rintro ⟨a76, c77⟩
    refine L.y (Yl.bs 0 rfl rfl rfl rfl rfl rfl rfl rfl rfl) rfl rfl rfl ?_
    refine L.q 1 rfl ?_
    refine L.nil ?_
    refine E.then ?_
    refine T.ret ?_
    have hr := Option.some.inj H75
    subst r
    exact E.ret () [] [] (.tmp rfl .nil) rfl rfl rfl

theorem c_ref01_Text {s_ : ByteArray} {r : ByteArray} (H : p_ref01_Text s_ = some r) : CT G 38 [.string s_] [] [] (fun h : Unit => .string r) (fun h => []) (fun h => []) := by
  delta p_ref01_Text at H
  refine CT.of Go.Proofs.Tryd.func38 (by kernel_rfl) rfl rfl rfl fun K => ?_
  refine T.seq ?_
  refine T.region ?_
  refine L.q 1 rfl ?_
  refine L.nil ?_
  refine E.then ?_
  refine T.seq ?_
  refine T.region ?_
  refine L.q 2 rfl ?_
  obtain ⟨r1, h2, H3⟩ := bnd H
  refine L.a [] [] (Ac.call (c_ref01_Num h2) rfl rfl rfl rfl) rfl rfl rfl rfl rfl ?_
  rintro ⟨⟩
  refine L.q 1 rfl ?_
  obtain ⟨_, h4, H5⟩ := bnd H3
  refine L.y (Yl.sa h4 rfl rfl rfl) rfl rfl rfl ?_
  refine L.q 1 rfl ?_
  refine L.nil ?_
  refine E.then ?_
  refine T.ret ?_
  have hr := Option.some.inj H5
  subst r
  exact E.ret () [] [] (.tmp rfl .nil) rfl rfl rfl

theorem c_ref12_Pack {l : List Ref09Glyph} (a_0 : Option Addr) (c_0 : Nat) {r : ByteArray} (H : p_ref12_Pack l = some r) : CT G 39 [.slice a_0 l.length c_0] [] [Im.sl tyRef09Glyph a_0 c_0 l] (fun h : Unit => .string r) (fun h => []) (fun h => []) := by
  delta p_ref12_Pack at H
  refine CT.of Go.Proofs.Tryd.func39 (by kernel_rfl) rfl rfl rfl fun K => ?_
  refine T.seq ?_
  refine T.region ?_
  refine L.q 1 rfl ?_
  refine L.nil ?_
  refine E.then ?_
  refine T.seq ?_
  refine T.region ?_
  refine L.q 2 rfl ?_
  obtain ⟨r1, h2, H3⟩ := bnd H
  refine L.a [] [] (Ac.call (c_ref01_Num h2) rfl rfl rfl rfl) rfl rfl rfl rfl rfl ?_
  rintro ⟨⟩
  refine L.q 1 rfl ?_
  refine L.nil ?_
  refine E.then ?_
  refine T.seq ?_
  refine T.seq ?_
  refine T.region ?_
  refine L.q 3 rfl ?_
  refine L.nil ?_
  refine E.then ?_
  obtain ⟨e186, H187, H188⟩ := bnd H3
  refine T.join (η := Unit × Unit) (fun h => True) (fun h => [(3, .string e186)]) (fun h => []) (fun h => [Im.sl tyRef09Glyph a_0 c_0 l]) ?_ ?_
  · refine T.block ?_
    refine T.lp (η := Unit) (fun s126 h => [(3, .string s126.2), (9, .slice a_0 l.length c_0), (10, .int .i64 (l.length : Int)), (11, .int .i64 s126.1)]) (fun s126 h => []) (fun s126 h => [Im.sl tyRef09Glyph a_0 c_0 l]) () [] [0] H187 ⟨rfl, rfl, rfl, rfl, trivial⟩ rfl rfl ?_
    rintro k s126 ⟨⟩ z190 H189 hag191 hbr192
    refine T.seq ?_
    refine T.region ?_
    refine L.q 1 rfl ?_
    refine L.nil ?_
    refine E.then ?_
    refine T.seq ?_
    refine T.bif rfl H189 (fun hc H194 => ?_) (fun hc H194 => ?_)
    · refine T.skip ?_
      refine E.then ?_
      refine T.seq ?_
      refine T.block ?_
      refine T.seq ?_
      refine T.region ?_
      obtain ⟨x223, h224, H225⟩ := bnd H194
      refine L.addr 0 rfl (idx_lt h224) fun b226 o227 e228 => ?_
      obtain rfl : a_0 = some ⟨b226, o227, none⟩ := e228
      refine L.y (Yl.ia h224 rfl rfl rfl rfl rfl rfl) rfl rfl rfl ?_
      refine L.el 0 rfl (idx_some h224).2 ?_
      rintro _
      refine L.y (Yl.ldc 0 0 rfl rfl rfl rfl) rfl rfl rfl ?_
      refine L.a [] [] (Ac.alloc rfl rfl) rfl rfl rfl rfl rfl ?_
      intro g230
      refine L.a [0] [] (Ac.stb rfl rfl rfl rfl rfl rfl) rfl rfl rfl rfl rfl ?_
      intro _
      refine L.nil ?_
      refine E.then ?_
      refine T.draw [] [0] mo (by rfl) rfl ?_
      refine D.q 0 rfl rfl rfl rfl rfl rfl ?_
      refine D.q 1 rfl rfl rfl rfl rfl rfl ?_
      refine D.y 2 (Yl.ldb 0 rfl rfl rfl rfl) rfl rfl rfl rfl rfl rfl ?_
      refine D.q 4 rfl rfl rfl rfl rfl rfl ?_
      refine D.y 5 (Yl.ldb 0 rfl rfl rfl rfl) rfl rfl rfl rfl rfl rfl ?_
      obtain ⟨r241, h242, H243⟩ := bnd H225
      refine D.one rfl rfl rfl (Dp.a [] [] (Ac.call (c_ref01_Num h242) rfl rfl rfl rfl) rfl rfl rfl rfl rfl rfl ?_)
      rintro ⟨⟩
      obtain ⟨r244, h245, H246⟩ := bnd H243
      refine D.one rfl rfl rfl (Dp.a [] [] (Ac.call (c_ref01_Num h245) rfl rfl rfl rfl) rfl rfl rfl rfl rfl rfl ?_)
      rintro ⟨⟩
      obtain ⟨_, h247, H248⟩ := bnd H246
      refine D.y 7 (Yl.sa h247 rfl rfl rfl) rfl rfl rfl rfl rfl rfl ?_
      obtain ⟨_, h249, H250⟩ := bnd H248
      refine D.y 8 (Yl.sa h249 rfl rfl rfl) rfl rfl rfl rfl rfl rfl ?_
      refine D.q 9 rfl rfl rfl rfl rfl rfl ?_
      refine D.nil rfl rfl ?_
      refine E.block ?_
      refine E.then ?_
      refine T.region ?_
      refine L.q 2 rfl ?_
      refine L.nil ?_
      have hr := Option.some.inj H250
      subst z190
      exact E.give (_, ()) [] [1] (hag191 _ rfl) ⟨rfl, rfl, rfl, rfl, trivial⟩ rfl rfl
    · refine T.exit ?_
      refine E.then_exit' ?_
      refine E.then_exit' ?_
      refine E.block_here ?_
      have hr := Option.some.inj H194
      subst z190
      have hb := hbr192 _ rfl
      subst e186
      exact E.give ((), ()) [] [0] trivial ⟨rfl, trivial⟩ rfl rfl
  · rintro ⟨_, ⟨⟩⟩ _
    refine T.seq ?_
    refine T.region ?_
    refine L.q 2 rfl ?_
    refine L.nil ?_
    refine E.then ?_
    refine T.ret ?_
    have hr := Option.some.inj H188
    subst r
    exact E.ret () [] [] (.tmp rfl .nil) rfl rfl rfl

theorem c_ref16_PackRow {r_ : Ref09Row} (a_0_0 : Option Addr) (c_0_0 : Nat) {r : ByteArray} (H : p_ref16_PackRow r_ = some r) : CT G 40 [.agg #[.slice a_0_0 r_.l.length c_0_0, .bool r_.wrapped]] [] [Im.sl tyRef09Cell a_0_0 c_0_0 r_.l] (fun h : Unit => .string r) (fun h => []) (fun h => []) := by
  delta p_ref16_PackRow at H
  refine CT.of Go.Proofs.Tryd.func40 (by kernel_rfl) rfl rfl rfl fun K => ?_
  refine T.seq ?_
  refine T.region ?_
  refine L.a [] [] (Ac.box rfl rfl) rfl rfl rfl rfl rfl ?_
  intro g1
  refine L.q 1 rfl ?_
  refine L.nil ?_
  refine E.then ?_
  refine T.seq ?_
  refine T.region ?_
  refine L.q 1 rfl ?_
  refine L.nil ?_
  refine E.then ?_
  refine T.seq ?_
  refine T.seq ?_
  refine T.region ?_
  refine L.q 1 rfl ?_
  refine L.y (Yl.ldb 0 rfl rfl rfl rfl) rfl rfl rfl ?_
  refine L.nil ?_
  refine E.then ?_
  obtain ⟨e5, H6, H7⟩ := bnd H
  refine T.join (η := Unit × Unit) (fun h => True) (fun h => [(1, .pointer (some ⟨g1, 0, none⟩)), (3, .string e5)]) (fun h => [Ch.box g1 63 [.slice a_0_0 r_.l.length c_0_0, .bool r_.wrapped]]) (fun h => [Im.sl tyRef09Cell a_0_0 c_0_0 r_.l]) ?_ ?_
  · refine T.bif rfl H6 (fun hc H8 => ?_) (fun hc H8 => ?_)
    · refine T.region ?_
      refine L.q 1 rfl ?_
      refine L.nil ?_
      have hr := Option.some.inj H8
      subst e5
      exact E.give ((), ()) [0] [0] trivial ⟨rfl, rfl, trivial⟩ rfl rfl
    · refine T.skip ?_
      have hr := Option.some.inj H8
      subst e5
      exact E.give ((), ()) [0] [0] trivial ⟨rfl, rfl, trivial⟩ rfl rfl
  · rintro ⟨_, ⟨⟩⟩ _
    refine T.seq ?_
    refine T.region ?_
    refine L.q 1 rfl ?_
    refine L.nil ?_
    refine E.then ?_
    refine T.seq ?_
    refine T.seq ?_
    refine T.region ?_
    refine L.q 1 rfl ?_
    refine L.y (Yl.ldb 0 rfl rfl rfl rfl) rfl rfl rfl ?_
    refine L.q 2 rfl ?_
    refine L.nil ?_
    refine E.then ?_
    obtain ⟨e1157, H1158, H1159⟩ := bnd H7
    refine T.join (η := Unit × Unit) (fun h => True) (fun h => [(3, .string e1157)]) (fun h => [Ch.box g1 63 [.slice a_0_0 r_.l.length c_0_0, .bool r_.wrapped]]) (fun h => [Im.sl tyRef09Cell a_0_0 c_0_0 r_.l]) ?_ ?_
    · refine T.block ?_
      refine T.lp (η := Unit) (fun s776 h => [(1, .pointer (some ⟨g1, 0, none⟩)), (3, .string s776.2.1), (4, .int .i64 s776.2.2), (10, .slice a_0_0 r_.l.length c_0_0), (11, .int .i64 (r_.l.length : Int)), (12, .int .i64 s776.1)]) (fun s776 h => [Ch.box g1 63 [.slice a_0_0 r_.l.length c_0_0, .bool r_.wrapped]]) (fun s776 h => [Im.sl tyRef09Cell a_0_0 c_0_0 r_.l]) () [0] [0] H1158 ⟨rfl, rfl, rfl, rfl, rfl, rfl, trivial⟩ rfl rfl ?_
      rintro k s776 ⟨⟩ z1161 H1160 hag1162 hbr1163
      refine T.seq ?_
      refine T.region ?_
      refine L.q 1 rfl ?_
      refine L.nil ?_
      refine E.then ?_
      refine T.seq ?_
      refine T.bif rfl H1160 (fun hc H1165 => ?_) (fun hc H1165 => ?_)
      · refine T.skip ?_
        refine E.then ?_
        refine T.seq ?_
        obtain ⟨e1416, H1417, H1418⟩ := bnd H1165
        refine T.join (η := Unit × Unit) (fun h => True) (fun h => [(1, .pointer (some ⟨g1, 0, none⟩)), (3, .string e1416.1), (4, .int .i64 e1416.2), (10, .slice a_0_0 r_.l.length c_0_0), (11, .int .i64 (r_.l.length : Int)), (12, .int .i64 s776.1)]) (fun h => [Ch.box g1 63 [.slice a_0_0 r_.l.length c_0_0, .bool r_.wrapped]]) (fun h => [Im.sl tyRef09Cell a_0_0 c_0_0 r_.l]) ?_ ?_
        · refine T.block ?_
          refine T.seq ?_
          refine T.region ?_
          refine L.q 1 rfl ?_
          obtain ⟨x1419, h1420, H1421⟩ := bnd H1417
          refine L.addr 0 rfl (idx_lt h1420) fun b1422 o1423 e1424 => ?_
          obtain rfl : a_0_0 = some ⟨b1422, o1423, none⟩ := e1424
          refine L.y (Yl.ia h1420 rfl rfl rfl rfl rfl rfl) rfl rfl rfl ?_
          refine L.el 0 rfl (idx_some h1420).2 ?_
          rintro _
          refine L.y (Yl.ldc 0 0 rfl rfl rfl rfl) rfl rfl rfl ?_
          refine L.a [] [] (Ac.alloc rfl rfl) rfl rfl rfl rfl rfl ?_
          intro g1426
          refine L.q 1 rfl ?_
          refine L.a [0] [] (Ac.stb rfl rfl rfl rfl rfl rfl) rfl rfl rfl rfl rfl ?_
          intro _
          refine L.nil ?_
          refine E.then ?_
          refine T.seq ?_
          refine T.region ?_
          refine L.q 3 rfl ?_
          refine L.nil ?_
          refine E.then ?_
          refine T.seq ?_
          refine T.seq ?_
          obtain ⟨e1448, H1449, H1450⟩ := bnd H1421
          refine T.join (η := Unit × Unit) (fun h => True) (fun h => [(1, .pointer (some ⟨g1, 0, none⟩)), (3, .string s776.2.1), (4, .int .i64 (IntKind.i64.wrap (s776.2.2 + 1))), (6, .pointer (some ⟨g1426, 0, none⟩)), (10, .slice (some ⟨b1422, o1423, none⟩) r_.l.length c_0_0), (11, .int .i64 (r_.l.length : Int)), (12, .int .i64 s776.1), (34, .bool e1448)]) (fun h => [Ch.box g1426 86 [.int .i64 x1419.rune, .int .i64 x1419.style, .int .i64 x1419.part], Ch.box g1 63 [.slice (some ⟨b1422, o1423, none⟩) r_.l.length c_0_0, .bool r_.wrapped]]) (fun h => [Im.cells b1422 (o1423 + s776.1.toNat * 3) [.int .i64 x1419.rune, .int .i64 x1419.style, .int .i64 x1419.part], Im.sl tyRef09Cell (some ⟨b1422, o1423, none⟩) c_0_0 r_.l]) ?_ ?_
          · refine T.draw [] [0, 0] mo (by rfl) rfl ?_
            refine D.q 0 rfl rfl rfl rfl rfl rfl ?_
            refine D.q 1 rfl rfl rfl rfl rfl rfl ?_
            refine D.q 2 rfl rfl rfl rfl rfl rfl ?_
            refine D.y 3 (Yl.ldb 1 rfl rfl rfl rfl) rfl rfl rfl rfl rfl rfl ?_
            refine D.q 4 rfl rfl rfl rfl rfl rfl ?_
            refine D.q 5 rfl rfl rfl rfl rfl rfl ?_
            refine D.q 6 rfl rfl rfl rfl rfl rfl ?_
            refine D.cs 25 H1449 rfl (fun hc H1456 => ?_) (fun hc H1456 => ?_)
            · refine D.q 7 rfl rfl rfl rfl rfl rfl ?_
              refine D.y 8 (Yl.ldb 1 rfl rfl rfl rfl) rfl rfl rfl rfl rfl rfl ?_
              refine D.q 9 rfl rfl rfl rfl rfl rfl ?_
              refine D.q 10 rfl rfl rfl rfl rfl rfl ?_
              obtain ⟨x1457, h1458, H1459⟩ := bnd H1456
              refine D.y 11 (Yl.ia h1458 rfl rfl rfl rfl rfl rfl) rfl rfl rfl rfl rfl rfl ?_
              refine D.el 1 rfl (idx_some h1458).2 ?_
              rintro _
              refine D.y 12 (Yl.ldc 0 0 rfl rfl rfl rfl) rfl rfl rfl rfl rfl rfl ?_
              refine D.y 13 (Yl.ldb 0 rfl rfl rfl rfl) rfl rfl rfl rfl rfl rfl ?_
              refine D.q 14 rfl rfl rfl rfl rfl rfl ?_
              refine D.q 15 rfl rfl rfl rfl rfl rfl ?_
              refine D.nil rfl rfl ?_
              have hr := Option.some.inj H1459
              subst e1448
              exact E.give ((), ()) [0, 0] [1, 2] trivial ⟨rfl, rfl, rfl, rfl, rfl, rfl, rfl, rfl, trivial⟩ rfl rfl
            · refine D.sk 7 rfl rfl rfl rfl rfl ?_
              refine D.sk 8 rfl rfl rfl rfl rfl ?_
              refine D.sk 9 rfl rfl rfl rfl rfl ?_
              refine D.sk 10 rfl rfl rfl rfl rfl ?_
              refine D.sk 11 rfl rfl rfl rfl rfl ?_
              refine D.sk 12 rfl rfl rfl rfl rfl ?_
              refine D.sk 13 rfl rfl rfl rfl rfl ?_
              refine D.sk 14 rfl rfl rfl rfl rfl ?_
              refine D.q 15 rfl rfl rfl rfl rfl rfl ?_
              refine D.nil rfl rfl ?_
              have hr := Option.some.inj H1456
              subst e1448
              exact E.give ((), ()) [0, 0] [0, 1] trivial ⟨rfl, rfl, rfl, rfl, rfl, rfl, rfl, rfl, trivial⟩ rfl rfl
          · rintro ⟨_, ⟨⟩⟩ _
            refine T.bif rfl H1450 (fun hc H1462 => ?_) (fun hc H1462 => ?_)
            · refine T.exit ?_
              refine E.then_exit' ?_
              refine E.block_here ?_
              have hr := Option.some.inj H1462
              subst e1416
              exact E.give ((), ()) [1] [1] trivial ⟨rfl, rfl, rfl, rfl, rfl, rfl, trivial⟩ rfl rfl
            · refine T.skip ?_
              refine E.then ?_
              refine T.seq ?_
              refine T.draw [] [0, 0] mo (by rfl) rfl ?_
              refine D.q 0 rfl rfl rfl rfl rfl rfl ?_
              refine D.q 1 rfl rfl rfl rfl rfl rfl ?_
              refine D.q 3 rfl rfl rfl rfl rfl rfl ?_
              refine D.y 4 (Yl.ldb 0 rfl rfl rfl rfl) rfl rfl rfl rfl rfl rfl ?_
              refine D.q 7 rfl rfl rfl rfl rfl rfl ?_
              refine D.y 8 (Yl.ldb 0 rfl rfl rfl rfl) rfl rfl rfl rfl rfl rfl ?_
              refine D.q 11 rfl rfl rfl rfl rfl rfl ?_
              refine D.y 12 (Yl.ldb 0 rfl rfl rfl rfl) rfl rfl rfl rfl rfl rfl ?_
              obtain ⟨r1523, h1524, H1525⟩ := bnd H1462
              refine D.one rfl rfl rfl (Dp.a [] [] (Ac.call (c_ref01_Num h1524) rfl rfl rfl rfl) rfl rfl rfl rfl rfl rfl ?_)
              rintro ⟨⟩
              obtain ⟨r1526, h1527, H1528⟩ := bnd H1525
              refine D.one rfl rfl rfl (Dp.a [] [] (Ac.call (c_ref01_Num h1527) rfl rfl rfl rfl) rfl rfl rfl rfl rfl rfl ?_)
              rintro ⟨⟩
              obtain ⟨_, h1529, H1530⟩ := bnd H1528
              refine D.y 6 (Yl.sa h1529 rfl rfl rfl) rfl rfl rfl rfl rfl rfl ?_
              obtain ⟨r1531, h1532, H1533⟩ := bnd H1530
              refine D.one rfl rfl rfl (Dp.a [] [] (Ac.call (c_ref01_Num h1532) rfl rfl rfl rfl) rfl rfl rfl rfl rfl rfl ?_)
              rintro ⟨⟩
              obtain ⟨_, h1534, H1535⟩ := bnd H1533
              refine D.y 10 (Yl.sa h1534 rfl rfl rfl) rfl rfl rfl rfl rfl rfl ?_
              obtain ⟨r1536, h1537, H1538⟩ := bnd H1535
              refine D.one rfl rfl rfl (Dp.a [] [] (Ac.call (c_ref01_Num h1537) rfl rfl rfl rfl) rfl rfl rfl rfl rfl rfl ?_)
              rintro ⟨⟩
              obtain ⟨_, h1539, H1540⟩ := bnd H1538
              refine D.y 14 (Yl.sa h1539 rfl rfl rfl) rfl rfl rfl rfl rfl rfl ?_
              obtain ⟨_, h1541, H1542⟩ := bnd H1540
              refine D.y 15 (Yl.sa h1541 rfl rfl rfl) rfl rfl rfl rfl rfl rfl ?_
              refine D.q 16 rfl rfl rfl rfl rfl rfl ?_
              refine D.nil rfl rfl ?_
              refine E.then ?_
              refine T.region ?_
              refine L.q 1 rfl ?_
              refine L.nil ?_
              refine E.block ?_
              have hr := Option.some.inj H1542
              subst e1416
              exact E.give ((), ()) [1] [1] trivial ⟨rfl, rfl, rfl, rfl, rfl, rfl, trivial⟩ rfl rfl
        · rintro ⟨_, ⟨⟩⟩ _
          refine T.region ?_
          refine L.q 2 rfl ?_
          refine L.nil ?_
          have hr := Option.some.inj H1418
          subst z1161
          exact E.give (_, ()) [0] [0] (hag1162 _ rfl) ⟨rfl, rfl, rfl, rfl, rfl, rfl, trivial⟩ rfl rfl
      · refine T.exit ?_
        refine E.then_exit' ?_
        refine E.then_exit' ?_
        refine E.block_here ?_
        have hr := Option.some.inj H1165
        subst z1161
        have hb := hbr1163 _ rfl
        subst e1157
        exact E.give ((), ()) [0] [0] trivial ⟨rfl, trivial⟩ rfl rfl
    · rintro ⟨_, ⟨⟩⟩ _
      refine T.seq ?_
      refine T.region ?_
      refine L.q 2 rfl ?_
      refine L.nil ?_
      refine E.then ?_
      refine T.ret ?_
      have hr := Option.some.inj H1159
      subst r
      exact E.ret () [] [] (.tmp rfl .nil) rfl rfl rfl

theorem c_ref16_Pack {s_ : Ref16Snap} (a_0_0 : Option Addr) (c_0_0 : Nat) (a_0_1 : Option Addr) (c_0_1 : Nat) {r : ByteArray} (H : p_ref16_Pack s_ = some r) : CT G 16 [.agg #[.int .i64 s_.k, .int .i64 s_.w, .int .i64 s_.h, .int .i64 s_.x, .int .i64 s_.y, .string s_.title, .slice a_0_0 s_.rows.length c_0_0, .int .i64 s_.len, .int .i64 s_.chain, .slice a_0_1 s_.begun.length c_0_1]] [] [Im.sl tyRef09Row a_0_0 c_0_0 s_.rows, Im.sl tyRef09Glyph a_0_1 c_0_1 s_.begun] (fun h : Unit => .string r) (fun h => []) (fun h => []) := by
  delta p_ref16_Pack at H
  refine CT.of Go.Proofs.Tryd.func16 (by kernel_rfl) rfl rfl rfl fun K => ?_
  refine T.seq ?_
  refine T.region ?_
  refine L.a [] [] (Ac.box rfl rfl) rfl rfl rfl rfl rfl ?_
  intro g1
  refine L.q 1 rfl ?_
  refine L.nil ?_
  refine E.then ?_
  refine T.seq ?_
  refine T.seq ?_
  obtain ⟨e17, H18, H19⟩ := bnd H
  refine T.join (η := Unit × Unit) (fun h => True) (fun h => [(1, .pointer (some ⟨g1, 0, none⟩)), (14, .bool e17)]) (fun h => [Ch.box g1 32 [.int .i64 s_.k, .int .i64 s_.w, .int .i64 s_.h, .int .i64 s_.x, .int .i64 s_.y, .string s_.title, .slice a_0_0 s_.rows.length c_0_0, .int .i64 s_.len, .int .i64 s_.chain, .slice a_0_1 s_.begun.length c_0_1]]) (fun h => [Im.sl tyRef09Row a_0_0 c_0_0 s_.rows, Im.sl tyRef09Glyph a_0_1 c_0_1 s_.begun]) ?_ ?_
  · refine T.region ?_
    refine L.y (Yl.ldb 0 rfl rfl rfl rfl) rfl rfl rfl ?_
    obtain ⟨r20, h21, H22⟩ := bnd H18
    refine L.a [] [0, 1] (Ac.call (c_ref16_Empty a_0_0 c_0_0 a_0_1 c_0_1 h21) rfl rfl rfl rfl) rfl rfl rfl rfl rfl ?_
    rintro ⟨⟩
    refine L.q 1 rfl ?_
    refine L.cs 10 H22 rfl (fun hc H23 => ?_) (fun hc H23 => ?_)
    · refine L.q 4 rfl ?_
      refine L.nil ?_
      have hr := Option.some.inj H23
      subst e17
      exact E.give ((), ()) [0] [0, 1] trivial ⟨rfl, rfl, trivial⟩ rfl rfl
    · refine L.y (Yl.ldb 0 rfl rfl rfl rfl) rfl rfl rfl ?_
      obtain ⟨r24, h25, H26⟩ := bnd H23
      refine L.a [] [0, 1] (Ac.call (c_ref16_May a_0_0 c_0_0 a_0_1 c_0_1 h25) rfl rfl rfl rfl) rfl rfl rfl rfl rfl ?_
      rintro ⟨⟩
      refine L.q 2 rfl ?_
      refine L.nil ?_
      have hr := Option.some.inj H26
      subst e17
      exact E.give ((), ()) [0] [0, 1] trivial ⟨rfl, rfl, trivial⟩ rfl rfl
  · rintro ⟨_, ⟨⟩⟩ _
    refine T.bif rfl H19 (fun hc H28 => ?_) (fun hc H28 => ?_)
    · refine T.seq ?_
      refine T.region ?_
      refine L.q 1 rfl ?_
      refine L.nil ?_
      refine E.then ?_
      refine T.ret ?_
      refine E.then_ret ?_
      have hr := Option.some.inj H28
      subst r
      exact E.ret () [] [] (.tmp rfl .nil) rfl rfl rfl
    · refine T.skip ?_
      refine E.then ?_
      refine T.seq ?_
      refine T.region ?_
      refine L.q 1 rfl ?_
      refine L.nil ?_
      refine E.then ?_
      refine T.seq ?_
      refine T.seq ?_
      refine T.region ?_
      refine L.q 1 rfl ?_
      refine L.y (Yl.ldb 0 rfl rfl rfl rfl) rfl rfl rfl ?_
      refine L.q 1 rfl ?_
      refine L.y (Yl.ldb 0 rfl rfl rfl rfl) rfl rfl rfl ?_
      refine L.q 1 rfl ?_
      refine L.y (Yl.ldb 0 rfl rfl rfl rfl) rfl rfl rfl ?_
      refine L.q 1 rfl ?_
      refine L.y (Yl.ldb 0 rfl rfl rfl rfl) rfl rfl rfl ?_
      refine L.q 1 rfl ?_
      refine L.y (Yl.ldb 0 rfl rfl rfl rfl) rfl rfl rfl ?_
      refine L.a [] [] (Ac.bs (ty := (Ty.int .i64)) (xs := [s_.k, s_.w, s_.h, s_.x, s_.y]) (.cons () [] rfl (.cons () [] rfl (.cons () [] rfl (.cons () [] rfl (.cons () [] rfl .nil))))) rfl rfl rfl rfl rfl rfl rfl) rfl rfl rfl rfl rfl ?_
      intro g29
      refine L.q 2 rfl ?_
      refine L.nil ?_
      refine E.then ?_
      obtain ⟨e93, H94, H95⟩ := bnd H28
      refine T.join (η := Unit × Unit) (fun h => True) (fun h => [(1, .pointer (some ⟨g1, 0, none⟩)), (3, .string e93)]) (fun h => [Ch.box g1 32 [.int .i64 s_.k, .int .i64 s_.w, .int .i64 s_.h, .int .i64 s_.x, .int .i64 s_.y, .string s_.title, .slice a_0_0 s_.rows.length c_0_0, .int .i64 s_.len, .int .i64 s_.chain, .slice a_0_1 s_.begun.length c_0_1]]) (fun h => [Im.sl tyRef09Row a_0_0 c_0_0 s_.rows, Im.sl tyRef09Glyph a_0_1 c_0_1 s_.begun]) ?_ ?_
      · refine T.block ?_
        refine T.lp (η := Unit) (fun s73 h => [(1, .pointer (some ⟨g1, 0, none⟩)), (3, .string s73.2), (25, .slice (some ⟨g29, 0, none⟩) [s_.k, s_.w, s_.h, s_.x, s_.y].length 5), (26, .int .i64 ([s_.k, s_.w, s_.h, s_.x, s_.y].length : Int)), (27, .int .i64 s73.1)]) (fun s73 h => [Ch.box g1 32 [.int .i64 s_.k, .int .i64 s_.w, .int .i64 s_.h, .int .i64 s_.x, .int .i64 s_.y, .string s_.title, .slice a_0_0 s_.rows.length c_0_0, .int .i64 s_.len, .int .i64 s_.chain, .slice a_0_1 s_.begun.length c_0_1], Ch.arr (Ty.int .i64) 3 (some ⟨g29, 0, none⟩) 5 [s_.k, s_.w, s_.h, s_.x, s_.y]]) (fun s73 h => [Im.sl tyRef09Row a_0_0 c_0_0 s_.rows, Im.sl tyRef09Glyph a_0_1 c_0_1 s_.begun]) () [1, 0] [0, 1] H94 ⟨rfl, rfl, rfl, rfl, rfl, trivial⟩ rfl rfl ?_
        rintro k s73 ⟨⟩ z97 H96 hag98 hbr99
        refine T.seq ?_
        refine T.region ?_
        refine L.q 1 rfl ?_
        refine L.nil ?_
        refine E.then ?_
        refine T.seq ?_
        refine T.bif rfl H96 (fun hc H101 => ?_) (fun hc H101 => ?_)
        · refine T.skip ?_
          refine E.then ?_
          refine T.seq ?_
          refine T.block ?_
          refine T.seq ?_
          refine T.region ?_
          obtain ⟨x110, h111, H112⟩ := bnd H101
          refine L.y (Yl.ia h111 rfl rfl rfl rfl rfl rfl) rfl rfl rfl ?_
          refine L.y (Yl.lo (v := .int .i64 x110) 1 s73.1.toNat 0 (idx_some h111).2 rfl rfl rfl rfl (fun _ => rfl)) rfl rfl rfl ?_
          refine L.q 1 rfl ?_
          refine L.nil ?_
          refine E.then ?_
          refine T.region ?_
          refine L.q 2 rfl ?_
          obtain ⟨r113, h114, H115⟩ := bnd H112
          refine L.a [] [] (Ac.call (c_ref01_Num h114) rfl rfl rfl rfl) rfl rfl rfl rfl rfl ?_
          rintro ⟨⟩
          obtain ⟨_, h116, H117⟩ := bnd H115
          refine L.y (Yl.sa h116 rfl rfl rfl) rfl rfl rfl ?_
          refine L.q 1 rfl ?_
          refine L.nil ?_
          refine E.block ?_
          refine E.then ?_
          refine T.region ?_
          refine L.q 2 rfl ?_
          refine L.nil ?_
          have hr := Option.some.inj H117
          subst z97
          exact E.give (_, ()) [0, 0] [0, 1] (hag98 _ rfl) ⟨rfl, rfl, rfl, rfl, rfl, trivial⟩ rfl rfl
        · refine T.exit ?_
          refine E.then_exit' ?_
          refine E.then_exit' ?_
          refine E.block_here ?_
          have hr := Option.some.inj H101
          subst z97
          have hb := hbr99 _ rfl
          subst e93
          exact E.give ((), ()) [0] [0, 1] trivial ⟨rfl, rfl, trivial⟩ rfl rfl
      · rintro ⟨_, ⟨⟩⟩ _
        refine T.seq ?_
        refine T.draw [] [0] mo (by rfl) rfl ?_
        refine D.q 0 rfl rfl rfl rfl rfl rfl ?_
        refine D.q 1 rfl rfl rfl rfl rfl rfl ?_
        refine D.y 2 (Yl.ldb 0 rfl rfl rfl rfl) rfl rfl rfl rfl rfl rfl ?_
        refine D.q 4 rfl rfl rfl rfl rfl rfl ?_
        refine D.y 5 (Yl.ldb 0 rfl rfl rfl rfl) rfl rfl rfl rfl rfl rfl ?_
        refine D.q 8 rfl rfl rfl rfl rfl rfl ?_
        refine D.y 9 (Yl.ldb 0 rfl rfl rfl rfl) rfl rfl rfl rfl rfl rfl ?_
        refine D.q 12 rfl rfl rfl rfl rfl rfl ?_
        refine D.y 13 (Yl.ldb 0 rfl rfl rfl rfl) rfl rfl rfl rfl rfl rfl ?_
        obtain ⟨r178, h179, H180⟩ := bnd H95
        refine D.one rfl rfl rfl (Dp.a [] [] (Ac.call (c_ref01_Text h179) rfl rfl rfl rfl) rfl rfl rfl rfl rfl rfl ?_)
        rintro ⟨⟩
        obtain ⟨r181, h182, H183⟩ := bnd H180
        refine D.one rfl rfl rfl (Dp.a [] [] (Ac.call (c_ref01_Num h182) rfl rfl rfl rfl) rfl rfl rfl rfl rfl rfl ?_)
        rintro ⟨⟩
        obtain ⟨_, h184, H185⟩ := bnd H183
        refine D.y 7 (Yl.sa h184 rfl rfl rfl) rfl rfl rfl rfl rfl rfl ?_
        obtain ⟨r186, h187, H188⟩ := bnd H185
        refine D.one rfl rfl rfl (Dp.a [] [] (Ac.call (c_ref01_Num h187) rfl rfl rfl rfl) rfl rfl rfl rfl rfl rfl ?_)
        rintro ⟨⟩
        obtain ⟨_, h189, H190⟩ := bnd H188
        refine D.y 11 (Yl.sa h189 rfl rfl rfl) rfl rfl rfl rfl rfl rfl ?_
        obtain ⟨r191, h192, H193⟩ := bnd H190
        refine D.one rfl rfl rfl (Dp.a [] [1] (Ac.call (c_ref12_Pack a_0_1 c_0_1 h192) rfl rfl rfl rfl) rfl rfl rfl rfl rfl rfl ?_)
        rintro ⟨⟩
        obtain ⟨_, h194, H195⟩ := bnd H193
        refine D.y 15 (Yl.sa h194 rfl rfl rfl) rfl rfl rfl rfl rfl rfl ?_
        obtain ⟨_, h196, H197⟩ := bnd H195
        refine D.y 16 (Yl.sa h196 rfl rfl rfl) rfl rfl rfl rfl rfl rfl ?_
        refine D.q 17 rfl rfl rfl rfl rfl rfl ?_
        refine D.nil rfl rfl ?_
        refine E.then ?_
        refine T.seq ?_
        refine T.seq ?_
        refine T.region ?_
        refine L.q 1 rfl ?_
        refine L.y (Yl.ldb 0 rfl rfl rfl rfl) rfl rfl rfl ?_
        refine L.q 2 rfl ?_
        refine L.nil ?_
        refine E.then ?_
        obtain ⟨e308, H309, H310⟩ := bnd H197
        refine T.join (η := Unit × Unit) (fun h => True) (fun h => [(3, .string e308)]) (fun h => [Ch.box g1 32 [.int .i64 s_.k, .int .i64 s_.w, .int .i64 s_.h, .int .i64 s_.x, .int .i64 s_.y, .string s_.title, .slice a_0_0 s_.rows.length c_0_0, .int .i64 s_.len, .int .i64 s_.chain, .slice a_0_1 s_.begun.length c_0_1]]) (fun h => [Im.sl tyRef09Row a_0_0 c_0_0 s_.rows, Im.sl tyRef09Glyph a_0_1 c_0_1 s_.begun]) ?_ ?_
        · refine T.block ?_
          refine T.lp (η := Unit) (fun s272 h => [(3, .string s272.1), (54, .slice a_0_0 s_.rows.length c_0_0), (55, .int .i64 (s_.rows.length : Int)), (56, .int .i64 s272.2)]) (fun s272 h => [Ch.box g1 32 [.int .i64 s_.k, .int .i64 s_.w, .int .i64 s_.h, .int .i64 s_.x, .int .i64 s_.y, .string s_.title, .slice a_0_0 s_.rows.length c_0_0, .int .i64 s_.len, .int .i64 s_.chain, .slice a_0_1 s_.begun.length c_0_1]]) (fun s272 h => [Im.sl tyRef09Row a_0_0 c_0_0 s_.rows, Im.sl tyRef09Glyph a_0_1 c_0_1 s_.begun]) () [0] [0, 1] H309 ⟨rfl, rfl, rfl, rfl, trivial⟩ rfl rfl ?_
          rintro k s272 ⟨⟩ z312 H311 hag313 hbr314
          refine T.seq ?_
          refine T.region ?_
          refine L.q 1 rfl ?_
          refine L.nil ?_
          refine E.then ?_
          refine T.seq ?_
          refine T.bif rfl H311 (fun hc H316 => ?_) (fun hc H316 => ?_)
          · refine T.skip ?_
            refine E.then ?_
            refine T.seq ?_
            refine T.block ?_
            refine T.seq ?_
            refine T.region ?_
            obtain ⟨x333, h334, H335⟩ := bnd H316
            refine L.addr 0 rfl (idx_lt h334) fun b336 o337 e338 => ?_
            obtain rfl : a_0_0 = some ⟨b336, o337, none⟩ := e338
            refine L.y (Yl.ia h334 rfl rfl rfl rfl rfl rfl) rfl rfl rfl ?_
            refine L.el 0 rfl (idx_some h334).2 ?_
            rintro ⟨a339, c340⟩
            refine L.y (Yl.ldc 0 0 rfl rfl rfl rfl) rfl rfl rfl ?_
            refine L.a [] [] (Ac.alloc rfl rfl) rfl rfl rfl rfl rfl ?_
            intro g343
            refine L.a [0] [] (Ac.stb rfl rfl rfl rfl rfl rfl) rfl rfl rfl rfl rfl ?_
            intro _
            refine L.nil ?_
            refine E.then ?_
            refine T.region ?_
            refine L.q 1 rfl ?_
            refine L.y (Yl.ldb 0 rfl rfl rfl rfl) rfl rfl rfl ?_
            obtain ⟨r344, h345, H346⟩ := bnd H335
            refine L.a [] [1] (Ac.call (c_ref16_PackRow a339 c340 h345) rfl rfl rfl rfl) rfl rfl rfl rfl rfl ?_
            rintro ⟨⟩
            obtain ⟨_, h347, H348⟩ := bnd H346
            refine L.y (Yl.sa h347 rfl rfl rfl) rfl rfl rfl ?_
            refine L.q 1 rfl ?_
            refine L.nil ?_
            refine E.block ?_
            refine E.then ?_
            refine T.region ?_
            refine L.q 2 rfl ?_
            refine L.nil ?_
            have hr := Option.some.inj H348
            subst z312
            exact E.give (_, ()) [1] [2, 3] (hag313 _ rfl) ⟨rfl, rfl, rfl, rfl, trivial⟩ rfl rfl
          · refine T.exit ?_
            refine E.then_exit' ?_
            refine E.then_exit' ?_
            refine E.block_here ?_
            have hr := Option.some.inj H316
            subst z312
            have hb := hbr314 _ rfl
            subst e308
            exact E.give ((), ()) [0] [0, 1] trivial ⟨rfl, trivial⟩ rfl rfl
        · rintro ⟨_, ⟨⟩⟩ _
          refine T.seq ?_
          refine T.region ?_
          refine L.q 2 rfl ?_
          refine L.nil ?_
          refine E.then ?_
          refine T.ret ?_
          have hr := Option.some.inj H310
          subst r
          exact E.ret () [] [] (.tmp rfl .nil) rfl rfl rfl

end Go.Tw.X

set_option maxHeartbeats 2000000
set_option linter.unusedVariables false
set_option linter.unusedSimpArgs false
set_option maxRecDepth 10000
namespace Go.Tw.X
open Go Go.Tw
theorem c_law17_DeltaSteps {a : SnapSnap} {b : SnapSnap} {c : SnapSnap} (a_0_0 : Option Addr) (c_0_0 : Nat) (a_0_1 : Option Addr) (c_0_1 : Nat) (a_1_0 : Option Addr) (c_1_0 : Nat) (a_1_1 : Option Addr) (c_1_1 : Nat) (a_2_0 : Option Addr) (c_2_0 : Nat) (a_2_1 : Option Addr) (c_2_1 : Nat) {r : Bool} (H : p_law17_DeltaSteps a b c = some r) : CT G 6 [.agg #[.int .i64 a.k, .int .i64 a.w, .int .i64 a.h, .int .i64 a.x, .int .i64 a.y, .string a.title, .slice a_0_0 a.rows.length c_0_0, .int .i64 a.len, .int .i64 a.chain, .slice a_0_1 a.begun.length c_0_1], .agg #[.int .i64 b.k, .int .i64 b.w, .int .i64 b.h, .int .i64 b.x, .int .i64 b.y, .string b.title, .slice a_1_0 b.rows.length c_1_0, .int .i64 b.len, .int .i64 b.chain, .slice a_1_1 b.begun.length c_1_1], .agg #[.int .i64 c.k, .int .i64 c.w, .int .i64 c.h, .int .i64 c.x, .int .i64 c.y, .string c.title, .slice a_2_0 c.rows.length c_2_0, .int .i64 c.len, .int .i64 c.chain, .slice a_2_1 c.begun.length c_2_1]] [] [Im.sl tyRowRow a_0_0 c_0_0 a.rows, Im.sl tyRowGlyph a_0_1 c_0_1 a.begun, Im.sl tyRowRow a_1_0 c_1_0 b.rows, Im.sl tyRowGlyph a_1_1 c_1_1 b.begun, Im.sl tyRowRow a_2_0 c_2_0 c.rows, Im.sl tyRowGlyph a_2_1 c_2_1 c.begun, Im.sl (Ty.int .u32) (some ⟨0, 0, none⟩) 16 t_sum_half] (fun h : Unit => .bool r) (fun h => []) (fun h => []) := by
  delta p_law17_DeltaSteps at H
  refine CT.of Go.Proofs.Tryd.func6 (by kernel_rfl) rfl rfl rfl fun K => ?_
  refine T.seq ?_
  refine T.region ?_
  refine L.a [] [] (Ac.box rfl rfl) rfl rfl rfl rfl rfl ?_
  intro g1
  refine L.a [] [] (Ac.box rfl rfl) rfl rfl rfl rfl rfl ?_
  intro g2
  refine L.a [] [] (Ac.box rfl rfl) rfl rfl rfl rfl rfl ?_
  intro g3
  refine L.q 1 rfl ?_
  refine L.nil ?_
  refine E.then ?_
  refine T.seq ?_
  refine T.seq ?_
  refine T.region ?_
  obtain ⟨r4, h5, H6⟩ := bnd H
  refine L.a [] [6] (Ac.call (c_law17_awake h5) rfl rfl rfl rfl) rfl rfl rfl rfl rfl ?_
  rintro ⟨⟩
  refine L.q 1 rfl ?_
  refine L.nil ?_
  refine E.then ?_
  refine T.bif rfl H6 (fun hc H8 => ?_) (fun hc H8 => ?_)
  · refine T.seq ?_
    refine T.region ?_
    refine L.q 1 rfl ?_
    refine L.nil ?_
    refine E.then ?_
    refine T.ret ?_
    refine E.then_ret ?_
    have hr := Option.some.inj H8
    subst r
    exact E.ret () [] [] (.tmp rfl .nil) rfl rfl rfl
  · refine T.skip ?_
    refine E.then ?_
    refine T.seq ?_
    refine T.draw [] [0, 0, 0] mo (by rfl) rfl ?_
    refine D.q 0 rfl rfl rfl rfl rfl rfl ?_
    refine D.y 1 (Yl.ldb 2 rfl rfl rfl rfl) rfl rfl rfl rfl rfl rfl ?_
    refine D.y 3 (Yl.ldb 1 rfl rfl rfl rfl) rfl rfl rfl rfl rfl rfl ?_
    refine D.y 5 (Yl.ldb 0 rfl rfl rfl rfl) rfl rfl rfl rfl rfl rfl ?_
    obtain ⟨r102, h103, H104⟩ := bnd H8
    refine D.one rfl rfl rfl (Dp.a [] [0, 1] (Ac.call (c_law16_Cut a_0_0 c_0_0 a_0_1 c_0_1 h103) rfl rfl rfl rfl) rfl rfl rfl rfl rfl rfl ?_)
    rintro ⟨⟨a105, c106⟩, ⟨a107, c108⟩⟩
    obtain ⟨r111, h112, H113⟩ := bnd H104
    refine D.one rfl rfl rfl (Dp.a [] [4, 5] (Ac.call (c_law16_Cut a_1_0 c_1_0 a_1_1 c_1_1 h112) rfl rfl rfl rfl) rfl rfl rfl rfl rfl rfl ?_)
    rintro ⟨⟨a114, c115⟩, ⟨a116, c117⟩⟩
    obtain ⟨r120, h121, H122⟩ := bnd H113
    refine D.one rfl rfl rfl (Dp.a [] [8, 9] (Ac.call (c_law16_Cut a_2_0 c_2_0 a_2_1 c_2_1 h121) rfl rfl rfl rfl) rfl rfl rfl rfl rfl rfl ?_)
    rintro ⟨⟨a123, c124⟩, ⟨a125, c126⟩⟩
    refine D.know [Im.sl tyRowRow none 0 []] (fun A w _ _ f hf => by rw [List.mem_singleton.1 hf]; exact Im.sl_nil A w) ?_
    refine D.know [Im.sl tyRowGlyph none 0 []] (fun A w _ _ f hf => by rw [List.mem_singleton.1 hf]; exact Im.sl_nil A w) ?_
    refine D.one rfl rfl rfl (Dp.a [] [1, 0, 6, 7, 4, 5, 2, 3] (Ac.bs2 (ty := tySnapSnap) (xs := [(SnapSnap.mk 0 0 0 0 0 (ByteArray.mk #[]) ([] : List RowRow) 0 0 ([] : List RowGlyph)), r102, r111, r120]) (.cons ((none, 0), (none, 0)) [0, 1] rfl (.cons ((a105, c106), (a107, c108)) [2, 3] rfl (.cons ((a114, c115), (a116, c117)) [4, 5] rfl (.cons ((a123, c124), (a125, c126)) [6, 7] rfl .nil)))) rfl rfl rfl rfl rfl rfl rfl rfl) rfl rfl rfl rfl rfl rfl ?_)
    intro g131
    refine D.q 8 rfl rfl rfl rfl rfl rfl ?_
    refine D.nil rfl rfl ?_
    refine E.then ?_
    refine T.seq ?_
    refine T.region ?_
    refine L.a [] [] (Ac.alloc rfl rfl) rfl rfl rfl rfl rfl ?_
    intro g133
    refine L.nil ?_
    refine E.then ?_
    refine T.seq ?_
    refine T.seq ?_
    refine T.region ?_
    refine L.q 1 rfl ?_
    refine L.nil ?_
    refine E.then ?_
    obtain ⟨y2119, H2120, H2121⟩ := bnd H122
    refine T.join (η := SnapSnap × ((Option Addr × Nat) × (Option Addr × Nat))) (fun h => y2119 = .inl h.1) (fun h => (fun e2118 => (fun a2112 c2113 a2115 c2116 => []) h.2.1.1 h.2.1.2 h.2.2.1 h.2.2.2) h.1) (fun h => (fun e2118 => (fun a2112 c2113 a2115 c2116 => [Ch.box g133 25 [.int .i64 e2118.k, .int .i64 e2118.w, .int .i64 e2118.h, .int .i64 e2118.x, .int .i64 e2118.y, .string e2118.title, .slice a2112 e2118.rows.length c2113, .int .i64 e2118.len, .int .i64 e2118.chain, .slice a2115 e2118.begun.length c2116], Ch.box g3 25 [.int .i64 c.k, .int .i64 c.w, .int .i64 c.h, .int .i64 c.x, .int .i64 c.y, .string c.title, .slice a_2_0 c.rows.length c_2_0, .int .i64 c.len, .int .i64 c.chain, .slice a_2_1 c.begun.length c_2_1], Ch.box g2 25 [.int .i64 b.k, .int .i64 b.w, .int .i64 b.h, .int .i64 b.x, .int .i64 b.y, .string b.title, .slice a_1_0 b.rows.length c_1_0, .int .i64 b.len, .int .i64 b.chain, .slice a_1_1 b.begun.length c_1_1], Ch.box g1 25 [.int .i64 a.k, .int .i64 a.w, .int .i64 a.h, .int .i64 a.x, .int .i64 a.y, .string a.title, .slice a_0_0 a.rows.length c_0_0, .int .i64 a.len, .int .i64 a.chain, .slice a_0_1 a.begun.length c_0_1]]) h.2.1.1 h.2.1.2 h.2.2.1 h.2.2.2) h.1) (fun h => (fun e2118 => (fun a2112 c2113 a2115 c2116 => [Im.sl tyRowRow a2112 c2113 e2118.rows, Im.sl tyRowGlyph a2115 c2116 e2118.begun, Im.sl tyRowGlyph none 0 [], Im.sl tyRowRow none 0 [], Im.sl tyRowRow a123 c124 r120.rows, Im.sl tyRowGlyph a125 c126 r120.begun, Im.sl tyRowRow a114 c115 r111.rows, Im.sl tyRowGlyph a116 c117 r111.begun, Im.sl tyRowRow a105 c106 r102.rows, Im.sl tyRowGlyph a107 c108 r102.begun, Im.sl tyRowRow a_0_0 c_0_0 a.rows, Im.sl tyRowGlyph a_0_1 c_0_1 a.begun, Im.sl tyRowRow a_1_0 c_1_0 b.rows, Im.sl tyRowGlyph a_1_1 c_1_1 b.begun, Im.sl tyRowRow a_2_0 c_2_0 c.rows, Im.sl tyRowGlyph a_2_1 c_2_1 c.begun, Im.sl (Ty.int .u32) (some ⟨0, 0, none⟩) 16 t_sum_half]) h.2.1.1 h.2.1.2 h.2.2.1 h.2.2.2) h.1) ?_ ?_
    · refine T.block ?_
      refine T.know [Im.sl tyRowRow none 0 []] (fun A w _ _ f hf => by rw [List.mem_singleton.1 hf]; exact Im.sl_nil A w) ?_
      refine T.know [Im.sl tyRowGlyph none 0 []] (fun A w _ _ f hf => by rw [List.mem_singleton.1 hf]; exact Im.sl_nil A w) ?_
      refine T.lp (η := (Option Addr × Nat) × (Option Addr × Nat)) (fun s1470 h => (fun a1463 c1464 a1466 c1467 => [(7, .slice (some ⟨g131, 0, none⟩) ([(SnapSnap.mk 0 0 0 0 0 (ByteArray.mk #[]) ([] : List RowRow) 0 0 ([] : List RowGlyph)), r102, r111, r120]).length 4), (8, .pointer (some ⟨g133, 0, none⟩)), (9, .int .i64 s1470.2)]) h.1.1 h.1.2 h.2.1 h.2.2) (fun s1470 h => (fun a1463 c1464 a1466 c1467 => [Ch.box g133 25 [.int .i64 s1470.1.k, .int .i64 s1470.1.w, .int .i64 s1470.1.h, .int .i64 s1470.1.x, .int .i64 s1470.1.y, .string s1470.1.title, .slice a1463 s1470.1.rows.length c1464, .int .i64 s1470.1.len, .int .i64 s1470.1.chain, .slice a1466 s1470.1.begun.length c1467], Ch.box g3 25 [.int .i64 c.k, .int .i64 c.w, .int .i64 c.h, .int .i64 c.x, .int .i64 c.y, .string c.title, .slice a_2_0 c.rows.length c_2_0, .int .i64 c.len, .int .i64 c.chain, .slice a_2_1 c.begun.length c_2_1], Ch.box g2 25 [.int .i64 b.k, .int .i64 b.w, .int .i64 b.h, .int .i64 b.x, .int .i64 b.y, .string b.title, .slice a_1_0 b.rows.length c_1_0, .int .i64 b.len, .int .i64 b.chain, .slice a_1_1 b.begun.length c_1_1], Ch.box g1 25 [.int .i64 a.k, .int .i64 a.w, .int .i64 a.h, .int .i64 a.x, .int .i64 a.y, .string a.title, .slice a_0_0 a.rows.length c_0_0, .int .i64 a.len, .int .i64 a.chain, .slice a_0_1 a.begun.length c_0_1], Ch.arr tySnapSnap 25 (some ⟨g131, 0, none⟩) 4 ([(SnapSnap.mk 0 0 0 0 0 (ByteArray.mk #[]) ([] : List RowRow) 0 0 ([] : List RowGlyph)), r102, r111, r120])]) h.1.1 h.1.2 h.2.1 h.2.2) (fun s1470 h => (fun a1463 c1464 a1466 c1467 => [Im.sl tyRowRow a1463 c1464 s1470.1.rows, Im.sl tyRowGlyph a1466 c1467 s1470.1.begun, Im.sl tyRowGlyph none 0 [], Im.sl tyRowRow none 0 [], Im.sl tyRowRow a123 c124 r120.rows, Im.sl tyRowGlyph a125 c126 r120.begun, Im.sl tyRowRow a114 c115 r111.rows, Im.sl tyRowGlyph a116 c117 r111.begun, Im.sl tyRowRow a105 c106 r102.rows, Im.sl tyRowGlyph a107 c108 r102.begun, Im.sl tyRowRow a_0_0 c_0_0 a.rows, Im.sl tyRowGlyph a_0_1 c_0_1 a.begun, Im.sl tyRowRow a_1_0 c_1_0 b.rows, Im.sl tyRowGlyph a_1_1 c_1_1 b.begun, Im.sl tyRowRow a_2_0 c_2_0 c.rows, Im.sl tyRowGlyph a_2_1 c_2_1 c.begun, Im.sl (Ty.int .u32) (some ⟨0, 0, none⟩) 16 t_sum_half]) h.1.1 h.1.2 h.2.1 h.2.2) ((none, 0), (none, 0)) [0, 0, 0, 0, 0] [1, 0, 2, 3, 4, 5, 6, 7, 8, 9, 10, 11, 12, 13, 14, 15, 16] H2120 ⟨rfl, rfl, rfl, trivial⟩ rfl rfl ?_
      rintro k s1470 ⟨⟨a1463, c1464⟩, ⟨a1466, c1467⟩⟩ z2123 H2122 hag2124 hbr2125
      refine T.seq ?_
      refine T.seq ?_
      refine T.region ?_
      refine L.q 4 rfl ?_
      refine L.nil ?_
      refine E.then ?_
      refine T.bif rfl H2122 (fun hc H2127 => ?_) (fun hc H2127 => ?_)
      · refine T.skip ?_
        refine E.then ?_
        refine T.seq ?_
        refine T.block ?_
        refine T.seq ?_
        refine T.seq ?_
        refine T.region ?_
        refine L.q 2 rfl ?_
        obtain ⟨x2447, h2448, H2449⟩ := bnd H2127
        refine L.y (Yl.ia h2448 rfl rfl rfl rfl rfl rfl) rfl rfl rfl ?_
        refine L.a [4] [] (Ac.lo s1470.2.toNat 0 (v := (fun h : (Option Addr × Nat) × (Option Addr × Nat) => (fun a2450 c2451 a2452 c2453 => .agg #[.int .i64 x2447.k, .int .i64 x2447.w, .int .i64 x2447.h, .int .i64 x2447.x, .int .i64 x2447.y, .string x2447.title, .slice a2450 x2447.rows.length c2451, .int .i64 x2447.len, .int .i64 x2447.chain, .slice a2452 x2447.begun.length c2453]) h.1.1 h.1.2 h.2.1 h.2.2)) (idx_some h2448).2 rfl rfl rfl (fun _ => rfl)) rfl rfl rfl rfl rfl ?_
        rintro ⟨⟨a2450, c2451⟩, ⟨a2452, c2453⟩⟩
        obtain ⟨r2456, h2457, H2458⟩ := bnd H2449
        refine L.a [] [0, 1] (Ac.call (c_law16_Told a2450 c2451 a2452 c2453 h2457) rfl rfl rfl rfl) rfl rfl rfl rfl rfl ?_
        rintro ⟨⟨a2459, c2460⟩, ⟨a2461, c2462⟩⟩
        obtain ⟨r2465, h2466, H2467⟩ := bnd H2458
        refine L.a [] [0, 1] (Ac.call (c_ref16_Pack a2459 c2460 a2461 c2462 h2466) rfl rfl rfl rfl) rfl rfl rfl rfl rfl ?_
        rintro ⟨⟩
        refine L.q 1 rfl ?_
        refine L.nil ?_
        refine E.then ?_
        refine T.bif rfl H2467 (fun hc H2483 => ?_) (fun hc H2483 => ?_)
        · refine T.seq ?_
          refine T.region ?_
          refine L.q 3 rfl ?_
          obtain ⟨x2484, h2485, H2486⟩ := bnd H2483
          refine L.y (Yl.ia h2485 rfl rfl rfl rfl rfl rfl) rfl rfl rfl ?_
          refine L.a [0] [] (Ac.lo s1470.2.toNat 0 (v := (fun h : (Option Addr × Nat) × (Option Addr × Nat) => (fun a2487 c2488 a2489 c2490 => .agg #[.int .i64 x2484.k, .int .i64 x2484.w, .int .i64 x2484.h, .int .i64 x2484.x, .int .i64 x2484.y, .string x2484.title, .slice a2487 x2484.rows.length c2488, .int .i64 x2484.len, .int .i64 x2484.chain, .slice a2489 x2484.begun.length c2490]) h.1.1 h.1.2 h.2.1 h.2.2)) (idx_some h2485).2 rfl rfl rfl (fun _ => rfl)) rfl rfl rfl rfl rfl ?_
          rintro ⟨⟨a2487, c2488⟩, ⟨a2489, c2490⟩⟩
          refine L.know [Im.sl tyRowRow none 0 []] (fun A w _ _ f hf => by rw [List.mem_singleton.1 hf]; exact Im.sl_nil A w) ?_
          refine L.know [Im.sl tyRowGlyph none 0 []] (fun A w _ _ f hf => by rw [List.mem_singleton.1 hf]; exact Im.sl_nil A w) ?_
          obtain ⟨r2495, h2496, H2497⟩ := bnd H2486
          refine L.a [] [1, 0, 2, 3, 24] (Ac.call (c_delta_Diff none 0 none 0 a2487 c2488 a2489 c2490 h2496) rfl rfl rfl rfl) rfl rfl rfl rfl rfl ?_
          rintro ⟨⟩
          refine L.q 2 rfl ?_
          refine L.nil ?_
          refine E.then ?_
          refine T.ret ?_
          refine E.then_ret ?_
          refine E.block_ret ?_
          refine E.then_ret ?_
          refine E.then_ret ?_
          refine E.block_ret ?_
          obtain ⟨w2498, hz, H2499⟩ := inrr_some H2497
          subst z2123
          have hb := hbr2125 _ rfl
          subst y2119
          have hw : w2498 = r := Option.some.inj H2121
          subst w2498
          refine E.then_ret ?_
          have hr := Option.some.inj H2499
          subst r
          exact E.ret () [] [] (.tmp rfl .nil) rfl rfl rfl
        · refine T.skip ?_
          refine E.then ?_
          refine T.seq ?_
          refine T.draw [12] [1, 1, 1, 1] mo (by rfl) rfl ?_
          refine D.y 0 (Yl.ldb 0 rfl rfl rfl rfl) rfl rfl rfl rfl rfl rfl ?_
          refine D.y 1 (Yl.ldb 0 rfl rfl rfl rfl) rfl rfl rfl rfl rfl rfl ?_
          refine D.q 2 rfl rfl rfl rfl rfl rfl ?_
          refine D.q 3 rfl rfl rfl rfl rfl rfl ?_
          obtain ⟨x2566, h2567, H2568⟩ := bnd H2483
          refine D.y 4 (Yl.ia h2567 rfl rfl rfl rfl rfl rfl) rfl rfl rfl rfl rfl rfl ?_
          refine DF.of rfl ?_
          refine DF.add _ (FSp.ac 11 [] (Ac.alloc rfl rfl) rfl rfl rfl rfl rfl) rfl ?_
          refine DF.step 5 rfl rfl rfl rfl rfl ?_
          refine DFp.a [0] [] (Ac.lo s1470.2.toNat 0 (v := (fun h : (Option Addr × Nat) × (Option Addr × Nat) => (fun a2570 c2571 a2572 c2573 => .agg #[.int .i64 x2566.k, .int .i64 x2566.w, .int .i64 x2566.h, .int .i64 x2566.x, .int .i64 x2566.y, .string x2566.title, .slice a2570 x2566.rows.length c2571, .int .i64 x2566.len, .int .i64 x2566.chain, .slice a2572 x2566.begun.length c2573]) h.1.1 h.1.2 h.2.1 h.2.2)) (idx_some h2567).2 rfl rfl rfl (fun _ => rfl)) rfl rfl rfl rfl rfl rfl rfl rfl ?_
          rintro ⟨⟨a2570, c2571⟩, ⟨a2572, c2573⟩⟩
          obtain ⟨r2576, h2577, H2578⟩ := bnd H2568
          refine DF.add _ (FSp.ac 6 [6, 7, 0, 1, 22] (Ac.call (c_delta_Diff a1463 c1464 a1466 c1467 a2570 c2571 a2572 c2573 h2577) rfl rfl rfl rfl) rfl rfl rfl rfl rfl) rfl ?_
          refine DF.step 7 rfl rfl rfl rfl rfl ?_
          refine DFp.use 0 rfl rfl rfl ?_
          rintro ⟨⟩
          obtain ⟨r2579, h2580, H2581⟩ := bnd H2578
          refine DFp.a [] [6, 7, 22] (Ac.call (c_delta_Apply a1463 c1464 a1466 c1467 h2580) rfl rfl rfl rfl) rfl rfl rfl rfl rfl rfl rfl rfl ?_
          rintro ⟨⟨a2582, c2583⟩, ⟨a2584, c2585⟩⟩
          refine DF.add _ (FSp.q 8 rfl rfl rfl rfl rfl) rfl ?_
          refine DF.add _ (FSp.dep 0 rfl rfl fun _ => FSp.q 9 rfl rfl rfl rfl rfl) rfl ?_
          refine DF.add _ (FSp.dep 1 rfl rfl fun _ => FSp.q 10 rfl rfl rfl rfl rfl) rfl ?_
          refine DF.step 12 rfl rfl rfl rfl rfl ?_
          refine DFp.use 1 rfl rfl rfl ?_
          intro _
          refine DFp.use 1 rfl rfl rfl ?_
          intro _
          refine DFp.use 1 rfl rfl rfl ?_
          intro g2569
          refine DFp.alf [4] [] (Ac.stb rfl rfl rfl rfl rfl rfl) rfl (fo_cons (FSp.q 10 rfl rfl rfl rfl rfl) (fo_nil)) rfl rfl rfl rfl rfl rfl rfl rfl ?_
          intro _
          refine DF.add _ (FSp.dep 0 rfl rfl fun _ => FSp.q 13 rfl rfl rfl rfl rfl) rfl ?_
          refine DF.fin rfl rfl rfl rfl rfl ?_
          refine DFe.use ?_
          intro _
          refine DFe.use ?_
          intro _
          refine DFe.nil ?_
          refine E.then ?_
          refine T.seq ?_
          refine T.seq ?_
          obtain ⟨e2705, H2706, H2707⟩ := bnd H2581
          refine T.join (η := Unit × Unit) (fun h => True) (fun h => [(7, .slice (some ⟨g131, 0, none⟩) ([(SnapSnap.mk 0 0 0 0 0 (ByteArray.mk #[]) ([] : List RowRow) 0 0 ([] : List RowGlyph)), r102, r111, r120]).length 4), (8, .pointer (some ⟨g133, 0, none⟩)), (9, .int .i64 s1470.2), (10, .pointer (some ⟨g2569, 0, none⟩)), (73, .bool e2705)]) (fun h => [Ch.box g2569 25 [.int .i64 r2579.1.k, .int .i64 r2579.1.w, .int .i64 r2579.1.h, .int .i64 r2579.1.x, .int .i64 r2579.1.y, .string r2579.1.title, .slice a2582 r2579.1.rows.length c2583, .int .i64 r2579.1.len, .int .i64 r2579.1.chain, .slice a2584 r2579.1.begun.length c2585], Ch.box g133 25 [.int .i64 s1470.1.k, .int .i64 s1470.1.w, .int .i64 s1470.1.h, .int .i64 s1470.1.x, .int .i64 s1470.1.y, .string s1470.1.title, .slice a1463 s1470.1.rows.length c1464, .int .i64 s1470.1.len, .int .i64 s1470.1.chain, .slice a1466 s1470.1.begun.length c1467], Ch.box g3 25 [.int .i64 c.k, .int .i64 c.w, .int .i64 c.h, .int .i64 c.x, .int .i64 c.y, .string c.title, .slice a_2_0 c.rows.length c_2_0, .int .i64 c.len, .int .i64 c.chain, .slice a_2_1 c.begun.length c_2_1], Ch.box g2 25 [.int .i64 b.k, .int .i64 b.w, .int .i64 b.h, .int .i64 b.x, .int .i64 b.y, .string b.title, .slice a_1_0 b.rows.length c_1_0, .int .i64 b.len, .int .i64 b.chain, .slice a_1_1 b.begun.length c_1_1], Ch.box g1 25 [.int .i64 a.k, .int .i64 a.w, .int .i64 a.h, .int .i64 a.x, .int .i64 a.y, .string a.title, .slice a_0_0 a.rows.length c_0_0, .int .i64 a.len, .int .i64 a.chain, .slice a_0_1 a.begun.length c_0_1], Ch.arr tySnapSnap 25 (some ⟨g131, 0, none⟩) 4 ([(SnapSnap.mk 0 0 0 0 0 (ByteArray.mk #[]) ([] : List RowRow) 0 0 ([] : List RowGlyph)), r102, r111, r120])]) (fun h => [Im.sl tyRowRow a2582 c2583 r2579.1.rows, Im.sl tyRowGlyph a2584 c2585 r2579.1.begun, Im.sl tyRowRow a2570 c2571 x2566.rows, Im.sl tyRowGlyph a2572 c2573 x2566.begun, Im.sl tyRef09Row a2459 c2460 r2456.rows, Im.sl tyRef09Glyph a2461 c2462 r2456.begun, Im.sl tyRowRow a2450 c2451 x2447.rows, Im.sl tyRowGlyph a2452 c2453 x2447.begun, Im.sl tyRowRow a1463 c1464 s1470.1.rows, Im.sl tyRowGlyph a1466 c1467 s1470.1.begun, Im.sl tyRowGlyph none 0 [], Im.sl tyRowRow none 0 [], Im.sl tyRowRow a123 c124 r120.rows, Im.sl tyRowGlyph a125 c126 r120.begun, Im.sl tyRowRow a114 c115 r111.rows, Im.sl tyRowGlyph a116 c117 r111.begun, Im.sl tyRowRow a105 c106 r102.rows, Im.sl tyRowGlyph a107 c108 r102.begun, Im.sl tyRowRow a_0_0 c_0_0 a.rows, Im.sl tyRowGlyph a_0_1 c_0_1 a.begun, Im.sl tyRowRow a_1_0 c_1_0 b.rows, Im.sl tyRowGlyph a_1_1 c_1_1 b.begun, Im.sl tyRowRow a_2_0 c_2_0 c.rows, Im.sl tyRowGlyph a_2_1 c_2_1 c.begun, Im.sl (Ty.int .u32) (some ⟨0, 0, none⟩) 16 t_sum_half]) ?_ ?_
          · refine T.draw [] [0, 0, 0, 0, 0] mo (by rfl) rfl ?_
            refine D.q 0 rfl rfl rfl rfl rfl rfl ?_
            refine D.q 1 rfl rfl rfl rfl rfl rfl ?_
            refine D.q 2 rfl rfl rfl rfl rfl rfl ?_
            refine D.cs 55 H2706 rfl (fun hc H2737 => ?_) (fun hc H2737 => ?_)
            · refine D.sk 3 rfl rfl rfl rfl rfl ?_
              refine D.sk 4 rfl rfl rfl rfl rfl ?_
              refine D.sk 5 rfl rfl rfl rfl rfl ?_
              refine D.sk 6 rfl rfl rfl rfl rfl ?_
              refine D.sk 7 rfl rfl rfl rfl rfl ?_
              refine D.sk 8 rfl rfl rfl rfl rfl ?_
              refine D.sk 9 rfl rfl rfl rfl rfl ?_
              refine D.q 10 rfl rfl rfl rfl rfl rfl ?_
              refine D.q 11 rfl rfl rfl rfl rfl rfl ?_
              refine D.sk 12 rfl rfl rfl rfl rfl ?_
              refine D.sk 13 rfl rfl rfl rfl rfl ?_
              refine D.sk 14 rfl rfl rfl rfl rfl ?_
              refine D.sk 15 rfl rfl rfl rfl rfl ?_
              refine D.sk 16 rfl rfl rfl rfl rfl ?_
              refine D.sk 17 rfl rfl rfl rfl rfl ?_
              refine D.sk 18 rfl rfl rfl rfl rfl ?_
              refine D.sk 19 rfl rfl rfl rfl rfl ?_
              refine D.q 20 rfl rfl rfl rfl rfl rfl ?_
              refine D.nil rfl rfl ?_
              have hr := Option.some.inj H2737
              subst e2705
              exact E.give ((), ()) [0, 0, 0, 0, 0, 0] [0, 1, 2, 3, 4, 5, 6, 7, 8, 9, 10, 11, 12, 13, 14, 15, 16, 17, 18, 19, 20, 21, 22, 23, 24] trivial ⟨rfl, rfl, rfl, rfl, rfl, trivial⟩ rfl rfl
            · refine D.y 3 (Yl.ldb 0 rfl rfl rfl rfl) rfl rfl rfl rfl rfl rfl ?_
              refine D.q 4 rfl rfl rfl rfl rfl rfl ?_
              refine D.q 5 rfl rfl rfl rfl rfl rfl ?_
              obtain ⟨x2738, h2739, H2740⟩ := bnd H2737
              refine D.y 6 (Yl.ia h2739 rfl rfl rfl rfl rfl rfl) rfl rfl rfl rfl rfl rfl ?_
              refine D.one rfl rfl rfl (Dp.a [0] [] (Ac.lo s1470.2.toNat 0 (v := (fun h : (Option Addr × Nat) × (Option Addr × Nat) => (fun a2741 c2742 a2743 c2744 => .agg #[.int .i64 x2738.k, .int .i64 x2738.w, .int .i64 x2738.h, .int .i64 x2738.x, .int .i64 x2738.y, .string x2738.title, .slice a2741 x2738.rows.length c2742, .int .i64 x2738.len, .int .i64 x2738.chain, .slice a2743 x2738.begun.length c2744]) h.1.1 h.1.2 h.2.1 h.2.2)) (idx_some h2739).2 rfl rfl rfl (fun _ => rfl)) rfl rfl rfl rfl rfl rfl ?_)
              rintro ⟨⟨a2741, c2742⟩, ⟨a2743, c2744⟩⟩
              obtain ⟨r2747, h2748, H2749⟩ := bnd H2740
              refine D.one rfl rfl rfl (Dp.a [] [2, 3, 0, 1] (Ac.call (c_snap_Snap_Same a2582 c2583 a2584 c2585 a2741 c2742 a2743 c2744 h2748) rfl rfl rfl rfl) rfl rfl rfl rfl rfl rfl ?_)
              rintro ⟨⟩
              refine D.q 9 rfl rfl rfl rfl rfl rfl ?_
              refine D.q 10 rfl rfl rfl rfl rfl rfl ?_
              refine D.q 11 rfl rfl rfl rfl rfl rfl ?_
              refine D.cs 64 H2749 rfl (fun hc H2750 => ?_) (fun hc H2750 => ?_)
              · refine D.sk 12 rfl rfl rfl rfl rfl ?_
                refine D.sk 13 rfl rfl rfl rfl rfl ?_
                refine D.sk 14 rfl rfl rfl rfl rfl ?_
                refine D.sk 15 rfl rfl rfl rfl rfl ?_
                refine D.sk 16 rfl rfl rfl rfl rfl ?_
                refine D.sk 17 rfl rfl rfl rfl rfl ?_
                refine D.sk 18 rfl rfl rfl rfl rfl ?_
                refine D.sk 19 rfl rfl rfl rfl rfl ?_
                refine D.q 20 rfl rfl rfl rfl rfl rfl ?_
                refine D.nil rfl rfl ?_
                have hr := Option.some.inj H2750
                subst e2705
                exact E.give ((), ()) [0, 0, 0, 0, 0, 0] [2, 3, 4, 5, 6, 7, 8, 9, 10, 11, 12, 13, 14, 15, 16, 17, 18, 19, 20, 21, 22, 23, 24, 25, 26] trivial ⟨rfl, rfl, rfl, rfl, rfl, trivial⟩ rfl rfl
              · refine D.y 12 (Yl.ldb 0 rfl rfl rfl rfl) rfl rfl rfl rfl rfl rfl ?_
                refine D.q 13 rfl rfl rfl rfl rfl rfl ?_
                refine D.q 14 rfl rfl rfl rfl rfl rfl ?_
                obtain ⟨x2751, h2752, H2753⟩ := bnd H2750
                refine D.y 15 (Yl.ia h2752 rfl rfl rfl rfl rfl rfl) rfl rfl rfl rfl rfl rfl ?_
                refine D.one rfl rfl rfl (Dp.a [0] [] (Ac.lo s1470.2.toNat 0 (v := (fun h : (Option Addr × Nat) × (Option Addr × Nat) => (fun a2754 c2755 a2756 c2757 => .agg #[.int .i64 x2751.k, .int .i64 x2751.w, .int .i64 x2751.h, .int .i64 x2751.x, .int .i64 x2751.y, .string x2751.title, .slice a2754 x2751.rows.length c2755, .int .i64 x2751.len, .int .i64 x2751.chain, .slice a2756 x2751.begun.length c2757]) h.1.1 h.1.2 h.2.1 h.2.2)) (idx_some h2752).2 rfl rfl rfl (fun _ => rfl)) rfl rfl rfl rfl rfl rfl ?_)
                rintro ⟨⟨a2754, c2755⟩, ⟨a2756, c2757⟩⟩
                obtain ⟨r2760, h2761, H2762⟩ := bnd H2753
                refine D.one rfl rfl rfl (Dp.a [] [4, 5, 0, 1] (Ac.call (c_delta_Changes a2582 c2583 a2584 c2585 a2754 c2755 a2756 c2757 h2761) rfl rfl rfl rfl) rfl rfl rfl rfl rfl rfl ?_)
                rintro ⟨a2763, c2764⟩
                refine D.q 18 rfl rfl rfl rfl rfl rfl ?_
                refine D.q 19 rfl rfl rfl rfl rfl rfl ?_
                refine D.q 20 rfl rfl rfl rfl rfl rfl ?_
                refine D.nil rfl rfl ?_
                have hr := Option.some.inj H2762
                subst e2705
                exact E.give ((), ()) [0, 0, 0, 0, 0, 1] [4, 5, 6, 7, 8, 9, 10, 11, 12, 13, 14, 15, 16, 17, 18, 19, 20, 21, 22, 23, 24, 25, 26, 27, 28] trivial ⟨rfl, rfl, rfl, rfl, rfl, trivial⟩ rfl rfl
          · rintro ⟨_, ⟨⟩⟩ _
            refine T.bif rfl H2707 (fun hc H2767 => ?_) (fun hc H2767 => ?_)
            · refine T.seq ?_
              refine T.region ?_
              refine L.q 1 rfl ?_
              refine L.nil ?_
              refine E.then ?_
              refine T.ret ?_
              refine E.then_ret ?_
              refine E.block_ret ?_
              refine E.then_ret ?_
              refine E.then_ret ?_
              refine E.block_ret ?_
              obtain ⟨w2768, hz, H2769⟩ := inrr_some H2767
              subst z2123
              have hb := hbr2125 _ rfl
              subst y2119
              have hw : w2768 = r := Option.some.inj H2121
              subst w2768
              refine E.then_ret ?_
              have hr := Option.some.inj H2769
              subst r
              exact E.ret () [] [] (.tmp rfl .nil) rfl rfl rfl
            · refine T.skip ?_
              refine E.then ?_
              refine T.region ?_
              refine L.y (Yl.ldb 0 rfl rfl rfl rfl) rfl rfl rfl ?_
              refine L.a [1] [] (Ac.stb rfl rfl rfl rfl rfl rfl) rfl rfl rfl rfl rfl ?_
              intro _
              refine L.nil ?_
              refine E.block ?_
              refine E.then ?_
              refine T.region ?_
              refine L.q 3 rfl ?_
              refine L.nil ?_
              have hr := Option.some.inj H2767
              subst z2123
              exact E.give (_, ((a2582, c2583), (a2584, c2585))) [0, 1, 1, 1, 1] [0, 1, 10, 11, 12, 13, 14, 15, 16, 17, 18, 19, 20, 21, 22, 23, 24] (hag2124 _ rfl) ⟨rfl, rfl, rfl, trivial⟩ rfl rfl
      · refine T.exit ?_
        refine E.then_exit' ?_
        refine E.then_exit' ?_
        refine E.block_here ?_
        have hr := Option.some.inj H2127
        subst z2123
        have hb := hbr2125 _ rfl
        subst y2119
        exact E.give (_, ((a1463, c1464), (a1466, c1467))) [0, 0, 0, 0] [0, 1, 2, 3, 4, 5, 6, 7, 8, 9, 10, 11, 12, 13, 14, 15, 16] rfl trivial rfl rfl
    · rintro ⟨e2118, ⟨⟨a2112, c2113⟩, ⟨a2115, c2116⟩⟩⟩ hy
      subst hy
      refine T.seq ?_
      refine T.region ?_
      refine L.q 1 rfl ?_
      refine L.nil ?_
      refine E.then ?_
      refine T.ret ?_
      have hr := Option.some.inj H2121
      subst r
      exact E.ret () [] [] (.tmp rfl .nil) rfl rfl rfl

end Go.Tw.X

set_option maxHeartbeats 2000000
set_option linter.unusedVariables false
set_option linter.unusedSimpArgs false
set_option maxRecDepth 10000
namespace Go.Tw.X
open Go Go.Tw
theorem opn_to {P : Program} {α β : Type} {t : TypeId} {ty : Ty α} {ty' : Ty β} {wf : α → Prop} {wf' : β → Prop} (h : Opn P t ty wf) (g : α → β) (gh : ty.Hid → ty'.Hid) (h1 : ∀ y hh, ty'.cs (g y) (gh hh) = ty.cs y hh) (h2 : ∀ y hh, ty'.im (g y) (gh hh) = ty.im y hh) (h3 : ∀ y, wf y → wf' (g y)) : Opn P t ty' wf' := Opn.to g gh h h1 h2 h3
theorem opn3 : Opn Go.Proofs.Tryd.prog 3 (Ty.int .i64) (inK .i64) := Opn.int (by kernel_rfl)
theorem opn9 : Opn Go.Proofs.Tryd.prog 9 Ty.str (fun s : ByteArray => s.size ≤ maxLen) := Opn.str (by kernel_rfl)
theorem opn21 : Opn Go.Proofs.Tryd.prog 21 (Ty.int .i32) (inK .i32) := Opn.int (by kernel_rfl)
theorem opn116 : Opn Go.Proofs.Tryd.prog 116 tyRowCell wfRowCell := opn_to (β := RowCell) (ty' := tyRowCell) (wf' := wfRowCell) (Opn.struct (fs := [(21, 0), (3, 1), (3, 2)]) (by kernel_rfl) (by kernel_rfl) (.cons opn21 (by kernel_rfl) (.cons opn3 (by kernel_rfl) (.cons opn3 (by kernel_rfl) .nil)))) (fun y => ⟨y.1, y.2.1, y.2.2.1⟩) (fun h => ()) (fun _ _ => rfl) (fun _ _ => rfl) (fun y h => h)
theorem opn55 : Opn Go.Proofs.Tryd.prog 55 (Ty.slice tyRowCell) (fun xs : List RowCell => ∀ x ∈ xs, wfRowCell x) := Opn.slice (by kernel_rfl) opn116 (by kernel_rfl) (by decide)
theorem opn4 : Opn Go.Proofs.Tryd.prog 4 Ty.bool (fun _ => True) := Opn.bool (by kernel_rfl)
theorem opn57 : Opn Go.Proofs.Tryd.prog 57 tyRowRow wfRowRow := opn_to (β := RowRow) (ty' := tyRowRow) (wf' := wfRowRow) (Opn.struct (fs := [(55, 0), (4, 1)]) (by kernel_rfl) (by kernel_rfl) (.cons opn55 (by kernel_rfl) (.cons opn4 (by kernel_rfl) .nil))) (fun y => ⟨y.1, y.2.1⟩) (fun h => h.1) (fun _ _ => rfl) (fun _ _ => rfl) (fun y h => h)
theorem opn22 : Opn Go.Proofs.Tryd.prog 22 (Ty.slice tyRowRow) (fun xs : List RowRow => ∀ x ∈ xs, wfRowRow x) := Opn.slice (by kernel_rfl) opn57 (by kernel_rfl) (by decide)
theorem opn112 : Opn Go.Proofs.Tryd.prog 112 tyRowGlyph wfRowGlyph := opn_to (β := RowGlyph) (ty' := tyRowGlyph) (wf' := wfRowGlyph) (Opn.struct (fs := [(21, 0), (3, 1)]) (by kernel_rfl) (by kernel_rfl) (.cons opn21 (by kernel_rfl) (.cons opn3 (by kernel_rfl) .nil))) (fun y => ⟨y.1, y.2.1⟩) (fun h => ()) (fun _ _ => rfl) (fun _ _ => rfl) (fun y h => h)
theorem opn23 : Opn Go.Proofs.Tryd.prog 23 (Ty.slice tyRowGlyph) (fun xs : List RowGlyph => ∀ x ∈ xs, wfRowGlyph x) := Opn.slice (by kernel_rfl) opn112 (by kernel_rfl) (by decide)
theorem opn25 : Opn Go.Proofs.Tryd.prog 25 tySnapSnap wfSnapSnap := opn_to (β := SnapSnap) (ty' := tySnapSnap) (wf' := wfSnapSnap) (Opn.struct (fs := [(3, 0), (3, 1), (3, 2), (3, 3), (3, 4), (9, 5), (22, 6), (3, 7), (3, 8), (23, 9)]) (by kernel_rfl) (by kernel_rfl) (.cons opn3 (by kernel_rfl) (.cons opn3 (by kernel_rfl) (.cons opn3 (by kernel_rfl) (.cons opn3 (by kernel_rfl) (.cons opn3 (by kernel_rfl) (.cons opn9 (by kernel_rfl) (.cons opn22 (by kernel_rfl) (.cons opn3 (by kernel_rfl) (.cons opn3 (by kernel_rfl) (.cons opn23 (by kernel_rfl) .nil))))))))))) (fun y => ⟨y.1, y.2.1, y.2.2.1, y.2.2.2.1, y.2.2.2.2.1, y.2.2.2.2.2.1, y.2.2.2.2.2.2.1, y.2.2.2.2.2.2.2.1, y.2.2.2.2.2.2.2.2.1, y.2.2.2.2.2.2.2.2.2.1⟩) (fun h => (h.2.2.2.2.2.2.1, h.2.2.2.2.2.2.2.2.2.1)) (fun _ _ => rfl) (fun _ _ => rfl) (fun y h => h)
end Go.Tw.X

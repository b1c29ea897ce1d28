import Derived.Test.YtpopkbmeefaicaaDoorWk1
import Derived.Test.YtpopkbmeefaicaaDoorFw2
set_option maxHeartbeats 2000000
set_option linter.unusedVariables false
set_option linter.unusedSimpArgs false
set_option maxRecDepth 10000
namespace Go.Tw.X
open Go Go.Tw
theorem c_gram_within {n_ : Int} {lo : Int} {hi : Int} {r : Bool} (H : p_gram_within n_ lo hi = some r) : CT G 54 [.int .i64 n_, .int .i64 lo, .int .i64 hi] [] [] (fun h : Unit => .bool r) (fun h => []) (fun h => []) := by
  delta p_gram_within at H
  refine CT.of Go.Proofs.Tryd.func54 (by kernel_rfl) rfl rfl rfl fun K => ?_
  refine T.seq (T.region ?_)
  refine L.q 1 rfl ?_
  refine L.nil (E.then (T.seq ?_))
  obtain ⟨e4, H5, H6⟩ := bnd H
  refine T.join (η := Unit × Unit) (fun h => True) (fun h => [(6, .bool e4)]) (fun h => []) (fun h => []) ?_ ?_
  · refine T.region ?_
    refine L.q 4 rfl ?_
    refine L.cs 10 H5 rfl (fun hc H7 => ?_) (fun hc H7 => ?_)
    · refine L.q 5 rfl ?_
      refine L.nil ?_
      have hr := Option.some.inj H7
      subst e4
      exact E.give ((), ()) [] [] trivial ⟨rfl, trivial⟩ rfl rfl
    refine L.q 5 rfl ?_
    refine L.nil ?_
    have hr := Option.some.inj H7
    subst e4
    exact E.give ((), ()) [] [] trivial ⟨rfl, trivial⟩ rfl rfl
  rintro ⟨_, ⟨⟩⟩ _
  refine T.ret ?_
  have hr := Option.some.inj H6
  subst r
  exact E.ret () [] [] (.tmp rfl .nil) rfl rfl rfl

theorem c_gram_Gram_Num {g : GramGram} {i : Int} (a_0_0 : Option Addr) (c_0_0 : Nat) {r : Int} (H : p_gram_Gram_Num g i = some r) : CT G 23 [.agg #[.int .i64 g.epoch, .int .i64 g.kind, .slice a_0_0 g.nums.length c_0_0, .string g.data], .int .i64 i] [] [Im.sl (Ty.int .i64) a_0_0 c_0_0 g.nums] (fun h : Unit => .int .i64 r) (fun h => []) (fun h => []) := by
  delta p_gram_Gram_Num at H
  refine CT.of Go.Proofs.Tryd.func23 (by kernel_rfl) rfl rfl rfl fun K => ?_
  refine T.seq (T.region ?_)
  refine L.a [] [] (Ac.box rfl rfl) rfl rfl rfl rfl rfl ?_
  intro g1
  refine L.q 1 rfl ?_
  refine L.nil (E.then (T.seq (T.seq (T.region ?_))))
  refine L.q 2 rfl ?_
  refine L.y (Yl.ldb 0 rfl rfl rfl rfl) rfl rfl rfl ?_
  refine L.q 2 rfl ?_
  obtain ⟨r2, h3, H4⟩ := bnd H
  refine L.a [] [] (Ac.call (c_gram_within h3) rfl rfl rfl rfl) rfl rfl rfl rfl rfl ?_
  rintro ⟨⟩
  refine L.q 1 rfl ?_
  refine L.nil (E.then ?_)
  refine T.bif rfl H4 (fun hc H6 => ?_) (fun hc H6 => ?_)
  · refine T.seq (T.region ?_)
    refine L.q 1 rfl ?_
    refine L.nil (E.then (T.ret (E.then_ret ?_)))
    have hr := Option.some.inj H6
    subst r
    exact E.ret () [] [] (.tmp rfl .nil) rfl rfl rfl
  refine T.skip (E.then (T.seq (T.region ?_)))
  refine L.q 1 rfl ?_
  refine L.y (Yl.ldb 0 rfl rfl rfl rfl) rfl rfl rfl ?_
  refine L.q 1 rfl ?_
  obtain ⟨x7, h8, H9⟩ := bnd H6
  refine L.addr 0 rfl (idx_lt h8) fun b10 o11 e12 => ?_
  obtain rfl : a_0_0 = some ⟨b10, o11, none⟩ := e12
  refine L.y (Yl.ia h8 rfl rfl rfl rfl rfl rfl) rfl rfl rfl ?_
  refine L.el 0 rfl (idx_some h8).2 ?_
  rintro _
  refine L.y (Yl.ldc 0 0 rfl rfl rfl rfl) rfl rfl rfl ?_
  refine L.q 1 rfl ?_
  refine L.nil (E.then (T.ret ?_))
  have hr := Option.some.inj H9
  subst r
  exact E.ret () [] [] (.tmp rfl .nil) rfl rfl rfl

theorem c_num_Of {s_ : ByteArray} {r : NumIn} (H : p_num_Of s_ = some r) : CT G 78 [.string s_] [] [] (fun h : Nat => .pointer (some ⟨h, 0, none⟩)) (fun h => [Ch.box h 176 [.string r.s, .int .i64 r.e]]) (fun h => []) := by
  delta p_num_Of at H
  refine CT.of Go.Proofs.Tryd.func78 (by kernel_rfl) rfl rfl rfl fun K => ?_
  refine T.seq (T.region ?_)
  refine L.q 1 rfl ?_
  refine L.nil (E.then (T.seq (T.region ?_)))
  refine L.q 2 rfl ?_
  refine L.a [] [] (Ac.box rfl rfl) rfl rfl rfl rfl rfl ?_
  intro g1
  refine L.q 1 rfl ?_
  refine L.nil (E.then (T.ret ?_))
  have hr := Option.some.inj H
  subst r
  exact E.ret g1 [0] [] (.tmp rfl .nil) rfl rfl rfl

theorem c_num_In_Fail {in_ : NumIn} {e : Int} (g_0 : Nat) {r : NumIn} (H : p_num_In_Fail in_ e = some r) : CT G 84 [.pointer (some ⟨g_0, 0, none⟩), .int .i64 e] [Ch.box g_0 176 [.string in_.s, .int .i64 in_.e]] [] (fun h : Unit => .tuple #[]) (fun h => [Ch.box g_0 176 [.string r.s, .int .i64 r.e]]) (fun h => []) := by
  delta p_num_In_Fail at H
  refine CT.of Go.Proofs.Tryd.func84 (by kernel_rfl) rfl rfl rfl fun K => ?_
  refine T.seq ?_
  obtain ⟨e4, H5, H6⟩ := bnd H
  refine T.join (η := Unit × Unit) (fun h => True) (fun h => [(0, .pointer (some ⟨g_0, 0, none⟩)), (1, .int .i64 e), (12, .bool e4)]) (fun h => [Ch.box g_0 176 [.string in_.s, .int .i64 in_.e]]) (fun h => []) ?_ ?_
  · refine T.region ?_
    refine L.q 3 rfl ?_
    refine L.y (Yl.ldb 0 rfl rfl rfl rfl) rfl rfl rfl ?_
    refine L.q 2 rfl ?_
    refine L.cs 9 H5 rfl (fun hc H7 => ?_) (fun hc H7 => ?_)
    · refine L.q 3 rfl ?_
      refine L.nil ?_
      have hr := Option.some.inj H7
      subst e4
      exact E.give ((), ()) [0] [] trivial ⟨rfl, rfl, rfl, trivial⟩ rfl rfl
    refine L.q 3 rfl ?_
    refine L.nil ?_
    have hr := Option.some.inj H7
    subst e4
    exact E.give ((), ()) [0] [] trivial ⟨rfl, rfl, rfl, trivial⟩ rfl rfl
  rintro ⟨_, ⟨⟩⟩ _
  refine T.bif rfl H6 (fun hc H8 => ?_) (fun hc H8 => ?_)
  · refine T.region ?_
    refine L.q 5 rfl ?_
    refine L.a [0] [] (Ac.stb rfl rfl rfl rfl rfl rfl) rfl rfl rfl rfl rfl ?_
    intro _
    refine L.q 2 rfl ?_
    refine L.a [0] [] (Ac.stb rfl rfl rfl rfl rfl rfl) rfl rfl rfl rfl rfl ?_
    intro _
    refine L.nil (E.off ?_)
    have hr := Option.some.inj H8
    subst r
    exact E.ret () [0] [] .nil rfl rfl rfl
  refine T.skip (E.off ?_)
  have hr := Option.some.inj H8
  subst r
  exact E.ret () [0] [] .nil rfl rfl rfl

theorem c_num_In_Num {in_ : NumIn} (g_0 : Nat) {r : Int × NumIn} (H : p_num_In_Num in_ = some r) : CT G 79 [.pointer (some ⟨g_0, 0, none⟩)] [Ch.box g_0 176 [.string in_.s, .int .i64 in_.e]] [] (fun h : Unit => .int .i64 r.1) (fun h => [Ch.box g_0 176 [.string r.2.s, .int .i64 r.2.e]]) (fun h => []) := by
  delta p_num_In_Num at H
  refine CT.of Go.Proofs.Tryd.func79 (by kernel_rfl) rfl rfl rfl fun K => ?_
  refine T.seq (T.region ?_)
  refine L.q 1 rfl ?_
  refine L.nil (E.then (T.seq (T.region ?_)))
  refine L.q 1 rfl ?_
  refine L.nil (E.then (T.seq (T.seq (T.region ?_))))
  refine L.q 3 rfl ?_
  refine L.y (Yl.ldb 0 rfl rfl rfl rfl) rfl rfl rfl ?_
  refine L.q 3 rfl ?_
  refine L.nil (E.then ?_)
  obtain ⟨y177, H178, H179⟩ := bnd H
  refine T.join (η := Unit × Unit) (fun h => y177 = .inl h.1) (fun h => (fun e176 => [(0, .pointer (some ⟨g_0, 0, none⟩))]) h.1) (fun h => (fun e176 => [Ch.box g_0 176 [.string in_.s, .int .i64 in_.e]]) h.1) (fun h => (fun e176 => []) h.1) ?_ ?_
  · refine T.block ?_
    refine T.lp (η := Unit) (fun s119 h => [(0, .pointer (some ⟨g_0, 0, none⟩)), (3, .int .i64 s119.2), (11, .int .i64 (imin (in_.s.size : Int) 9)), (12, .int .i64 s119.1)]) (fun s119 h => [Ch.box g_0 176 [.string in_.s, .int .i64 in_.e]]) (fun s119 h => []) () [0] [] H178 ⟨rfl, rfl, rfl, rfl, trivial⟩ rfl rfl ?_
    rintro k_ s119 ⟨⟩ z181 H180 hag182 hbr183
    refine T.seq (T.region ?_)
    refine L.q 1 rfl ?_
    refine L.nil (E.then (T.seq ?_))
    refine T.bif rfl H180 (fun hc H185 => ?_) (fun hc H185 => ?_)
    · refine T.skip (E.then (T.seq (T.block (T.seq (T.region ?_)))))
      refine L.q 2 rfl ?_
      refine L.nil (E.then (T.seq (T.region ?_)))
      refine L.q 3 rfl ?_
      refine L.y (Yl.ldb 0 rfl rfl rfl rfl) rfl rfl rfl ?_
      refine L.q 1 rfl ?_
      obtain ⟨b213, h214, H215⟩ := bnd H185
      refine L.y (Yl.si h214 rfl rfl rfl rfl rfl) rfl rfl rfl ?_
      refine L.q 1 rfl ?_
      refine L.nil (E.then (T.seq (T.region ?_)))
      refine L.q 6 rfl ?_
      obtain ⟨_, h216, H217⟩ := bnd H215
      refine L.y (Yl.shl (nb := 64) rfl h216 rfl rfl rfl) rfl rfl rfl ?_
      refine L.q 2 rfl ?_
      refine L.nil (E.then (T.seq (T.seq (T.region ?_))))
      refine L.q 2 rfl ?_
      refine L.nil (E.then ?_)
      refine T.bif rfl H217 (fun hc H219 => ?_) (fun hc H219 => ?_)
      · refine T.exit (E.then_exit' (E.block_here (E.then (T.region ?_))))
        refine L.q 2 rfl ?_
        refine L.nil ?_
        have hr := Option.some.inj H219
        subst z181
        exact E.give (_, ()) [0] [] (hag182 _ rfl) ⟨rfl, rfl, rfl, rfl, trivial⟩ rfl rfl
      refine T.skip (E.then (T.seq (T.seq ?_)))
      obtain ⟨e225, H226, H227⟩ := bnd H219
      refine T.join (η := Unit × Unit) (fun h => True) (fun h => [(0, .pointer (some ⟨g_0, 0, none⟩)), (3, .int .i64 (Go.bits .or .i64 s119.2 (IntKind.i64.wrap ((IntKind.i64.wrap (Go.bits .and .u8 b213 127)) * 2 ^ (min (IntKind.i64.wrap (7 * s119.1)).toNat 64))))), (4, .int .i64 s119.1), (40, .bool e225)]) (fun h => [Ch.box g_0 176 [.string in_.s, .int .i64 in_.e]]) (fun h => []) ?_ ?_
      · refine T.region ?_
        refine L.q 3 rfl ?_
        refine L.cs 33 H226 rfl (fun hc H228 => ?_) (fun hc H228 => ?_)
        · refine L.q 4 rfl ?_
          refine L.cs 37 H228 rfl (fun hc H229 => ?_) (fun hc H229 => ?_)
          · refine L.q 3 rfl ?_
            refine L.nil ?_
            have hr := Option.some.inj H229
            subst e225
            exact E.give ((), ()) [0] [] trivial ⟨rfl, rfl, rfl, rfl, trivial⟩ rfl rfl
          refine L.q 3 rfl ?_
          refine L.nil ?_
          have hr := Option.some.inj H229
          subst e225
          exact E.give ((), ()) [0] [] trivial ⟨rfl, rfl, rfl, rfl, trivial⟩ rfl rfl
        refine L.q 7 rfl ?_
        refine L.nil ?_
        have hr := Option.some.inj H228
        subst e225
        exact E.give ((), ()) [0] [] trivial ⟨rfl, rfl, rfl, rfl, trivial⟩ rfl rfl
      rintro ⟨_, ⟨⟩⟩ _
      refine T.bif rfl H227 (fun hc H234 => ?_) (fun hc H234 => ?_)
      · refine T.seq (T.region ?_)
        refine L.q 1 rfl ?_
        obtain ⟨r235, h236, H237⟩ := bnd H234
        refine L.a [0] [] (Ac.call (c_num_In_Fail g_0 h236) rfl rfl rfl rfl) rfl rfl rfl rfl rfl ?_
        rintro ⟨⟩
        refine L.nil (E.then (T.seq (T.region ?_)))
        refine L.q 1 rfl ?_
        refine L.nil (E.then (T.ret (E.then_ret (E.block_ret (E.then_ret (E.then_ret (E.block_ret ?_)))))))
        obtain ⟨w238, hz, H239⟩ := inrr_some H237
        subst z181
        have hb := hbr183 _ rfl
        subst y177
        have hw : w238 = r := Option.some.inj H179
        subst w238
        refine E.then_ret ?_
        have hr := Option.some.inj H239
        subst r
        exact E.ret () [0] [] (.tmp rfl .nil) rfl rfl rfl
      refine T.skip (E.then (T.seq (T.region ?_)))
      refine L.q 4 rfl ?_
      refine L.y (Yl.ldb 0 rfl rfl rfl rfl) rfl rfl rfl ?_
      refine L.q 2 rfl ?_
      obtain ⟨_, h240, H241⟩ := bnd H234
      refine L.y (Yl.sc h240 rfl rfl rfl rfl rfl rfl) rfl rfl rfl ?_
      refine L.q 2 rfl ?_
      refine L.a [0] [] (Ac.stb rfl rfl rfl rfl rfl rfl) rfl rfl rfl rfl rfl ?_
      intro _
      refine L.nil (E.then (T.seq (T.region ?_)))
      refine L.q 2 rfl ?_
      refine L.nil (E.then (T.ret (E.block_ret (E.then_ret (E.then_ret (E.block_ret ?_))))))
      obtain ⟨w242, hz, H243⟩ := inrr_some H241
      subst z181
      have hb := hbr183 _ rfl
      subst y177
      have hw : w242 = r := Option.some.inj H179
      subst w242
      refine E.then_ret ?_
      have hr := Option.some.inj H243
      subst r
      exact E.ret () [0] [] (.tmp rfl .nil) rfl rfl rfl
    refine T.exit (E.then_exit' (E.then_exit' (E.block_here ?_)))
    have hr := Option.some.inj H185
    subst z181
    have hb := hbr183 _ rfl
    subst y177
    exact E.give (_, ()) [0] [] rfl ⟨rfl, trivial⟩ rfl rfl
  rintro ⟨e176, ⟨⟩⟩ hy
  subst hy
  refine T.seq (T.seq (T.region ?_))
  refine L.q 3 rfl ?_
  refine L.y (Yl.ldb 0 rfl rfl rfl rfl) rfl rfl rfl ?_
  refine L.q 2 rfl ?_
  refine L.nil (E.then ?_)
  obtain ⟨e253, H254, H255⟩ := bnd H179
  refine T.join (η := Unit × Unit) (fun h => True) (fun h => [(0, .pointer (some ⟨g_0, 0, none⟩))]) (fun h => [Ch.box g_0 176 [.string e253.s, .int .i64 e253.e]]) (fun h => []) ?_ ?_
  · refine T.bif rfl H254 (fun hc H256 => ?_) (fun hc H256 => ?_)
    · refine T.region ?_
      refine L.q 1 rfl ?_
      obtain ⟨r257, h258, H259⟩ := bnd H256
      refine L.a [0] [] (Ac.call (c_num_In_Fail g_0 h258) rfl rfl rfl rfl) rfl rfl rfl rfl rfl ?_
      rintro ⟨⟩
      refine L.nil ?_
      have hr := Option.some.inj H259
      subst e253
      exact E.give ((), ()) [0] [] trivial ⟨rfl, trivial⟩ rfl rfl
    refine T.skip ?_
    have hr := Option.some.inj H256
    subst e253
    exact E.give ((), ()) [0] [] trivial ⟨rfl, trivial⟩ rfl rfl
  rintro ⟨_, ⟨⟩⟩ _
  refine T.seq (T.region ?_)
  refine L.q 1 rfl ?_
  obtain ⟨r260, h261, H262⟩ := bnd H255
  refine L.a [0] [] (Ac.call (c_num_In_Fail g_0 h261) rfl rfl rfl rfl) rfl rfl rfl rfl rfl ?_
  rintro ⟨⟩
  refine L.nil (E.then (T.seq (T.region ?_)))
  refine L.q 1 rfl ?_
  refine L.nil (E.then (T.ret ?_))
  have hr := Option.some.inj H262
  subst r
  exact E.ret () [0] [] (.tmp rfl .nil) rfl rfl rfl

theorem c_delta_size {in_ : NumIn} (g_0 : Nat) {r : Int × NumIn} (H : p_delta_size in_ = some r) : CT G 80 [.pointer (some ⟨g_0, 0, none⟩)] [Ch.box g_0 176 [.string in_.s, .int .i64 in_.e]] [] (fun h : Unit => .int .i64 r.1) (fun h => [Ch.box g_0 176 [.string r.2.s, .int .i64 r.2.e]]) (fun h => []) := by
  delta p_delta_size at H
  refine CT.of Go.Proofs.Tryd.func80 (by kernel_rfl) rfl rfl rfl fun K => ?_
  refine T.seq (T.region ?_)
  refine L.q 1 rfl ?_
  refine L.nil (E.then (T.seq (T.region ?_)))
  refine L.q 1 rfl ?_
  obtain ⟨r1, h2, H3⟩ := bnd H
  refine L.a [0] [] (Ac.call (c_num_In_Num g_0 h2) rfl rfl rfl rfl) rfl rfl rfl rfl rfl ?_
  rintro ⟨⟩
  refine L.q 1 rfl ?_
  refine L.nil (E.then (T.seq (T.seq (T.region ?_))))
  refine L.q 2 rfl ?_
  refine L.nil (E.then ?_)
  refine T.bif rfl H3 (fun hc H8 => ?_) (fun hc H8 => ?_)
  · refine T.seq (T.region ?_)
    refine L.q 1 rfl ?_
    obtain ⟨r9, h10, H11⟩ := bnd H8
    refine L.a [0] [] (Ac.call (c_num_In_Fail g_0 h10) rfl rfl rfl rfl) rfl rfl rfl rfl rfl ?_
    rintro ⟨⟩
    refine L.nil (E.then (T.seq (T.region ?_)))
    refine L.q 1 rfl ?_
    refine L.nil (E.then (T.ret (E.then_ret ?_)))
    have hr := Option.some.inj H11
    subst r
    exact E.ret () [0] [] (.tmp rfl .nil) rfl rfl rfl
  refine T.skip (E.then (T.seq (T.region ?_)))
  refine L.q 2 rfl ?_
  refine L.nil (E.then (T.ret ?_))
  have hr := Option.some.inj H8
  subst r
  exact E.ret () [0] [] (.tmp rfl .nil) rfl rfl rfl

theorem c_num_In_Raw {in_ : NumIn} {n_ : Int} (g_0 : Nat) {r : ByteArray × NumIn} (H : p_num_In_Raw in_ n_ = some r) : CT G 109 [.pointer (some ⟨g_0, 0, none⟩), .int .i64 n_] [Ch.box g_0 176 [.string in_.s, .int .i64 in_.e]] [] (fun h : Unit => .string r.1) (fun h => [Ch.box g_0 176 [.string r.2.s, .int .i64 r.2.e]]) (fun h => []) := by
  delta p_num_In_Raw at H
  refine CT.of Go.Proofs.Tryd.func109 (by kernel_rfl) rfl rfl rfl fun K => ?_
  refine T.seq (T.region ?_)
  refine L.q 1 rfl ?_
  refine L.nil (E.then (T.seq (T.region ?_)))
  refine L.q 3 rfl ?_
  refine L.nil (E.then (T.seq (T.seq (T.region ?_))))
  refine L.q 4 rfl ?_
  refine L.y (Yl.ldb 0 rfl rfl rfl rfl) rfl rfl rfl ?_
  refine L.q 2 rfl ?_
  refine L.nil (E.then ?_)
  refine T.bif rfl H (fun hc H5 => ?_) (fun hc H5 => ?_)
  · refine T.seq (T.region ?_)
    refine L.q 1 rfl ?_
    obtain ⟨r6, h7, H8⟩ := bnd H5
    refine L.a [0] [] (Ac.call (c_num_In_Fail g_0 h7) rfl rfl rfl rfl) rfl rfl rfl rfl rfl ?_
    rintro ⟨⟩
    refine L.nil (E.then (T.seq (T.region ?_)))
    refine L.q 1 rfl ?_
    refine L.nil (E.then (T.ret (E.then_ret ?_)))
    have hr := Option.some.inj H8
    subst r
    exact E.ret () [0] [] (.tmp rfl .nil) rfl rfl rfl
  refine T.skip (E.then (T.seq (T.region ?_)))
  refine L.q 3 rfl ?_
  refine L.y (Yl.ldb 0 rfl rfl rfl rfl) rfl rfl rfl ?_
  refine L.q 1 rfl ?_
  obtain ⟨_, h9, H10⟩ := bnd H5
  refine L.y (Yl.sc h9 rfl rfl rfl rfl rfl rfl) rfl rfl rfl ?_
  refine L.q 1 rfl ?_
  refine L.nil (E.then (T.seq (T.region ?_)))
  refine L.q 4 rfl ?_
  refine L.y (Yl.ldb 0 rfl rfl rfl rfl) rfl rfl rfl ?_
  refine L.q 1 rfl ?_
  obtain ⟨_, h11, H12⟩ := bnd H10
  refine L.y (Yl.sc h11 rfl rfl rfl rfl rfl rfl) rfl rfl rfl ?_
  refine L.q 2 rfl ?_
  refine L.a [0] [] (Ac.stb rfl rfl rfl rfl rfl rfl) rfl rfl rfl rfl rfl ?_
  intro _
  refine L.nil (E.then (T.seq (T.region ?_)))
  refine L.q 2 rfl ?_
  refine L.nil (E.then (T.ret ?_))
  have hr := Option.some.inj H12
  subst r
  exact E.ret () [0] [] (.tmp rfl .nil) rfl rfl rfl

theorem c_num_In_Text {in_ : NumIn} (g_0 : Nat) {r : ByteArray × NumIn} (H : p_num_In_Text in_ = some r) : CT G 81 [.pointer (some ⟨g_0, 0, none⟩)] [Ch.box g_0 176 [.string in_.s, .int .i64 in_.e]] [] (fun h : Unit => .string r.1) (fun h => [Ch.box g_0 176 [.string r.2.s, .int .i64 r.2.e]]) (fun h => []) := by
  delta p_num_In_Text at H
  refine CT.of Go.Proofs.Tryd.func81 (by kernel_rfl) rfl rfl rfl fun K => ?_
  refine T.seq (T.region ?_)
  refine L.q 1 rfl ?_
  refine L.nil (E.then (T.seq (T.region ?_)))
  refine L.q 2 rfl ?_
  obtain ⟨r1, h2, H3⟩ := bnd H
  refine L.a [0] [] (Ac.call (c_num_In_Num g_0 h2) rfl rfl rfl rfl) rfl rfl rfl rfl rfl ?_
  rintro ⟨⟩
  obtain ⟨r4, h5, H6⟩ := bnd H3
  refine L.a [0] [] (Ac.call (c_num_In_Raw g_0 h5) rfl rfl rfl rfl) rfl rfl rfl rfl rfl ?_
  rintro ⟨⟩
  refine L.q 1 rfl ?_
  refine L.nil (E.then (T.ret ?_))
  have hr := Option.some.inj H6
  subst r
  exact E.ret () [0] [] (.tmp rfl .nil) rfl rfl rfl

theorem c_book_limited {in_ : NumIn} {most : Int} (g_0 : Nat) {r : Int × NumIn} (H : p_book_limited in_ most = some r) : CT G 110 [.pointer (some ⟨g_0, 0, none⟩), .int .i64 most] [Ch.box g_0 176 [.string in_.s, .int .i64 in_.e]] [] (fun h : Unit => .int .i64 r.1) (fun h => [Ch.box g_0 176 [.string r.2.s, .int .i64 r.2.e]]) (fun h => []) := by
  delta p_book_limited at H
  refine CT.of Go.Proofs.Tryd.func110 (by kernel_rfl) rfl rfl rfl fun K => ?_
  refine T.seq (T.region ?_)
  refine L.q 1 rfl ?_
  refine L.nil (E.then (T.seq (T.region ?_)))
  refine L.q 1 rfl ?_
  obtain ⟨r1, h2, H3⟩ := bnd H
  refine L.a [0] [] (Ac.call (c_num_In_Num g_0 h2) rfl rfl rfl rfl) rfl rfl rfl rfl rfl ?_
  rintro ⟨⟩
  refine L.q 1 rfl ?_
  refine L.nil (E.then (T.seq (T.seq (T.region ?_))))
  refine L.q 3 rfl ?_
  refine L.nil (E.then ?_)
  refine T.bif rfl H3 (fun hc H8 => ?_) (fun hc H8 => ?_)
  · refine T.seq (T.region ?_)
    refine L.q 1 rfl ?_
    obtain ⟨r9, h10, H11⟩ := bnd H8
    refine L.a [0] [] (Ac.call (c_num_In_Fail g_0 h10) rfl rfl rfl rfl) rfl rfl rfl rfl rfl ?_
    rintro ⟨⟩
    refine L.nil (E.then (T.seq (T.region ?_)))
    refine L.q 1 rfl ?_
    refine L.nil (E.then (T.ret (E.then_ret ?_)))
    have hr := Option.some.inj H11
    subst r
    exact E.ret () [0] [] (.tmp rfl .nil) rfl rfl rfl
  refine T.skip (E.then (T.seq (T.region ?_)))
  refine L.q 2 rfl ?_
  refine L.nil (E.then (T.ret ?_))
  have hr := Option.some.inj H8
  subst r
  exact E.ret () [0] [] (.tmp rfl .nil) rfl rfl rfl

theorem c_num_In_Err {in_ : NumIn} (g_0 : Nat) {r : Int} (H : p_num_In_Err in_ = some r) : CT G 83 [.pointer (some ⟨g_0, 0, none⟩)] [Ch.box g_0 176 [.string in_.s, .int .i64 in_.e]] [] (fun h : Unit => .int .i64 r) (fun h => [Ch.box g_0 176 [.string in_.s, .int .i64 in_.e]]) (fun h => []) := by
  delta p_num_In_Err at H
  refine CT.of Go.Proofs.Tryd.func83 (by kernel_rfl) rfl rfl rfl fun K => ?_
  refine T.seq (T.region ?_)
  refine L.q 1 rfl ?_
  refine L.nil (E.then (T.seq (T.region ?_)))
  refine L.q 3 rfl ?_
  refine L.y (Yl.ldb 0 rfl rfl rfl rfl) rfl rfl rfl ?_
  refine L.q 1 rfl ?_
  refine L.nil (E.then (T.ret ?_))
  have hr := Option.some.inj H
  subst r
  exact E.ret () [0] [] (.tmp rfl .nil) rfl rfl rfl

theorem c_book_Read {in_ : NumIn} (g_0 : Nat) {r : (List RowGlyph) × NumIn} (H : p_book_Read in_ = some r) : CT G 82 [.pointer (some ⟨g_0, 0, none⟩)] [Ch.box g_0 176 [.string in_.s, .int .i64 in_.e]] [] (fun h : (Option Addr × Nat) => .slice h.1 r.1.length h.2) (fun h => [Ch.arr tyRowGlyph 86 h.1 h.2 r.1, Ch.box g_0 176 [.string r.2.s, .int .i64 r.2.e]]) (fun h => []) := by
  delta p_book_Read at H
  refine CT.of Go.Proofs.Tryd.func82 (by kernel_rfl) rfl rfl rfl fun K => ?_
  refine T.seq (T.region ?_)
  refine L.q 1 rfl ?_
  refine L.nil (E.then (T.seq (T.region ?_)))
  refine L.q 1 rfl ?_
  refine L.nil (E.then (T.seq (T.seq (T.region ?_))))
  refine L.q 1 rfl ?_
  obtain ⟨r1, h2, H3⟩ := bnd H
  refine L.a [0] [] (Ac.call (c_book_limited g_0 h2) rfl rfl rfl rfl) rfl rfl rfl rfl rfl ?_
  rintro ⟨⟩
  refine L.q 1 rfl ?_
  refine L.nil (E.then ?_)
  obtain ⟨e120, H121, H122⟩ := bnd H3
  refine T.join (η := Unit × ((Option Addr × Nat))) (fun h => True) (fun h => (fun a116 c117 => [(0, .pointer (some ⟨g_0, 0, none⟩)), (3, .slice a116 e120.1.length c117)]) h.2.1 h.2.2) (fun h => (fun a116 c117 => [Ch.arr tyRowGlyph 86 a116 c117 e120.1, Ch.box g_0 176 [.string e120.2.s, .int .i64 e120.2.e]]) h.2.1 h.2.2) (fun h => (fun a116 c117 => []) h.2.1 h.2.2) ?_ ?_
  · refine T.block ?_
    refine T.nil0 tyRowGlyph 86 ?_
    refine T.lp (η := (Option Addr × Nat)) (fun s84 h => (fun a80 c81 => [(0, .pointer (some ⟨g_0, 0, none⟩)), (3, .slice a80 s84.2.1.length c81), (5, .int .i64 r1.1), (6, .int .i64 s84.2.2)]) h.1 h.2) (fun s84 h => (fun a80 c81 => [Ch.arr tyRowGlyph 86 a80 c81 s84.2.1, Ch.box g_0 176 [.string s84.1.s, .int .i64 s84.1.e]]) h.1 h.2) (fun s84 h => (fun a80 c81 => []) h.1 h.2) (none, 0) [0, 0] [] H121 ⟨rfl, rfl, rfl, rfl, trivial⟩ rfl rfl ?_
    rintro k_ s84 ⟨a80, c81⟩ z124 H123 hag125 hbr126
    refine T.seq (T.region ?_)
    refine L.q 1 rfl ?_
    refine L.nil (E.then (T.seq ?_))
    refine T.bif rfl H123 (fun hc H128 => ?_) (fun hc H128 => ?_)
    · refine T.skip (E.then (T.seq (T.block (T.region ?_))))
      refine L.q 2 rfl ?_
      obtain ⟨r143, h144, H145⟩ := bnd H128
      refine L.a [1] [] (Ac.call (c_book_limited g_0 h144) rfl rfl rfl rfl) rfl rfl rfl rfl rfl ?_
      rintro ⟨⟩
      refine L.q 2 rfl ?_
      obtain ⟨r146, h147, H148⟩ := bnd H145
      refine L.a [0] [] (Ac.call (c_book_limited g_0 h147) rfl rfl rfl rfl) rfl rfl rfl rfl rfl ?_
      rintro ⟨⟩
      refine L.q 1 rfl ?_
      refine L.a [] [] (Ac.bs (ty := tyRowGlyph) (xs := [(RowGlyph.mk (IntKind.i32.wrap r143.1) r146.1)]) (.cons () [] rfl .nil) rfl rfl rfl rfl rfl rfl rfl) rfl rfl rfl rfl rfl ?_
      intro g149
      refine L.frz 0 rfl ?_
      obtain ⟨_, h152, H153⟩ := bnd H148
      refine L.a [1] [0] (Ac.ap (ty := tyRowGlyph) h152 rfl rfl rfl rfl rfl rfl rfl) rfl rfl rfl rfl rfl ?_
      rintro ⟨a154, c155⟩
      refine L.q 1 rfl ?_
      refine L.nil (E.block (E.then (T.region ?_)))
      refine L.q 2 rfl ?_
      refine L.nil ?_
      have hr := Option.some.inj H153
      subst z124
      exact E.give (_, (a154, c155)) [0, 0] [] (hag125 _ rfl) ⟨rfl, rfl, rfl, rfl, trivial⟩ rfl rfl
    refine T.exit (E.then_exit' (E.then_exit' (E.block_here ?_)))
    have hr := Option.some.inj H128
    subst z124
    have hb := hbr126 _ rfl
    subst e120
    exact E.give ((), (a80, c81)) [0, 0] [] trivial ⟨rfl, rfl, trivial⟩ rfl rfl
  rintro ⟨_, ⟨a116, c117⟩⟩ _
  refine T.seq (T.seq (T.region ?_))
  refine L.q 1 rfl ?_
  obtain ⟨r157, h158, H159⟩ := bnd H122
  refine L.a [1] [] (Ac.call (c_num_In_Err g_0 h158) rfl rfl rfl rfl) rfl rfl rfl rfl rfl ?_
  rintro ⟨⟩
  refine L.q 1 rfl ?_
  refine L.nil (E.then ?_)
  refine T.bif rfl H159 (fun hc H161 => ?_) (fun hc H161 => ?_)
  · refine T.seq (T.region ?_)
    refine L.q 1 rfl ?_
    refine L.nil (E.then (T.ret (E.then_ret ?_)))
    refine E.nil0 tyRowGlyph 86 ?_
    have hr := Option.some.inj H161
    subst r
    exact E.ret (none, 0) [0, 0] [] (.tmp rfl .nil) rfl rfl rfl
  refine T.skip (E.then (T.seq (T.region ?_)))
  refine L.q 2 rfl ?_
  refine L.nil (E.then (T.ret ?_))
  have hr := Option.some.inj H161
  subst r
  exact E.ret (a116, c117) [1, 0] [] (.tmp rfl .nil) rfl rfl rfl

theorem c_snap_run {in_ : NumIn} {left : Int} (g_0 : Nat) {r : Int × RowCell × Bool × NumIn} (H : p_snap_run in_ left = some r) : CT G 111 [.pointer (some ⟨g_0, 0, none⟩), .int .i64 left] [Ch.box g_0 176 [.string in_.s, .int .i64 in_.e]] [] (fun h : Unit => .tuple #[.int .i64 r.1, .agg #[.int .i32 r.2.1.rune, .int .i64 r.2.1.style, .int .i64 r.2.1.part], .bool r.2.2.1]) (fun h => [Ch.box g_0 176 [.string r.2.2.2.s, .int .i64 r.2.2.2.e]]) (fun h => []) := by
  delta p_snap_run at H
  refine CT.of Go.Proofs.Tryd.func111 (by kernel_rfl) rfl rfl rfl fun K => ?_
  refine T.seq (T.region ?_)
  refine L.q 1 rfl ?_
  refine L.a [] [] (Ac.alloc rfl rfl) rfl rfl rfl rfl rfl ?_
  intro g1
  refine L.q 1 rfl ?_
  refine L.nil (E.then (T.seq (T.region ?_)))
  refine L.q 1 rfl ?_
  obtain ⟨r2, h3, H4⟩ := bnd H
  refine L.a [1] [] (Ac.call (c_num_In_Num g_0 h3) rfl rfl rfl rfl) rfl rfl rfl rfl rfl ?_
  rintro ⟨⟩
  refine L.q 1 rfl ?_
  refine L.nil (E.then (T.seq (T.seq ?_)))
  obtain ⟨e8, H9, H10⟩ := bnd H4
  refine T.join (η := Unit × Unit) (fun h => True) (fun h => [(0, .pointer (some ⟨g_0, 0, none⟩)), (5, .pointer (some ⟨g1, 0, none⟩)), (7, .int .i64 r2.1), (19, .bool e8)]) (fun h => [Ch.box g_0 176 [.string r2.2.s, .int .i64 r2.2.e], Ch.box g1 91 [.int .i32 0, .int .i64 0, .int .i64 0]]) (fun h => []) ?_ ?_
  · refine T.region ?_
    refine L.q 3 rfl ?_
    refine L.cs 15 H9 rfl (fun hc H11 => ?_) (fun hc H11 => ?_)
    · refine L.q 4 rfl ?_
      refine L.nil ?_
      have hr := Option.some.inj H11
      subst e8
      exact E.give ((), ()) [0, 0] [] trivial ⟨rfl, rfl, rfl, rfl, trivial⟩ rfl rfl
    refine L.q 4 rfl ?_
    refine L.nil ?_
    have hr := Option.some.inj H11
    subst e8
    exact E.give ((), ()) [0, 0] [] trivial ⟨rfl, rfl, rfl, rfl, trivial⟩ rfl rfl
  rintro ⟨_, ⟨⟩⟩ _
  obtain ⟨e21, H22, H23⟩ := bnd H10
  refine T.join (η := Unit × Unit) (fun h => True) (fun h => [(0, .pointer (some ⟨g_0, 0, none⟩)), (5, .pointer (some ⟨g1, 0, none⟩)), (7, .int .i64 r2.1)]) (fun h => [Ch.box g_0 176 [.string e21.s, .int .i64 e21.e], Ch.box g1 91 [.int .i32 0, .int .i64 0, .int .i64 0]]) (fun h => []) ?_ ?_
  · refine T.bif rfl H22 (fun hc H24 => ?_) (fun hc H24 => ?_)
    · refine T.region ?_
      refine L.q 1 rfl ?_
      obtain ⟨r25, h26, H27⟩ := bnd H24
      refine L.a [0] [] (Ac.call (c_num_In_Fail g_0 h26) rfl rfl rfl rfl) rfl rfl rfl rfl rfl ?_
      rintro ⟨⟩
      refine L.nil ?_
      have hr := Option.some.inj H27
      subst e21
      exact E.give ((), ()) [0, 0] [] trivial ⟨rfl, rfl, rfl, trivial⟩ rfl rfl
    refine T.skip ?_
    have hr := Option.some.inj H24
    subst e21
    exact E.give ((), ()) [0, 0] [] trivial ⟨rfl, rfl, rfl, trivial⟩ rfl rfl
  rintro ⟨_, ⟨⟩⟩ _
  refine T.seq (T.region ?_)
  refine L.q 1 rfl ?_
  refine L.a [] [] (Ac.alloc rfl rfl) rfl rfl rfl rfl rfl ?_
  intro g28
  refine L.a [0] [] (Ac.stb rfl rfl rfl rfl rfl rfl) rfl rfl rfl rfl rfl ?_
  intro _
  refine L.nil (E.then (T.seq (T.seq (T.region ?_))))
  refine L.q 2 rfl ?_
  refine L.nil (E.then ?_)
  obtain ⟨e215, H216, H217⟩ := bnd H23
  refine T.join (η := Unit × Unit) (fun h => True) (fun h => [(0, .pointer (some ⟨g_0, 0, none⟩)), (5, .pointer (some ⟨g1, 0, none⟩)), (7, .int .i64 r2.1), (8, .pointer (some ⟨g28, 0, none⟩))]) (fun h => [Ch.box g28 194 [.int .i64 e215.1.e0, .int .i64 e215.1.e1, .int .i64 e215.1.e2], Ch.box g_0 176 [.string e215.2.s, .int .i64 e215.2.e], Ch.box g1 91 [.int .i32 0, .int .i64 0, .int .i64 0]]) (fun h => []) ?_ ?_
  · refine T.block ?_
    refine T.lp (η := Unit) (fun s154 h => [(0, .pointer (some ⟨g_0, 0, none⟩)), (5, .pointer (some ⟨g1, 0, none⟩)), (7, .int .i64 r2.1), (8, .pointer (some ⟨g28, 0, none⟩)), (23, .agg #[.int .i64 1114111, .int .i64 647, .int .i64 3]), (24, .int .i64 s154.2.2)]) (fun s154 h => [Ch.box g28 194 [.int .i64 s154.1.e0, .int .i64 s154.1.e1, .int .i64 s154.1.e2], Ch.box g_0 176 [.string s154.2.1.s, .int .i64 s154.2.1.e], Ch.box g1 91 [.int .i32 0, .int .i64 0, .int .i64 0]]) (fun s154 h => []) () [0, 0, 0] [] H216 ⟨rfl, rfl, rfl, rfl, rfl, rfl, trivial⟩ rfl rfl ?_
    rintro k_ s154 ⟨⟩ z219 H218 hag220 hbr221
    refine T.seq (T.region ?_)
    refine L.q 1 rfl ?_
    refine L.nil (E.then (T.seq ?_))
    refine T.bif rfl H218 (fun hc H223 => ?_) (fun hc H223 => ?_)
    · refine T.skip (E.then (T.seq ?_))
      obtain ⟨e260, H261, H262⟩ := bnd H223
      refine T.join (η := Unit × Unit) (fun h => True) (fun h => [(0, .pointer (some ⟨g_0, 0, none⟩)), (5, .pointer (some ⟨g1, 0, none⟩)), (7, .int .i64 r2.1), (8, .pointer (some ⟨g28, 0, none⟩)), (23, .agg #[.int .i64 1114111, .int .i64 647, .int .i64 3]), (24, .int .i64 s154.2.2)]) (fun h => [Ch.box g28 194 [.int .i64 e260.1.e0, .int .i64 e260.1.e1, .int .i64 e260.1.e2], Ch.box g_0 176 [.string e260.2.s, .int .i64 e260.2.e], Ch.box g1 91 [.int .i32 0, .int .i64 0, .int .i64 0]]) (fun h => []) ?_ ?_
      · refine T.block (T.seq (T.region ?_))
        refine L.q 1 rfl ?_
        obtain ⟨x263, h264, H265⟩ := bnd H261
        refine L.y (Yl.xa h264 rfl rfl rfl rfl rfl rfl rfl rfl rfl) rfl rfl rfl ?_
        refine L.q 2 rfl ?_
        refine L.nil (E.then (T.seq (T.region ?_)))
        refine L.q 2 rfl ?_
        obtain ⟨r266, h267, H268⟩ := bnd H265
        refine L.a [1] [] (Ac.call (c_num_In_Num g_0 h267) rfl rfl rfl rfl) rfl rfl rfl rfl rfl ?_
        rintro ⟨⟩
        obtain ⟨_, h269, H270⟩ := bnd H268
        refine L.y (Yl.xp h269 rfl rfl rfl rfl rfl rfl rfl) rfl rfl rfl ?_
        refine L.a [1] [] (Ac.sx h269 [s154.1.e0, s154.1.e1, s154.1.e2] rfl rfl rfl rfl rfl rfl rfl rfl) rfl rfl rfl rfl rfl ?_
        intro _
        refine L.nil (E.then (T.seq (T.region ?_)))
        refine L.q 1 rfl ?_
        obtain ⟨_, h271, H272⟩ := bnd H270
        refine L.y (Yl.xp h271 rfl rfl rfl rfl rfl rfl rfl) rfl rfl rfl ?_
        obtain ⟨x273, h274, H275⟩ := bnd H272
        refine L.y (Yl.xl 0 h274 rfl rfl rfl rfl rfl rfl) rfl rfl rfl ?_
        refine L.q 2 rfl ?_
        refine L.nil (E.then ?_)
        refine T.bif rfl H275 (fun hc H276 => ?_) (fun hc H276 => ?_)
        · refine T.region ?_
          refine L.q 1 rfl ?_
          obtain ⟨r277, h278, H279⟩ := bnd H276
          refine L.a [1] [] (Ac.call (c_num_In_Fail g_0 h278) rfl rfl rfl rfl) rfl rfl rfl rfl rfl ?_
          rintro ⟨⟩
          refine L.nil (E.block ?_)
          have hr := Option.some.inj H279
          subst e260
          exact E.give ((), ()) [1, 0, 0] [] trivial ⟨rfl, rfl, rfl, rfl, rfl, rfl, trivial⟩ rfl rfl
        refine T.skip (E.block ?_)
        have hr := Option.some.inj H276
        subst e260
        exact E.give ((), ()) [0, 0, 0] [] trivial ⟨rfl, rfl, rfl, rfl, rfl, rfl, trivial⟩ rfl rfl
      rintro ⟨_, ⟨⟩⟩ _
      refine T.region ?_
      refine L.q 2 rfl ?_
      refine L.nil ?_
      have hr := Option.some.inj H262
      subst z219
      exact E.give (_, ()) [0, 0, 0] [] (hag220 _ rfl) ⟨rfl, rfl, rfl, rfl, rfl, rfl, trivial⟩ rfl rfl
    refine T.exit (E.then_exit' (E.then_exit' (E.block_here ?_)))
    have hr := Option.some.inj H223
    subst z219
    have hb := hbr221 _ rfl
    subst e215
    exact E.give ((), ()) [0, 0, 0] [] trivial ⟨rfl, rfl, rfl, rfl, trivial⟩ rfl rfl
  rintro ⟨_, ⟨⟩⟩ _
  refine T.seq (T.seq (T.region ?_))
  refine L.q 1 rfl ?_
  obtain ⟨r280, h281, H282⟩ := bnd H217
  refine L.a [1] [] (Ac.call (c_num_In_Err g_0 h281) rfl rfl rfl rfl) rfl rfl rfl rfl rfl ?_
  rintro ⟨⟩
  refine L.q 1 rfl ?_
  refine L.nil (E.then ?_)
  refine T.bif rfl H282 (fun hc H284 => ?_) (fun hc H284 => ?_)
  · refine T.seq (T.region ?_)
    refine L.q 2 rfl ?_
    refine L.a [2] [] (Ac.stb rfl rfl rfl rfl rfl rfl) rfl rfl rfl rfl rfl ?_
    intro _
    refine L.q 1 rfl ?_
    refine L.nil (E.then (T.ret (E.then_ret ?_)))
    have hr := Option.some.inj H284
    subst r
    exact E.ret () [1] [] (.tmp rfl (.cell 0 rfl rfl rfl (.tmp rfl .nil))) rfl rfl rfl
  refine T.skip (E.then (T.seq ?_))
  refine T.draw [10] [0, 0, 0] mo (by rfl) rfl ?_
  refine D.q 0 rfl rfl rfl rfl rfl rfl ?_
  refine D.q 1 rfl rfl rfl rfl rfl rfl ?_
  refine D.y 2 (Yl.ldb 1 rfl rfl rfl rfl) rfl rfl rfl rfl rfl rfl ?_
  refine D.q 3 rfl rfl rfl rfl rfl rfl ?_
  refine D.q 4 rfl rfl rfl rfl rfl rfl ?_
  refine D.y 5 (Yl.ldb 1 rfl rfl rfl rfl) rfl rfl rfl rfl rfl rfl ?_
  refine D.q 6 rfl rfl rfl rfl rfl rfl ?_
  refine D.y 7 (Yl.ldb 1 rfl rfl rfl rfl) rfl rfl rfl rfl rfl rfl ?_
  refine D.q 8 rfl rfl rfl rfl rfl rfl ?_
  refine D.q 9 rfl rfl rfl rfl rfl rfl ?_
  refine D.one rfl rfl rfl (Dp.al [2] [] (Ac.stb rfl rfl rfl rfl rfl rfl) rfl rfl rfl rfl rfl rfl rfl ?_)
  intro _
  refine D.q 11 rfl rfl rfl rfl rfl rfl ?_
  refine D.nil rfl rfl ?_
  refine E.then (T.ret ?_)
  have hr := Option.some.inj H284
  subst r
  exact E.ret () [1] [] (.tmp rfl (.cell 0 rfl rfl rfl (.tmp rfl .nil))) rfl rfl rfl

theorem c_snap_ReadRow {in_ : NumIn} {w : Int} (g_0 : Nat) {r : RowRow × NumIn} (H : p_snap_ReadRow in_ w = some r) : CT G 85 [.pointer (some ⟨g_0, 0, none⟩), .int .i64 w] [Ch.box g_0 176 [.string in_.s, .int .i64 in_.e]] [] (fun h : (Option Addr × Nat) => .agg #[.slice h.1 r.1.cells.length h.2, .bool r.1.wrapped]) (fun h => [Ch.box g_0 176 [.string r.2.s, .int .i64 r.2.e]]) (fun h => [Im.sl tyRowCell h.1 h.2 r.1.cells]) := by
  delta p_snap_ReadRow at H
  refine CT.of Go.Proofs.Tryd.func85 (by kernel_rfl) rfl rfl rfl fun K => ?_
  refine T.seq (T.region ?_)
  refine L.a [] [] (Ac.alloc rfl rfl) rfl rfl rfl rfl rfl ?_
  intro g1
  refine L.nil (E.then (T.seq (T.region ?_)))
  refine L.q 1 rfl ?_
  obtain ⟨r2, h3, H4⟩ := bnd H
  refine L.a [1] [] (Ac.call (c_num_In_Num g_0 h3) rfl rfl rfl rfl) rfl rfl rfl rfl rfl ?_
  rintro ⟨⟩
  refine L.q 1 rfl ?_
  refine L.nil (E.then (T.seq (T.seq (T.region ?_))))
  refine L.q 2 rfl ?_
  refine L.nil (E.then ?_)
  obtain ⟨e14, H15, H16⟩ := bnd H4
  refine T.join (η := Unit × Unit) (fun h => True) (fun h => [(0, .pointer (some ⟨g_0, 0, none⟩)), (1, .int .i64 w), (4, .pointer (some ⟨g1, 0, none⟩)), (5, .int .i64 r2.1)]) (fun h => [Ch.box g_0 176 [.string e14.s, .int .i64 e14.e], Ch.box g1 66 [.slice none 0 0, .bool false]]) (fun h => []) ?_ ?_
  · refine T.bif rfl H15 (fun hc H17 => ?_) (fun hc H17 => ?_)
    · refine T.region ?_
      refine L.q 1 rfl ?_
      obtain ⟨r18, h19, H20⟩ := bnd H17
      refine L.a [0] [] (Ac.call (c_num_In_Fail g_0 h19) rfl rfl rfl rfl) rfl rfl rfl rfl rfl ?_
      rintro ⟨⟩
      refine L.nil ?_
      have hr := Option.some.inj H20
      subst e14
      exact E.give ((), ()) [0, 0] [] trivial ⟨rfl, rfl, rfl, rfl, trivial⟩ rfl rfl
    refine T.skip ?_
    have hr := Option.some.inj H17
    subst e14
    exact E.give ((), ()) [0, 0] [] trivial ⟨rfl, rfl, rfl, rfl, trivial⟩ rfl rfl
  rintro ⟨_, ⟨⟩⟩ _
  refine T.seq (T.region ?_)
  refine L.q 1 rfl ?_
  refine L.nil (E.then (T.seq ?_))
  obtain ⟨e261, H262, H263⟩ := bnd H16
  refine T.join (η := Unit × ((Option Addr × Nat))) (fun h => True) (fun h => (fun a257 c258 => [(0, .pointer (some ⟨g_0, 0, none⟩)), (4, .pointer (some ⟨g1, 0, none⟩)), (5, .int .i64 r2.1), (6, .slice a257 e261.1.length c258)]) h.2.1 h.2.2) (fun h => (fun a257 c258 => [Ch.arr tyRowCell 91 a257 c258 e261.1, Ch.box g_0 176 [.string e261.2.s, .int .i64 e261.2.e], Ch.box g1 66 [.slice none 0 0, .bool false]]) h.2.1 h.2.2) (fun h => (fun a257 c258 => []) h.2.1 h.2.2) ?_ ?_
  · refine T.block ?_
    refine T.nil0 tyRowCell 91 ?_
    refine T.lp (η := (Option Addr × Nat)) (fun s173 h => (fun a170 c171 => [(0, .pointer (some ⟨g_0, 0, none⟩)), (1, .int .i64 w), (4, .pointer (some ⟨g1, 0, none⟩)), (5, .int .i64 r2.1), (6, .slice a170 s173.2.length c171)]) h.1 h.2) (fun s173 h => (fun a170 c171 => [Ch.arr tyRowCell 91 a170 c171 s173.2, Ch.box g_0 176 [.string s173.1.s, .int .i64 s173.1.e], Ch.box g1 66 [.slice none 0 0, .bool false]]) h.1 h.2) (fun s173 h => (fun a170 c171 => []) h.1 h.2) (none, 0) [0, 0, 0] [] H262 ⟨rfl, rfl, rfl, rfl, rfl, trivial⟩ rfl rfl ?_
    rintro k_ s173 ⟨a170, c171⟩ z265 H264 hag266 hbr267
    refine T.seq (T.seq ?_)
    obtain ⟨e277, H278, H279⟩ := bnd H264
    refine T.join (η := Unit × Unit) (fun h => True) (fun h => [(0, .pointer (some ⟨g_0, 0, none⟩)), (1, .int .i64 w), (4, .pointer (some ⟨g1, 0, none⟩)), (5, .int .i64 r2.1), (6, .slice a170 s173.2.length c171), (24, .bool e277)]) (fun h => [Ch.box g_0 176 [.string s173.1.s, .int .i64 s173.1.e], Ch.box g1 66 [.slice none 0 0, .bool false], Ch.arr tyRowCell 91 a170 c171 s173.2]) (fun h => []) ?_ ?_
    · refine T.region ?_
      refine L.q 5 rfl ?_
      refine L.cs 20 H278 rfl (fun hc H280 => ?_) (fun hc H280 => ?_)
      · refine L.q 1 rfl ?_
        obtain ⟨r281, h282, H283⟩ := bnd H280
        refine L.a [1] [] (Ac.call (c_num_In_Err g_0 h282) rfl rfl rfl rfl) rfl rfl rfl rfl rfl ?_
        rintro ⟨⟩
        refine L.q 2 rfl ?_
        refine L.nil ?_
        have hr := Option.some.inj H283
        subst e277
        exact E.give ((), ()) [0, 1, 0] [] trivial ⟨rfl, rfl, rfl, rfl, rfl, rfl, trivial⟩ rfl rfl
      refine L.q 4 rfl ?_
      refine L.nil ?_
      have hr := Option.some.inj H280
      subst e277
      exact E.give ((), ()) [1, 1, 0] [] trivial ⟨rfl, rfl, rfl, rfl, rfl, rfl, trivial⟩ rfl rfl
    rintro ⟨_, ⟨⟩⟩ _
    refine T.bif rfl H279 (fun hc H285 => ?_) (fun hc H285 => ?_)
    · refine T.skip (E.then (T.block (T.seq (T.region ?_))))
      refine L.q 5 rfl ?_
      obtain ⟨r286, h287, H288⟩ := bnd H285
      refine L.a [0] [] (Ac.call (c_snap_run g_0 h287) rfl rfl rfl rfl) rfl rfl rfl rfl rfl ?_
      rintro ⟨⟩
      refine L.q 4 rfl ?_
      refine L.a [] [] (Ac.alloc rfl rfl) rfl rfl rfl rfl rfl ?_
      intro g289
      refine L.q 1 rfl ?_
      refine L.a [0] [] (Ac.stb rfl rfl rfl rfl rfl rfl) rfl rfl rfl rfl rfl ?_
      intro _
      refine L.q 1 rfl ?_
      refine L.nil (E.then (T.block (T.seq (T.region ?_))))
      refine L.q 3 rfl ?_
      refine L.nil (E.then ?_)
      refine T.bif rfl H288 (fun hc H290 => ?_) (fun hc H290 => ?_)
      · refine T.skip (E.block (E.block ?_))
        have hr := Option.some.inj H290
        subst z265
        exact E.give (_, (a170, c171)) [3, 1, 1] [] (hag266 _ rfl) ⟨rfl, rfl, rfl, rfl, rfl, trivial⟩ rfl rfl
      refine T.seq ?_
      obtain ⟨e316, H317, H318⟩ := bnd H290
      refine T.join (η := Unit × Unit) (fun h => True) (fun h => [(0, .pointer (some ⟨g_0, 0, none⟩)), (1, .int .i64 w), (4, .pointer (some ⟨g1, 0, none⟩)), (5, .int .i64 r2.1), (6, .slice a170 s173.2.length c171), (7, .int .i64 r286.1), (8, .pointer (some ⟨g289, 0, none⟩)), (44, .bool e316)]) (fun h => [Ch.box g289 91 [.int .i32 r286.2.1.rune, .int .i64 r286.2.1.style, .int .i64 r286.2.1.part], Ch.box g_0 176 [.string r286.2.2.2.s, .int .i64 r286.2.2.2.e], Ch.box g1 66 [.slice none 0 0, .bool false], Ch.arr tyRowCell 91 a170 c171 s173.2]) (fun h => []) ?_ ?_
      · refine T.draw [] [0, 0, 0, 0] mo (by rfl) rfl ?_
        refine D.q 0 rfl rfl rfl rfl rfl rfl ?_
        refine D.q 1 rfl rfl rfl rfl rfl rfl ?_
        refine D.q 2 rfl rfl rfl rfl rfl rfl ?_
        refine D.q 3 rfl rfl rfl rfl rfl rfl ?_
        refine D.cs 48 H317 rfl (fun hc H325 => ?_) (fun hc H325 => ?_)
        · refine D.q 4 rfl rfl rfl rfl rfl rfl ?_
          refine D.q 5 rfl rfl rfl rfl rfl rfl ?_
          refine D.q 6 rfl rfl rfl rfl rfl rfl ?_
          refine D.q 7 rfl rfl rfl rfl rfl rfl ?_
          obtain ⟨x326, h327, H328⟩ := bnd H325
          refine D.addro 3 rfl (idx_lt h327) fun b329 e330 => ?_
          obtain rfl : a170 = some ⟨b329, 0, none⟩ := e330
          refine D.y 8 (Yl.ia h327 rfl rfl rfl rfl rfl rfl) rfl rfl rfl rfl rfl rfl ?_
          refine D.y 9 (Yl.lo (v := .agg #[.int .i32 x326.rune, .int .i64 x326.style, .int .i64 x326.part]) 3 ((IntKind.i64.wrap ((s173.2.length : Int) - 1)).toNat) 0 (idx_some h327).2 rfl rfl rfl rfl (fun _ => rfl)) rfl rfl rfl rfl rfl rfl ?_
          refine D.y 10 (Yl.ldb 0 rfl rfl rfl rfl) rfl rfl rfl rfl rfl rfl ?_
          refine D.q 11 rfl rfl rfl rfl rfl rfl ?_
          refine D.q 12 rfl rfl rfl rfl rfl rfl ?_
          refine D.q 13 rfl rfl rfl rfl rfl rfl ?_
          refine D.nil rfl rfl ?_
          have hr := Option.some.inj H328
          subst e316
          exact E.give ((), ()) [0, 0, 0, 0] [] trivial ⟨rfl, rfl, rfl, rfl, rfl, rfl, rfl, rfl, trivial⟩ rfl rfl
        refine D.sk 4 rfl rfl rfl rfl rfl ?_
        refine D.sk 5 rfl rfl rfl rfl rfl ?_
        refine D.sk 6 rfl rfl rfl rfl rfl ?_
        refine D.sk 7 rfl rfl rfl rfl rfl ?_
        refine D.sk 8 rfl rfl rfl rfl rfl ?_
        refine D.sk 9 rfl rfl rfl rfl rfl ?_
        refine D.sk 10 rfl rfl rfl rfl rfl ?_
        refine D.sk 11 rfl rfl rfl rfl rfl ?_
        refine D.q 12 rfl rfl rfl rfl rfl rfl ?_
        refine D.q 13 rfl rfl rfl rfl rfl rfl ?_
        refine D.nil rfl rfl ?_
        have hr := Option.some.inj H325
        subst e316
        exact E.give ((), ()) [0, 0, 0, 0] [] trivial ⟨rfl, rfl, rfl, rfl, rfl, rfl, rfl, rfl, trivial⟩ rfl rfl
      rintro ⟨_, ⟨⟩⟩ _
      refine T.bif rfl H318 (fun hc H331 => ?_) (fun hc H331 => ?_)
      · refine T.region ?_
        refine L.q 1 rfl ?_
        obtain ⟨r332, h333, H334⟩ := bnd H331
        refine L.a [1] [] (Ac.call (c_num_In_Fail g_0 h333) rfl rfl rfl rfl) rfl rfl rfl rfl rfl ?_
        rintro ⟨⟩
        refine L.nil (E.block (E.block ?_))
        have hr := Option.some.inj H334
        subst z265
        exact E.give (_, (a170, c171)) [3, 0, 1] [] (hag266 _ rfl) ⟨rfl, rfl, rfl, rfl, rfl, trivial⟩ rfl rfl
      refine T.region ?_
      refine L.q 1 rfl ?_
      refine L.y (Yl.ldb 0 rfl rfl rfl rfl) rfl rfl rfl ?_
      refine L.a [] [] (Ac.bs (ty := tyRowCell) (xs := [r286.2.1]) (.cons () [] rfl .nil) rfl rfl rfl rfl rfl rfl rfl) rfl rfl rfl rfl rfl ?_
      intro g335
      refine L.q 1 rfl ?_
      refine L.frz 0 rfl ?_
      obtain ⟨r338, h339, H340⟩ := bnd H331
      refine L.a [] [0] (Ac.call (c_slices_Repeat_row_Cell (some ⟨g335, 0, none⟩) 1 h339) rfl rfl rfl rfl) rfl rfl rfl rfl rfl ?_
      rintro ⟨a341, c342⟩
      refine L.frz 0 rfl ?_
      obtain ⟨_, h345, H346⟩ := bnd H340
      refine L.a [3] [0] (Ac.ap (ty := tyRowCell) h345 rfl rfl rfl rfl rfl rfl rfl) rfl rfl rfl rfl rfl ?_
      rintro ⟨a347, c348⟩
      refine L.q 1 rfl ?_
      refine L.nil (E.block (E.block ?_))
      have hr := Option.some.inj H346
      subst z265
      exact E.give (_, (a347, c348)) [0, 1, 1] [] (hag266 _ rfl) ⟨rfl, rfl, rfl, rfl, rfl, trivial⟩ rfl rfl
    refine T.exit (E.then_exit' (E.then_exit' (E.block_here ?_)))
    have hr := Option.some.inj H285
    subst z265
    have hb := hbr267 _ rfl
    subst e261
    exact E.give ((), (a170, c171)) [2, 0, 0] [] trivial ⟨rfl, rfl, rfl, rfl, trivial⟩ rfl rfl
  rintro ⟨_, ⟨a257, c258⟩⟩ _
  refine T.seq (T.seq (T.region ?_))
  refine L.q 1 rfl ?_
  obtain ⟨r350, h351, H352⟩ := bnd H263
  refine L.a [1] [] (Ac.call (c_num_In_Err g_0 h351) rfl rfl rfl rfl) rfl rfl rfl rfl rfl ?_
  rintro ⟨⟩
  refine L.q 1 rfl ?_
  refine L.nil (E.then ?_)
  refine T.bif rfl H352 (fun hc H354 => ?_) (fun hc H354 => ?_)
  · refine T.seq (T.region ?_)
    refine L.q 1 rfl ?_
    refine L.a [2] [] (Ac.stb rfl rfl rfl rfl rfl rfl) rfl rfl rfl rfl rfl ?_
    intro _
    refine L.nil (E.then (T.ret (E.then_ret ?_)))
    refine E.know [Im.sl tyRowCell none 0 []] (fun A w _ _ f hf => by rw [List.mem_singleton.1 hf]; exact Im.sl_nil A w) ?_
    have hr := Option.some.inj H354
    subst r
    exact E.ret (none, 0) [1] [0] (.cell 0 rfl rfl rfl .nil) rfl rfl rfl
  refine T.skip (E.then (T.seq (T.region ?_)))
  refine L.q 4 rfl ?_
  refine L.a [2] [] (Ac.stb rfl rfl rfl rfl rfl rfl) rfl rfl rfl rfl rfl ?_
  intro _
  refine L.nil (E.then (T.ret ?_))
  refine E.frz 2 rfl ?_
  have hr := Option.some.inj H354
  subst r
  exact E.ret (a257, c258) [1] [0] (.cell 0 rfl rfl rfl .nil) rfl rfl rfl

theorem c_num_In_End {in_ : NumIn} (g_0 : Nat) {r : Int} (H : p_num_In_End in_ = some r) : CT G 86 [.pointer (some ⟨g_0, 0, none⟩)] [Ch.box g_0 176 [.string in_.s, .int .i64 in_.e]] [] (fun h : Unit => .int .i64 r) (fun h => [Ch.box g_0 176 [.string in_.s, .int .i64 in_.e]]) (fun h => []) := by
  delta p_num_In_End at H
  refine CT.of Go.Proofs.Tryd.func86 (by kernel_rfl) rfl rfl rfl fun K => ?_
  refine T.seq (T.region ?_)
  refine L.q 1 rfl ?_
  refine L.nil (E.then (T.seq (T.seq (T.region ?_))))
  refine L.q 3 rfl ?_
  refine L.y (Yl.ldb 0 rfl rfl rfl rfl) rfl rfl rfl ?_
  refine L.q 1 rfl ?_
  refine L.nil (E.then ?_)
  refine T.bif rfl H (fun hc H2 => ?_) (fun hc H2 => ?_)
  · refine T.seq (T.region ?_)
    refine L.q 1 rfl ?_
    refine L.nil (E.then (T.ret (E.then_ret ?_)))
    have hr := Option.some.inj H2
    subst r
    exact E.ret () [0] [] (.tmp rfl .nil) rfl rfl rfl
  refine T.skip (E.then (T.seq (T.region ?_)))
  refine L.q 3 rfl ?_
  refine L.y (Yl.ldb 0 rfl rfl rfl rfl) rfl rfl rfl ?_
  refine L.q 1 rfl ?_
  refine L.nil (E.then (T.ret ?_))
  have hr := Option.some.inj H2
  subst r
  exact E.ret () [0] [] (.tmp rfl .nil) rfl rfl rfl

theorem c_delta_read {s_ : ByteArray} {r : DeltaPatch × Int} (H : p_delta_read s_ = some r) : CT G 55 [.string s_] [] [] (fun h : (Option Addr × Nat) × Option Nat => .tuple #[.agg (bx112 r.1 none 0 h.1.1 h.1.2 h.2).toArray, .int .i64 r.2]) (fun h => [Ch.mp tyRowRow true h.2 r.1.rows]) (fun h => [Im.sl tyRowRow none 0 r.1.to.rows, Im.sl tyRowGlyph h.1.1 h.1.2 r.1.to.begun]) := by
  delta p_delta_read at H
  refine CT.of Go.Proofs.Tryd.func55 (by kernel_rfl) rfl rfl rfl fun K => ?_
  refine T.seq (T.region ?_)
  refine L.a [] [] (Ac.alloc rfl rfl) rfl rfl rfl rfl rfl ?_
  intro g1
  refine L.q 1 rfl ?_
  refine L.nil (E.then (T.seq (T.region ?_)))
  refine L.q 1 rfl ?_
  obtain ⟨r2, h3, H4⟩ := bnd H
  refine L.a [] [] (Ac.call (c_num_Of h3) rfl rfl rfl rfl) rfl rfl rfl rfl rfl ?_
  rintro g5
  refine L.q 1 rfl ?_
  refine L.nil (E.then (T.seq (T.region ?_)))
  refine L.q 1 rfl ?_
  obtain ⟨r6, h7, H8⟩ := bnd H4
  refine L.a [0] [] (Ac.call (c_num_In_Num g5 h7) rfl rfl rfl rfl) rfl rfl rfl rfl rfl ?_
  rintro ⟨⟩
  refine L.a [] [] (Ac.mkm (ty := tyRowRow) (ag := true) rfl rfl rfl) rfl rfl rfl rfl rfl ?_
  intro g9
  refine L.q 1 rfl ?_
  refine L.a [] [] (Ac.alloc rfl rfl) rfl rfl rfl rfl rfl ?_
  intro g11
  refine L.a [0] [] (Ac.stb rfl rfl rfl rfl rfl rfl) rfl rfl rfl rfl rfl ?_
  intro _
  refine L.nil (E.then (T.seq (T.region ?_)))
  refine L.q 1 rfl ?_
  obtain ⟨r12, h13, H14⟩ := bnd H8
  refine L.a [2] [] (Ac.call (c_num_In_Num g5 h13) rfl rfl rfl rfl) rfl rfl rfl rfl rfl ?_
  rintro ⟨⟩
  refine L.q 1 rfl ?_
  obtain ⟨r15, h16, H17⟩ := bnd H14
  refine L.a [0] [] (Ac.call (c_delta_size g5 h16) rfl rfl rfl rfl) rfl rfl rfl rfl rfl ?_
  rintro ⟨⟩
  refine L.q 1 rfl ?_
  obtain ⟨r18, h19, H20⟩ := bnd H17
  refine L.a [0] [] (Ac.call (c_delta_size g5 h19) rfl rfl rfl rfl) rfl rfl rfl rfl rfl ?_
  rintro ⟨⟩
  refine L.q 1 rfl ?_
  obtain ⟨r21, h22, H23⟩ := bnd H20
  refine L.a [0] [] (Ac.call (c_num_In_Num g5 h22) rfl rfl rfl rfl) rfl rfl rfl rfl rfl ?_
  rintro ⟨⟩
  refine L.q 1 rfl ?_
  obtain ⟨r24, h25, H26⟩ := bnd H23
  refine L.a [0] [] (Ac.call (c_num_In_Num g5 h25) rfl rfl rfl rfl) rfl rfl rfl rfl rfl ?_
  rintro ⟨⟩
  refine L.q 1 rfl ?_
  obtain ⟨r27, h28, H29⟩ := bnd H26
  refine L.a [0] [] (Ac.call (c_num_In_Text g5 h28) rfl rfl rfl rfl) rfl rfl rfl rfl rfl ?_
  rintro ⟨⟩
  refine L.q 1 rfl ?_
  obtain ⟨r30, h31, H32⟩ := bnd H29
  refine L.a [0] [] (Ac.call (c_num_In_Num g5 h31) rfl rfl rfl rfl) rfl rfl rfl rfl rfl ?_
  rintro ⟨⟩
  refine L.q 1 rfl ?_
  obtain ⟨r33, h34, H35⟩ := bnd H32
  refine L.a [0] [] (Ac.call (c_num_In_Num g5 h34) rfl rfl rfl rfl) rfl rfl rfl rfl rfl ?_
  rintro ⟨⟩
  refine L.q 1 rfl ?_
  obtain ⟨r36, h37, H38⟩ := bnd H35
  refine L.a [0] [] (Ac.call (c_book_Read g5 h37) rfl rfl rfl rfl) rfl rfl rfl rfl rfl ?_
  rintro ⟨a39, c40⟩
  refine L.q 2 rfl ?_
  refine L.a [2] [] (Ac.stb rfl rfl rfl rfl rfl rfl) rfl rfl rfl rfl rfl ?_
  intro _
  refine L.nil (E.then (T.seq (T.region ?_)))
  refine L.q 1 rfl ?_
  refine L.nil (E.then (T.seq (T.seq (T.region ?_))))
  refine L.q 1 rfl ?_
  obtain ⟨r42, h43, H44⟩ := bnd H38
  refine L.a [2] [] (Ac.call (c_num_In_Num g5 h43) rfl rfl rfl rfl) rfl rfl rfl rfl rfl ?_
  rintro ⟨⟩
  refine L.q 1 rfl ?_
  refine L.nil (E.then ?_)
  obtain ⟨e378, H379, H380⟩ := bnd H44
  refine T.join (η := Unit × (Option Nat)) (fun h => True) (fun h => (fun v376 => [(2, .pointer (some ⟨g1, 0, none⟩)), (4, .pointer (some ⟨g5, 0, none⟩)), (5, .pointer (some ⟨g11, 0, none⟩))]) h.2) (fun h => (fun v376 => [Ch.arr tyRowGlyph 86 a39 c40 e378.2.to.begun, Ch.mp tyRowRow true v376 e378.2.rows, Ch.box g5 176 [.string e378.1.s, .int .i64 e378.1.e], Ch.box g11 112 [.int .i64 e378.2.sum, .int .i64 e378.2.to.k, .int .i64 e378.2.to.w, .int .i64 e378.2.to.h, .int .i64 e378.2.to.x, .int .i64 e378.2.to.y, .string e378.2.to.title, .slice none 0 0, .int .i64 e378.2.to.len, .int .i64 e378.2.to.chain, .slice a39 e378.2.to.begun.length c40, .map v376], Ch.box g1 112 [.int .i64 0, .int .i64 0, .int .i64 0, .int .i64 0, .int .i64 0, .int .i64 0, .string (ByteArray.mk #[]), .slice none 0 0, .int .i64 0, .int .i64 0, .slice none 0 0, .map none]]) h.2) (fun h => (fun v376 => []) h.2) ?_ ?_
  · refine T.block ?_
    refine T.lp (η := Option Nat) (fun s270 h => (fun v265 => [(2, .pointer (some ⟨g1, 0, none⟩)), (4, .pointer (some ⟨g5, 0, none⟩)), (5, .pointer (some ⟨g11, 0, none⟩)), (6, .int .i64 s270.2.2.1), (7, .int .i64 s270.2.2.2)]) h) (fun s270 h => (fun v265 => [Ch.arr tyRowGlyph 86 a39 c40 s270.1.to.begun, Ch.mp tyRowRow true v265 s270.1.rows, Ch.box g5 176 [.string s270.2.1.s, .int .i64 s270.2.1.e], Ch.box g11 112 [.int .i64 s270.1.sum, .int .i64 s270.1.to.k, .int .i64 s270.1.to.w, .int .i64 s270.1.to.h, .int .i64 s270.1.to.x, .int .i64 s270.1.to.y, .string s270.1.to.title, .slice none 0 0, .int .i64 s270.1.to.len, .int .i64 s270.1.to.chain, .slice a39 s270.1.to.begun.length c40, .map v265], Ch.box g1 112 [.int .i64 0, .int .i64 0, .int .i64 0, .int .i64 0, .int .i64 0, .int .i64 0, .string (ByteArray.mk #[]), .slice none 0 0, .int .i64 0, .int .i64 0, .slice none 0 0, .map none]]) h) (fun s270 h => (fun v265 => []) h) (some g9) [2, 2, 0, 0, 0] [] H379 ⟨rfl, rfl, rfl, rfl, rfl, trivial⟩ rfl rfl ?_
    rintro k_ s270 v265 z382 H381 hag383 hbr384
    refine T.seq (T.seq ?_)
    obtain ⟨e394, H395, H396⟩ := bnd H381
    refine T.join (η := Unit × Unit) (fun h => True) (fun h => [(2, .pointer (some ⟨g1, 0, none⟩)), (4, .pointer (some ⟨g5, 0, none⟩)), (5, .pointer (some ⟨g11, 0, none⟩)), (6, .int .i64 s270.2.2.1), (7, .int .i64 s270.2.2.2), (43, .bool e394)]) (fun h => [Ch.box g5 176 [.string s270.2.1.s, .int .i64 s270.2.1.e], Ch.box g11 112 [.int .i64 s270.1.sum, .int .i64 s270.1.to.k, .int .i64 s270.1.to.w, .int .i64 s270.1.to.h, .int .i64 s270.1.to.x, .int .i64 s270.1.to.y, .string s270.1.to.title, .slice none 0 0, .int .i64 s270.1.to.len, .int .i64 s270.1.to.chain, .slice a39 s270.1.to.begun.length c40, .map v265], Ch.box g1 112 [.int .i64 0, .int .i64 0, .int .i64 0, .int .i64 0, .int .i64 0, .int .i64 0, .string (ByteArray.mk #[]), .slice none 0 0, .int .i64 0, .int .i64 0, .slice none 0 0, .map none], Ch.arr tyRowGlyph 86 a39 c40 s270.1.to.begun, Ch.mp tyRowRow true v265 s270.1.rows]) (fun h => []) ?_ ?_
    · refine T.region ?_
      refine L.q 3 rfl ?_
      refine L.cs 39 H395 rfl (fun hc H397 => ?_) (fun hc H397 => ?_)
      · refine L.q 1 rfl ?_
        obtain ⟨r398, h399, H400⟩ := bnd H397
        refine L.a [2] [] (Ac.call (c_num_In_Err g5 h399) rfl rfl rfl rfl) rfl rfl rfl rfl rfl ?_
        rintro ⟨⟩
        refine L.q 2 rfl ?_
        refine L.nil ?_
        have hr := Option.some.inj H400
        subst e394
        exact E.give ((), ()) [0, 2, 2, 0, 0] [] trivial ⟨rfl, rfl, rfl, rfl, rfl, rfl, trivial⟩ rfl rfl
      refine L.q 4 rfl ?_
      refine L.nil ?_
      have hr := Option.some.inj H397
      subst e394
      exact E.give ((), ()) [2, 2, 2, 0, 0] [] trivial ⟨rfl, rfl, rfl, rfl, rfl, rfl, trivial⟩ rfl rfl
    rintro ⟨_, ⟨⟩⟩ _
    refine T.bif rfl H396 (fun hc H402 => ?_) (fun hc H402 => ?_)
    · refine T.skip (E.then (T.seq (T.block (T.seq (T.region ?_)))))
      refine L.q 1 rfl ?_
      obtain ⟨r445, h446, H447⟩ := bnd H402
      refine L.a [0] [] (Ac.call (c_num_In_Num g5 h446) rfl rfl rfl rfl) rfl rfl rfl rfl rfl ?_
      rintro ⟨⟩
      refine L.q 1 rfl ?_
      refine L.nil (E.then (T.seq (T.seq ?_)))
      obtain ⟨e451, H452, H453⟩ := bnd H447
      refine T.join (η := Unit × Unit) (fun h => True) (fun h => [(2, .pointer (some ⟨g1, 0, none⟩)), (4, .pointer (some ⟨g5, 0, none⟩)), (5, .pointer (some ⟨g11, 0, none⟩)), (7, .int .i64 s270.2.2.2), (8, .int .i64 r445.1), (57, .bool e451)]) (fun h => [Ch.box g5 176 [.string r445.2.s, .int .i64 r445.2.e], Ch.box g11 112 [.int .i64 s270.1.sum, .int .i64 s270.1.to.k, .int .i64 s270.1.to.w, .int .i64 s270.1.to.h, .int .i64 s270.1.to.x, .int .i64 s270.1.to.y, .string s270.1.to.title, .slice none 0 0, .int .i64 s270.1.to.len, .int .i64 s270.1.to.chain, .slice a39 s270.1.to.begun.length c40, .map v265], Ch.box g1 112 [.int .i64 0, .int .i64 0, .int .i64 0, .int .i64 0, .int .i64 0, .int .i64 0, .string (ByteArray.mk #[]), .slice none 0 0, .int .i64 0, .int .i64 0, .slice none 0 0, .map none], Ch.arr tyRowGlyph 86 a39 c40 s270.1.to.begun, Ch.mp tyRowRow true v265 s270.1.rows]) (fun h => []) ?_ ?_
      · refine T.region ?_
        refine L.q 4 rfl ?_
        refine L.cs 51 H452 rfl (fun hc H454 => ?_) (fun hc H454 => ?_)
        · refine L.q 6 rfl ?_
          refine L.nil ?_
          have hr := Option.some.inj H454
          subst e451
          exact E.give ((), ()) [0, 0, 0, 0, 0] [] trivial ⟨rfl, rfl, rfl, rfl, rfl, rfl, trivial⟩ rfl rfl
        refine L.q 3 rfl ?_
        refine L.y (Yl.ldb 1 rfl rfl rfl rfl) rfl rfl rfl ?_
        refine L.q 2 rfl ?_
        refine L.nil ?_
        have hr := Option.some.inj H454
        subst e451
        exact E.give ((), ()) [0, 0, 0, 0, 0] [] trivial ⟨rfl, rfl, rfl, rfl, rfl, rfl, trivial⟩ rfl rfl
      rintro ⟨_, ⟨⟩⟩ _
      obtain ⟨e464, H465, H466⟩ := bnd H453
      refine T.join (η := Unit × Unit) (fun h => True) (fun h => [(2, .pointer (some ⟨g1, 0, none⟩)), (4, .pointer (some ⟨g5, 0, none⟩)), (5, .pointer (some ⟨g11, 0, none⟩)), (7, .int .i64 s270.2.2.2), (8, .int .i64 r445.1)]) (fun h => [Ch.box g5 176 [.string e464.s, .int .i64 e464.e], Ch.box g11 112 [.int .i64 s270.1.sum, .int .i64 s270.1.to.k, .int .i64 s270.1.to.w, .int .i64 s270.1.to.h, .int .i64 s270.1.to.x, .int .i64 s270.1.to.y, .string s270.1.to.title, .slice none 0 0, .int .i64 s270.1.to.len, .int .i64 s270.1.to.chain, .slice a39 s270.1.to.begun.length c40, .map v265], Ch.box g1 112 [.int .i64 0, .int .i64 0, .int .i64 0, .int .i64 0, .int .i64 0, .int .i64 0, .string (ByteArray.mk #[]), .slice none 0 0, .int .i64 0, .int .i64 0, .slice none 0 0, .map none], Ch.arr tyRowGlyph 86 a39 c40 s270.1.to.begun, Ch.mp tyRowRow true v265 s270.1.rows]) (fun h => []) ?_ ?_
      · refine T.bif rfl H465 (fun hc H467 => ?_) (fun hc H467 => ?_)
        · refine T.region ?_
          refine L.q 1 rfl ?_
          obtain ⟨r468, h469, H470⟩ := bnd H467
          refine L.a [0] [] (Ac.call (c_num_In_Fail g5 h469) rfl rfl rfl rfl) rfl rfl rfl rfl rfl ?_
          rintro ⟨⟩
          refine L.nil ?_
          have hr := Option.some.inj H470
          subst e464
          exact E.give ((), ()) [0, 0, 0, 0, 0] [] trivial ⟨rfl, rfl, rfl, rfl, rfl, trivial⟩ rfl rfl
        refine T.skip ?_
        have hr := Option.some.inj H467
        subst e464
        exact E.give ((), ()) [0, 0, 0, 0, 0] [] trivial ⟨rfl, rfl, rfl, rfl, rfl, trivial⟩ rfl rfl
      rintro ⟨_, ⟨⟩⟩ _
      refine T.seq (T.region ?_)
      refine L.q 2 rfl ?_
      refine L.nil (E.then ?_)
      refine T.draw [] [1, 1, 1] mo (by rfl) rfl ?_
      refine D.q 0 rfl rfl rfl rfl rfl rfl ?_
      refine D.y 1 (Yl.ldb 0 rfl rfl rfl rfl) rfl rfl rfl rfl rfl rfl ?_
      refine D.q 2 rfl rfl rfl rfl rfl rfl ?_
      refine D.q 3 rfl rfl rfl rfl rfl rfl ?_
      refine D.q 4 rfl rfl rfl rfl rfl rfl ?_
      refine D.q 5 rfl rfl rfl rfl rfl rfl ?_
      refine D.y 6 (Yl.ldb 0 rfl rfl rfl rfl) rfl rfl rfl rfl rfl rfl ?_
      obtain ⟨r479, h480, H481⟩ := bnd H466
      refine D.one rfl rfl rfl (Dp.a [0] [] (Ac.call (c_snap_ReadRow g5 h480) rfl rfl rfl rfl) rfl rfl rfl rfl rfl rfl ?_)
      rintro ⟨a482, c483⟩
      obtain ⟨_, h485, H486⟩ := bnd H481
      refine D.one rfl rfl rfl (Dp.a [1] [0] (Ac.mu (ty := tyRowRow) (ag := true) r445.1 r479.1 (a482, c483) h485 (.inl rfl) rfl rfl rfl rfl rfl rfl rfl rfl) rfl rfl rfl rfl rfl rfl ?_)
      intro _
      refine D.nil rfl rfl ?_
      refine E.block (E.then (T.region ?_))
      refine L.q 3 rfl ?_
      refine L.nil ?_
      have hr := Option.some.inj H486
      subst z382
      exact E.give (_, v265) [2, 2, 2, 0, 0] [] (hag383 _ rfl) ⟨rfl, rfl, rfl, rfl, rfl, trivial⟩ rfl rfl
    refine T.exit (E.then_exit' (E.then_exit' (E.block_here ?_)))
    have hr := Option.some.inj H402
    subst z382
    have hb := hbr384 _ rfl
    subst e378
    exact E.give ((), v265) [3, 3, 0, 0, 0] [] trivial ⟨rfl, rfl, rfl, trivial⟩ rfl rfl
  rintro ⟨_, v376⟩ _
  refine T.seq ?_
  refine T.draw [3] [0, 0, 1, 1] mo (by rfl) rfl ?_
  refine D.y 0 (Yl.ldb 2 rfl rfl rfl rfl) rfl rfl rfl rfl rfl rfl ?_
  refine D.q 1 rfl rfl rfl rfl rfl rfl ?_
  obtain ⟨r496, h497, H498⟩ := bnd H380
  refine D.one rfl rfl rfl (Dp.a [0] [] (Ac.call (c_num_In_End g5 h497) rfl rfl rfl rfl) rfl rfl rfl rfl rfl rfl ?_)
  rintro ⟨⟩
  refine D.one rfl rfl rfl (Dp.al [3] [] (Ac.stb rfl rfl rfl rfl rfl rfl) rfl rfl rfl rfl rfl rfl rfl ?_)
  intro _
  refine D.q 4 rfl rfl rfl rfl rfl rfl ?_
  refine D.nil rfl rfl ?_
  refine E.then (T.ret ?_)
  refine E.know [Im.sl tyRowRow none 0 []] (fun A w _ _ f hf => by rw [List.mem_singleton.1 hf]; exact Im.sl_nil A w) ?_
  refine E.frz 1 rfl ?_
  have hr := Option.some.inj H498
  subst r
  exact E.ret ((a39, c40), v376) [1] [1, 0] (.cell 0 rfl rfl rfl (.tmp rfl .nil)) rfl rfl rfl

theorem c_delta_patch_build {p : DeltaPatch} {a : SnapSnap} (g_0 : Nat) (a_0_0 : Option Addr) (c_0_0 : Nat) (a_0_1 : Option Addr) (c_0_1 : Nat) (v_0_2 : Option Nat) (a_1_0 : Option Addr) (c_1_0 : Nat) (a_1_1 : Option Addr) (c_1_1 : Nat) {r : Bool × DeltaPatch} (H : p_delta_patch_build p a = some r) : CT G 57 [.pointer (some ⟨g_0, 0, none⟩), .agg (bx25 a a_1_0 c_1_0 a_1_1 c_1_1).toArray] [Ch.box g_0 112 (bx112 p a_0_0 c_0_0 a_0_1 c_0_1 v_0_2), Ch.arr tyRowRow 66 a_0_0 c_0_0 p.to.rows, Ch.mp tyRowRow true v_0_2 p.rows] [Im.sl tyRowGlyph a_0_1 c_0_1 p.to.begun, Im.sl tyRowRow a_1_0 c_1_0 a.rows, Im.sl tyRowGlyph a_1_1 c_1_1 a.begun] (fun h : (Option Addr × Nat) => .bool r.1) (fun h => [Ch.box g_0 112 (bx112 r.2 h.1 h.2 a_0_1 c_0_1 v_0_2), Ch.mp tyRowRow true v_0_2 r.2.rows]) (fun h => [Im.sl tyRowRow h.1 h.2 r.2.to.rows, Im.sl tyRowGlyph a_0_1 c_0_1 r.2.to.begun]) := by
  delta p_delta_patch_build at H
  refine CT.of Go.Proofs.Tryd.func57 (by kernel_rfl) rfl rfl rfl fun K => ?_
  refine T.seq (T.region ?_)
  refine L.a [] [] (Ac.box rfl rfl) rfl rfl rfl rfl rfl ?_
  intro g1
  refine L.q 1 rfl ?_
  refine L.nil (E.then (T.seq (T.seq (T.region ?_))))
  refine L.q 4 rfl ?_
  refine L.y (Yl.ldb 1 rfl rfl rfl rfl) rfl rfl rfl ?_
  refine L.q 1 rfl ?_
  refine L.nil (E.then ?_)
  obtain ⟨y817, H818, H819⟩ := bnd H
  refine T.join (η := DeltaPatch × ((Option Addr × Nat))) (fun h => y817 = .inl h.1) (fun h => (fun e816 => (fun a811 c812 => [(0, .pointer (some ⟨g_0, 0, none⟩))]) h.2.1 h.2.2) h.1) (fun h => (fun e816 => (fun a811 c812 => [Ch.arr tyRowRow 66 a811 c812 e816.to.rows, Ch.mp tyRowRow true v_0_2 e816.rows, Ch.box g1 25 (bx25 a a_1_0 c_1_0 a_1_1 c_1_1), Ch.box g_0 112 (bx112 e816 a811 c812 a_0_1 c_0_1 v_0_2)]) h.2.1 h.2.2) h.1) (fun h => (fun e816 => (fun a811 c812 => [Im.sl tyRowGlyph a_0_1 c_0_1 e816.to.begun, Im.sl tyRowGlyph a_0_1 c_0_1 p.to.begun, Im.sl tyRowRow a_1_0 c_1_0 a.rows, Im.sl tyRowGlyph a_1_1 c_1_1 a.begun]) h.2.1 h.2.2) h.1) ?_ ?_
  · refine T.block ?_
    refine T.lp (η := (Option Addr × Nat)) (fun s547 h => (fun a541 c542 => [(0, .pointer (some ⟨g_0, 0, none⟩)), (3, .pointer (some ⟨g1, 0, none⟩)), (14, .int .i64 p.to.h), (15, .int .i64 s547.2)]) h.1 h.2) (fun s547 h => (fun a541 c542 => [Ch.arr tyRowRow 66 a541 c542 s547.1.to.rows, Ch.mp tyRowRow true v_0_2 s547.1.rows, Ch.box g1 25 (bx25 a a_1_0 c_1_0 a_1_1 c_1_1), Ch.box g_0 112 (bx112 s547.1 a541 c542 a_0_1 c_0_1 v_0_2)]) h.1 h.2) (fun s547 h => (fun a541 c542 => [Im.sl tyRowGlyph a_0_1 c_0_1 s547.1.to.begun, Im.sl tyRowGlyph a_0_1 c_0_1 p.to.begun, Im.sl tyRowRow a_1_0 c_1_0 a.rows, Im.sl tyRowGlyph a_1_1 c_1_1 a.begun]) h.1 h.2) (a_0_0, c_0_0) [2, 2, 0, 0] [0, 0, 1, 2] H818 ⟨rfl, rfl, rfl, rfl, trivial⟩ rfl rfl ?_
    rintro k_ s547 ⟨a541, c542⟩ z821 H820 hag822 hbr823
    refine T.seq (T.region ?_)
    refine L.q 1 rfl ?_
    refine L.nil (E.then (T.seq ?_))
    refine T.bif rfl H820 (fun hc H825 => ?_) (fun hc H825 => ?_)
    · refine T.skip (E.then (T.seq (T.block (T.seq (T.region ?_)))))
      refine L.q 2 rfl ?_
      refine L.nil (E.then (T.seq (T.region ?_)))
      refine L.y (Yl.ldb 2 rfl rfl rfl rfl) rfl rfl rfl ?_
      refine L.q 1 rfl ?_
      obtain ⟨r956, h957, H958⟩ := bnd H825
      refine L.a [] [2, 3] (Ac.call (c_delta_rowOf a_1_0 c_1_0 a_1_1 c_1_1 h957) rfl rfl rfl rfl) rfl rfl rfl rfl rfl ?_
      rintro ⟨a959, c960⟩
      refine L.q 3 rfl ?_
      refine L.a [] [] (Ac.alloc rfl rfl) rfl rfl rfl rfl rfl ?_
      intro g962
      refine L.a [0] [] (Ac.stb rfl rfl rfl rfl rfl rfl) rfl rfl rfl rfl rfl ?_
      intro _
      refine L.q 1 rfl ?_
      refine L.nil (E.then (T.seq (T.region ?_)))
      refine L.q 3 rfl ?_
      refine L.y (Yl.ldb 4 rfl rfl rfl rfl) rfl rfl rfl ?_
      refine L.q 1 rfl ?_
      refine L.a [2] [] (Ac.ml (ty := tyRowRow) (ag := true) (vv := (fun h : (Option Addr × Nat) => (fun a963 c964 => .agg #[.slice a963 ((mgd s547.1.rows s547.2 (RowRow.mk ([] : List RowCell) false)).cells).length c964, .bool ((mgd s547.1.rows s547.2 (RowRow.mk ([] : List RowCell) false)).wrapped)]) h.1 h.2)) s547.2 (RowRow.mk ([] : List RowCell) false) (none, 0) rfl rfl rfl rfl rfl rfl rfl rfl rfl (fun _ _ f hf => by rw [List.mem_singleton.1 hf]; exact Im.sl_nil _ _) zag_66 (fun _ => rfl)) rfl rfl rfl rfl rfl ?_
      rintro ⟨a963, c964⟩
      refine L.q 3 rfl ?_
      refine L.a [] [] (Ac.alloc rfl rfl) rfl rfl rfl rfl rfl ?_
      intro g966
      refine L.a [0] [] (Ac.stb rfl rfl rfl rfl rfl rfl) rfl rfl rfl rfl rfl ?_
      intro _
      refine L.q 1 rfl ?_
      refine L.nil (E.then (T.seq ?_))
      obtain ⟨y1034, H1035, H1036⟩ := bnd H958
      refine T.join (η := RowRow × ((Option Addr × Nat))) (fun h => y1034 = .inl h.1) (fun h => (fun e1033 => (fun a1030 c1031 => [(0, .pointer (some ⟨g_0, 0, none⟩)), (3, .pointer (some ⟨g1, 0, none⟩)), (8, .pointer (some ⟨g966, 0, none⟩)), (14, .int .i64 p.to.h), (15, .int .i64 s547.2)]) h.2.1 h.2.2) h.1) (fun h => (fun e1033 => (fun a1030 c1031 => [Ch.box g966 66 [.slice a1030 e1033.cells.length c1031, .bool e1033.wrapped], Ch.box g962 66 [.slice a959 r956.1.cells.length c960, .bool r956.1.wrapped], Ch.box g1 25 (bx25 a a_1_0 c_1_0 a_1_1 c_1_1), Ch.box g_0 112 (bx112 s547.1 a541 c542 a_0_1 c_0_1 v_0_2), Ch.mp tyRowRow true v_0_2 s547.1.rows, Ch.arr tyRowRow 66 a541 c542 s547.1.to.rows]) h.2.1 h.2.2) h.1) (fun h => (fun e1033 => (fun a1030 c1031 => [Im.sl tyRowCell a1030 c1031 e1033.cells, Im.sl tyRowCell a963 c964 ((mgd s547.1.rows s547.2 (RowRow.mk ([] : List RowCell) false)).cells), Im.sl tyRowCell a959 c960 r956.1.cells, Im.sl tyRowGlyph a_0_1 c_0_1 s547.1.to.begun, Im.sl tyRowGlyph a_0_1 c_0_1 p.to.begun, Im.sl tyRowRow a_1_0 c_1_0 a.rows, Im.sl tyRowGlyph a_1_1 c_1_1 a.begun]) h.2.1 h.2.2) h.1) ?_ ?_
      · refine T.block (T.seq (T.seq ?_))
        obtain ⟨e1048, H1049, H1050⟩ := bnd H1035
        refine T.join (η := Unit × Unit) (fun h => True) (fun h => [(0, .pointer (some ⟨g_0, 0, none⟩)), (3, .pointer (some ⟨g1, 0, none⟩)), (6, .pointer (some ⟨g962, 0, none⟩)), (7, .bool r956.2), (8, .pointer (some ⟨g966, 0, none⟩)), (9, .bool (mhas s547.1.rows s547.2)), (14, .int .i64 p.to.h), (15, .int .i64 s547.2), (33, .bool e1048)]) (fun h => [Ch.box g966 66 [.slice a963 ((mgd s547.1.rows s547.2 (RowRow.mk ([] : List RowCell) false)).cells).length c964, .bool ((mgd s547.1.rows s547.2 (RowRow.mk ([] : List RowCell) false)).wrapped)], Ch.box g962 66 [.slice a959 r956.1.cells.length c960, .bool r956.1.wrapped], Ch.box g1 25 (bx25 a a_1_0 c_1_0 a_1_1 c_1_1), Ch.box g_0 112 (bx112 s547.1 a541 c542 a_0_1 c_0_1 v_0_2), Ch.mp tyRowRow true v_0_2 s547.1.rows, Ch.arr tyRowRow 66 a541 c542 s547.1.to.rows]) (fun h => [Im.sl tyRowCell a963 c964 ((mgd s547.1.rows s547.2 (RowRow.mk ([] : List RowCell) false)).cells), Im.sl tyRowCell a959 c960 r956.1.cells, Im.sl tyRowGlyph a_0_1 c_0_1 s547.1.to.begun, Im.sl tyRowGlyph a_0_1 c_0_1 p.to.begun, Im.sl tyRowRow a_1_0 c_1_0 a.rows, Im.sl tyRowGlyph a_1_1 c_1_1 a.begun]) ?_ ?_
        · refine T.region ?_
          refine L.q 2 rfl ?_
          refine L.cs 35 H1049 rfl (fun hc H1051 => ?_) (fun hc H1051 => ?_)
          · refine L.q 3 rfl ?_
            refine L.cs 38 H1051 rfl (fun hc H1052 => ?_) (fun hc H1052 => ?_)
            · refine L.y (Yl.ldb 2 rfl rfl rfl rfl) rfl rfl rfl ?_
              refine L.y (Yl.ldb 0 rfl rfl rfl rfl) rfl rfl rfl ?_
              obtain ⟨r1053, h1054, H1055⟩ := bnd H1052
              refine L.a [] [1, 0] (Ac.call (c_row_Row_Same a959 c960 a963 c964 h1054) rfl rfl rfl rfl) rfl rfl rfl rfl rfl ?_
              rintro ⟨⟩
              refine L.q 2 rfl ?_
              refine L.nil ?_
              have hr := Option.some.inj H1055
              subst e1048
              exact E.give ((), ()) [0, 1, 2, 2, 0, 0] [0, 1, 2, 3, 4, 5] trivial ⟨rfl, rfl, rfl, rfl, rfl, rfl, rfl, rfl, rfl, trivial⟩ rfl rfl
            refine L.q 5 rfl ?_
            refine L.nil ?_
            have hr := Option.some.inj H1052
            subst e1048
            exact E.give ((), ()) [0, 1, 2, 2, 0, 0] [0, 1, 2, 3, 4, 5] trivial ⟨rfl, rfl, rfl, rfl, rfl, rfl, rfl, rfl, rfl, trivial⟩ rfl rfl
          refine L.q 8 rfl ?_
          refine L.nil ?_
          have hr := Option.some.inj H1051
          subst e1048
          exact E.give ((), ()) [0, 1, 2, 2, 0, 0] [0, 1, 2, 3, 4, 5] trivial ⟨rfl, rfl, rfl, rfl, rfl, rfl, rfl, rfl, rfl, trivial⟩ rfl rfl
        rintro ⟨_, ⟨⟩⟩ _
        obtain ⟨e1061, H1062, H1063⟩ := bnd H1050
        refine T.join (η := Unit × Unit) (fun h => True) (fun h => [(0, .pointer (some ⟨g_0, 0, none⟩)), (3, .pointer (some ⟨g1, 0, none⟩)), (6, .pointer (some ⟨g962, 0, none⟩)), (8, .pointer (some ⟨g966, 0, none⟩)), (9, .bool (mhas s547.1.rows s547.2)), (14, .int .i64 p.to.h), (15, .int .i64 s547.2), (33, .bool e1061)]) (fun h => [Ch.box g966 66 [.slice a963 ((mgd s547.1.rows s547.2 (RowRow.mk ([] : List RowCell) false)).cells).length c964, .bool ((mgd s547.1.rows s547.2 (RowRow.mk ([] : List RowCell) false)).wrapped)], Ch.box g962 66 [.slice a959 r956.1.cells.length c960, .bool r956.1.wrapped], Ch.box g1 25 (bx25 a a_1_0 c_1_0 a_1_1 c_1_1), Ch.box g_0 112 (bx112 s547.1 a541 c542 a_0_1 c_0_1 v_0_2), Ch.mp tyRowRow true v_0_2 s547.1.rows, Ch.arr tyRowRow 66 a541 c542 s547.1.to.rows]) (fun h => [Im.sl tyRowCell a963 c964 ((mgd s547.1.rows s547.2 (RowRow.mk ([] : List RowCell) false)).cells), Im.sl tyRowCell a959 c960 r956.1.cells, Im.sl tyRowGlyph a_0_1 c_0_1 s547.1.to.begun, Im.sl tyRowGlyph a_0_1 c_0_1 p.to.begun, Im.sl tyRowRow a_1_0 c_1_0 a.rows, Im.sl tyRowGlyph a_1_1 c_1_1 a.begun]) ?_ ?_
        · refine T.bif rfl H1062 (fun hc H1064 => ?_) (fun hc H1064 => ?_)
          · refine T.skip ?_
            have hr := Option.some.inj H1064
            subst e1061
            exact E.give ((), ()) [0, 0, 0, 0, 0, 0] [0, 1, 2, 3, 4, 5] trivial ⟨rfl, rfl, rfl, rfl, rfl, rfl, rfl, rfl, trivial⟩ rfl rfl
          refine T.region ?_
          refine L.q 3 rfl ?_
          refine L.cs 45 H1064 rfl (fun hc H1065 => ?_) (fun hc H1065 => ?_)
          · refine L.q 4 rfl ?_
            refine L.nil ?_
            have hr := Option.some.inj H1065
            subst e1061
            exact E.give ((), ()) [0, 0, 0, 0, 0, 0] [0, 1, 2, 3, 4, 5] trivial ⟨rfl, rfl, rfl, rfl, rfl, rfl, rfl, rfl, trivial⟩ rfl rfl
          refine L.q 4 rfl ?_
          refine L.nil ?_
          have hr := Option.some.inj H1065
          subst e1061
          exact E.give ((), ()) [0, 0, 0, 0, 0, 0] [0, 1, 2, 3, 4, 5] trivial ⟨rfl, rfl, rfl, rfl, rfl, rfl, rfl, rfl, trivial⟩ rfl rfl
        rintro ⟨_, ⟨⟩⟩ _
        refine T.bif rfl H1063 (fun hc H1066 => ?_) (fun hc H1066 => ?_)
        · refine T.seq (T.region ?_)
          refine L.q 1 rfl ?_
          refine L.nil (E.then (T.ret (E.block_ret ?_)))
          obtain ⟨w1067, hz, H1068⟩ := inrs_some H1066
          subst y1034
          have hw : w1067 = z821 := Option.some.inj H1036
          subst w1067
          refine E.then_ret (E.block_ret (E.then_ret (E.then_ret (E.block_ret ?_))))
          obtain ⟨w1069, hz, H1070⟩ := inrr_some H1068
          subst z821
          have hb := hbr823 _ rfl
          subst y817
          have hw : w1069 = r := Option.some.inj H819
          subst w1069
          refine E.then_ret ?_
          refine E.frz 5 rfl ?_
          have hr := Option.some.inj H1070
          subst r
          exact E.ret (a541, c542) [3, 3] [0, 3] (.tmp rfl .nil) rfl rfl rfl
        refine T.seq (T.region ?_)
        refine L.q 3 rfl ?_
        refine L.nil (E.then ?_)
        refine T.bif rfl H1066 (fun hc H1072 => ?_) (fun hc H1072 => ?_)
        · refine T.region ?_
          refine L.y (Yl.ldb 1 rfl rfl rfl rfl) rfl rfl rfl ?_
          refine L.a [0] [] (Ac.stb rfl rfl rfl rfl rfl rfl) rfl rfl rfl rfl rfl ?_
          intro _
          refine L.nil (E.block ?_)
          have hr := Option.some.inj H1072
          subst y1034
          exact E.give (_, (a959, c960)) [0, 0, 0, 0, 0, 0] [1, 0, 1, 2, 3, 4, 5] rfl ⟨rfl, rfl, rfl, rfl, rfl, trivial⟩ rfl rfl
        refine T.skip (E.block ?_)
        have hr := Option.some.inj H1072
        subst y1034
        exact E.give (_, (a963, c964)) [0, 0, 0, 0, 0, 0] [0, 0, 1, 2, 3, 4, 5] rfl ⟨rfl, rfl, rfl, rfl, rfl, trivial⟩ rfl rfl
      rintro ⟨e1033, ⟨a1030, c1031⟩⟩ hy
      subst hy
      refine T.draw [12] [0, 0, 0, 0, 0] mo (by rfl) rfl ?_
      refine D.q 0 rfl rfl rfl rfl rfl rfl ?_
      refine D.q 1 rfl rfl rfl rfl rfl rfl ?_
      refine D.q 2 rfl rfl rfl rfl rfl rfl ?_
      refine D.q 3 rfl rfl rfl rfl rfl rfl ?_
      refine D.q 4 rfl rfl rfl rfl rfl rfl ?_
      refine D.y 5 (Yl.ldb 3 rfl rfl rfl rfl) rfl rfl rfl rfl rfl rfl ?_
      refine D.y 6 (Yl.ldb 0 rfl rfl rfl rfl) rfl rfl rfl rfl rfl rfl ?_
      refine D.one rfl rfl rfl (Dp.a [] [0] (Ac.bs (ty := tyRowRow) (xs := [e1033]) (.cons (a1030, c1031) [0] rfl .nil) rfl rfl rfl rfl rfl rfl rfl) rfl rfl rfl rfl rfl rfl ?_)
      intro g1081
      refine D.frz 0 rfl ?_
      obtain ⟨_, h1084, H1085⟩ := bnd H1036
      refine D.one rfl rfl rfl (Dp.a [0] [0] (Ac.ap (ty := tyRowRow) h1084 rfl rfl rfl rfl rfl rfl rfl) rfl rfl rfl rfl rfl rfl ?_)
      rintro ⟨a1086, c1087⟩
      refine D.q 9 rfl rfl rfl rfl rfl rfl ?_
      refine D.q 10 rfl rfl rfl rfl rfl rfl ?_
      refine D.q 11 rfl rfl rfl rfl rfl rfl ?_
      refine D.one rfl rfl rfl (Dp.al [3] [] (Ac.stb rfl rfl rfl rfl rfl rfl) rfl rfl rfl rfl rfl rfl rfl ?_)
      intro _
      refine D.nil rfl rfl ?_
      refine E.block (E.then (T.region ?_))
      refine L.q 2 rfl ?_
      refine L.nil ?_
      have hr := Option.some.inj H1085
      subst z821
      exact E.give (_, (a1086, c1087)) [5, 4, 3, 0] [4, 5, 6, 7] (hag822 _ rfl) ⟨rfl, rfl, rfl, rfl, trivial⟩ rfl rfl
    refine T.exit (E.then_exit' (E.then_exit' (E.block_here ?_)))
    have hr := Option.some.inj H825
    subst z821
    have hb := hbr823 _ rfl
    subst y817
    exact E.give (_, (a541, c542)) [0, 0, 0, 0] [0, 1, 2, 3] rfl ⟨rfl, trivial⟩ rfl rfl
  rintro ⟨e816, ⟨a811, c812⟩⟩ hy
  subst hy
  refine T.seq (T.region ?_)
  refine L.q 3 rfl ?_
  refine L.y (Yl.ldb 3 rfl rfl rfl rfl) rfl rfl rfl ?_
  refine L.frz 0 rfl ?_
  obtain ⟨r1090, h1091, H1092⟩ := bnd H819
  refine L.a [] [0, 1] (Ac.call (c_delta_may a811 c812 a_0_1 c_0_1 h1091) rfl rfl rfl rfl) rfl rfl rfl rfl rfl ?_
  rintro ⟨⟩
  refine L.q 1 rfl ?_
  refine L.nil (E.then (T.ret ?_))
  have hr := Option.some.inj H1092
  subst r
  exact E.ret (a811, c812) [2, 0] [0, 1] (.tmp rfl .nil) rfl rfl rfl

end Go.Tw.X

set_option maxHeartbeats 2000000
set_option linter.unusedVariables false
set_option linter.unusedSimpArgs false
set_option maxRecDepth 10000
namespace Go.Tw.X
open Go Go.Tw
theorem c_delta_Apply {a : SnapSnap} {s_ : ByteArray} (a_0_0 : Option Addr) (c_0_0 : Nat) (a_0_1 : Option Addr) (c_0_1 : Nat) {r : SnapSnap × Int} (H : p_delta_Apply a s_ = some r) : CT G 24 [.agg (bx25 a a_0_0 c_0_0 a_0_1 c_0_1).toArray, .string s_] [] [Im.sl tyRowRow a_0_0 c_0_0 a.rows, Im.sl tyRowGlyph a_0_1 c_0_1 a.begun, Im.sl (Ty.int .u32) (some ⟨0, 0, none⟩) 16 t_sum_half] (fun h : (Option Addr × Nat) × (Option Addr × Nat) => .tuple #[.agg (bx25 r.1 h.1.1 h.1.2 h.2.1 h.2.2).toArray, .int .i64 r.2]) (fun h => []) (fun h => [Im.sl tyRowRow h.1.1 h.1.2 r.1.rows, Im.sl tyRowGlyph h.2.1 h.2.2 r.1.begun]) := by
  delta p_delta_Apply at H
  refine CT.of Go.Proofs.Tryd.func24 (by kernel_rfl) rfl rfl rfl fun K => ?_
  refine T.seq (T.region ?_)
  refine L.a [] [] (Ac.box rfl rfl) rfl rfl rfl rfl rfl ?_
  intro g1
  refine L.a [] [] (Ac.alloc rfl rfl) rfl rfl rfl rfl rfl ?_
  intro g2
  refine L.q 1 rfl ?_
  refine L.nil (E.then (T.seq (T.seq (T.region ?_))))
  refine L.y (Yl.ldb 1 rfl rfl rfl rfl) rfl rfl rfl ?_
  obtain ⟨r3, h4, H5⟩ := bnd H
  refine L.a [] [0, 1] (Ac.call (c_snap_Snap_Check a_0_0 c_0_0 a_0_1 c_0_1 h4) rfl rfl rfl rfl) rfl rfl rfl rfl rfl ?_
  rintro ⟨⟩
  refine L.q 1 rfl ?_
  refine L.nil (E.then ?_)
  refine T.bif rfl H5 (fun hc H7 => ?_) (fun hc H7 => ?_)
  · refine T.seq (T.region ?_)
    refine L.q 1 rfl ?_
    refine L.a [0] [] (Ac.stb rfl rfl rfl rfl rfl rfl) rfl rfl rfl rfl rfl ?_
    intro _
    refine L.q 1 rfl ?_
    refine L.nil (E.then (T.ret (E.then_ret ?_)))
    refine E.know [Im.sl tyRowRow none 0 []] (fun A w _ _ f hf => by rw [List.mem_singleton.1 hf]; exact Im.sl_nil A w) ?_
    refine E.know [Im.sl tyRowGlyph none 0 []] (fun A w _ _ f hf => by rw [List.mem_singleton.1 hf]; exact Im.sl_nil A w) ?_
    have hr := Option.some.inj H7
    subst r
    exact E.ret ((none, 0), (none, 0)) [] [1, 0] (.cell 0 rfl rfl rfl (.tmp rfl .nil)) rfl rfl rfl
  refine T.skip (E.then (T.seq (T.region ?_)))
  refine L.q 1 rfl ?_
  obtain ⟨r10, h11, H12⟩ := bnd H7
  refine L.a [] [] (Ac.call (c_delta_read h11) rfl rfl rfl rfl) rfl rfl rfl rfl rfl ?_
  rintro ⟨⟨a13, c14⟩, v15⟩
  refine L.q 3 rfl ?_
  refine L.a [] [] (Ac.alloc rfl rfl) rfl rfl rfl rfl rfl ?_
  intro g19
  refine L.a [0] [] (Ac.stb rfl rfl rfl rfl rfl rfl) rfl rfl rfl rfl rfl ?_
  intro _
  refine L.q 1 rfl ?_
  refine L.nil (E.then (T.seq (T.block (T.seq (T.region ?_)))))
  refine L.q 3 rfl ?_
  refine L.nil (E.then ?_)
  refine T.bif rfl H12 (fun hc H44 => ?_) (fun hc H44 => ?_)
  · refine T.seq (T.region ?_)
    refine L.q 2 rfl ?_
    refine L.a [2] [] (Ac.stb rfl rfl rfl rfl rfl rfl) rfl rfl rfl rfl rfl ?_
    intro _
    refine L.q 1 rfl ?_
    refine L.nil (E.then (T.ret (E.block_ret (E.then_ret ?_))))
    refine E.know [Im.sl tyRowRow none 0 []] (fun A w _ _ f hf => by rw [List.mem_singleton.1 hf]; exact Im.sl_nil A w) ?_
    refine E.know [Im.sl tyRowGlyph none 0 []] (fun A w _ _ f hf => by rw [List.mem_singleton.1 hf]; exact Im.sl_nil A w) ?_
    have hr := Option.some.inj H44
    subst r
    exact E.ret ((none, 0), (none, 0)) [] [1, 0] (.cell 0 rfl rfl rfl (.tmp rfl .nil)) rfl rfl rfl
  refine T.seq ?_
  refine T.draw [] [0, 0, 0, 0] mo (by rfl) rfl ?_
  refine D.q 0 rfl rfl rfl rfl rfl rfl ?_
  refine D.y 1 (Yl.ldb 0 rfl rfl rfl rfl) rfl rfl rfl rfl rfl rfl ?_
  refine D.y 2 (Yl.ldb 3 rfl rfl rfl rfl) rfl rfl rfl rfl rfl rfl ?_
  obtain ⟨r56, h57, H58⟩ := bnd H44
  refine D.one rfl rfl rfl (Dp.a [] [2, 3, 4] (Ac.call (c_snap_Snap_Sum a_0_0 c_0_0 a_0_1 c_0_1 h57) rfl rfl rfl rfl) rfl rfl rfl rfl rfl rfl ?_)
  rintro ⟨⟩
  refine D.q 4 rfl rfl rfl rfl rfl rfl ?_
  refine D.q 5 rfl rfl rfl rfl rfl rfl ?_
  refine D.nil rfl rfl ?_
  refine E.then ?_
  refine T.bif rfl H58 (fun hc H59 => ?_) (fun hc H59 => ?_)
  · refine T.seq (T.region ?_)
    refine L.q 1 rfl ?_
    refine L.a [2] [] (Ac.stb rfl rfl rfl rfl rfl rfl) rfl rfl rfl rfl rfl ?_
    intro _
    refine L.q 1 rfl ?_
    refine L.nil (E.then (T.ret (E.block_ret (E.then_ret ?_))))
    refine E.know [Im.sl tyRowRow none 0 []] (fun A w _ _ f hf => by rw [List.mem_singleton.1 hf]; exact Im.sl_nil A w) ?_
    refine E.know [Im.sl tyRowGlyph none 0 []] (fun A w _ _ f hf => by rw [List.mem_singleton.1 hf]; exact Im.sl_nil A w) ?_
    have hr := Option.some.inj H59
    subst r
    exact E.ret ((none, 0), (none, 0)) [] [1, 0] (.cell 0 rfl rfl rfl (.tmp rfl .nil)) rfl rfl rfl
  refine T.seq (T.region ?_)
  refine L.y (Yl.ldb 3 rfl rfl rfl rfl) rfl rfl rfl ?_
  refine L.nilx 0 66 rfl ?_
  obtain ⟨r63, h64, H65⟩ := bnd H59
  refine L.a [1, 0, 0] [1, 2, 3] (Ac.call (c_delta_patch_build g19 none 0 a13 c14 v15 a_0_0 c_0_0 a_0_1 c_0_1 h64) rfl rfl rfl rfl) rfl rfl rfl rfl rfl ?_
  rintro ⟨a66, c67⟩
  refine L.q 2 rfl ?_
  refine L.nil (E.then ?_)
  refine T.bif rfl H65 (fun hc H71 => ?_) (fun hc H71 => ?_)
  · refine T.seq (T.region ?_)
    refine L.q 1 rfl ?_
    refine L.a [2] [] (Ac.stb rfl rfl rfl rfl rfl rfl) rfl rfl rfl rfl rfl ?_
    intro _
    refine L.q 1 rfl ?_
    refine L.nil (E.then (T.ret (E.block_ret (E.then_ret ?_))))
    refine E.know [Im.sl tyRowRow none 0 []] (fun A w _ _ f hf => by rw [List.mem_singleton.1 hf]; exact Im.sl_nil A w) ?_
    refine E.know [Im.sl tyRowGlyph none 0 []] (fun A w _ _ f hf => by rw [List.mem_singleton.1 hf]; exact Im.sl_nil A w) ?_
    have hr := Option.some.inj H71
    subst r
    exact E.ret ((none, 0), (none, 0)) [] [1, 0] (.cell 0 rfl rfl rfl (.tmp rfl .nil)) rfl rfl rfl
  refine T.skip (E.block (E.then (T.seq (T.region ?_))))
  refine L.q 1 rfl ?_
  refine L.y (Yl.ldb 0 rfl rfl rfl rfl) rfl rfl rfl ?_
  obtain ⟨r74, h75, H76⟩ := bnd H71
  refine L.a [] [0, 1] (Ac.call (c_snap_Snap_Clone a66 c67 a13 c14 h75) rfl rfl rfl rfl) rfl rfl rfl rfl rfl ?_
  rintro ⟨⟨a77, c78⟩, ⟨a79, c80⟩⟩
  refine L.a [2] [] (Ac.stb rfl rfl rfl rfl rfl rfl) rfl rfl rfl rfl rfl ?_
  intro _
  refine L.q 1 rfl ?_
  refine L.nil (E.then (T.ret ?_))
  have hr := Option.some.inj H76
  subst r
  exact E.ret ((a77, c78), (a79, c80)) [] [0, 1] (.cell 0 rfl rfl rfl (.tmp rfl .nil)) rfl rfl rfl

theorem c_slices_EqualFunc_row_Row_Row_Same {s1_ : List RowRow} {s2_ : List RowRow} (a_0 : Option Addr) (c_0 : Nat) (a_1 : Option Addr) (c_1 : Nat) {r : Bool} (H : p_slices_EqualFunc_row_Row_Row_Same s1_ s2_ = some r) : CT G 58 [.slice a_0 s1_.length c_0, .slice a_1 s2_.length c_1, .func (.func 59) #[] #[]] [] [Im.sl tyRowRow a_0 c_0 s1_, Im.sl tyRowRow a_1 c_1 s2_] (fun h : Unit => .bool r) (fun h => []) (fun h => []) := by
  delta p_slices_EqualFunc_row_Row_Row_Same at H
  refine CT.of Go.Proofs.Tryd.func58 (by kernel_rfl) rfl rfl rfl fun K => ?_
  refine T.seq (T.region ?_)
  refine L.q 1 rfl ?_
  refine L.nil (E.then (T.seq (T.seq (T.region ?_))))
  refine L.q 5 rfl ?_
  refine L.nil (E.then ?_)
  refine T.bif rfl H (fun hc H2 => ?_) (fun hc H2 => ?_)
  · refine T.seq (T.region ?_)
    refine L.q 1 rfl ?_
    refine L.nil (E.then (T.ret (E.then_ret ?_)))
    have hr := Option.some.inj H2
    subst r
    exact E.ret () [] [] (.tmp rfl .nil) rfl rfl rfl
  refine T.skip (E.then (T.seq (T.seq (T.region ?_))))
  refine L.q 3 rfl ?_
  refine L.nil (E.then ?_)
  obtain ⟨y170, H171, H172⟩ := bnd H2
  refine T.join (η := Unit × Unit) (fun h => y170 = .inl h.1) (fun h => (fun e169 => []) h.1) (fun h => (fun e169 => []) h.1) (fun h => (fun e169 => [Im.sl tyRowRow a_0 c_0 s1_, Im.sl tyRowRow a_1 c_1 s2_]) h.1) ?_ ?_
  · refine T.block ?_
    refine T.lp (η := Unit) (fun s114 h => [(1, .slice a_1 s2_.length c_1), (2, .func (.func 59) #[] #[]), (15, .slice a_0 s1_.length c_0), (16, .int .i64 (s1_.length : Int)), (17, .int .i64 s114)]) (fun s114 h => []) (fun s114 h => [Im.sl tyRowRow a_0 c_0 s1_, Im.sl tyRowRow a_1 c_1 s2_]) () [] [0, 1] H171 ⟨rfl, rfl, rfl, rfl, rfl, trivial⟩ rfl rfl ?_
    rintro k_ s114 ⟨⟩ z174 H173 hag175 hbr176
    refine T.seq (T.region ?_)
    refine L.q 1 rfl ?_
    refine L.nil (E.then (T.seq ?_))
    refine T.bif rfl H173 (fun hc H178 => ?_) (fun hc H178 => ?_)
    · refine T.skip (E.then (T.seq (T.block (T.seq (T.region ?_)))))
      refine L.q 1 rfl ?_
      obtain ⟨x205, h206, H207⟩ := bnd H178
      refine L.addr 0 rfl (idx_lt h206) fun b208 o209 e210 => ?_
      obtain rfl : a_0 = some ⟨b208, o209, none⟩ := e210
      refine L.y (Yl.ia h206 rfl rfl rfl rfl rfl rfl) rfl rfl rfl ?_
      refine L.el 0 rfl (idx_some h206).2 ?_
      rintro ⟨a211, c212⟩
      refine L.y (Yl.ldc 0 0 rfl rfl rfl rfl) rfl rfl rfl ?_
      refine L.a [] [] (Ac.alloc rfl rfl) rfl rfl rfl rfl rfl ?_
      intro g215
      refine L.q 1 rfl ?_
      refine L.a [0] [] (Ac.stb rfl rfl rfl rfl rfl rfl) rfl rfl rfl rfl rfl ?_
      intro _
      refine L.nil (E.then (T.seq (T.region ?_)))
      refine L.q 2 rfl ?_
      obtain ⟨x216, h217, H218⟩ := bnd H207
      refine L.addr 3 rfl (idx_lt h217) fun b219 o220 e221 => ?_
      obtain rfl : a_1 = some ⟨b219, o220, none⟩ := e221
      refine L.y (Yl.ia h217 rfl rfl rfl rfl rfl rfl) rfl rfl rfl ?_
      refine L.el 3 rfl (idx_some h217).2 ?_
      rintro ⟨a222, c223⟩
      refine L.y (Yl.ldc 0 0 rfl rfl rfl rfl) rfl rfl rfl ?_
      refine L.a [] [] (Ac.alloc rfl rfl) rfl rfl rfl rfl rfl ?_
      intro g226
      refine L.a [0] [] (Ac.stb rfl rfl rfl rfl rfl rfl) rfl rfl rfl rfl rfl ?_
      intro _
      refine L.nil (E.then (T.seq (T.region ?_)))
      refine L.q 1 rfl ?_
      refine L.y (Yl.ldb 1 rfl rfl rfl rfl) rfl rfl rfl ?_
      refine L.y (Yl.ldb 0 rfl rfl rfl rfl) rfl rfl rfl ?_
      obtain ⟨r227, h228, H229⟩ := bnd H218
      refine L.a [] [3, 1] (Ac.call (c_row_Row_Same a211 c212 a222 c223 h228) rfl rfl rfl rfl) rfl rfl rfl rfl rfl ?_
      rintro ⟨⟩
      refine L.q 1 rfl ?_
      refine L.nil (E.then ?_)
      refine T.bif rfl H229 (fun hc H230 => ?_) (fun hc H230 => ?_)
      · refine T.seq (T.region ?_)
        refine L.q 1 rfl ?_
        refine L.nil (E.then (T.ret (E.block_ret (E.then_ret (E.then_ret (E.block_ret ?_))))))
        obtain ⟨w231, hz, H232⟩ := inrr_some H230
        subst z174
        have hb := hbr176 _ rfl
        subst y170
        have hw : w231 = r := Option.some.inj H172
        subst w231
        refine E.then_ret ?_
        have hr := Option.some.inj H232
        subst r
        exact E.ret () [] [] (.tmp rfl .nil) rfl rfl rfl
      refine T.skip (E.block (E.then (T.region ?_)))
      refine L.q 2 rfl ?_
      refine L.nil ?_
      have hr := Option.some.inj H230
      subst z174
      exact E.give (_, ()) [] [4, 5] (hag175 _ rfl) ⟨rfl, rfl, rfl, rfl, rfl, trivial⟩ rfl rfl
    refine T.exit (E.then_exit' (E.then_exit' (E.block_here ?_)))
    have hr := Option.some.inj H178
    subst z174
    have hb := hbr176 _ rfl
    subst y170
    exact E.give (_, ()) [] [0, 1] rfl trivial rfl rfl
  rintro ⟨e169, ⟨⟩⟩ hy
  subst hy
  refine T.seq (T.region ?_)
  refine L.q 1 rfl ?_
  refine L.nil (E.then (T.ret ?_))
  have hr := Option.some.inj H172
  subst r
  exact E.ret () [] [] (.tmp rfl .nil) rfl rfl rfl

theorem c_slices_Equal_row_Glyph {s1_ : List RowGlyph} {s2_ : List RowGlyph} (a_0 : Option Addr) (c_0 : Nat) (a_1 : Option Addr) (c_1 : Nat) {r : Bool} (H : p_slices_Equal_row_Glyph s1_ s2_ = some r) : CT G 60 [.slice a_0 s1_.length c_0, .slice a_1 s2_.length c_1] [] [Im.sl tyRowGlyph a_0 c_0 s1_, Im.sl tyRowGlyph a_1 c_1 s2_] (fun h : Unit => .bool r) (fun h => []) (fun h => []) := by
  delta p_slices_Equal_row_Glyph at H
  refine CT.of Go.Proofs.Tryd.func60 (by kernel_rfl) rfl rfl rfl fun K => ?_
  refine T.seq (T.region ?_)
  refine L.q 1 rfl ?_
  refine L.nil (E.then (T.seq (T.seq (T.region ?_))))
  refine L.q 5 rfl ?_
  refine L.nil (E.then ?_)
  refine T.bif rfl H (fun hc H2 => ?_) (fun hc H2 => ?_)
  · refine T.seq (T.region ?_)
    refine L.q 1 rfl ?_
    refine L.nil (E.then (T.ret (E.then_ret ?_)))
    have hr := Option.some.inj H2
    subst r
    exact E.ret () [] [] (.tmp rfl .nil) rfl rfl rfl
  refine T.skip (E.then (T.seq (T.seq (T.region ?_))))
  refine L.q 3 rfl ?_
  refine L.nil (E.then ?_)
  obtain ⟨y356, H357, H358⟩ := bnd H2
  refine T.join (η := Unit × Unit) (fun h => y356 = .inl h.1) (fun h => (fun e355 => []) h.1) (fun h => (fun e355 => []) h.1) (fun h => (fun e355 => [Im.sl tyRowGlyph a_0 c_0 s1_, Im.sl tyRowGlyph a_1 c_1 s2_]) h.1) ?_ ?_
  · refine T.block ?_
    refine T.lp (η := Unit) (fun s238 h => [(0, .slice a_0 s1_.length c_0), (1, .slice a_1 s2_.length c_1), (12, .int .i64 (s1_.length : Int)), (13, .int .i64 s238)]) (fun s238 h => []) (fun s238 h => [Im.sl tyRowGlyph a_0 c_0 s1_, Im.sl tyRowGlyph a_1 c_1 s2_]) () [] [0, 1] H357 ⟨rfl, rfl, rfl, rfl, trivial⟩ rfl rfl ?_
    rintro k_ s238 ⟨⟩ z360 H359 hag361 hbr362
    refine T.seq (T.region ?_)
    refine L.q 1 rfl ?_
    refine L.nil (E.then (T.seq ?_))
    refine T.bif rfl H359 (fun hc H364 => ?_) (fun hc H364 => ?_)
    · refine T.skip (E.then (T.seq (T.block (T.seq (T.region ?_)))))
      refine L.q 2 rfl ?_
      refine L.nil (E.then (T.seq ?_))
      refine T.draw [] [] mo (by rfl) rfl ?_
      refine D.q 0 rfl rfl rfl rfl rfl rfl ?_
      refine D.q 1 rfl rfl rfl rfl rfl rfl ?_
      obtain ⟨x464, h465, H466⟩ := bnd H364
      refine D.addr 0 rfl (idx_lt h465) fun b467 o468 e469 => ?_
      obtain rfl : a_0 = some ⟨b467, o468, none⟩ := e469
      refine D.y 2 (Yl.ia h465 rfl rfl rfl rfl rfl rfl) rfl rfl rfl rfl rfl rfl ?_
      refine D.el 0 rfl (idx_some h465).2 ?_
      rintro _
      refine D.y 3 (Yl.ldc 0 0 rfl rfl rfl rfl) rfl rfl rfl rfl rfl rfl ?_
      refine D.q 4 rfl rfl rfl rfl rfl rfl ?_
      refine D.q 5 rfl rfl rfl rfl rfl rfl ?_
      obtain ⟨x471, h472, H473⟩ := bnd H466
      refine D.addr 2 rfl (idx_lt h472) fun b474 o475 e476 => ?_
      obtain rfl : a_1 = some ⟨b474, o475, none⟩ := e476
      refine D.y 6 (Yl.ia h472 rfl rfl rfl rfl rfl rfl) rfl rfl rfl rfl rfl rfl ?_
      refine D.el 2 rfl (idx_some h472).2 ?_
      rintro _
      refine D.y 7 (Yl.ldc 0 0 rfl rfl rfl rfl) rfl rfl rfl rfl rfl rfl ?_
      refine D.q 8 rfl rfl rfl rfl rfl rfl ?_
      refine D.nil rfl rfl ?_
      refine E.then ?_
      refine T.bif rfl H473 (fun hc H478 => ?_) (fun hc H478 => ?_)
      · refine T.seq (T.region ?_)
        refine L.q 1 rfl ?_
        refine L.nil (E.then (T.ret (E.block_ret (E.then_ret (E.then_ret (E.block_ret ?_))))))
        obtain ⟨w479, hz, H480⟩ := inrr_some H478
        subst z360
        have hb := hbr362 _ rfl
        subst y356
        have hw : w479 = r := Option.some.inj H358
        subst w479
        refine E.then_ret ?_
        have hr := Option.some.inj H480
        subst r
        exact E.ret () [] [] (.tmp rfl .nil) rfl rfl rfl
      refine T.skip (E.block (E.then (T.region ?_)))
      refine L.q 2 rfl ?_
      refine L.nil ?_
      have hr := Option.some.inj H478
      subst z360
      exact E.give (_, ()) [] [2, 3] (hag361 _ rfl) ⟨rfl, rfl, rfl, rfl, trivial⟩ rfl rfl
    refine T.exit (E.then_exit' (E.then_exit' (E.block_here ?_)))
    have hr := Option.some.inj H364
    subst z360
    have hb := hbr362 _ rfl
    subst y356
    exact E.give (_, ()) [] [0, 1] rfl trivial rfl rfl
  rintro ⟨e355, ⟨⟩⟩ hy
  subst hy
  refine T.seq (T.region ?_)
  refine L.q 1 rfl ?_
  refine L.nil (E.then (T.ret ?_))
  have hr := Option.some.inj H358
  subst r
  exact E.ret () [] [] (.tmp rfl .nil) rfl rfl rfl

theorem c_snap_Snap_Same {s_ : SnapSnap} {t_ : SnapSnap} (a_0_0 : Option Addr) (c_0_0 : Nat) (a_0_1 : Option Addr) (c_0_1 : Nat) (a_1_0 : Option Addr) (c_1_0 : Nat) (a_1_1 : Option Addr) (c_1_1 : Nat) {r : Bool} (H : p_snap_Snap_Same s_ t_ = some r) : CT G 25 [.agg (bx25 s_ a_0_0 c_0_0 a_0_1 c_0_1).toArray, .agg (bx25 t_ a_1_0 c_1_0 a_1_1 c_1_1).toArray] [] [Im.sl tyRowRow a_0_0 c_0_0 s_.rows, Im.sl tyRowGlyph a_0_1 c_0_1 s_.begun, Im.sl tyRowRow a_1_0 c_1_0 t_.rows, Im.sl tyRowGlyph a_1_1 c_1_1 t_.begun] (fun h : Unit => .bool r) (fun h => []) (fun h => []) := by
  delta p_snap_Snap_Same at H
  refine CT.of Go.Proofs.Tryd.func25 (by kernel_rfl) rfl rfl rfl fun K => ?_
  refine T.seq (T.region ?_)
  refine L.a [] [] (Ac.box rfl rfl) rfl rfl rfl rfl rfl ?_
  intro g1
  refine L.a [] [] (Ac.box rfl rfl) rfl rfl rfl rfl rfl ?_
  intro g2
  refine L.q 1 rfl ?_
  refine L.nil (E.then (T.seq ?_))
  obtain ⟨e34, H35, H36⟩ := bnd H
  refine T.join (η := Unit × Unit) (fun h => True) (fun h => [(4, .bool e34)]) (fun h => [Ch.box g2 25 (bx25 t_ a_1_0 c_1_0 a_1_1 c_1_1), Ch.box g1 25 (bx25 s_ a_0_0 c_0_0 a_0_1 c_0_1)]) (fun h => [Im.sl tyRowRow a_0_0 c_0_0 s_.rows, Im.sl tyRowGlyph a_0_1 c_0_1 s_.begun, Im.sl tyRowRow a_1_0 c_1_0 t_.rows, Im.sl tyRowGlyph a_1_1 c_1_1 t_.begun]) ?_ ?_
  · refine T.rega rfl ?_
    refine L.q 1 rfl ?_
    refine L.y (Yl.ldb 1 rfl rfl rfl rfl) rfl rfl rfl ?_
    refine L.q 1 rfl ?_
    refine L.y (Yl.ldb 0 rfl rfl rfl rfl) rfl rfl rfl ?_
    refine L.q 2 rfl ?_
    refine L.cs 10 H35 rfl (fun hc H37 => ?_) (fun hc H37 => ?_)
    · refine L.q 1 rfl ?_
      refine L.y (Yl.ldb 1 rfl rfl rfl rfl) rfl rfl rfl ?_
      refine L.q 1 rfl ?_
      refine L.y (Yl.ldb 0 rfl rfl rfl rfl) rfl rfl rfl ?_
      refine L.q 3 rfl ?_
      refine L.cs 17 H37 rfl (fun hc H38 => ?_) (fun hc H38 => ?_)
      · refine L.q 1 rfl ?_
        refine L.y (Yl.ldb 1 rfl rfl rfl rfl) rfl rfl rfl ?_
        refine L.q 1 rfl ?_
        refine L.y (Yl.ldb 0 rfl rfl rfl rfl) rfl rfl rfl ?_
        refine L.q 3 rfl ?_
        refine L.cs 24 H38 rfl (fun hc H39 => ?_) (fun hc H39 => ?_)
        · refine L.q 1 rfl ?_
          refine L.y (Yl.ldb 1 rfl rfl rfl rfl) rfl rfl rfl ?_
          refine L.q 1 rfl ?_
          refine L.y (Yl.ldb 0 rfl rfl rfl rfl) rfl rfl rfl ?_
          refine L.q 3 rfl ?_
          refine L.cs 31 H39 rfl (fun hc H40 => ?_) (fun hc H40 => ?_)
          · refine L.q 1 rfl ?_
            refine L.y (Yl.ldb 1 rfl rfl rfl rfl) rfl rfl rfl ?_
            refine L.q 1 rfl ?_
            refine L.y (Yl.ldb 0 rfl rfl rfl rfl) rfl rfl rfl ?_
            refine L.q 3 rfl ?_
            refine L.cs 38 H40 rfl (fun hc H41 => ?_) (fun hc H41 => ?_)
            · refine L.q 1 rfl ?_
              refine L.y (Yl.ldb 1 rfl rfl rfl rfl) rfl rfl rfl ?_
              refine L.q 1 rfl ?_
              refine L.y (Yl.ldb 0 rfl rfl rfl rfl) rfl rfl rfl ?_
              refine L.q 3 rfl ?_
              refine L.cs 45 H41 rfl (fun hc H42 => ?_) (fun hc H42 => ?_)
              · refine L.q 1 rfl ?_
                refine L.y (Yl.ldb 1 rfl rfl rfl rfl) rfl rfl rfl ?_
                refine L.q 1 rfl ?_
                refine L.y (Yl.ldb 0 rfl rfl rfl rfl) rfl rfl rfl ?_
                refine L.q 3 rfl ?_
                refine L.cs 52 H42 rfl (fun hc H43 => ?_) (fun hc H43 => ?_)
                · refine L.q 1 rfl ?_
                  refine L.y (Yl.ldb 1 rfl rfl rfl rfl) rfl rfl rfl ?_
                  refine L.q 1 rfl ?_
                  refine L.y (Yl.ldb 0 rfl rfl rfl rfl) rfl rfl rfl ?_
                  refine L.q 3 rfl ?_
                  refine L.cs 59 H43 rfl (fun hc H44 => ?_) (fun hc H44 => ?_)
                  · refine L.q 1 rfl ?_
                    refine L.y (Yl.ldb 1 rfl rfl rfl rfl) rfl rfl rfl ?_
                    refine L.q 1 rfl ?_
                    refine L.y (Yl.ldb 0 rfl rfl rfl rfl) rfl rfl rfl ?_
                    obtain ⟨r45, h46, H47⟩ := bnd H44
                    refine L.a [] [0, 2] (Ac.call (c_slices_EqualFunc_row_Row_Row_Same a_0_0 c_0_0 a_1_0 c_1_0 h46) rfl rfl rfl rfl) rfl rfl rfl rfl rfl ?_
                    rintro ⟨⟩
                    refine L.q 2 rfl ?_
                    refine L.cs 66 H47 rfl (fun hc H48 => ?_) (fun hc H48 => ?_)
                    · refine L.q 1 rfl ?_
                      refine L.y (Yl.ldb 1 rfl rfl rfl rfl) rfl rfl rfl ?_
                      refine L.q 1 rfl ?_
                      refine L.y (Yl.ldb 0 rfl rfl rfl rfl) rfl rfl rfl ?_
                      obtain ⟨r49, h50, H51⟩ := bnd H48
                      refine L.a [] [1, 3] (Ac.call (c_slices_Equal_row_Glyph a_0_1 c_0_1 a_1_1 c_1_1 h50) rfl rfl rfl rfl) rfl rfl rfl rfl rfl ?_
                      rintro ⟨⟩
                      refine L.q 2 rfl ?_
                      refine L.nil ?_
                      have hr := Option.some.inj H51
                      subst e34
                      exact E.give ((), ()) [0, 0] [0, 1, 2, 3] trivial ⟨rfl, trivial⟩ rfl rfl
                    refine L.q 7 rfl ?_
                    refine L.nil ?_
                    have hr := Option.some.inj H48
                    subst e34
                    exact E.give ((), ()) [0, 0] [0, 1, 2, 3] trivial ⟨rfl, trivial⟩ rfl rfl
                  refine L.q 14 rfl ?_
                  refine L.nil ?_
                  have hr := Option.some.inj H44
                  subst e34
                  exact E.give ((), ()) [0, 0] [0, 1, 2, 3] trivial ⟨rfl, trivial⟩ rfl rfl
                refine L.q 21 rfl ?_
                refine L.nil ?_
                have hr := Option.some.inj H43
                subst e34
                exact E.give ((), ()) [0, 0] [0, 1, 2, 3] trivial ⟨rfl, trivial⟩ rfl rfl
              refine L.q 28 rfl ?_
              refine L.nil ?_
              have hr := Option.some.inj H42
              subst e34
              exact E.give ((), ()) [0, 0] [0, 1, 2, 3] trivial ⟨rfl, trivial⟩ rfl rfl
            refine L.q 35 rfl ?_
            refine L.nil ?_
            have hr := Option.some.inj H41
            subst e34
            exact E.give ((), ()) [0, 0] [0, 1, 2, 3] trivial ⟨rfl, trivial⟩ rfl rfl
          refine L.q 42 rfl ?_
          refine L.nil ?_
          have hr := Option.some.inj H40
          subst e34
          exact E.give ((), ()) [0, 0] [0, 1, 2, 3] trivial ⟨rfl, trivial⟩ rfl rfl
        refine L.q 49 rfl ?_
        refine L.nil ?_
        have hr := Option.some.inj H39
        subst e34
        exact E.give ((), ()) [0, 0] [0, 1, 2, 3] trivial ⟨rfl, trivial⟩ rfl rfl
      refine L.q 56 rfl ?_
      refine L.nil ?_
      have hr := Option.some.inj H38
      subst e34
      exact E.give ((), ()) [0, 0] [0, 1, 2, 3] trivial ⟨rfl, trivial⟩ rfl rfl
    refine L.q 63 rfl ?_
    refine L.nil ?_
    have hr := Option.some.inj H37
    subst e34
    exact E.give ((), ()) [0, 0] [0, 1, 2, 3] trivial ⟨rfl, trivial⟩ rfl rfl
  rintro ⟨_, ⟨⟩⟩ _
  refine T.ret ?_
  have hr := Option.some.inj H36
  subst r
  exact E.ret () [] [] (.tmp rfl .nil) rfl rfl rfl

theorem c_law19_SenderLost {n_ : Int} {back : Int} {r : Bool} (H : p_law19_SenderLost n_ back = some r) : CT G 5 [.int .i64 n_, .int .i64 back] [] [Im.sl (Ty.int .u32) (some ⟨0, 0, none⟩) 16 t_sum_half] (fun h : Unit => .bool r) (fun h => []) (fun h => []) := by
  delta p_law19_SenderLost at H
  refine CT.of Go.Proofs.Tryd.func5 (by kernel_rfl) rfl rfl rfl fun K => ?_
  refine T.seq (T.region ?_)
  refine L.q 1 rfl ?_
  refine L.nil (E.then (T.seq (T.seq (T.region ?_))))
  obtain ⟨r1, h2, H3⟩ := bnd H
  refine L.a [] [0] (Ac.call (c_law19_awake h2) rfl rfl rfl rfl) rfl rfl rfl rfl rfl ?_
  rintro ⟨⟩
  refine L.q 1 rfl ?_
  refine L.nil (E.then ?_)
  refine T.bif rfl H3 (fun hc H5 => ?_) (fun hc H5 => ?_)
  · refine T.seq (T.region ?_)
    refine L.q 1 rfl ?_
    refine L.nil (E.then (T.ret (E.then_ret ?_)))
    have hr := Option.some.inj H5
    subst r
    exact E.ret () [] [] (.tmp rfl .nil) rfl rfl rfl
  refine T.skip (E.then (T.seq (T.region ?_)))
  refine L.q 1 rfl ?_
  obtain ⟨r6, h7, H8⟩ := bnd H5
  refine L.a [] [] (Ac.call (c_sender_New h7) rfl rfl rfl rfl) rfl rfl rfl rfl rfl ?_
  rintro ⟨g9, ⟨a10, c11⟩, ⟨a12, c13⟩, ⟨a14, c15⟩, ⟨a16, c17⟩, ⟨a18, c19⟩, ⟨a20, c21⟩, ⟨a22, c23⟩⟩
  refine L.q 1 rfl ?_
  refine L.nil (E.then (T.seq (T.seq (T.region ?_))))
  refine L.q 1 rfl ?_
  refine L.y (Yl.pn rfl rfl rfl rfl rfl rfl) rfl rfl rfl ?_
  refine L.nil (E.then ?_)
  refine T.cond rfl (fun h => nomatch h) (fun _ => ?_)
  refine T.skip (E.then (T.seq (T.region ?_)))
  refine L.q 4 rfl ?_
  refine L.nil (E.then (T.seq (T.region ?_)))
  refine L.a [] [] (Ac.alloc rfl rfl) rfl rfl rfl rfl rfl ?_
  intro g31
  refine L.nil (E.then (T.seq (T.seq (T.region ?_))))
  refine L.q 1 rfl ?_
  refine L.nil (E.then ?_)
  obtain ⟨y1031, H1032, H1033⟩ := bnd H8
  refine T.join (η := (SnapSnap × SenderSender) × ((Option Addr × Nat) × (Option Addr × Nat) × (Option Addr × Nat) × (Option Addr × Nat) × (Option Addr × Nat) × (Option Addr × Nat) × (Option Addr × Nat))) (fun h => y1031 = .inl h.1) (fun h => (fun e1030 => (fun a1006 c1007 a1009 c1010 a1013 c1014 a1016 c1017 a1021 c1022 a1024 c1025 a1027 c1028 => [(0, .int .i64 (IntKind.i64.wrap (3 + (Go.bits .and .i64 n_ 7)))), (1, .int .i64 back), (5, .pointer (some ⟨g9, 0, none⟩)), (6, .pointer (some ⟨g31, 0, none⟩))]) h.2.1.1 h.2.1.2 h.2.2.1.1 h.2.2.1.2 h.2.2.2.1.1 h.2.2.2.1.2 h.2.2.2.2.1.1 h.2.2.2.2.1.2 h.2.2.2.2.2.1.1 h.2.2.2.2.2.1.2 h.2.2.2.2.2.2.1.1 h.2.2.2.2.2.2.1.2 h.2.2.2.2.2.2.2.1 h.2.2.2.2.2.2.2.2) h.1) (fun h => (fun e1030 => (fun a1006 c1007 a1009 c1010 a1013 c1014 a1016 c1017 a1021 c1022 a1024 c1025 a1027 c1028 => [Ch.aro tySnapSnap 25 a1021 c1022 e1030.2.kept, Ch.arr Ty.bool 4 a1027 c1028 e1030.2.message.there, Ch.box g31 25 (bx25 e1030.1 a1006 c1007 a1009 c1010), Ch.box g9 82 (bx82 e1030.2 a1013 c1014 a1016 c1017 a14 c15 a16 c17 a1021 c1022 a1024 c1025 a1027 c1028)]) h.2.1.1 h.2.1.2 h.2.2.1.1 h.2.2.1.2 h.2.2.2.1.1 h.2.2.2.1.2 h.2.2.2.2.1.1 h.2.2.2.2.1.2 h.2.2.2.2.2.1.1 h.2.2.2.2.2.1.2 h.2.2.2.2.2.2.1.1 h.2.2.2.2.2.2.1.2 h.2.2.2.2.2.2.2.1 h.2.2.2.2.2.2.2.2) h.1) (fun h => (fun e1030 => (fun a1006 c1007 a1009 c1010 a1013 c1014 a1016 c1017 a1021 c1022 a1024 c1025 a1027 c1028 => [Im.sl tyRowRow a1006 c1007 e1030.1.rows, Im.sl tyRowGlyph a1009 c1010 e1030.1.begun, Im.sl tyRowRow a1013 c1014 e1030.2.current.rows, Im.sl tyRowGlyph a1016 c1017 e1030.2.current.begun, Im.sl tyRowRow a14 c15 e1030.2.acked.rows, Im.sl tyRowGlyph a16 c17 e1030.2.acked.begun, Im.sl Ty.str a1024 c1025 e1030.2.message.parts, Im.sl tyRowRow a10 c11 r6.current.rows, Im.sl tyRowGlyph a12 c13 r6.current.begun, Im.sl tyRowRow a14 c15 r6.acked.rows, Im.sl tyRowGlyph a16 c17 r6.acked.begun, Im.sl Ty.str a20 c21 r6.message.parts, Im.sl (Ty.int .u32) (some ⟨0, 0, none⟩) 16 t_sum_half]) h.2.1.1 h.2.1.2 h.2.2.1.1 h.2.2.1.2 h.2.2.2.1.1 h.2.2.2.1.2 h.2.2.2.2.1.1 h.2.2.2.2.1.2 h.2.2.2.2.2.1.1 h.2.2.2.2.2.1.2 h.2.2.2.2.2.2.1.1 h.2.2.2.2.2.2.1.2 h.2.2.2.2.2.2.2.1 h.2.2.2.2.2.2.2.2) h.1) ?_ ?_
  · refine T.block ?_
    refine T.know [Im.sl tyRowRow none 0 []] (fun A w _ _ f hf => by rw [List.mem_singleton.1 hf]; exact Im.sl_nil A w) ?_
    refine T.know [Im.sl tyRowGlyph none 0 []] (fun A w _ _ f hf => by rw [List.mem_singleton.1 hf]; exact Im.sl_nil A w) ?_
    refine T.lp (η := (Option Addr × Nat) × (Option Addr × Nat) × (Option Addr × Nat) × (Option Addr × Nat) × (Option Addr × Nat) × (Option Addr × Nat) × (Option Addr × Nat)) (fun s706 h => (fun a681 c682 a684 c685 a688 c689 a691 c692 a696 c697 a699 c700 a702 c703 => [(0, .int .i64 (IntKind.i64.wrap (3 + (Go.bits .and .i64 n_ 7)))), (1, .int .i64 back), (5, .pointer (some ⟨g9, 0, none⟩)), (6, .pointer (some ⟨g31, 0, none⟩)), (7, .int .i64 s706.2.2)]) h.1.1 h.1.2 h.2.1.1 h.2.1.2 h.2.2.1.1 h.2.2.1.2 h.2.2.2.1.1 h.2.2.2.1.2 h.2.2.2.2.1.1 h.2.2.2.2.1.2 h.2.2.2.2.2.1.1 h.2.2.2.2.2.1.2 h.2.2.2.2.2.2.1 h.2.2.2.2.2.2.2) (fun s706 h => (fun a681 c682 a684 c685 a688 c689 a691 c692 a696 c697 a699 c700 a702 c703 => [Ch.aro tySnapSnap 25 a696 c697 s706.2.1.kept, Ch.arr Ty.bool 4 a702 c703 s706.2.1.message.there, Ch.box g31 25 (bx25 s706.1 a681 c682 a684 c685), Ch.box g9 82 (bx82 s706.2.1 a688 c689 a691 c692 a14 c15 a16 c17 a696 c697 a699 c700 a702 c703)]) h.1.1 h.1.2 h.2.1.1 h.2.1.2 h.2.2.1.1 h.2.2.1.2 h.2.2.2.1.1 h.2.2.2.1.2 h.2.2.2.2.1.1 h.2.2.2.2.1.2 h.2.2.2.2.2.1.1 h.2.2.2.2.2.1.2 h.2.2.2.2.2.2.1 h.2.2.2.2.2.2.2) (fun s706 h => (fun a681 c682 a684 c685 a688 c689 a691 c692 a696 c697 a699 c700 a702 c703 => [Im.sl tyRowRow a681 c682 s706.1.rows, Im.sl tyRowGlyph a684 c685 s706.1.begun, Im.sl tyRowRow a688 c689 s706.2.1.current.rows, Im.sl tyRowGlyph a691 c692 s706.2.1.current.begun, Im.sl tyRowRow a14 c15 s706.2.1.acked.rows, Im.sl tyRowGlyph a16 c17 s706.2.1.acked.begun, Im.sl Ty.str a699 c700 s706.2.1.message.parts, Im.sl tyRowRow a10 c11 r6.current.rows, Im.sl tyRowGlyph a12 c13 r6.current.begun, Im.sl tyRowRow a14 c15 r6.acked.rows, Im.sl tyRowGlyph a16 c17 r6.acked.begun, Im.sl Ty.str a20 c21 r6.message.parts, Im.sl (Ty.int .u32) (some ⟨0, 0, none⟩) 16 t_sum_half]) h.1.1 h.1.2 h.2.1.1 h.2.1.2 h.2.2.1.1 h.2.2.1.2 h.2.2.2.1.1 h.2.2.2.1.2 h.2.2.2.2.1.1 h.2.2.2.2.1.2 h.2.2.2.2.2.1.1 h.2.2.2.2.2.1.2 h.2.2.2.2.2.2.1 h.2.2.2.2.2.2.2) ((none, 0), (none, 0), (a10, c11), (a12, c13), (a18, c19), (a20, c21), (a22, c23)) [2, 2, 0, 0] [1, 0, 2, 3, 4, 5, 6, 2, 3, 4, 5, 6, 7] H1032 ⟨rfl, rfl, rfl, rfl, rfl, trivial⟩ rfl rfl ?_
    rintro k_ s706 ⟨⟨a681, c682⟩, ⟨a684, c685⟩, ⟨a688, c689⟩, ⟨a691, c692⟩, ⟨a696, c697⟩, ⟨a699, c700⟩, ⟨a702, c703⟩⟩ z1035 H1034 hag1036 hbr1037
    refine T.seq (T.seq (T.region ?_))
    refine L.q 3 rfl ?_
    refine L.nil (E.then ?_)
    refine T.bif rfl H1034 (fun hc H1039 => ?_) (fun hc H1039 => ?_)
    · refine T.skip (E.then (T.seq (T.block (T.seq (T.region ?_)))))
      refine L.q 2 rfl ?_
      obtain ⟨r1188, h1189, H1190⟩ := bnd H1039
      refine L.a [] [] (Ac.call (c_row_Blank h1189) rfl rfl rfl rfl) rfl rfl rfl rfl rfl ?_
      rintro ⟨a1191, c1192⟩
      refine L.a [] [0] (Ac.bs (ty := tyRowRow) (xs := [r1188]) (.cons (a1191, c1192) [0] rfl .nil) rfl rfl rfl rfl rfl rfl rfl) rfl rfl rfl rfl rfl ?_
      intro g1194
      refine L.q 1 rfl ?_
      refine L.a [3] [] (Ac.stb rfl rfl rfl rfl rfl rfl) rfl rfl rfl rfl rfl ?_
      intro _
      refine L.nil (E.then (T.seq ?_))
      obtain ⟨e1294, H1295, H1296⟩ := bnd H1190
      refine T.join (η := Unit × ((Option Addr × Nat) × (Option Addr × Nat) × (Option Addr × Nat) × (Option Addr × Nat) × (Option Addr × Nat) × (Option Addr × Nat) × (Option Addr × Nat))) (fun h => True) (fun h => (fun a1270 c1271 a1273 c1274 a1277 c1278 a1280 c1281 a1285 c1286 a1288 c1289 a1291 c1292 => [(0, .int .i64 (IntKind.i64.wrap (3 + (Go.bits .and .i64 n_ 7)))), (1, .int .i64 back), (5, .pointer (some ⟨g9, 0, none⟩)), (6, .pointer (some ⟨g31, 0, none⟩)), (7, .int .i64 s706.2.2), (41, .bool e1294.1)]) h.2.1.1 h.2.1.2 h.2.2.1.1 h.2.2.1.2 h.2.2.2.1.1 h.2.2.2.1.2 h.2.2.2.2.1.1 h.2.2.2.2.1.2 h.2.2.2.2.2.1.1 h.2.2.2.2.2.1.2 h.2.2.2.2.2.2.1.1 h.2.2.2.2.2.2.1.2 h.2.2.2.2.2.2.2.1 h.2.2.2.2.2.2.2.2) (fun h => (fun a1270 c1271 a1273 c1274 a1277 c1278 a1280 c1281 a1285 c1286 a1288 c1289 a1291 c1292 => [Ch.aro tySnapSnap 25 a1285 c1286 e1294.2.2.kept, Ch.arr Ty.bool 4 a1291 c1292 e1294.2.2.message.there, Ch.box g31 25 (bx25 e1294.2.1 a1270 c1271 a1273 c1274), Ch.box g9 82 (bx82 e1294.2.2 a1277 c1278 a1280 c1281 a14 c15 a16 c17 a1285 c1286 a1288 c1289 a1291 c1292)]) h.2.1.1 h.2.1.2 h.2.2.1.1 h.2.2.1.2 h.2.2.2.1.1 h.2.2.2.1.2 h.2.2.2.2.1.1 h.2.2.2.2.1.2 h.2.2.2.2.2.1.1 h.2.2.2.2.2.1.2 h.2.2.2.2.2.2.1.1 h.2.2.2.2.2.2.1.2 h.2.2.2.2.2.2.2.1 h.2.2.2.2.2.2.2.2) (fun h => (fun a1270 c1271 a1273 c1274 a1277 c1278 a1280 c1281 a1285 c1286 a1288 c1289 a1291 c1292 => [Im.sl tyRowRow a1270 c1271 e1294.2.1.rows, Im.sl tyRowGlyph a1273 c1274 e1294.2.1.begun, Im.sl tyRowRow a1277 c1278 e1294.2.2.current.rows, Im.sl tyRowGlyph a1280 c1281 e1294.2.2.current.begun, Im.sl tyRowRow a14 c15 e1294.2.2.acked.rows, Im.sl tyRowGlyph a16 c17 e1294.2.2.acked.begun, Im.sl Ty.str a1288 c1289 e1294.2.2.message.parts, Im.sl tyRowCell a1191 c1192 r1188.cells, Im.sl tyRowRow a681 c682 s706.1.rows, Im.sl tyRowGlyph a684 c685 s706.1.begun, Im.sl tyRowRow a688 c689 s706.2.1.current.rows, Im.sl tyRowGlyph a691 c692 s706.2.1.current.begun, Im.sl tyRowRow a14 c15 s706.2.1.acked.rows, Im.sl tyRowGlyph a16 c17 s706.2.1.acked.begun, Im.sl Ty.str a699 c700 s706.2.1.message.parts, Im.sl tyRowRow a10 c11 r6.current.rows, Im.sl tyRowGlyph a12 c13 r6.current.begun, Im.sl tyRowRow a14 c15 r6.acked.rows, Im.sl tyRowGlyph a16 c17 r6.acked.begun, Im.sl Ty.str a20 c21 r6.message.parts, Im.sl (Ty.int .u32) (some ⟨0, 0, none⟩) 16 t_sum_half]) h.2.1.1 h.2.1.2 h.2.2.1.1 h.2.2.1.2 h.2.2.2.1.1 h.2.2.2.1.2 h.2.2.2.2.1.1 h.2.2.2.2.1.2 h.2.2.2.2.2.1.1 h.2.2.2.2.2.1.2 h.2.2.2.2.2.2.1.1 h.2.2.2.2.2.2.1.2 h.2.2.2.2.2.2.2.1 h.2.2.2.2.2.2.2.2) ?_ ?_
      · refine T.region ?_
        refine L.q 1 rfl ?_
        refine L.y (Yl.ldb 0 rfl rfl rfl rfl) rfl rfl rfl ?_
        refine L.frz 1 rfl ?_
        refine L.know [Im.sl tyRowGlyph none 0 []] (fun A w _ _ f hf => by rw [List.mem_singleton.1 hf]; exact Im.sl_nil A w) ?_
        obtain ⟨r1299, h1300, H1301⟩ := bnd H1295
        refine L.a [3, 1, 1] [5, 6, 7, 8, 9, 1, 0] (Ac.call (c_sender_Sender_Note g9 a688 c689 a691 c692 a14 c15 a16 c17 a696 c697 a699 c700 a702 c703 (some ⟨g1194, 0, none⟩) 1 none 0 h1300) rfl rfl rfl rfl) rfl rfl rfl rfl rfl ?_
        rintro ⟨⟨a1302, c1303⟩, ⟨a1304, c1305⟩⟩
        refine L.q 2 rfl ?_
        refine L.cs 35 H1301 rfl (fun hc H1313 => ?_) (fun hc H1313 => ?_)
        · refine L.q 6 rfl ?_
          refine L.nil ?_
          refine E.know [Im.sl tyRowGlyph none 0 []] (fun A w _ _ f hf => by rw [List.mem_singleton.1 hf]; exact Im.sl_nil A w) ?_
          have hr := Option.some.inj H1313
          subst e1294
          exact E.give ((), (((some ⟨g1194, 0, none⟩), 1), (none, 0), (a1302, c1303), (a1304, c1305), (a696, c697), (a699, c700), (a702, c703))) [1, 1, 1, 0] [7, 0, 1, 2, 3, 4, 5, 8, 9, 10, 11, 12, 13, 14, 15, 16, 17, 18, 19, 20, 21] trivial ⟨rfl, rfl, rfl, rfl, rfl, rfl, trivial⟩ rfl rfl
        refine L.q 2 rfl ?_
        obtain ⟨r1315, h1316, H1317⟩ := bnd H1313
        refine L.a [0, 0, 0] [0, 1, 2, 3, 4, 20] (Ac.call (c_sender_Sender_Step g9 a1302 c1303 a1304 c1305 a14 c15 a16 c17 a696 c697 a699 c700 a702 c703 h1316) rfl rfl rfl rfl) rfl rfl rfl rfl rfl ?_
        rintro ⟨⟨a1318, c1319⟩, ⟨a1320, c1321⟩, ⟨a1322, c1323⟩, ⟨a1324, c1325⟩⟩
        refine L.q 3 rfl ?_
        refine L.nil ?_
        refine E.know [Im.sl tyRowGlyph none 0 []] (fun A w _ _ f hf => by rw [List.mem_singleton.1 hf]; exact Im.sl_nil A w) ?_
        have hr := Option.some.inj H1317
        subst e1294
        exact E.give ((), (((some ⟨g1194, 0, none⟩), 1), (none, 0), (a1302, c1303), (a1304, c1305), (a1320, c1321), (a1322, c1323), (a1324, c1325))) [2, 2, 2, 1] [12, 0, 1, 2, 3, 4, 5, 13, 14, 15, 16, 17, 18, 19, 20, 21, 22, 23, 24, 25, 26] trivial ⟨rfl, rfl, rfl, rfl, rfl, rfl, trivial⟩ rfl rfl
      rintro ⟨_, ⟨⟨a1270, c1271⟩, ⟨a1273, c1274⟩, ⟨a1277, c1278⟩, ⟨a1280, c1281⟩, ⟨a1285, c1286⟩, ⟨a1288, c1289⟩, ⟨a1291, c1292⟩⟩⟩ _
      refine T.bif rfl H1296 (fun hc H1335 => ?_) (fun hc H1335 => ?_)
      · refine T.seq (T.region ?_)
        refine L.q 1 rfl ?_
        refine L.nil (E.then (T.ret (E.block_ret (E.then_ret (E.then_ret (E.block_ret ?_))))))
        obtain ⟨w1336, hz, H1337⟩ := inrr_some H1335
        subst z1035
        have hb := hbr1037 _ rfl
        subst y1031
        have hw : w1336 = r := Option.some.inj H1033
        subst w1336
        refine E.then_ret ?_
        have hr := Option.some.inj H1337
        subst r
        exact E.ret () [] [] (.tmp rfl .nil) rfl rfl rfl
      refine T.skip (E.block (E.then (T.region ?_)))
      refine L.q 3 rfl ?_
      refine L.nil ?_
      have hr := Option.some.inj H1335
      subst z1035
      exact E.give (_, ((a1270, c1271), (a1273, c1274), (a1277, c1278), (a1280, c1281), (a1285, c1286), (a1288, c1289), (a1291, c1292))) [0, 0, 0, 0] [0, 1, 2, 3, 4, 5, 6, 15, 16, 17, 18, 19, 20] (hag1036 _ rfl) ⟨rfl, rfl, rfl, rfl, rfl, trivial⟩ rfl rfl
    refine T.exit (E.then_exit' (E.then_exit' (E.block_here ?_)))
    have hr := Option.some.inj H1039
    subst z1035
    have hb := hbr1037 _ rfl
    subst y1031
    exact E.give (_, ((a681, c682), (a684, c685), (a688, c689), (a691, c692), (a696, c697), (a699, c700), (a702, c703))) [0, 0, 0, 0] [0, 1, 2, 3, 4, 5, 6, 7, 8, 9, 10, 11, 12] rfl ⟨rfl, rfl, rfl, rfl, trivial⟩ rfl rfl
  rintro ⟨e1030, ⟨⟨a1006, c1007⟩, ⟨a1009, c1010⟩, ⟨a1013, c1014⟩, ⟨a1016, c1017⟩, ⟨a1021, c1022⟩, ⟨a1024, c1025⟩, ⟨a1027, c1028⟩⟩⟩ hy
  subst hy
  refine T.seq (T.region ?_)
  refine L.q 4 rfl ?_
  obtain ⟨_, h1338, H1339⟩ := bnd H1033
  refine L.y (Yl.rem (b := (IntKind.i64.wrap ((IntKind.i64.wrap (3 + (Go.bits .and .i64 n_ 7))) - 2))) h1338 rfl rfl rfl) rfl rfl rfl ?_
  refine L.q 2 rfl ?_
  refine L.nil (E.then (T.seq (T.seq ?_)))
  obtain ⟨e1395, H1396, H1397⟩ := bnd H1339
  refine T.join (η := Unit × ((Option Addr × Nat) × (Option Addr × Nat) × (Option Addr × Nat))) (fun h => True) (fun h => (fun a1384 c1385 a1387 c1388 a1390 c1391 => [(0, .int .i64 (IntKind.i64.wrap (3 + (Go.bits .and .i64 n_ 7)))), (5, .pointer (some ⟨g9, 0, none⟩)), (6, .pointer (some ⟨g31, 0, none⟩)), (55, .bool e1395.1)]) h.2.1.1 h.2.1.2 h.2.2.1.1 h.2.2.1.2 h.2.2.2.1 h.2.2.2.2) (fun h => (fun a1384 c1385 a1387 c1388 a1390 c1391 => [Ch.aro tySnapSnap 25 a1390 c1391 e1395.2.kept, Ch.arr Ty.bool 4 a1027 c1028 e1395.2.message.there, Ch.box g31 25 (bx25 e1030.1 a1006 c1007 a1009 c1010), Ch.box g9 82 (bx82 e1395.2 a1013 c1014 a1016 c1017 a1384 c1385 a1387 c1388 a1390 c1391 a1024 c1025 a1027 c1028)]) h.2.1.1 h.2.1.2 h.2.2.1.1 h.2.2.1.2 h.2.2.2.1 h.2.2.2.2) (fun h => (fun a1384 c1385 a1387 c1388 a1390 c1391 => [Im.sl tyRowRow a1013 c1014 e1395.2.current.rows, Im.sl tyRowGlyph a1016 c1017 e1395.2.current.begun, Im.sl tyRowRow a1384 c1385 e1395.2.acked.rows, Im.sl tyRowGlyph a1387 c1388 e1395.2.acked.begun, Im.sl Ty.str a1024 c1025 e1395.2.message.parts, Im.sl tyRowRow a1006 c1007 e1030.1.rows, Im.sl tyRowGlyph a1009 c1010 e1030.1.begun, Im.sl tyRowRow a1013 c1014 e1030.2.current.rows, Im.sl tyRowGlyph a1016 c1017 e1030.2.current.begun, Im.sl tyRowRow a14 c15 e1030.2.acked.rows, Im.sl tyRowGlyph a16 c17 e1030.2.acked.begun, Im.sl Ty.str a1024 c1025 e1030.2.message.parts, Im.sl tyRowRow a10 c11 r6.current.rows, Im.sl tyRowGlyph a12 c13 r6.current.begun, Im.sl tyRowRow a14 c15 r6.acked.rows, Im.sl tyRowGlyph a16 c17 r6.acked.begun, Im.sl Ty.str a20 c21 r6.message.parts, Im.sl (Ty.int .u32) (some ⟨0, 0, none⟩) 16 t_sum_half]) h.2.1.1 h.2.1.2 h.2.2.1.1 h.2.2.1.2 h.2.2.2.1 h.2.2.2.2) ?_ ?_
  · refine T.region ?_
    refine L.q 2 rfl ?_
    obtain ⟨r1398, h1399, H1400⟩ := bnd H1396
    refine L.a [3, 0, 0] [2, 3, 4, 5, 6] (Ac.call (c_sender_Sender_Ack g9 a1013 c1014 a1016 c1017 a14 c15 a16 c17 a1021 c1022 a1024 c1025 a1027 c1028 h1399) rfl rfl rfl rfl) rfl rfl rfl rfl rfl ?_
    rintro ⟨⟨a1401, c1402⟩, ⟨a1403, c1404⟩, ⟨a1405, c1406⟩⟩
    refine L.q 1 rfl ?_
    refine L.cs 51 H1400 rfl (fun hc H1414 => ?_) (fun hc H1414 => ?_)
    · refine L.q 4 rfl ?_
      refine L.nil ?_
      have hr := Option.some.inj H1414
      subst e1395
      exact E.give ((), ((a1401, c1402), (a1403, c1404), (a1405, c1406))) [1, 1, 1, 0] [0, 1, 2, 3, 4, 5, 6, 7, 8, 9, 10, 11, 12, 13, 14, 15, 16, 17] trivial ⟨rfl, rfl, rfl, rfl, trivial⟩ rfl rfl
    refine L.q 1 rfl ?_
    obtain ⟨r1415, h1416, H1417⟩ := bnd H1414
    refine L.a [0, 0, 0] [0, 1, 2, 3, 4] (Ac.call (c_sender_Sender_Acked g9 a1013 c1014 a1016 c1017 a1401 c1402 a1403 c1404 a1405 c1406 a1024 c1025 a1027 c1028 h1416) rfl rfl rfl rfl) rfl rfl rfl rfl rfl ?_
    rintro ⟨⟩
    refine L.q 2 rfl ?_
    refine L.nil ?_
    have hr := Option.some.inj H1417
    subst e1395
    exact E.give ((), ((a1401, c1402), (a1403, c1404), (a1405, c1406))) [1, 1, 1, 0] [0, 1, 2, 3, 4, 5, 6, 7, 8, 9, 10, 11, 12, 13, 14, 15, 16, 17] trivial ⟨rfl, rfl, rfl, rfl, trivial⟩ rfl rfl
  rintro ⟨_, ⟨⟨a1384, c1385⟩, ⟨a1387, c1388⟩, ⟨a1390, c1391⟩⟩⟩ _
  refine T.bif rfl H1397 (fun hc H1419 => ?_) (fun hc H1419 => ?_)
  · refine T.seq (T.region ?_)
    refine L.q 1 rfl ?_
    refine L.nil (E.then (T.ret (E.then_ret ?_)))
    have hr := Option.some.inj H1419
    subst r
    exact E.ret () [] [] (.tmp rfl .nil) rfl rfl rfl
  refine T.skip (E.then (T.seq (T.region ?_)))
  refine L.q 3 rfl ?_
  obtain ⟨r1420, h1421, H1422⟩ := bnd H1419
  refine L.a [3, 0, 0] [0, 1, 2, 3, 4, 17] (Ac.call (c_sender_Sender_Step g9 a1013 c1014 a1016 c1017 a1384 c1385 a1387 c1388 a1390 c1391 a1024 c1025 a1027 c1028 h1421) rfl rfl rfl rfl) rfl rfl rfl rfl rfl ?_
  rintro ⟨⟨a1423, c1424⟩, ⟨a1425, c1426⟩, ⟨a1427, c1428⟩, ⟨a1429, c1430⟩⟩
  refine L.q 1 rfl ?_
  refine L.nil (E.then (T.seq (T.seq ?_)))
  obtain ⟨e1464, H1465, H1466⟩ := bnd H1422
  refine T.join (η := Unit × Unit) (fun h => True) (fun h => [(0, .int .i64 (IntKind.i64.wrap (3 + (Go.bits .and .i64 n_ 7)))), (5, .pointer (some ⟨g9, 0, none⟩)), (6, .pointer (some ⟨g31, 0, none⟩)), (9, .slice a1423 r1420.1.length c1424), (69, .bool e1464)]) (fun h => [Ch.box g9 82 (bx82 r1420.2 a1013 c1014 a1016 c1017 a1384 c1385 a1387 c1388 a1425 c1426 a1427 c1428 a1429 c1430), Ch.box g31 25 (bx25 e1030.1 a1006 c1007 a1009 c1010), Ch.arr tyGramGram 69 a1423 c1424 r1420.1, Ch.aro tySnapSnap 25 a1425 c1426 r1420.2.kept, Ch.arr Ty.bool 4 a1429 c1430 r1420.2.message.there]) (fun h => [Im.sl tyRowRow a1013 c1014 r1420.2.current.rows, Im.sl tyRowGlyph a1016 c1017 r1420.2.current.begun, Im.sl tyRowRow a1384 c1385 r1420.2.acked.rows, Im.sl tyRowGlyph a1387 c1388 r1420.2.acked.begun, Im.sl Ty.str a1427 c1428 r1420.2.message.parts, Im.sl tyRowRow a1013 c1014 e1395.2.current.rows, Im.sl tyRowGlyph a1016 c1017 e1395.2.current.begun, Im.sl tyRowRow a1384 c1385 e1395.2.acked.rows, Im.sl tyRowGlyph a1387 c1388 e1395.2.acked.begun, Im.sl Ty.str a1024 c1025 e1395.2.message.parts, Im.sl tyRowRow a1006 c1007 e1030.1.rows, Im.sl tyRowGlyph a1009 c1010 e1030.1.begun, Im.sl tyRowRow a1013 c1014 e1030.2.current.rows, Im.sl tyRowGlyph a1016 c1017 e1030.2.current.begun, Im.sl tyRowRow a14 c15 e1030.2.acked.rows, Im.sl tyRowGlyph a16 c17 e1030.2.acked.begun, Im.sl Ty.str a1024 c1025 e1030.2.message.parts, Im.sl tyRowRow a10 c11 r6.current.rows, Im.sl tyRowGlyph a12 c13 r6.current.begun, Im.sl tyRowRow a14 c15 r6.acked.rows, Im.sl tyRowGlyph a16 c17 r6.acked.begun, Im.sl Ty.str a20 c21 r6.message.parts, Im.sl (Ty.int .u32) (some ⟨0, 0, none⟩) 16 t_sum_half]) ?_ ?_
  · refine T.region ?_
    refine L.q 4 rfl ?_
    refine L.cs 63 H1465 rfl (fun hc H1467 => ?_) (fun hc H1467 => ?_)
    · refine L.q 6 rfl ?_
      refine L.nil ?_
      have hr := Option.some.inj H1467
      subst e1464
      exact E.give ((), ()) [1, 3, 0, 0, 0] [0, 1, 2, 3, 4, 5, 6, 7, 8, 9, 10, 11, 12, 13, 14, 15, 16, 17, 18, 19, 20, 21, 22] trivial ⟨rfl, rfl, rfl, rfl, rfl, trivial⟩ rfl rfl
    refine L.q 1 rfl ?_
    obtain ⟨x1468, h1469, H1470⟩ := bnd H1467
    refine L.addro 0 rfl (idx_lt h1469) fun b1471 e1472 => ?_
    obtain rfl : a1423 = some ⟨b1471, 0, none⟩ := e1472
    refine L.y (Yl.ia h1469 rfl rfl rfl rfl rfl rfl) rfl rfl rfl ?_
    refine L.a [0] [] (Ac.lo ((0 : Int).toNat) 0 (v := (fun h : (Option Addr × Nat) => (fun a1473 c1474 => .agg #[.int .i64 x1468.epoch, .int .i64 x1468.kind, .slice a1473 x1468.nums.length c1474, .string x1468.data]) h.1 h.2)) (idx_some h1469).2 rfl rfl rfl (fun _ => rfl)) rfl rfl rfl rfl rfl ?_
    rintro ⟨a1473, c1474⟩
    obtain ⟨r1476, h1477, H1478⟩ := bnd H1470
    refine L.a [] [0] (Ac.call (c_gram_Gram_Num a1473 c1474 h1477) rfl rfl rfl rfl) rfl rfl rfl rfl rfl ?_
    rintro ⟨⟩
    refine L.q 2 rfl ?_
    refine L.nil ?_
    have hr := Option.some.inj H1478
    subst e1464
    exact E.give ((), ()) [1, 3, 0, 0, 0] [1, 2, 3, 4, 5, 6, 7, 8, 9, 10, 11, 12, 13, 14, 15, 16, 17, 18, 19, 20, 21, 22, 23] trivial ⟨rfl, rfl, rfl, rfl, rfl, trivial⟩ rfl rfl
  rintro ⟨_, ⟨⟩⟩ _
  refine T.bif rfl H1466 (fun hc H1480 => ?_) (fun hc H1480 => ?_)
  · refine T.seq (T.region ?_)
    refine L.q 1 rfl ?_
    refine L.nil (E.then (T.ret (E.then_ret ?_)))
    have hr := Option.some.inj H1480
    subst r
    exact E.ret () [] [] (.tmp rfl .nil) rfl rfl rfl
  refine T.skip (E.then (T.seq (T.region ?_)))
  refine L.q 2 rfl ?_
  obtain ⟨x1481, h1482, H1483⟩ := bnd H1480
  refine L.addro 2 rfl (idx_lt h1482) fun b1484 e1485 => ?_
  obtain rfl : a1423 = some ⟨b1484, 0, none⟩ := e1485
  refine L.y (Yl.ia h1482 rfl rfl rfl rfl rfl rfl) rfl rfl rfl ?_
  refine L.q 1 rfl ?_
  refine L.a [2] [] (Ac.lo ((0 : Int).toNat) 3 (v := (fun h : (Option Addr × Nat) => (fun a1486 c1487 => .string x1481.data) h.1 h.2)) (idx_some h1482).2 rfl rfl rfl (fun _ => rfl)) rfl rfl rfl rfl rfl ?_
  rintro ⟨a1486, c1487⟩
  refine L.know [Im.sl tyRowRow none 0 []] (fun A w _ _ f hf => by rw [List.mem_singleton.1 hf]; exact Im.sl_nil A w) ?_
  refine L.know [Im.sl tyRowGlyph none 0 []] (fun A w _ _ f hf => by rw [List.mem_singleton.1 hf]; exact Im.sl_nil A w) ?_
  obtain ⟨r1491, h1492, H1493⟩ := bnd H1483
  refine L.a [] [1, 0, 25] (Ac.call (c_delta_Apply none 0 none 0 h1492) rfl rfl rfl rfl) rfl rfl rfl rfl rfl ?_
  rintro ⟨⟨a1494, c1495⟩, ⟨a1496, c1497⟩⟩
  refine L.q 3 rfl ?_
  refine L.a [] [] (Ac.alloc rfl rfl) rfl rfl rfl rfl rfl ?_
  intro g1500
  refine L.a [0] [] (Ac.stb rfl rfl rfl rfl rfl rfl) rfl rfl rfl rfl rfl ?_
  intro _
  refine L.q 1 rfl ?_
  refine L.nil (E.then (T.seq ?_))
  obtain ⟨e1566, H1567, H1568⟩ := bnd H1493
  refine T.join (η := Unit × ((Option Addr × Nat) × (Option Addr × Nat) × (Option Addr × Nat))) (fun h => True) (fun h => (fun a1555 c1556 a1558 c1559 a1561 c1562 => [(4, .bool e1566.1)]) h.2.1.1 h.2.1.2 h.2.2.1.1 h.2.2.1.2 h.2.2.2.1 h.2.2.2.2) (fun h => (fun a1555 c1556 a1558 c1559 a1561 c1562 => [Ch.aro tySnapSnap 25 a1561 c1562 e1566.2.kept, Ch.arr Ty.bool 4 a1429 c1430 e1566.2.message.there, Ch.box g1500 25 (bx25 r1491.1 a1494 c1495 a1496 c1497), Ch.box g9 82 (bx82 e1566.2 a1013 c1014 a1016 c1017 a1555 c1556 a1558 c1559 a1561 c1562 a1427 c1428 a1429 c1430), Ch.box g31 25 (bx25 e1030.1 a1006 c1007 a1009 c1010)]) h.2.1.1 h.2.1.2 h.2.2.1.1 h.2.2.1.2 h.2.2.2.1 h.2.2.2.2) (fun h => (fun a1555 c1556 a1558 c1559 a1561 c1562 => [Im.sl tyRowRow a1013 c1014 e1566.2.current.rows, Im.sl tyRowGlyph a1016 c1017 e1566.2.current.begun, Im.sl tyRowRow a1555 c1556 e1566.2.acked.rows, Im.sl tyRowGlyph a1558 c1559 e1566.2.acked.begun, Im.sl Ty.str a1427 c1428 e1566.2.message.parts, Im.sl tyRowRow a1494 c1495 r1491.1.rows, Im.sl tyRowGlyph a1496 c1497 r1491.1.begun, Im.sl tyRowGlyph none 0 [], Im.sl tyRowRow none 0 [], Im.sl (Ty.int .i64) a1486 c1487 x1481.nums, Im.sl tyRowRow a1013 c1014 r1420.2.current.rows, Im.sl tyRowGlyph a1016 c1017 r1420.2.current.begun, Im.sl tyRowRow a1384 c1385 r1420.2.acked.rows, Im.sl tyRowGlyph a1387 c1388 r1420.2.acked.begun, Im.sl Ty.str a1427 c1428 r1420.2.message.parts, Im.sl tyRowRow a1013 c1014 e1395.2.current.rows, Im.sl tyRowGlyph a1016 c1017 e1395.2.current.begun, Im.sl tyRowRow a1384 c1385 e1395.2.acked.rows, Im.sl tyRowGlyph a1387 c1388 e1395.2.acked.begun, Im.sl Ty.str a1024 c1025 e1395.2.message.parts, Im.sl tyRowRow a1006 c1007 e1030.1.rows, Im.sl tyRowGlyph a1009 c1010 e1030.1.begun, Im.sl tyRowRow a1013 c1014 e1030.2.current.rows, Im.sl tyRowGlyph a1016 c1017 e1030.2.current.begun, Im.sl tyRowRow a14 c15 e1030.2.acked.rows, Im.sl tyRowGlyph a16 c17 e1030.2.acked.begun, Im.sl Ty.str a1024 c1025 e1030.2.message.parts, Im.sl tyRowRow a10 c11 r6.current.rows, Im.sl tyRowGlyph a12 c13 r6.current.begun, Im.sl tyRowRow a14 c15 r6.acked.rows, Im.sl tyRowGlyph a16 c17 r6.acked.begun, Im.sl Ty.str a20 c21 r6.message.parts, Im.sl (Ty.int .u32) (some ⟨0, 0, none⟩) 16 t_sum_half]) h.2.1.1 h.2.1.2 h.2.2.1.1 h.2.2.1.2 h.2.2.2.1 h.2.2.2.2) ?_ ?_
  · refine T.region ?_
    refine L.q 3 rfl ?_
    refine L.cs 81 H1567 rfl (fun hc H1569 => ?_) (fun hc H1569 => ?_)
    · refine L.y (Yl.ldb 0 rfl rfl rfl rfl) rfl rfl rfl ?_
      refine L.y (Yl.ldb 3 rfl rfl rfl rfl) rfl rfl rfl ?_
      obtain ⟨r1570, h1571, H1572⟩ := bnd H1569
      refine L.a [] [0, 1, 15, 16] (Ac.call (c_snap_Snap_Same a1494 c1495 a1496 c1497 a1006 c1007 a1009 c1010 h1571) rfl rfl rfl rfl) rfl rfl rfl rfl rfl ?_
      rintro ⟨⟩
      refine L.q 2 rfl ?_
      refine L.cs 86 H1572 rfl (fun hc H1573 => ?_) (fun hc H1573 => ?_)
      · refine L.q 2 rfl ?_
        obtain ⟨r1574, h1575, H1576⟩ := bnd H1573
        refine L.a [2, 3, 3] [5, 6, 7, 8, 9] (Ac.call (c_sender_Sender_Ack g9 a1013 c1014 a1016 c1017 a1384 c1385 a1387 c1388 a1425 c1426 a1427 c1428 a1429 c1430 h1575) rfl rfl rfl rfl) rfl rfl rfl rfl rfl ?_
        rintro ⟨⟨a1577, c1578⟩, ⟨a1579, c1580⟩, ⟨a1581, c1582⟩⟩
        refine L.q 2 rfl ?_
        refine L.cs 91 H1576 rfl (fun hc H1590 => ?_) (fun hc H1590 => ?_)
        · refine L.q 1 rfl ?_
          obtain ⟨r1591, h1592, H1593⟩ := bnd H1590
          refine L.a [0, 0, 0] [0, 1, 2, 3, 4] (Ac.call (c_sender_Sender_Acked g9 a1013 c1014 a1016 c1017 a1577 c1578 a1579 c1580 a1581 c1582 a1427 c1428 a1429 c1430 h1592) rfl rfl rfl rfl) rfl rfl rfl rfl rfl ?_
          rintro ⟨⟩
          refine L.q 4 rfl ?_
          refine L.nil ?_
          have hr := Option.some.inj H1593
          subst e1566
          exact E.give ((), ((a1577, c1578), (a1579, c1580), (a1581, c1582))) [1, 1, 1, 0, 1] [0, 1, 2, 3, 4, 5, 6, 7, 8, 9, 10, 11, 12, 13, 14, 15, 16, 17, 18, 19, 20, 21, 22, 23, 24, 25, 26, 27, 28, 29, 30, 31, 32] trivial ⟨rfl, trivial⟩ rfl rfl
        refine L.q 6 rfl ?_
        refine L.nil ?_
        have hr := Option.some.inj H1590
        subst e1566
        exact E.give ((), ((a1577, c1578), (a1579, c1580), (a1581, c1582))) [1, 1, 1, 0, 1] [0, 1, 2, 3, 4, 5, 6, 7, 8, 9, 10, 11, 12, 13, 14, 15, 16, 17, 18, 19, 20, 21, 22, 23, 24, 25, 26, 27, 28, 29, 30, 31, 32] trivial ⟨rfl, trivial⟩ rfl rfl
      refine L.q 11 rfl ?_
      refine L.nil ?_
      have hr := Option.some.inj H1573
      subst e1566
      exact E.give ((), ((a1384, c1385), (a1387, c1388), (a1425, c1426))) [4, 4, 0, 1, 1] [5, 6, 7, 8, 9, 0, 1, 2, 3, 4, 5, 6, 7, 8, 9, 10, 11, 12, 13, 14, 15, 16, 17, 18, 19, 20, 21, 22, 23, 24, 25, 26, 27] trivial ⟨rfl, trivial⟩ rfl rfl
    refine L.q 16 rfl ?_
    refine L.nil ?_
    have hr := Option.some.inj H1569
    subst e1566
    exact E.give ((), ((a1384, c1385), (a1387, c1388), (a1425, c1426))) [4, 4, 0, 1, 1] [5, 6, 7, 8, 9, 0, 1, 2, 3, 4, 5, 6, 7, 8, 9, 10, 11, 12, 13, 14, 15, 16, 17, 18, 19, 20, 21, 22, 23, 24, 25, 26, 27] trivial ⟨rfl, trivial⟩ rfl rfl
  rintro ⟨_, ⟨⟨a1555, c1556⟩, ⟨a1558, c1559⟩, ⟨a1561, c1562⟩⟩⟩ _
  refine T.ret ?_
  have hr := Option.some.inj H1568
  subst r
  exact E.ret () [] [] (.tmp rfl .nil) rfl rfl rfl

end Go.Tw.X

set_option maxHeartbeats 2000000
set_option linter.unusedVariables false
set_option linter.unusedSimpArgs false
set_option maxRecDepth 10000
namespace Go.Tw.X
open Go Go.Tw
theorem opn3 : Opn Go.Proofs.Tryd.prog 3 (Ty.int .i64) (inK .i64) := Opn.int (by kernel_rfl)
end Go.Tw.X

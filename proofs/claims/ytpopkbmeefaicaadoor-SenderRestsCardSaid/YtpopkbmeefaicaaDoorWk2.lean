import Derived.Test.YtpopkbmeefaicaaDoorWk1
import Derived.Test.YtpopkbmeefaicaaDoorFw2
set_option maxHeartbeats 2000000
set_option linter.unusedVariables false
set_option linter.unusedSimpArgs false
set_option maxRecDepth 10000
namespace Go.Tw.X
open Go Go.Tw
theorem c_sender_Sender_Ack_1_v2 {x_ : SnapSnap} {x1 : Int} (a_0_0 : Option Addr) (c_0_0 : Nat) (a_0_1 : Option Addr) (c_0_1 : Nat) (g_1 : Nat) {r : Bool} (H : p_sender_Sender_Ack_1_v2 x_ x1 = some r) : CT G 43 [.agg (bx25 x_ a_0_0 c_0_0 a_0_1 c_0_1).toArray, .pointer (some ⟨g_1, 0, none⟩)] [] [Im.sl tyRowRow a_0_0 c_0_0 x_.rows, Im.sl tyRowGlyph a_0_1 c_0_1 x_.begun, Im.cells g_1 0 [.int .i64 x1]] (fun h : Unit => .bool r) (fun h => []) (fun h => []) := by
  delta p_sender_Sender_Ack_1_v2 at H
  refine CT.of Go.Proofs.Tryd.func43 (by kernel_rfl) rfl rfl rfl fun K => ?_
  refine T.seq (T.region ?_)
  refine L.a [] [] (Ac.box rfl rfl) rfl rfl rfl rfl rfl ?_
  intro g1
  refine L.q 1 rfl ?_
  refine L.nil (E.then (T.seq (T.region ?_)))
  refine L.q 1 rfl ?_
  refine L.y (Yl.ldb 0 rfl rfl rfl rfl) rfl rfl rfl ?_
  refine L.y (Yl.ldc 2 0 rfl rfl rfl rfl) rfl rfl rfl ?_
  refine L.q 2 rfl ?_
  refine L.nil (E.then (T.ret ?_))
  have hr := Option.some.inj H
  subst r
  exact E.ret () [] [] (.tmp rfl .nil) rfl rfl rfl

theorem c_slices_IndexFunc_snap_Snap_Sender_Ack_1_v2 {s_ : List SnapSnap} {f_0 : Int} (a_0 : Option Addr) (c_0 : Nat) (g_1_0 : Nat) {r : Int} (H : p_slices_IndexFunc_snap_Snap_Sender_Ack_1_v2 s_ f_0 = some r) : CT G 42 [.slice a_0 s_.length c_0, .func (.func 43) #[] #[.pointer (some ⟨g_1_0, 0, none⟩)]] [] [Im.sl tySnapSnap a_0 c_0 s_, Im.cells g_1_0 0 [.int .i64 f_0]] (fun h : Unit => .int .i64 r) (fun h => []) (fun h => []) := by
  delta p_slices_IndexFunc_snap_Snap_Sender_Ack_1_v2 at H
  refine CT.of Go.Proofs.Tryd.func42 (by kernel_rfl) rfl rfl rfl fun K => ?_
  refine T.seq (T.region ?_)
  refine L.q 1 rfl ?_
  refine L.nil (E.then (T.seq (T.seq (T.region ?_))))
  refine L.q 3 rfl ?_
  refine L.nil (E.then ?_)
  obtain ⟨y114, H115, H116⟩ := bnd H
  refine T.join (η := Unit × Unit) (fun h => y114 = .inl h.1) (fun h => (fun e113 => []) h.1) (fun h => (fun e113 => []) h.1) (fun h => (fun e113 => [Im.sl tySnapSnap a_0 c_0 s_, Im.cells g_1_0 0 [.int .i64 f_0]]) h.1) ?_ ?_
  · refine T.block ?_
    refine T.lp (η := Unit) (fun s76 h => [(0, .slice a_0 s_.length c_0), (1, .func (.func 43) #[] #[.pointer (some ⟨g_1_0, 0, none⟩)]), (7, .int .i64 (s_.length : Int)), (8, .int .i64 s76)]) (fun s76 h => []) (fun s76 h => [Im.sl tySnapSnap a_0 c_0 s_, Im.cells g_1_0 0 [.int .i64 f_0]]) () [] [0, 1] H115 ⟨rfl, rfl, rfl, rfl, trivial⟩ rfl rfl ?_
    rintro k_ s76 ⟨⟩ z118 H117 hag119 hbr120
    refine T.seq (T.region ?_)
    refine L.q 1 rfl ?_
    refine L.nil (E.then (T.seq ?_))
    refine T.bif rfl H117 (fun hc H122 => ?_) (fun hc H122 => ?_)
    · refine T.skip (E.then (T.seq (T.block (T.seq (T.region ?_)))))
      refine L.q 2 rfl ?_
      refine L.nil (E.then (T.seq (T.region ?_)))
      refine L.q 3 rfl ?_
      obtain ⟨x140, h141, H142⟩ := bnd H122
      refine L.addr 0 rfl (idx_lt h141) fun b143 o144 e145 => ?_
      obtain rfl : a_0 = some ⟨b143, o144, none⟩ := e145
      refine L.y (Yl.ia h141 rfl rfl rfl rfl rfl rfl) rfl rfl rfl ?_
      refine L.el 0 rfl (idx_some h141).2 ?_
      rintro ⟨⟨a146, c147⟩, ⟨a148, c149⟩⟩
      refine L.y (Yl.ldc 0 0 rfl rfl rfl rfl) rfl rfl rfl ?_
      obtain ⟨r153, h154, H155⟩ := bnd H142
      refine L.a [] [1, 2, 4] (Ac.call (c_sender_Sender_Ack_1_v2 a146 c147 a148 c149 g_1_0 h154) rfl rfl rfl rfl) rfl rfl rfl rfl rfl ?_
      rintro ⟨⟩
      refine L.nil (E.then ?_)
      refine T.bif rfl H155 (fun hc H156 => ?_) (fun hc H156 => ?_)
      · refine T.seq (T.region ?_)
        refine L.q 2 rfl ?_
        refine L.nil (E.then (T.ret (E.block_ret (E.then_ret (E.then_ret (E.block_ret ?_))))))
        obtain ⟨w157, hz, H158⟩ := inrr_some H156
        subst z118
        have hb := hbr120 _ rfl
        subst y114
        have hw : w157 = r := Option.some.inj H116
        subst w157
        refine E.then_ret ?_
        have hr := Option.some.inj H158
        subst r
        exact E.ret () [] [] (.tmp rfl .nil) rfl rfl rfl
      refine T.skip (E.block (E.then (T.region ?_)))
      refine L.q 2 rfl ?_
      refine L.nil ?_
      have hr := Option.some.inj H156
      subst z118
      exact E.give (_, ()) [] [3, 4] (hag119 _ rfl) ⟨rfl, rfl, rfl, rfl, trivial⟩ rfl rfl
    refine T.exit (E.then_exit' (E.then_exit' (E.block_here ?_)))
    have hr := Option.some.inj H122
    subst z118
    have hb := hbr120 _ rfl
    subst y114
    exact E.give (_, ()) [] [0, 1] rfl trivial rfl rfl
  rintro ⟨e113, ⟨⟩⟩ hy
  subst hy
  refine T.seq (T.region ?_)
  refine L.q 1 rfl ?_
  refine L.nil (E.then (T.ret ?_))
  have hr := Option.some.inj H116
  subst r
  exact E.ret () [] [] (.tmp rfl .nil) rfl rfl rfl

theorem c_slices_Clone_snap_Snap {s_ : List SnapSnap} (a_0 : Option Addr) (c_0 : Nat) {r : List SnapSnap} (H : p_slices_Clone_snap_Snap s_ = some r) : CT G 44 [.slice a_0 s_.length c_0] [] [Im.sl tySnapSnap a_0 c_0 s_] (fun h : (Option Addr × Nat) => .slice h.1 r.length h.2) (fun h => [Ch.arr tySnapSnap 25 h.1 h.2 r]) (fun h => []) := by
  delta p_slices_Clone_snap_Snap at H
  refine CT.of Go.Proofs.Tryd.func44 (by kernel_rfl) rfl rfl rfl fun K => ?_
  obtain ⟨_, h0, H⟩ := bnd H
  have hr := Option.some.inj H
  refine T.seq (T.region (L.q 1 rfl (L.nil (E.then (T.seq (T.seq (T.region ?_)))))))
  refine L.q 1 rfl ?_
  refine L.nilc 0 rfl rfl rfl rfl rfl rfl rfl rfl rfl (fun ha hx => ?_) ?_
  · refine L.nil (E.then (T.cond rfl (fun _ => ?_) (fun h => nomatch h)))
    refine T.seq (T.region (L.q 1 rfl (L.nil (E.then (T.ret (E.then_ret ?_))))))
    subst hx
    subst r
    refine E.nil0 tySnapSnap 25 ?_
    exact E.ret (none, 0) [0] [] (.tmp rfl .nil) rfl rfl rfl
  · refine L.nil (E.then (T.cond rfl (fun h => nomatch h) (fun _ => ?_)))
    refine T.skip (E.then (T.seq (T.region ?_)))
    refine L.a [] [] (Ac.bs (ty := tySnapSnap) (xs := []) .nil rfl rfl rfl rfl rfl rfl rfl) rfl rfl rfl rfl rfl ?_
    intro g1
    refine L.q 1 rfl ?_
    refine L.a [0] [0] (Ac.ap (ty := tySnapSnap) h0 rfl rfl rfl rfl rfl rfl rfl) rfl rfl rfl rfl rfl ?_
    rintro ⟨a1, c1⟩
    refine L.q 1 rfl ?_
    refine L.nil (E.then (T.ret ?_))
    subst r
    exact E.ret (a1, c1) [0] [] (.tmp rfl .nil) rfl rfl rfl

theorem c_sender_Sender_Ack {s_ : SenderSender} {k : Int} {id : Int} {have_ : ByteArray} (g_0 : Nat) (a_0_0 : Option Addr) (c_0_0 : Nat) (a_0_1 : Option Addr) (c_0_1 : Nat) (a_0_2 : Option Addr) (c_0_2 : Nat) (a_0_3 : Option Addr) (c_0_3 : Nat) (a_0_4 : Option Addr) (c_0_4 : Nat) (a_0_5 : Option Addr) (c_0_5 : Nat) (a_0_6 : Option Addr) (c_0_6 : Nat) {r : Bool × SenderSender} (H : p_sender_Sender_Ack s_ k id have_ = some r) : CT G 13 [.pointer (some ⟨g_0, 0, none⟩), .int .i64 k, .int .i64 id, .string have_] [Ch.box g_0 82 (bx82 s_ a_0_0 c_0_0 a_0_1 c_0_1 a_0_2 c_0_2 a_0_3 c_0_3 a_0_4 c_0_4 a_0_5 c_0_5 a_0_6 c_0_6), Ch.aro tySnapSnap 25 a_0_4 c_0_4 s_.kept, Ch.arr Ty.bool 4 a_0_6 c_0_6 s_.message.there] [Im.sl tyRowRow a_0_0 c_0_0 s_.current.rows, Im.sl tyRowGlyph a_0_1 c_0_1 s_.current.begun, Im.sl tyRowRow a_0_2 c_0_2 s_.acked.rows, Im.sl tyRowGlyph a_0_3 c_0_3 s_.acked.begun, Im.sl Ty.str a_0_5 c_0_5 s_.message.parts] (fun h : (Option Addr × Nat) × (Option Addr × Nat) × (Option Addr × Nat) => .bool r.1) (fun h => [Ch.box g_0 82 (bx82 r.2 a_0_0 c_0_0 a_0_1 c_0_1 h.1.1 h.1.2 h.2.1.1 h.2.1.2 h.2.2.1 h.2.2.2 a_0_5 c_0_5 a_0_6 c_0_6), Ch.aro tySnapSnap 25 h.2.2.1 h.2.2.2 r.2.kept, Ch.arr Ty.bool 4 a_0_6 c_0_6 r.2.message.there]) (fun h => [Im.sl tyRowRow a_0_0 c_0_0 r.2.current.rows, Im.sl tyRowGlyph a_0_1 c_0_1 r.2.current.begun, Im.sl tyRowRow h.1.1 h.1.2 r.2.acked.rows, Im.sl tyRowGlyph h.2.1.1 h.2.1.2 r.2.acked.begun, Im.sl Ty.str a_0_5 c_0_5 r.2.message.parts]) := by
  delta p_sender_Sender_Ack at H
  refine CT.of Go.Proofs.Tryd.func13 (by kernel_rfl) rfl rfl rfl fun K => ?_
  refine T.seq (T.region ?_)
  refine L.a [] [] (Ac.box rfl rfl) rfl rfl rfl rfl rfl ?_
  intro g1
  refine L.q 1 rfl ?_
  refine L.nil (E.then (T.seq (T.seq ?_)))
  obtain ⟨e5, H6, H7⟩ := bnd H
  refine T.join (η := Unit × Unit) (fun h => True) (fun h => [(0, .pointer (some ⟨g_0, 0, none⟩)), (3, .string have_), (5, .pointer (some ⟨g1, 0, none⟩)), (20, .bool e5)]) (fun h => [Ch.box g1 3 [.int .i64 k], Ch.box g_0 82 (bx82 s_ a_0_0 c_0_0 a_0_1 c_0_1 a_0_2 c_0_2 a_0_3 c_0_3 a_0_4 c_0_4 a_0_5 c_0_5 a_0_6 c_0_6), Ch.aro tySnapSnap 25 a_0_4 c_0_4 s_.kept, Ch.arr Ty.bool 4 a_0_6 c_0_6 s_.message.there]) (fun h => [Im.sl tyRowRow a_0_0 c_0_0 s_.current.rows, Im.sl tyRowGlyph a_0_1 c_0_1 s_.current.begun, Im.sl tyRowRow a_0_2 c_0_2 s_.acked.rows, Im.sl tyRowGlyph a_0_3 c_0_3 s_.acked.begun, Im.sl Ty.str a_0_5 c_0_5 s_.message.parts]) ?_ ?_
  · refine T.region ?_
    refine L.q 5 rfl ?_
    refine L.y (Yl.ldb 1 rfl rfl rfl rfl) rfl rfl rfl ?_
    refine L.q 2 rfl ?_
    refine L.cs 17 H6 rfl (fun hc H8 => ?_) (fun hc H8 => ?_)
    · refine L.q 3 rfl ?_
      refine L.nil ?_
      have hr := Option.some.inj H8
      subst e5
      exact E.give ((), ()) [0, 0, 0, 0] [0, 1, 2, 3, 4] trivial ⟨rfl, rfl, rfl, rfl, trivial⟩ rfl rfl
    refine L.q 3 rfl ?_
    refine L.nil ?_
    have hr := Option.some.inj H8
    subst e5
    exact E.give ((), ()) [0, 0, 0, 0] [0, 1, 2, 3, 4] trivial ⟨rfl, rfl, rfl, rfl, trivial⟩ rfl rfl
  rintro ⟨_, ⟨⟩⟩ _
  obtain ⟨e39, H40, H41⟩ := bnd H7
  refine T.join (η := Unit × Unit) (fun h => True) (fun h => [(0, .pointer (some ⟨g_0, 0, none⟩)), (5, .pointer (some ⟨g1, 0, none⟩))]) (fun h => [Ch.aro tySnapSnap 25 a_0_4 c_0_4 e39.kept, Ch.arr Ty.bool 4 a_0_6 c_0_6 e39.message.there, Ch.box g1 3 [.int .i64 k], Ch.box g_0 82 (bx82 e39 a_0_0 c_0_0 a_0_1 c_0_1 a_0_2 c_0_2 a_0_3 c_0_3 a_0_4 c_0_4 a_0_5 c_0_5 a_0_6 c_0_6)]) (fun h => [Im.sl tyRowRow a_0_0 c_0_0 e39.current.rows, Im.sl tyRowGlyph a_0_1 c_0_1 e39.current.begun, Im.sl tyRowRow a_0_2 c_0_2 e39.acked.rows, Im.sl tyRowGlyph a_0_3 c_0_3 e39.acked.begun, Im.sl Ty.str a_0_5 c_0_5 e39.message.parts, Im.sl tyRowRow a_0_0 c_0_0 s_.current.rows, Im.sl tyRowGlyph a_0_1 c_0_1 s_.current.begun, Im.sl tyRowRow a_0_2 c_0_2 s_.acked.rows, Im.sl tyRowGlyph a_0_3 c_0_3 s_.acked.begun, Im.sl Ty.str a_0_5 c_0_5 s_.message.parts]) ?_ ?_
  · refine T.bif rfl H40 (fun hc H42 => ?_) (fun hc H42 => ?_)
    · refine T.region ?_
      refine L.q 2 rfl ?_
      obtain ⟨r43, h44, H45⟩ := bnd H42
      refine L.a [1, 1, 1] [0, 1, 2, 3, 4] (Ac.call (c_sender_Sender_mark g_0 a_0_0 c_0_0 a_0_1 c_0_1 a_0_2 c_0_2 a_0_3 c_0_3 a_0_4 c_0_4 a_0_5 c_0_5 a_0_6 c_0_6 h44) rfl rfl rfl rfl) rfl rfl rfl rfl rfl ?_
      rintro ⟨⟩
      refine L.nil ?_
      have hr := Option.some.inj H45
      subst e39
      exact E.give ((), ()) [1, 1, 1, 0] [0, 1, 2, 3, 4, 5, 6, 7, 8, 9] trivial ⟨rfl, rfl, trivial⟩ rfl rfl
    refine T.skip ?_
    have hr := Option.some.inj H42
    subst e39
    exact E.give ((), ()) [2, 2, 0, 0] [0, 1, 2, 3, 4, 0, 1, 2, 3, 4] trivial ⟨rfl, rfl, trivial⟩ rfl rfl
  rintro ⟨_, ⟨⟩⟩ _
  refine T.seq (T.seq ?_)
  obtain ⟨e58, H59, H60⟩ := bnd H41
  refine T.join (η := Unit × Unit) (fun h => True) (fun h => [(0, .pointer (some ⟨g_0, 0, none⟩)), (5, .pointer (some ⟨g1, 0, none⟩)), (39, .bool e58)]) (fun h => [Ch.box g1 3 [.int .i64 k], Ch.box g_0 82 (bx82 e39 a_0_0 c_0_0 a_0_1 c_0_1 a_0_2 c_0_2 a_0_3 c_0_3 a_0_4 c_0_4 a_0_5 c_0_5 a_0_6 c_0_6), Ch.aro tySnapSnap 25 a_0_4 c_0_4 e39.kept, Ch.arr Ty.bool 4 a_0_6 c_0_6 e39.message.there]) (fun h => [Im.sl tyRowRow a_0_0 c_0_0 e39.current.rows, Im.sl tyRowGlyph a_0_1 c_0_1 e39.current.begun, Im.sl tyRowRow a_0_2 c_0_2 e39.acked.rows, Im.sl tyRowGlyph a_0_3 c_0_3 e39.acked.begun, Im.sl Ty.str a_0_5 c_0_5 e39.message.parts, Im.sl tyRowRow a_0_0 c_0_0 s_.current.rows, Im.sl tyRowGlyph a_0_1 c_0_1 s_.current.begun, Im.sl tyRowRow a_0_2 c_0_2 s_.acked.rows, Im.sl tyRowGlyph a_0_3 c_0_3 s_.acked.begun, Im.sl Ty.str a_0_5 c_0_5 s_.message.parts]) ?_ ?_
  · refine T.draw [] [0, 0, 0, 0] mo (by rfl) rfl ?_
    refine D.y 0 (Yl.ldb 2 rfl rfl rfl rfl) rfl rfl rfl rfl rfl rfl ?_
    refine D.q 1 rfl rfl rfl rfl rfl rfl ?_
    refine D.q 2 rfl rfl rfl rfl rfl rfl ?_
    refine D.q 3 rfl rfl rfl rfl rfl rfl ?_
    refine D.q 4 rfl rfl rfl rfl rfl rfl ?_
    refine D.y 5 (Yl.ldb 3 rfl rfl rfl rfl) rfl rfl rfl rfl rfl rfl ?_
    refine D.q 6 rfl rfl rfl rfl rfl rfl ?_
    refine D.q 7 rfl rfl rfl rfl rfl rfl ?_
    refine D.cs 31 H59 rfl (fun hc H62 => ?_) (fun hc H62 => ?_)
    · refine D.sk 8 rfl rfl rfl rfl rfl ?_
      refine D.sk 9 rfl rfl rfl rfl rfl ?_
      refine D.sk 10 rfl rfl rfl rfl rfl ?_
      refine D.sk 11 rfl rfl rfl rfl rfl ?_
      refine D.sk 12 rfl rfl rfl rfl rfl ?_
      refine D.sk 13 rfl rfl rfl rfl rfl ?_
      refine D.sk 14 rfl rfl rfl rfl rfl ?_
      refine D.q 15 rfl rfl rfl rfl rfl rfl ?_
      refine D.nil rfl rfl ?_
      have hr := Option.some.inj H62
      subst e58
      exact E.give ((), ()) [2, 2, 0, 0] [0, 1, 2, 3, 4, 5, 6, 7, 8, 9] trivial ⟨rfl, rfl, rfl, trivial⟩ rfl rfl
    refine D.y 8 (Yl.ldb 2 rfl rfl rfl rfl) rfl rfl rfl rfl rfl rfl ?_
    refine D.q 9 rfl rfl rfl rfl rfl rfl ?_
    refine D.q 10 rfl rfl rfl rfl rfl rfl ?_
    refine D.q 11 rfl rfl rfl rfl rfl rfl ?_
    refine D.q 12 rfl rfl rfl rfl rfl rfl ?_
    refine D.y 13 (Yl.ldb 3 rfl rfl rfl rfl) rfl rfl rfl rfl rfl rfl ?_
    refine D.q 14 rfl rfl rfl rfl rfl rfl ?_
    refine D.q 15 rfl rfl rfl rfl rfl rfl ?_
    refine D.nil rfl rfl ?_
    have hr := Option.some.inj H62
    subst e58
    exact E.give ((), ()) [2, 2, 0, 0] [0, 1, 2, 3, 4, 5, 6, 7, 8, 9] trivial ⟨rfl, rfl, rfl, trivial⟩ rfl rfl
  rintro ⟨_, ⟨⟩⟩ _
  refine T.bif rfl H60 (fun hc H64 => ?_) (fun hc H64 => ?_)
  · refine T.seq (T.region ?_)
    refine L.q 1 rfl ?_
    refine L.nil (E.then (T.ret (E.then_ret ?_)))
    have hr := Option.some.inj H64
    subst r
    exact E.ret ((a_0_2, c_0_2), (a_0_3, c_0_3), (a_0_4, c_0_4)) [1, 1, 1] [0, 1, 2, 3, 4] (.tmp rfl .nil) rfl rfl rfl
  refine T.skip (E.then (T.seq (T.region ?_)))
  refine L.q 3 rfl ?_
  refine L.y (Yl.ldb 1 rfl rfl rfl rfl) rfl rfl rfl ?_
  refine L.q 1 rfl ?_
  obtain ⟨r65, h66, H67⟩ := bnd H64
  refine L.br (Ac.call (c_slices_IndexFunc_snap_Snap_Sender_Ack_1_v2 a_0_4 c_0_4 g1 h66) rfl rfl rfl rfl) (Bw.cho 2 rfl (Bw.bx 0 rfl (Bw.nil))) rfl rfl rfl ?_
  intro _
  refine L.q 1 rfl ?_
  refine L.nil (E.then (T.seq (T.seq (T.region ?_))))
  refine L.q 2 rfl ?_
  refine L.nil (E.then ?_)
  refine T.bif rfl H67 (fun hc H69 => ?_) (fun hc H69 => ?_)
  · refine T.seq (T.region ?_)
    refine L.q 4 rfl ?_
    refine L.a [1] [] (Ac.stb rfl rfl rfl rfl rfl rfl) rfl rfl rfl rfl rfl ?_
    intro _
    refine L.nil (E.then (T.seq (T.region ?_)))
    refine L.q 1 rfl ?_
    refine L.nil (E.then (T.ret (E.then_ret ?_)))
    refine E.know [Im.sl tyRowRow none 0 []] (fun A w _ _ f hf => by rw [List.mem_singleton.1 hf]; exact Im.sl_nil A w) ?_
    refine E.know [Im.sl tyRowGlyph none 0 []] (fun A w _ _ f hf => by rw [List.mem_singleton.1 hf]; exact Im.sl_nil A w) ?_
    have hr := Option.some.inj H69
    subst r
    exact E.ret ((none, 0), (none, 0), (a_0_4, c_0_4)) [0, 1, 1] [2, 3, 1, 0, 6] (.tmp rfl .nil) rfl rfl rfl
  refine T.skip (E.then (T.seq (T.region ?_)))
  refine L.q 4 rfl ?_
  refine L.y (Yl.ldb 1 rfl rfl rfl rfl) rfl rfl rfl ?_
  refine L.q 1 rfl ?_
  obtain ⟨x72, h73, H74⟩ := bnd H69
  refine L.addrq 2 rfl (idx_lt h73) fun b75 o76 e77 => ?_
  obtain rfl : a_0_4 = some ⟨b75, o76, none⟩ := e77
  refine L.y (Yl.ia h73 rfl rfl rfl rfl rfl rfl) rfl rfl rfl ?_
  refine L.a [2] [] (Ac.olo r65.toNat 0 (v := (fun h : (Option Addr × Nat) × (Option Addr × Nat) => (fun a78 c79 a80 c81 => .agg (bx25 x72 a78 c79 a80 c81).toArray) h.1.1 h.1.2 h.2.1 h.2.2)) (idx_some h73).2 rfl rfl rfl (fun _ => rfl)) rfl rfl rfl rfl rfl ?_
  rintro ⟨⟨a78, c79⟩, ⟨a80, c81⟩⟩
  refine L.q 2 rfl ?_
  refine L.a [2] [] (Ac.stb rfl rfl rfl rfl rfl rfl) rfl rfl rfl rfl rfl ?_
  intro _
  refine L.nil (E.then (T.seq (T.region ?_)))
  refine L.q 4 rfl ?_
  refine L.y (Yl.ldb 0 rfl rfl rfl rfl) rfl rfl rfl ?_
  refine L.q 2 rfl ?_
  obtain ⟨_, h84, H85⟩ := bnd H74
  refine L.a [1] [] (Ac.ors (ty := tySnapSnap) h84 rfl rfl rfl rfl rfl rfl rfl rfl) rfl rfl rfl rfl rfl ?_
  rintro ⟨a86, c87⟩
  refine L.frzo 0 rfl ?_
  obtain ⟨r90, h91, H92⟩ := bnd H85
  refine L.a [] [0] (Ac.call (c_slices_Clone_snap_Snap a86 c87 h91) rfl rfl rfl rfl) rfl rfl rfl rfl rfl ?_
  rintro ⟨a93, c94⟩
  refine L.q 2 rfl ?_
  refine L.a [1] [] (Ac.stb rfl rfl rfl rfl rfl rfl) rfl rfl rfl rfl rfl ?_
  intro _
  refine L.nil (E.then (T.seq (T.region ?_)))
  refine L.q 1 rfl ?_
  refine L.nil (E.then (T.ret ?_))
  refine E.off' 1 rfl ?_
  have hr := Option.some.inj H92
  subst r
  exact E.ret ((a78, c79), (a80, c81), (a93, c94)) [1, 0, 1] [3, 4, 1, 2, 7] (.tmp rfl .nil) rfl rfl rfl

theorem c_sender_Sender_Lacks {s_ : SenderSender} (g_0 : Nat) (a_0_0 : Option Addr) (c_0_0 : Nat) (a_0_1 : Option Addr) (c_0_1 : Nat) (a_0_2 : Option Addr) (c_0_2 : Nat) (a_0_3 : Option Addr) (c_0_3 : Nat) (a_0_4 : Option Addr) (c_0_4 : Nat) (a_0_5 : Option Addr) (c_0_5 : Nat) (a_0_6 : Option Addr) (c_0_6 : Nat) {r : (List Int)} (H : p_sender_Sender_Lacks s_ = some r) : CT G 14 [.pointer (some ⟨g_0, 0, none⟩)] [Ch.box g_0 82 (bx82 s_ a_0_0 c_0_0 a_0_1 c_0_1 a_0_2 c_0_2 a_0_3 c_0_3 a_0_4 c_0_4 a_0_5 c_0_5 a_0_6 c_0_6), Ch.aro tySnapSnap 25 a_0_4 c_0_4 s_.kept, Ch.arr Ty.bool 4 a_0_6 c_0_6 s_.message.there] [Im.sl tyRowRow a_0_0 c_0_0 s_.current.rows, Im.sl tyRowGlyph a_0_1 c_0_1 s_.current.begun, Im.sl tyRowRow a_0_2 c_0_2 s_.acked.rows, Im.sl tyRowGlyph a_0_3 c_0_3 s_.acked.begun, Im.sl Ty.str a_0_5 c_0_5 s_.message.parts] (fun h : (Option Addr × Nat) => .slice h.1 r.length h.2) (fun h => [Ch.arr (Ty.int .i64) 3 h.1 h.2 r, Ch.box g_0 82 (bx82 s_ a_0_0 c_0_0 a_0_1 c_0_1 a_0_2 c_0_2 a_0_3 c_0_3 a_0_4 c_0_4 a_0_5 c_0_5 a_0_6 c_0_6), Ch.aro tySnapSnap 25 a_0_4 c_0_4 s_.kept, Ch.arr Ty.bool 4 a_0_6 c_0_6 s_.message.there]) (fun h => []) := by
  delta p_sender_Sender_Lacks at H
  refine CT.of Go.Proofs.Tryd.func14 (by kernel_rfl) rfl rfl rfl fun K => ?_
  refine T.dfs0 ?_
  refine T.seq (T.region ?_)
  refine L.q 1 rfl ?_
  refine L.nil (E.then (T.seq (T.region ?_)))
  refine L.a [] [] (Ac.alloc rfl rfl) rfl rfl rfl rfl rfl ?_
  intro g1
  refine L.nil (E.then (T.seq (T.seq (T.region ?_))))
  refine L.q 3 rfl ?_
  refine L.y (Yl.ldb 2 rfl rfl rfl rfl) rfl rfl rfl ?_
  refine L.q 1 rfl ?_
  refine L.nil (E.then (T.block ?_))
  refine T.nil0 (Ty.int .i64) 3 ?_
  obtain ⟨r41, h42, H43⟩ := bnd H
  refine T.rf2 (σ := (List Int)) (η := (Option Addr × Nat)) (X := Int × ByteArray) (θ := Unit) (τ := (Option Addr × Nat)) (s1 := r41) (hx := fun x => x) (fun x t => [.int .i64 x.1, .string x.2]) (fun x t => []) (fun _ => none) (fun s29 h => (fun a14 c15 => [Ch.arr (Ty.int .i64) 3 a14 c15 s29, Ch.box g1 26 [.slice a14 s29.length c15], Ch.box g_0 82 (bx82 s_ a_0_0 c_0_0 a_0_1 c_0_1 a_0_2 c_0_2 a_0_3 c_0_3 a_0_4 c_0_4 a_0_5 c_0_5 a_0_6 c_0_6), Ch.aro tySnapSnap 25 a_0_4 c_0_4 s_.kept]) h.1 h.2) (fun s29 h => (fun a14 c15 => [Im.sl tyRowRow a_0_0 c_0_0 s_.current.rows, Im.sl tyRowGlyph a_0_1 c_0_1 s_.current.begun, Im.sl tyRowRow a_0_2 c_0_2 s_.acked.rows, Im.sl tyRowGlyph a_0_3 c_0_3 s_.acked.begun, Im.sl Ty.str a_0_5 c_0_5 s_.message.parts]) h.1 h.2) 2 [0, 0, 0, 0, 0] [0, 1, 2, 3, 4] [4] rfl rfl (fun _ _ => rfl) rfl (fun yl C hY => (c_sender_message_lacks a_0_5 c_0_5 a_0_6 c_0_6 hY (none, 0) h42 : _)) (fun _ _ _ _ => rfl) rfl rfl rfl rfl rfl ?_ rfl ?_
  · rintro yl K2 s29 ⟨a14, c15⟩ x2 ⟨⟩ z30 H31
    refine T.region ?_
    refine L.q 1 rfl ?_
    refine L.nil ?_
    refine E.begin fun K3 => ?_
    refine T.block (T.region ?_)
    refine L.y (Yl.ldb 1 rfl rfl rfl rfl) rfl rfl rfl ?_
    refine L.q 1 rfl ?_
    refine L.a [] [] (Ac.bs (ty := (Ty.int .i64)) (xs := [x2.1]) (.cons () [] rfl .nil) rfl rfl rfl rfl rfl rfl rfl) rfl rfl rfl rfl rfl ?_
    intro g32
    refine L.frz 0 rfl ?_
    obtain ⟨_, h35, H36⟩ := bnd H31
    refine L.a [0] [0] (Ac.ap (ty := (Ty.int .i64)) h35 rfl rfl rfl rfl rfl rfl rfl) rfl rfl rfl rfl rfl ?_
    rintro ⟨a37, c38⟩
    refine L.a [1] [] (Ac.stb rfl rfl rfl rfl rfl rfl) rfl rfl rfl rfl rfl ?_
    intro _
    refine L.nil (E.block ?_)
    have hr := Option.some.inj H36
    subst z30
    exact E.on (a37, c38) [1, 0, 0, 0] [1, 2, 3, 4, 5] rfl rfl rfl rfl
  rintro h44 D45
  refine E.block (E.then (T.seq (T.region ?_)))
  refine L.y (Yl.ldb 2 rfl rfl rfl rfl) rfl rfl rfl ?_
  refine L.q 1 rfl ?_
  refine L.nil (E.then (T.ret ?_))
  have hr := Option.some.inj H43
  subst r
  exact E.retd (h44.1, h44.2) 0 [0, 1, 1, 1] [] rfl (.tmp rfl .nil) rfl rfl rfl

theorem c_sender_Sender_Acked {s_ : SenderSender} (g_0 : Nat) (a_0_0 : Option Addr) (c_0_0 : Nat) (a_0_1 : Option Addr) (c_0_1 : Nat) (a_0_2 : Option Addr) (c_0_2 : Nat) (a_0_3 : Option Addr) (c_0_3 : Nat) (a_0_4 : Option Addr) (c_0_4 : Nat) (a_0_5 : Option Addr) (c_0_5 : Nat) (a_0_6 : Option Addr) (c_0_6 : Nat) {r : Int} (H : p_sender_Sender_Acked s_ = some r) : CT G 15 [.pointer (some ⟨g_0, 0, none⟩)] [Ch.box g_0 82 (bx82 s_ a_0_0 c_0_0 a_0_1 c_0_1 a_0_2 c_0_2 a_0_3 c_0_3 a_0_4 c_0_4 a_0_5 c_0_5 a_0_6 c_0_6), Ch.aro tySnapSnap 25 a_0_4 c_0_4 s_.kept, Ch.arr Ty.bool 4 a_0_6 c_0_6 s_.message.there] [Im.sl tyRowRow a_0_0 c_0_0 s_.current.rows, Im.sl tyRowGlyph a_0_1 c_0_1 s_.current.begun, Im.sl tyRowRow a_0_2 c_0_2 s_.acked.rows, Im.sl tyRowGlyph a_0_3 c_0_3 s_.acked.begun, Im.sl Ty.str a_0_5 c_0_5 s_.message.parts] (fun h : Unit => .int .i64 r) (fun h => [Ch.box g_0 82 (bx82 s_ a_0_0 c_0_0 a_0_1 c_0_1 a_0_2 c_0_2 a_0_3 c_0_3 a_0_4 c_0_4 a_0_5 c_0_5 a_0_6 c_0_6), Ch.aro tySnapSnap 25 a_0_4 c_0_4 s_.kept, Ch.arr Ty.bool 4 a_0_6 c_0_6 s_.message.there]) (fun h => []) := by
  delta p_sender_Sender_Acked at H
  refine CT.of Go.Proofs.Tryd.func15 (by kernel_rfl) rfl rfl rfl fun K => ?_
  refine T.seq (T.region ?_)
  refine L.q 1 rfl ?_
  refine L.nil (E.then (T.seq (T.region ?_)))
  refine L.q 4 rfl ?_
  refine L.y (Yl.ldb 0 rfl rfl rfl rfl) rfl rfl rfl ?_
  refine L.q 1 rfl ?_
  refine L.nil (E.then (T.ret ?_))
  have hr := Option.some.inj H
  subst r
  exact E.ret () [0, 0, 0] [] (.tmp rfl .nil) rfl rfl rfl

theorem c_sender_Sender_Kept {s_ : SenderSender} (g_0 : Nat) (a_0_0 : Option Addr) (c_0_0 : Nat) (a_0_1 : Option Addr) (c_0_1 : Nat) (a_0_2 : Option Addr) (c_0_2 : Nat) (a_0_3 : Option Addr) (c_0_3 : Nat) (a_0_4 : Option Addr) (c_0_4 : Nat) (a_0_5 : Option Addr) (c_0_5 : Nat) (a_0_6 : Option Addr) (c_0_6 : Nat) {r : (List Int)} (H : p_sender_Sender_Kept s_ = some r) : CT G 16 [.pointer (some ⟨g_0, 0, none⟩)] [Ch.box g_0 82 (bx82 s_ a_0_0 c_0_0 a_0_1 c_0_1 a_0_2 c_0_2 a_0_3 c_0_3 a_0_4 c_0_4 a_0_5 c_0_5 a_0_6 c_0_6), Ch.aro tySnapSnap 25 a_0_4 c_0_4 s_.kept, Ch.arr Ty.bool 4 a_0_6 c_0_6 s_.message.there] [Im.sl tyRowRow a_0_0 c_0_0 s_.current.rows, Im.sl tyRowGlyph a_0_1 c_0_1 s_.current.begun, Im.sl tyRowRow a_0_2 c_0_2 s_.acked.rows, Im.sl tyRowGlyph a_0_3 c_0_3 s_.acked.begun, Im.sl Ty.str a_0_5 c_0_5 s_.message.parts] (fun h : (Option Addr × Nat) => .slice h.1 r.length h.2) (fun h => [Ch.arr (Ty.int .i64) 3 h.1 h.2 r, Ch.box g_0 82 (bx82 s_ a_0_0 c_0_0 a_0_1 c_0_1 a_0_2 c_0_2 a_0_3 c_0_3 a_0_4 c_0_4 a_0_5 c_0_5 a_0_6 c_0_6), Ch.aro tySnapSnap 25 a_0_4 c_0_4 s_.kept, Ch.arr Ty.bool 4 a_0_6 c_0_6 s_.message.there]) (fun h => []) := by
  delta p_sender_Sender_Kept at H
  refine CT.of Go.Proofs.Tryd.func16 (by kernel_rfl) rfl rfl rfl fun K => ?_
  refine T.seq (T.region ?_)
  refine L.q 1 rfl ?_
  refine L.nil (E.then (T.seq (T.region ?_)))
  refine L.q 1 rfl ?_
  refine L.nil (E.then (T.seq (T.seq (T.region ?_))))
  refine L.q 3 rfl ?_
  refine L.y (Yl.ldb 0 rfl rfl rfl rfl) rfl rfl rfl ?_
  refine L.q 2 rfl ?_
  refine L.nil (E.then ?_)
  obtain ⟨e155, H156, H157⟩ := bnd H
  refine T.join (η := Unit × ((Option Addr × Nat))) (fun h => True) (fun h => (fun a152 c153 => [(3, .slice a152 e155.length c153)]) h.2.1 h.2.2) (fun h => (fun a152 c153 => [Ch.arr (Ty.int .i64) 3 a152 c153 e155, Ch.box g_0 82 (bx82 s_ a_0_0 c_0_0 a_0_1 c_0_1 a_0_2 c_0_2 a_0_3 c_0_3 a_0_4 c_0_4 a_0_5 c_0_5 a_0_6 c_0_6), Ch.aro tySnapSnap 25 a_0_4 c_0_4 s_.kept, Ch.arr Ty.bool 4 a_0_6 c_0_6 s_.message.there]) h.2.1 h.2.2) (fun h => (fun a152 c153 => [Im.sl tyRowRow a_0_0 c_0_0 s_.current.rows, Im.sl tyRowGlyph a_0_1 c_0_1 s_.current.begun, Im.sl tyRowRow a_0_2 c_0_2 s_.acked.rows, Im.sl tyRowGlyph a_0_3 c_0_3 s_.acked.begun, Im.sl Ty.str a_0_5 c_0_5 s_.message.parts]) h.2.1 h.2.2) ?_ ?_
  · refine T.block ?_
    refine T.nil0 (Ty.int .i64) 3 ?_
    refine T.lp (η := (Option Addr × Nat)) (fun s106 h => (fun a103 c104 => [(3, .slice a103 s106.2.length c104), (9, .slice a_0_4 s_.kept.length c_0_4), (10, .int .i64 (s_.kept.length : Int)), (11, .int .i64 s106.1)]) h.1 h.2) (fun s106 h => (fun a103 c104 => [Ch.arr (Ty.int .i64) 3 a103 c104 s106.2, Ch.box g_0 82 (bx82 s_ a_0_0 c_0_0 a_0_1 c_0_1 a_0_2 c_0_2 a_0_3 c_0_3 a_0_4 c_0_4 a_0_5 c_0_5 a_0_6 c_0_6), Ch.aro tySnapSnap 25 a_0_4 c_0_4 s_.kept, Ch.arr Ty.bool 4 a_0_6 c_0_6 s_.message.there]) h.1 h.2) (fun s106 h => (fun a103 c104 => [Im.sl tyRowRow a_0_0 c_0_0 s_.current.rows, Im.sl tyRowGlyph a_0_1 c_0_1 s_.current.begun, Im.sl tyRowRow a_0_2 c_0_2 s_.acked.rows, Im.sl tyRowGlyph a_0_3 c_0_3 s_.acked.begun, Im.sl Ty.str a_0_5 c_0_5 s_.message.parts]) h.1 h.2) (none, 0) [0, 0, 0, 0] [0, 1, 2, 3, 4] H156 ⟨rfl, rfl, rfl, rfl, trivial⟩ rfl rfl ?_
    rintro k_ s106 ⟨a103, c104⟩ z159 H158 hag160 hbr161
    refine T.seq (T.region ?_)
    refine L.q 1 rfl ?_
    refine L.nil (E.then (T.seq ?_))
    refine T.bif rfl H158 (fun hc H163 => ?_) (fun hc H163 => ?_)
    · refine T.skip (E.then (T.seq (T.block (T.seq (T.region ?_)))))
      obtain ⟨x185, h186, H187⟩ := bnd H163
      refine L.addrq 2 rfl (idx_lt h186) fun b188 o189 e190 => ?_
      obtain rfl : a_0_4 = some ⟨b188, o189, none⟩ := e190
      refine L.y (Yl.ia h186 rfl rfl rfl rfl rfl rfl) rfl rfl rfl ?_
      refine L.a [2] [] (Ac.olo s106.1.toNat 0 (v := (fun h : (Option Addr × Nat) × (Option Addr × Nat) => (fun a191 c192 a193 c194 => .agg (bx25 x185 a191 c192 a193 c194).toArray) h.1.1 h.1.2 h.2.1 h.2.2)) (idx_some h186).2 rfl rfl rfl (fun _ => rfl)) rfl rfl rfl rfl rfl ?_
      rintro ⟨⟨a191, c192⟩, ⟨a193, c194⟩⟩
      refine L.a [] [] (Ac.alloc rfl rfl) rfl rfl rfl rfl rfl ?_
      intro g197
      refine L.a [0] [] (Ac.stb rfl rfl rfl rfl rfl rfl) rfl rfl rfl rfl rfl ?_
      intro _
      refine L.nil (E.then (T.region ?_))
      refine L.q 2 rfl ?_
      refine L.y (Yl.ldb 0 rfl rfl rfl rfl) rfl rfl rfl ?_
      refine L.a [] [] (Ac.bs (ty := (Ty.int .i64)) (xs := [x185.k]) (.cons () [] rfl .nil) rfl rfl rfl rfl rfl rfl rfl) rfl rfl rfl rfl rfl ?_
      intro g198
      refine L.frz 0 rfl ?_
      obtain ⟨_, h201, H202⟩ := bnd H187
      refine L.a [2] [0] (Ac.ap (ty := (Ty.int .i64)) h201 rfl rfl rfl rfl rfl rfl rfl) rfl rfl rfl rfl rfl ?_
      rintro ⟨a203, c204⟩
      refine L.q 1 rfl ?_
      refine L.nil (E.block (E.then (T.region ?_)))
      refine L.q 2 rfl ?_
      refine L.nil ?_
      have hr := Option.some.inj H202
      subst z159
      exact E.give (_, (a203, c204)) [0, 2, 1, 1] [3, 4, 5, 6, 7] (hag160 _ rfl) ⟨rfl, rfl, rfl, rfl, trivial⟩ rfl rfl
    refine T.exit (E.then_exit' (E.then_exit' (E.block_here ?_)))
    have hr := Option.some.inj H163
    subst z159
    have hb := hbr161 _ rfl
    subst e155
    exact E.give ((), (a103, c104)) [0, 0, 0, 0] [0, 1, 2, 3, 4] trivial ⟨rfl, trivial⟩ rfl rfl
  rintro ⟨_, ⟨a152, c153⟩⟩ _
  refine T.seq (T.region ?_)
  refine L.q 2 rfl ?_
  refine L.nil (E.then (T.ret ?_))
  have hr := Option.some.inj H157
  subst r
  exact E.ret (a152, c153) [0, 0, 0, 0] [] (.tmp rfl .nil) rfl rfl rfl

theorem c_law19_SenderRests {t_ : SnapSnap} {part : Int} {order : List Int} (a_0_0 : Option Addr) (c_0_0 : Nat) (a_0_1 : Option Addr) (c_0_1 : Nat) (a_2 : Option Addr) (c_2 : Nat) {r : Bool} (H : p_law19_SenderRests t_ part order = some r) : CT G 3 [.agg (bx25 t_ a_0_0 c_0_0 a_0_1 c_0_1).toArray, .int .i64 part, .slice a_2 order.length c_2] [] [Im.sl tyRowRow a_0_0 c_0_0 t_.rows, Im.sl tyRowGlyph a_0_1 c_0_1 t_.begun, Im.sl (Ty.int .i64) a_2 c_2 order, Im.sl (Ty.int .u32) (some ⟨0, 0, none⟩) 16 t_sum_half] (fun h : Unit => .bool r) (fun h => []) (fun h => []) := by
  delta p_law19_SenderRests at H
  refine CT.of Go.Proofs.Tryd.func3 (by kernel_rfl) rfl rfl rfl fun K => ?_
  refine T.seq (T.region ?_)
  refine L.a [] [] (Ac.box rfl rfl) rfl rfl rfl rfl rfl ?_
  intro g1
  refine L.q 1 rfl ?_
  refine L.nil (E.then (T.seq (T.seq (T.region ?_))))
  obtain ⟨r2, h3, H4⟩ := bnd H
  refine L.a [] [3] (Ac.call (c_law19_awake h3) rfl rfl rfl rfl) rfl rfl rfl rfl rfl ?_
  rintro ⟨⟩
  refine L.q 1 rfl ?_
  refine L.nil (E.then ?_)
  refine T.bif rfl H4 (fun hc H6 => ?_) (fun hc H6 => ?_)
  · refine T.seq (T.region ?_)
    refine L.q 1 rfl ?_
    refine L.nil (E.then (T.ret (E.then_ret ?_)))
    have hr := Option.some.inj H6
    subst r
    exact E.ret () [] [] (.tmp rfl .nil) rfl rfl rfl
  refine T.skip (E.then (T.seq (T.region ?_)))
  refine L.y (Yl.ldb 0 rfl rfl rfl rfl) rfl rfl rfl ?_
  obtain ⟨r7, h8, H9⟩ := bnd H6
  refine L.a [] [0, 1] (Ac.call (c_law16_Cut a_0_0 c_0_0 a_0_1 c_0_1 h8) rfl rfl rfl rfl) rfl rfl rfl rfl rfl ?_
  rintro ⟨⟨a10, c11⟩, ⟨a12, c13⟩⟩
  refine L.a [0] [] (Ac.stb rfl rfl rfl rfl rfl rfl) rfl rfl rfl rfl rfl ?_
  intro _
  refine L.nil (E.then (T.seq (T.region ?_)))
  refine L.q 4 rfl ?_
  obtain ⟨r16, h17, H18⟩ := bnd H9
  refine L.a [] [] (Ac.call (c_sender_New h17) rfl rfl rfl rfl) rfl rfl rfl rfl rfl ?_
  rintro ⟨g19, ⟨a20, c21⟩, ⟨a22, c23⟩, ⟨a24, c25⟩, ⟨a26, c27⟩, ⟨a28, c29⟩, ⟨a30, c31⟩, ⟨a32, c33⟩⟩
  refine L.q 1 rfl ?_
  refine L.nil (E.then (T.seq (T.seq (T.region ?_))))
  refine L.q 1 rfl ?_
  refine L.y (Yl.pn rfl rfl rfl rfl rfl rfl) rfl rfl rfl ?_
  refine L.nil (E.then ?_)
  refine T.cond rfl (fun h => nomatch h) (fun _ => ?_)
  refine T.skip (E.then (T.seq (T.seq (T.region ?_))))
  refine L.q 1 rfl ?_
  refine L.y (Yl.ldb 3 rfl rfl rfl rfl) rfl rfl rfl ?_
  obtain ⟨r41, h42, H43⟩ := bnd H18
  refine L.a [0, 0, 0] [0, 1, 2, 3, 4, 5, 6] (Ac.call (c_sender_Sender_Note g19 a20 c21 a22 c23 a24 c25 a26 c27 a28 c29 a30 c31 a32 c33 a10 c11 a12 c13 h42) rfl rfl rfl rfl) rfl rfl rfl rfl rfl ?_
  rintro ⟨⟨a44, c45⟩, ⟨a46, c47⟩⟩
  refine L.q 1 rfl ?_
  refine L.nil (E.then ?_)
  refine T.bif rfl H43 (fun hc H72 => ?_) (fun hc H72 => ?_)
  · refine T.seq ?_
    obtain ⟨e82, H83, H84⟩ := bnd H72
    refine T.join (η := Unit × Unit) (fun h => True) (fun h => [(6, .bool e82)]) (fun h => [Ch.box g19 82 (bx82 r41.2 a44 c45 a46 c47 a24 c25 a26 c27 a28 c29 a30 c31 a32 c33), Ch.box g1 25 (bx25 r7 a10 c11 a12 c13), Ch.aro tySnapSnap 25 a28 c29 r41.2.kept, Ch.arr Ty.bool 4 a32 c33 r41.2.message.there]) (fun h => [Im.sl tyRowRow a44 c45 r41.2.current.rows, Im.sl tyRowGlyph a46 c47 r41.2.current.begun, Im.sl tyRowRow a24 c25 r41.2.acked.rows, Im.sl tyRowGlyph a26 c27 r41.2.acked.begun, Im.sl Ty.str a30 c31 r41.2.message.parts, Im.sl tyRowRow a20 c21 r16.current.rows, Im.sl tyRowGlyph a22 c23 r16.current.begun, Im.sl tyRowRow a24 c25 r16.acked.rows, Im.sl tyRowGlyph a26 c27 r16.acked.begun, Im.sl Ty.str a30 c31 r16.message.parts, Im.sl tyRowRow a10 c11 r7.rows, Im.sl tyRowGlyph a12 c13 r7.begun, Im.sl tyRowRow a_0_0 c_0_0 t_.rows, Im.sl tyRowGlyph a_0_1 c_0_1 t_.begun, Im.sl (Ty.int .i64) a_2 c_2 order, Im.sl (Ty.int .u32) (some ⟨0, 0, none⟩) 16 t_sum_half]) ?_ ?_
    · refine T.region ?_
      refine L.y (Yl.ldb 3 rfl rfl rfl rfl) rfl rfl rfl ?_
      obtain ⟨r85, h86, H87⟩ := bnd H83
      refine L.a [] [10, 11] (Ac.call (c_snap_Snap_Check a10 c11 a12 c13 h86) rfl rfl rfl rfl) rfl rfl rfl rfl rfl ?_
      rintro ⟨⟩
      refine L.q 2 rfl ?_
      refine L.cs 35 H87 rfl (fun hc H88 => ?_) (fun hc H88 => ?_)
      · refine L.q 5 rfl ?_
        refine L.nil ?_
        have hr := Option.some.inj H88
        subst e82
        exact E.give ((), ()) [0, 2, 0, 0] [0, 1, 2, 3, 4, 5, 6, 7, 8, 9, 10, 11, 12, 13, 14, 15] trivial ⟨rfl, trivial⟩ rfl rfl
      refine L.q 1 rfl ?_
      refine L.y (Yl.ldb 3 rfl rfl rfl rfl) rfl rfl rfl ?_
      refine L.q 3 rfl ?_
      refine L.nil ?_
      have hr := Option.some.inj H88
      subst e82
      exact E.give ((), ()) [0, 2, 0, 0] [0, 1, 2, 3, 4, 5, 6, 7, 8, 9, 10, 11, 12, 13, 14, 15] trivial ⟨rfl, trivial⟩ rfl rfl
    rintro ⟨_, ⟨⟩⟩ _
    refine T.ret (E.then_ret ?_)
    have hr := Option.some.inj H84
    subst r
    exact E.ret () [] [] (.tmp rfl .nil) rfl rfl rfl
  refine T.skip (E.then (T.seq (T.region ?_)))
  refine L.q 1 rfl ?_
  obtain ⟨r89, h90, H91⟩ := bnd H72
  refine L.a [0, 0, 0] [0, 1, 2, 3, 4, 15] (Ac.call (c_sender_Sender_Step g19 a44 c45 a46 c47 a24 c25 a26 c27 a28 c29 a30 c31 a32 c33 h90) rfl rfl rfl rfl) rfl rfl rfl rfl rfl ?_
  rintro ⟨⟨a92, c93⟩, ⟨a94, c95⟩, ⟨a96, c97⟩, ⟨a98, c99⟩⟩
  refine L.q 1 rfl ?_
  refine L.nil (E.then (T.seq (T.region ?_)))
  refine L.q 3 rfl ?_
  refine L.nil (E.then (T.seq (T.seq (T.region ?_))))
  refine L.q 2 rfl ?_
  refine L.nil (E.then ?_)
  refine T.bif rfl H91 (fun hc H109 => ?_) (fun hc H109 => ?_)
  · refine T.seq (T.region ?_)
    refine L.q 1 rfl ?_
    refine L.nil (E.then (T.ret (E.then_ret ?_)))
    have hr := Option.some.inj H109
    subst r
    exact E.ret () [] [] (.tmp rfl .nil) rfl rfl rfl
  refine T.skip (E.then (T.seq (T.region ?_)))
  refine L.q 1 rfl ?_
  obtain ⟨_, h110, H111⟩ := bnd H109
  refine L.a [] [] (Ac.mk (ty := Ty.bool) false () h110 (fun _ _ f hf => by cases hf) rfl rfl rfl rfl rfl rfl rfl) rfl rfl rfl rfl rfl ?_
  intro g112
  refine L.q 1 rfl ?_
  refine L.nil (E.then (T.seq (T.seq (T.region ?_))))
  refine L.q 1 rfl ?_
  refine L.nil (E.then ?_)
  obtain ⟨y1588, H1589, H1590⟩ := bnd H111
  refine T.join (η := SenderSender × ((Option Addr × Nat) × (Option Addr × Nat) × (Option Addr × Nat) × (Option Addr × Nat) × (Option Addr × Nat))) (fun h => y1588 = .inl h.1) (fun h => (fun e1587 => (fun a1572 c1573 a1575 c1576 a1578 c1579 a1581 c1582 a1584 c1585 => [(3, .pointer (some ⟨g1, 0, none⟩)), (7, .pointer (some ⟨g19, 0, none⟩))]) h.2.1.1 h.2.1.2 h.2.2.1.1 h.2.2.1.2 h.2.2.2.1.1 h.2.2.2.1.2 h.2.2.2.2.1.1 h.2.2.2.2.1.2 h.2.2.2.2.2.1 h.2.2.2.2.2.2) h.1) (fun h => (fun e1587 => (fun a1572 c1573 a1575 c1576 a1578 c1579 a1581 c1582 a1584 c1585 => [Ch.aro tySnapSnap 25 a1578 c1579 e1587.kept, Ch.arr Ty.bool 4 a1584 c1585 e1587.message.there, Ch.box g19 82 (bx82 e1587 a44 c45 a46 c47 a1572 c1573 a1575 c1576 a1578 c1579 a1581 c1582 a1584 c1585), Ch.box g1 25 (bx25 r7 a10 c11 a12 c13)]) h.2.1.1 h.2.1.2 h.2.2.1.1 h.2.2.1.2 h.2.2.2.1.1 h.2.2.2.1.2 h.2.2.2.2.1.1 h.2.2.2.2.1.2 h.2.2.2.2.2.1 h.2.2.2.2.2.2) h.1) (fun h => (fun e1587 => (fun a1572 c1573 a1575 c1576 a1578 c1579 a1581 c1582 a1584 c1585 => [Im.sl tyRowRow a44 c45 e1587.current.rows, Im.sl tyRowGlyph a46 c47 e1587.current.begun, Im.sl tyRowRow a1572 c1573 e1587.acked.rows, Im.sl tyRowGlyph a1575 c1576 e1587.acked.begun, Im.sl Ty.str a1581 c1582 e1587.message.parts, Im.sl tyRowRow a44 c45 r89.2.current.rows, Im.sl tyRowGlyph a46 c47 r89.2.current.begun, Im.sl tyRowRow a24 c25 r89.2.acked.rows, Im.sl tyRowGlyph a26 c27 r89.2.acked.begun, Im.sl Ty.str a96 c97 r89.2.message.parts, Im.sl tyRowRow a44 c45 r41.2.current.rows, Im.sl tyRowGlyph a46 c47 r41.2.current.begun, Im.sl tyRowRow a24 c25 r41.2.acked.rows, Im.sl tyRowGlyph a26 c27 r41.2.acked.begun, Im.sl Ty.str a30 c31 r41.2.message.parts, Im.sl tyRowRow a20 c21 r16.current.rows, Im.sl tyRowGlyph a22 c23 r16.current.begun, Im.sl tyRowRow a24 c25 r16.acked.rows, Im.sl tyRowGlyph a26 c27 r16.acked.begun, Im.sl Ty.str a30 c31 r16.message.parts, Im.sl tyRowRow a10 c11 r7.rows, Im.sl tyRowGlyph a12 c13 r7.begun, Im.sl tyRowRow a_0_0 c_0_0 t_.rows, Im.sl tyRowGlyph a_0_1 c_0_1 t_.begun, Im.sl (Ty.int .i64) a_2 c_2 order, Im.sl (Ty.int .u32) (some ⟨0, 0, none⟩) 16 t_sum_half]) h.2.1.1 h.2.1.2 h.2.2.1.1 h.2.2.1.2 h.2.2.2.1.1 h.2.2.2.1.2 h.2.2.2.2.1.1 h.2.2.2.2.1.2 h.2.2.2.2.2.1 h.2.2.2.2.2.2) h.1) ?_ ?_
  · refine T.block ?_
    refine T.lp (η := (Option Addr × Nat) × (Option Addr × Nat) × (Option Addr × Nat) × (Option Addr × Nat) × (Option Addr × Nat) × (Option Addr × Nat)) (fun s1105 h => (fun a1085 c1086 a1088 c1089 a1091 c1092 a1094 c1095 a1097 c1098 a1101 c1102 => [(2, .slice a_2 order.length c_2), (3, .pointer (some ⟨g1, 0, none⟩)), (7, .pointer (some ⟨g19, 0, none⟩)), (9, .int .i64 (r89.1.length : Int)), (10, .slice a1101 s1105.2.1.length c1102), (11, .int .i64 s1105.2.2)]) h.1.1 h.1.2 h.2.1.1 h.2.1.2 h.2.2.1.1 h.2.2.1.2 h.2.2.2.1.1 h.2.2.2.1.2 h.2.2.2.2.1.1 h.2.2.2.2.1.2 h.2.2.2.2.2.1 h.2.2.2.2.2.2) (fun s1105 h => (fun a1085 c1086 a1088 c1089 a1091 c1092 a1094 c1095 a1097 c1098 a1101 c1102 => [Ch.aro tySnapSnap 25 a1091 c1092 s1105.1.kept, Ch.arr Ty.bool 4 a1097 c1098 s1105.1.message.there, Ch.arr Ty.bool 4 a1101 c1102 s1105.2.1, Ch.box g19 82 (bx82 s1105.1 a44 c45 a46 c47 a1085 c1086 a1088 c1089 a1091 c1092 a1094 c1095 a1097 c1098), Ch.box g1 25 (bx25 r7 a10 c11 a12 c13)]) h.1.1 h.1.2 h.2.1.1 h.2.1.2 h.2.2.1.1 h.2.2.1.2 h.2.2.2.1.1 h.2.2.2.1.2 h.2.2.2.2.1.1 h.2.2.2.2.1.2 h.2.2.2.2.2.1 h.2.2.2.2.2.2) (fun s1105 h => (fun a1085 c1086 a1088 c1089 a1091 c1092 a1094 c1095 a1097 c1098 a1101 c1102 => [Im.sl tyRowRow a44 c45 s1105.1.current.rows, Im.sl tyRowGlyph a46 c47 s1105.1.current.begun, Im.sl tyRowRow a1085 c1086 s1105.1.acked.rows, Im.sl tyRowGlyph a1088 c1089 s1105.1.acked.begun, Im.sl Ty.str a1094 c1095 s1105.1.message.parts, Im.sl tyRowRow a44 c45 r89.2.current.rows, Im.sl tyRowGlyph a46 c47 r89.2.current.begun, Im.sl tyRowRow a24 c25 r89.2.acked.rows, Im.sl tyRowGlyph a26 c27 r89.2.acked.begun, Im.sl Ty.str a96 c97 r89.2.message.parts, Im.sl tyRowRow a44 c45 r41.2.current.rows, Im.sl tyRowGlyph a46 c47 r41.2.current.begun, Im.sl tyRowRow a24 c25 r41.2.acked.rows, Im.sl tyRowGlyph a26 c27 r41.2.acked.begun, Im.sl Ty.str a30 c31 r41.2.message.parts, Im.sl tyRowRow a20 c21 r16.current.rows, Im.sl tyRowGlyph a22 c23 r16.current.begun, Im.sl tyRowRow a24 c25 r16.acked.rows, Im.sl tyRowGlyph a26 c27 r16.acked.begun, Im.sl Ty.str a30 c31 r16.message.parts, Im.sl tyRowRow a10 c11 r7.rows, Im.sl tyRowGlyph a12 c13 r7.begun, Im.sl tyRowRow a_0_0 c_0_0 t_.rows, Im.sl tyRowGlyph a_0_1 c_0_1 t_.begun, Im.sl (Ty.int .i64) a_2 c_2 order, Im.sl (Ty.int .u32) (some ⟨0, 0, none⟩) 16 t_sum_half]) h.1.1 h.1.2 h.2.1.1 h.2.1.2 h.2.2.1.1 h.2.2.1.2 h.2.2.2.1.1 h.2.2.2.1.2 h.2.2.2.2.1.1 h.2.2.2.2.1.2 h.2.2.2.2.2.1 h.2.2.2.2.2.2) ((a24, c25), (a26, c27), (a94, c95), (a96, c97), (a98, c99), ((some ⟨g112, 0, none⟩), (r89.1.length : Int).toNat)) [3, 3, 0, 1, 1] [0, 1, 2, 3, 4, 0, 1, 2, 3, 4, 5, 6, 7, 8, 9, 10, 11, 12, 13, 14, 15, 16, 17, 18, 19, 20] H1589 ⟨rfl, rfl, rfl, rfl, rfl, rfl, trivial⟩ rfl rfl ?_
    rintro k_ s1105 ⟨⟨a1085, c1086⟩, ⟨a1088, c1089⟩, ⟨a1091, c1092⟩, ⟨a1094, c1095⟩, ⟨a1097, c1098⟩, ⟨a1101, c1102⟩⟩ z1592 H1591 hag1593 hbr1594
    refine T.seq (T.seq ?_)
    obtain ⟨e1598, H1599, H1600⟩ := bnd H1591
    refine T.join (η := Unit × Unit) (fun h => True) (fun h => [(2, .slice a_2 order.length c_2), (3, .pointer (some ⟨g1, 0, none⟩)), (7, .pointer (some ⟨g19, 0, none⟩)), (9, .int .i64 (r89.1.length : Int)), (10, .slice a1101 s1105.2.1.length c1102), (11, .int .i64 s1105.2.2), (55, .bool e1598)]) (fun h => [Ch.box g19 82 (bx82 s1105.1 a44 c45 a46 c47 a1085 c1086 a1088 c1089 a1091 c1092 a1094 c1095 a1097 c1098), Ch.box g1 25 (bx25 r7 a10 c11 a12 c13), Ch.aro tySnapSnap 25 a1091 c1092 s1105.1.kept, Ch.arr Ty.bool 4 a1097 c1098 s1105.1.message.there, Ch.arr Ty.bool 4 a1101 c1102 s1105.2.1]) (fun h => [Im.sl tyRowRow a44 c45 s1105.1.current.rows, Im.sl tyRowGlyph a46 c47 s1105.1.current.begun, Im.sl tyRowRow a1085 c1086 s1105.1.acked.rows, Im.sl tyRowGlyph a1088 c1089 s1105.1.acked.begun, Im.sl Ty.str a1094 c1095 s1105.1.message.parts, Im.sl tyRowRow a44 c45 r89.2.current.rows, Im.sl tyRowGlyph a46 c47 r89.2.current.begun, Im.sl tyRowRow a24 c25 r89.2.acked.rows, Im.sl tyRowGlyph a26 c27 r89.2.acked.begun, Im.sl Ty.str a96 c97 r89.2.message.parts, Im.sl tyRowRow a44 c45 r41.2.current.rows, Im.sl tyRowGlyph a46 c47 r41.2.current.begun, Im.sl tyRowRow a24 c25 r41.2.acked.rows, Im.sl tyRowGlyph a26 c27 r41.2.acked.begun, Im.sl Ty.str a30 c31 r41.2.message.parts, Im.sl tyRowRow a20 c21 r16.current.rows, Im.sl tyRowGlyph a22 c23 r16.current.begun, Im.sl tyRowRow a24 c25 r16.acked.rows, Im.sl tyRowGlyph a26 c27 r16.acked.begun, Im.sl Ty.str a30 c31 r16.message.parts, Im.sl tyRowRow a10 c11 r7.rows, Im.sl tyRowGlyph a12 c13 r7.begun, Im.sl tyRowRow a_0_0 c_0_0 t_.rows, Im.sl tyRowGlyph a_0_1 c_0_1 t_.begun, Im.sl (Ty.int .i64) a_2 c_2 order, Im.sl (Ty.int .u32) (some ⟨0, 0, none⟩) 16 t_sum_half]) ?_ ?_
    · refine T.region ?_
      refine L.q 5 rfl ?_
      refine L.cs 52 H1599 rfl (fun hc H1601 => ?_) (fun hc H1601 => ?_)
      · refine L.q 3 rfl ?_
        refine L.nil ?_
        have hr := Option.some.inj H1601
        subst e1598
        exact E.give ((), ()) [3, 3, 0, 0, 0] [0, 1, 2, 3, 4, 5, 6, 7, 8, 9, 10, 11, 12, 13, 14, 15, 16, 17, 18, 19, 20, 21, 22, 23, 24, 25] trivial ⟨rfl, rfl, rfl, rfl, rfl, rfl, rfl, trivial⟩ rfl rfl
      refine L.q 3 rfl ?_
      refine L.nil ?_
      have hr := Option.some.inj H1601
      subst e1598
      exact E.give ((), ()) [3, 3, 0, 0, 0] [0, 1, 2, 3, 4, 5, 6, 7, 8, 9, 10, 11, 12, 13, 14, 15, 16, 17, 18, 19, 20, 21, 22, 23, 24, 25] trivial ⟨rfl, rfl, rfl, rfl, rfl, rfl, rfl, trivial⟩ rfl rfl
    rintro ⟨_, ⟨⟩⟩ _
    refine T.bif rfl H1600 (fun hc H1603 => ?_) (fun hc H1603 => ?_)
    · refine T.skip (E.then (T.seq (T.block (T.seq (T.region ?_)))))
      refine L.q 3 rfl ?_
      obtain ⟨x1831, h1832, H1833⟩ := bnd H1603
      refine L.addr 24 rfl (idx_lt h1832) fun b1834 o1835 e1836 => ?_
      obtain rfl : a_2 = some ⟨b1834, o1835, none⟩ := e1836
      refine L.y (Yl.ia h1832 rfl rfl rfl rfl rfl rfl) rfl rfl rfl ?_
      refine L.el 24 rfl (idx_some h1832).2 ?_
      rintro _
      refine L.y (Yl.ldc 0 0 rfl rfl rfl rfl) rfl rfl rfl ?_
      refine L.q 2 rfl ?_
      obtain ⟨_, h1838, H1839⟩ := bnd H1833
      refine L.y (Yl.rem (b := (r89.1.length : Int)) h1838 rfl rfl rfl) rfl rfl rfl ?_
      refine L.q 1 rfl ?_
      refine L.nil (E.then (T.seq (T.region ?_)))
      refine L.q 3 rfl ?_
      obtain ⟨_, h1840, H1841⟩ := bnd H1839
      refine L.a [] [] (Ac.mk (ty := (Ty.int .u8)) 0 () h1840 (fun _ _ f hf => by cases hf) rfl rfl rfl rfl rfl rfl rfl) rfl rfl rfl rfl rfl ?_
      intro g1842
      refine L.q 1 rfl ?_
      refine L.nil (E.then (T.seq (T.region ?_)))
      refine L.q 5 rfl ?_
      obtain ⟨_, h1844, H1845⟩ := bnd H1841
      refine L.y (Yl.shl (nb := 8) rfl h1844 rfl rfl rfl) rfl rfl rfl ?_
      obtain ⟨x1846, h1847, H1848⟩ := bnd H1845
      refine L.y (Yl.ia h1847 rfl rfl rfl rfl rfl rfl) rfl rfl rfl ?_
      refine L.a [0] [] (Ac.se 0 (IntKind.u8.wrap (1 * 2 ^ (min (((Go.bits .and .i64 x1831 65535).tmod (r89.1.length : Int)).tmod 8).toNat 8))) (idx_some h1847).2 rfl rfl rfl rfl rfl rfl (fun _ => ⟨(), rfl, [], rfl⟩)) rfl rfl rfl rfl rfl ?_
      intro _
      refine L.sl 13 (k' := ((List.replicate (IntKind.i64.wrap ((IntKind.i64.wrap ((r89.1.length : Int) + 7)).tdiv 8)).toNat (0 : Int)).set ((IntKind.i64.wrap (((Go.bits .and .i64 x1831 65535).tmod (r89.1.length : Int)).tdiv 8)).toNat) (IntKind.u8.wrap (1 * 2 ^ (min (((Go.bits .and .i64 x1831 65535).tmod (r89.1.length : Int)).tmod 8).toNat 8)))).length) (List.length_set ..) rfl ?_
      refine L.nil (E.then (T.seq (T.seq (T.region ?_))))
      refine L.q 2 rfl ?_
      refine L.y (Yl.bs 0 rfl rfl rfl rfl rfl rfl rfl rfl rfl) rfl rfl rfl ?_
      obtain ⟨r1850, h1851, H1852⟩ := bnd H1848
      refine L.a [1, 2, 2] [1, 2, 3, 4, 5] (Ac.call (c_sender_Sender_Ack g19 a44 c45 a46 c47 a1085 c1086 a1088 c1089 a1091 c1092 a1094 c1095 a1097 c1098 h1851) rfl rfl rfl rfl) rfl rfl rfl rfl rfl ?_
      rintro ⟨⟨a1853, c1854⟩, ⟨a1855, c1856⟩, ⟨a1857, c1858⟩⟩
      refine L.nil (E.then ?_)
      refine T.bif rfl H1852 (fun hc H1867 => ?_) (fun hc H1867 => ?_)
      · refine T.seq (T.region ?_)
        refine L.q 1 rfl ?_
        refine L.nil (E.then (T.ret (E.then_ret (E.block_ret (E.then_ret (E.then_ret (E.block_ret ?_)))))))
        obtain ⟨w1868, hz, H1869⟩ := inrr_some H1867
        subst z1592
        have hb := hbr1594 _ rfl
        subst y1588
        have hw : w1868 = r := Option.some.inj H1590
        subst w1868
        refine E.then_ret ?_
        have hr := Option.some.inj H1869
        subst r
        exact E.ret () [] [] (.tmp rfl .nil) rfl rfl rfl
      refine T.skip (E.then (T.seq (T.region ?_)))
      refine L.q 2 rfl ?_
      obtain ⟨x1870, h1871, H1872⟩ := bnd H1867
      refine L.addro 5 rfl (idx_lt h1871) fun b1873 e1874 => ?_
      obtain rfl : a1101 = some ⟨b1873, 0, none⟩ := e1874
      refine L.y (Yl.ia h1871 rfl rfl rfl rfl rfl rfl) rfl rfl rfl ?_
      refine L.a [5] [] (Ac.se 0 true (idx_some h1871).2 rfl rfl rfl rfl rfl rfl (fun _ => ⟨(), rfl, [], rfl⟩)) rfl rfl rfl rfl rfl ?_
      intro _
      refine L.sl 10 (k' := (s1105.2.1.set (((Go.bits .and .i64 x1831 65535).tmod (r89.1.length : Int)).toNat) true).length) (List.length_set ..) rfl ?_
      refine L.nil (E.then (T.seq (T.region ?_)))
      refine L.q 1 rfl ?_
      refine L.nil (E.then (T.seq (T.seq (T.region ?_))))
      refine L.q 3 rfl ?_
      refine L.nil (E.then ?_)
      obtain ⟨e1938, H1939, H1940⟩ := bnd H1872
      refine T.join (η := Unit × Unit) (fun h => True) (fun h => [(2, .slice (some ⟨b1834, o1835, none⟩) order.length c_2), (3, .pointer (some ⟨g1, 0, none⟩)), (7, .pointer (some ⟨g19, 0, none⟩)), (9, .int .i64 (r89.1.length : Int)), (10, .slice (some ⟨b1873, 0, none⟩) (s1105.2.1.set (((Go.bits .and .i64 x1831 65535).tmod (r89.1.length : Int)).toNat) true).length c1102), (11, .int .i64 s1105.2.2), (14, .int .i64 e1938)]) (fun h => [Ch.box g19 82 (bx82 r1850.2 a44 c45 a46 c47 a1853 c1854 a1855 c1856 a1857 c1858 a1094 c1095 a1097 c1098), Ch.box g1 25 (bx25 r7 a10 c11 a12 c13), Ch.arr Ty.bool 4 (some ⟨b1873, 0, none⟩) c1102 (s1105.2.1.set (((Go.bits .and .i64 x1831 65535).tmod (r89.1.length : Int)).toNat) true), Ch.aro tySnapSnap 25 a1857 c1858 r1850.2.kept, Ch.arr Ty.bool 4 a1097 c1098 r1850.2.message.there]) (fun h => [Im.sl tyRowRow a44 c45 r1850.2.current.rows, Im.sl tyRowGlyph a46 c47 r1850.2.current.begun, Im.sl tyRowRow a1853 c1854 r1850.2.acked.rows, Im.sl tyRowGlyph a1855 c1856 r1850.2.acked.begun, Im.sl Ty.str a1094 c1095 r1850.2.message.parts, Im.cells b1834 (o1835 + (IntKind.i64.wrap (s1105.2.2 - 1)).toNat * 1) [.int .i64 x1831], Im.sl tyRowRow a44 c45 s1105.1.current.rows, Im.sl tyRowGlyph a46 c47 s1105.1.current.begun, Im.sl tyRowRow a1085 c1086 s1105.1.acked.rows, Im.sl tyRowGlyph a1088 c1089 s1105.1.acked.begun, Im.sl Ty.str a1094 c1095 s1105.1.message.parts, Im.sl tyRowRow a44 c45 r89.2.current.rows, Im.sl tyRowGlyph a46 c47 r89.2.current.begun, Im.sl tyRowRow a24 c25 r89.2.acked.rows, Im.sl tyRowGlyph a26 c27 r89.2.acked.begun, Im.sl Ty.str a96 c97 r89.2.message.parts, Im.sl tyRowRow a44 c45 r41.2.current.rows, Im.sl tyRowGlyph a46 c47 r41.2.current.begun, Im.sl tyRowRow a24 c25 r41.2.acked.rows, Im.sl tyRowGlyph a26 c27 r41.2.acked.begun, Im.sl Ty.str a30 c31 r41.2.message.parts, Im.sl tyRowRow a20 c21 r16.current.rows, Im.sl tyRowGlyph a22 c23 r16.current.begun, Im.sl tyRowRow a24 c25 r16.acked.rows, Im.sl tyRowGlyph a26 c27 r16.acked.begun, Im.sl Ty.str a30 c31 r16.message.parts, Im.sl tyRowRow a10 c11 r7.rows, Im.sl tyRowGlyph a12 c13 r7.begun, Im.sl tyRowRow a_0_0 c_0_0 t_.rows, Im.sl tyRowGlyph a_0_1 c_0_1 t_.begun, Im.sl (Ty.int .i64) (some ⟨b1834, o1835, none⟩) c_2 order, Im.sl (Ty.int .u32) (some ⟨0, 0, none⟩) 16 t_sum_half]) ?_ ?_
      · refine T.block ?_
        refine T.lp (η := Unit) (fun s1918 h => [(2, .slice (some ⟨b1834, o1835, none⟩) order.length c_2), (3, .pointer (some ⟨g1, 0, none⟩)), (7, .pointer (some ⟨g19, 0, none⟩)), (9, .int .i64 (r89.1.length : Int)), (10, .slice (some ⟨b1873, 0, none⟩) (s1105.2.1.set (((Go.bits .and .i64 x1831 65535).tmod (r89.1.length : Int)).toNat) true).length c1102), (11, .int .i64 s1105.2.2), (14, .int .i64 s1918.1), (84, .slice (some ⟨b1873, 0, none⟩) (s1105.2.1.set (((Go.bits .and .i64 x1831 65535).tmod (r89.1.length : Int)).toNat) true).length c1102), (85, .int .i64 ((s1105.2.1.set (((Go.bits .and .i64 x1831 65535).tmod (r89.1.length : Int)).toNat) true).length : Int)), (86, .int .i64 s1918.2)]) (fun s1918 h => [Ch.box g19 82 (bx82 r1850.2 a44 c45 a46 c47 a1853 c1854 a1855 c1856 a1857 c1858 a1094 c1095 a1097 c1098), Ch.box g1 25 (bx25 r7 a10 c11 a12 c13), Ch.arr Ty.bool 4 (some ⟨b1873, 0, none⟩) c1102 (s1105.2.1.set (((Go.bits .and .i64 x1831 65535).tmod (r89.1.length : Int)).toNat) true), Ch.aro tySnapSnap 25 a1857 c1858 r1850.2.kept, Ch.arr Ty.bool 4 a1097 c1098 r1850.2.message.there]) (fun s1918 h => [Im.sl tyRowRow a44 c45 r1850.2.current.rows, Im.sl tyRowGlyph a46 c47 r1850.2.current.begun, Im.sl tyRowRow a1853 c1854 r1850.2.acked.rows, Im.sl tyRowGlyph a1855 c1856 r1850.2.acked.begun, Im.sl Ty.str a1094 c1095 r1850.2.message.parts, Im.cells b1834 (o1835 + (IntKind.i64.wrap (s1105.2.2 - 1)).toNat * 1) [.int .i64 x1831], Im.sl tyRowRow a44 c45 s1105.1.current.rows, Im.sl tyRowGlyph a46 c47 s1105.1.current.begun, Im.sl tyRowRow a1085 c1086 s1105.1.acked.rows, Im.sl tyRowGlyph a1088 c1089 s1105.1.acked.begun, Im.sl Ty.str a1094 c1095 s1105.1.message.parts, Im.sl tyRowRow a44 c45 r89.2.current.rows, Im.sl tyRowGlyph a46 c47 r89.2.current.begun, Im.sl tyRowRow a24 c25 r89.2.acked.rows, Im.sl tyRowGlyph a26 c27 r89.2.acked.begun, Im.sl Ty.str a96 c97 r89.2.message.parts, Im.sl tyRowRow a44 c45 r41.2.current.rows, Im.sl tyRowGlyph a46 c47 r41.2.current.begun, Im.sl tyRowRow a24 c25 r41.2.acked.rows, Im.sl tyRowGlyph a26 c27 r41.2.acked.begun, Im.sl Ty.str a30 c31 r41.2.message.parts, Im.sl tyRowRow a20 c21 r16.current.rows, Im.sl tyRowGlyph a22 c23 r16.current.begun, Im.sl tyRowRow a24 c25 r16.acked.rows, Im.sl tyRowGlyph a26 c27 r16.acked.begun, Im.sl Ty.str a30 c31 r16.message.parts, Im.sl tyRowRow a10 c11 r7.rows, Im.sl tyRowGlyph a12 c13 r7.begun, Im.sl tyRowRow a_0_0 c_0_0 t_.rows, Im.sl tyRowGlyph a_0_1 c_0_1 t_.begun, Im.sl (Ty.int .i64) (some ⟨b1834, o1835, none⟩) c_2 order, Im.sl (Ty.int .u32) (some ⟨0, 0, none⟩) 16 t_sum_half]) () [1, 4, 0, 0, 0] [0, 1, 2, 3, 4, 5, 6, 7, 8, 9, 10, 11, 12, 13, 14, 15, 16, 17, 18, 19, 20, 21, 22, 23, 24, 25, 26, 27, 28, 29, 30, 31] H1939 ⟨rfl, rfl, rfl, rfl, rfl, rfl, rfl, rfl, rfl, rfl, trivial⟩ rfl rfl ?_
        rintro k_ s1918 ⟨⟩ z1942 H1941 hag1943 hbr1944
        refine T.seq (T.region ?_)
        refine L.q 1 rfl ?_
        refine L.nil (E.then (T.seq ?_))
        refine T.bif rfl H1941 (fun hc H1946 => ?_) (fun hc H1946 => ?_)
        · refine T.skip (E.then (T.seq ?_))
          obtain ⟨e1956, H1957, H1958⟩ := bnd H1946
          refine T.join (η := Unit × Unit) (fun h => True) (fun h => [(2, .slice (some ⟨b1834, o1835, none⟩) order.length c_2), (3, .pointer (some ⟨g1, 0, none⟩)), (7, .pointer (some ⟨g19, 0, none⟩)), (9, .int .i64 (r89.1.length : Int)), (10, .slice (some ⟨b1873, 0, none⟩) (s1105.2.1.set (((Go.bits .and .i64 x1831 65535).tmod (r89.1.length : Int)).toNat) true).length c1102), (11, .int .i64 s1105.2.2), (14, .int .i64 e1956), (84, .slice (some ⟨b1873, 0, none⟩) (s1105.2.1.set (((Go.bits .and .i64 x1831 65535).tmod (r89.1.length : Int)).toNat) true).length c1102), (85, .int .i64 ((s1105.2.1.set (((Go.bits .and .i64 x1831 65535).tmod (r89.1.length : Int)).toNat) true).length : Int)), (86, .int .i64 s1918.2)]) (fun h => [Ch.box g19 82 (bx82 r1850.2 a44 c45 a46 c47 a1853 c1854 a1855 c1856 a1857 c1858 a1094 c1095 a1097 c1098), Ch.box g1 25 (bx25 r7 a10 c11 a12 c13), Ch.arr Ty.bool 4 (some ⟨b1873, 0, none⟩) c1102 (s1105.2.1.set (((Go.bits .and .i64 x1831 65535).tmod (r89.1.length : Int)).toNat) true), Ch.aro tySnapSnap 25 a1857 c1858 r1850.2.kept, Ch.arr Ty.bool 4 a1097 c1098 r1850.2.message.there]) (fun h => [Im.sl tyRowRow a44 c45 r1850.2.current.rows, Im.sl tyRowGlyph a46 c47 r1850.2.current.begun, Im.sl tyRowRow a1853 c1854 r1850.2.acked.rows, Im.sl tyRowGlyph a1855 c1856 r1850.2.acked.begun, Im.sl Ty.str a1094 c1095 r1850.2.message.parts, Im.cells b1834 (o1835 + (IntKind.i64.wrap (s1105.2.2 - 1)).toNat * 1) [.int .i64 x1831], Im.sl tyRowRow a44 c45 s1105.1.current.rows, Im.sl tyRowGlyph a46 c47 s1105.1.current.begun, Im.sl tyRowRow a1085 c1086 s1105.1.acked.rows, Im.sl tyRowGlyph a1088 c1089 s1105.1.acked.begun, Im.sl Ty.str a1094 c1095 s1105.1.message.parts, Im.sl tyRowRow a44 c45 r89.2.current.rows, Im.sl tyRowGlyph a46 c47 r89.2.current.begun, Im.sl tyRowRow a24 c25 r89.2.acked.rows, Im.sl tyRowGlyph a26 c27 r89.2.acked.begun, Im.sl Ty.str a96 c97 r89.2.message.parts, Im.sl tyRowRow a44 c45 r41.2.current.rows, Im.sl tyRowGlyph a46 c47 r41.2.current.begun, Im.sl tyRowRow a24 c25 r41.2.acked.rows, Im.sl tyRowGlyph a26 c27 r41.2.acked.begun, Im.sl Ty.str a30 c31 r41.2.message.parts, Im.sl tyRowRow a20 c21 r16.current.rows, Im.sl tyRowGlyph a22 c23 r16.current.begun, Im.sl tyRowRow a24 c25 r16.acked.rows, Im.sl tyRowGlyph a26 c27 r16.acked.begun, Im.sl Ty.str a30 c31 r16.message.parts, Im.sl tyRowRow a10 c11 r7.rows, Im.sl tyRowGlyph a12 c13 r7.begun, Im.sl tyRowRow a_0_0 c_0_0 t_.rows, Im.sl tyRowGlyph a_0_1 c_0_1 t_.begun, Im.sl (Ty.int .i64) (some ⟨b1834, o1835, none⟩) c_2 order, Im.sl (Ty.int .u32) (some ⟨0, 0, none⟩) 16 t_sum_half]) ?_ ?_
          · refine T.block (T.seq (T.region ?_))
            obtain ⟨x1959, h1960, H1961⟩ := bnd H1957
            refine L.y (Yl.ia h1960 rfl rfl rfl rfl rfl rfl) rfl rfl rfl ?_
            refine L.y (Yl.lo (v := .bool x1959) 2 s1918.2.toNat 0 (idx_some h1960).2 rfl rfl rfl rfl (fun _ => rfl)) rfl rfl rfl ?_
            refine L.q 1 rfl ?_
            refine L.nil (E.then (T.seq (T.region ?_)))
            refine L.q 2 rfl ?_
            refine L.nil (E.then ?_)
            refine T.bif rfl H1961 (fun hc H1962 => ?_) (fun hc H1962 => ?_)
            · refine T.region ?_
              refine L.q 3 rfl ?_
              refine L.nil (E.block ?_)
              have hr := Option.some.inj H1962
              subst e1956
              exact E.give ((), ()) [0, 0, 0, 0, 0] [0, 1, 2, 3, 4, 5, 6, 7, 8, 9, 10, 11, 12, 13, 14, 15, 16, 17, 18, 19, 20, 21, 22, 23, 24, 25, 26, 27, 28, 29, 30, 31] trivial ⟨rfl, rfl, rfl, rfl, rfl, rfl, rfl, rfl, rfl, rfl, trivial⟩ rfl rfl
            refine T.skip (E.block ?_)
            have hr := Option.some.inj H1962
            subst e1956
            exact E.give ((), ()) [0, 0, 0, 0, 0] [0, 1, 2, 3, 4, 5, 6, 7, 8, 9, 10, 11, 12, 13, 14, 15, 16, 17, 18, 19, 20, 21, 22, 23, 24, 25, 26, 27, 28, 29, 30, 31] trivial ⟨rfl, rfl, rfl, rfl, rfl, rfl, rfl, rfl, rfl, rfl, trivial⟩ rfl rfl
          rintro ⟨_, ⟨⟩⟩ _
          refine T.region ?_
          refine L.q 2 rfl ?_
          refine L.nil ?_
          have hr := Option.some.inj H1958
          subst z1942
          exact E.give (_, ()) [0, 0, 0, 0, 0] [0, 1, 2, 3, 4, 5, 6, 7, 8, 9, 10, 11, 12, 13, 14, 15, 16, 17, 18, 19, 20, 21, 22, 23, 24, 25, 26, 27, 28, 29, 30, 31] (hag1943 _ rfl) ⟨rfl, rfl, rfl, rfl, rfl, rfl, rfl, rfl, rfl, rfl, trivial⟩ rfl rfl
        refine T.exit (E.then_exit' (E.then_exit' (E.block_here ?_)))
        have hr := Option.some.inj H1946
        subst z1942
        have hb := hbr1944 _ rfl
        subst e1938
        exact E.give ((), ()) [0, 0, 0, 0, 0] [0, 1, 2, 3, 4, 5, 6, 7, 8, 9, 10, 11, 12, 13, 14, 15, 16, 17, 18, 19, 20, 21, 22, 23, 24, 25, 26, 27, 28, 29, 30, 31] trivial ⟨rfl, rfl, rfl, rfl, rfl, rfl, rfl, trivial⟩ rfl rfl
      rintro ⟨_, ⟨⟩⟩ _
      refine T.seq ?_
      obtain ⟨e2030, H2031, H2032⟩ := bnd H1940
      refine T.join (η := Unit × ((Option Addr × Nat) × (Option Addr × Nat) × (Option Addr × Nat))) (fun h => True) (fun h => (fun a2021 c2022 a2024 c2025 a2027 c2028 => [(2, .slice (some ⟨b1834, o1835, none⟩) order.length c_2), (3, .pointer (some ⟨g1, 0, none⟩)), (7, .pointer (some ⟨g19, 0, none⟩)), (9, .int .i64 (r89.1.length : Int)), (10, .slice (some ⟨b1873, 0, none⟩) (s1105.2.1.set (((Go.bits .and .i64 x1831 65535).tmod (r89.1.length : Int)).toNat) true).length c1102), (11, .int .i64 s1105.2.2), (107, .bool e2030.1)]) h.2.1.1 h.2.1.2 h.2.2.1.1 h.2.2.1.2 h.2.2.2.1 h.2.2.2.2) (fun h => (fun a2021 c2022 a2024 c2025 a2027 c2028 => [Ch.aro tySnapSnap 25 a2021 c2022 e2030.2.kept, Ch.arr Ty.bool 4 a2027 c2028 e2030.2.message.there, Ch.box g19 82 (bx82 e2030.2 a44 c45 a46 c47 a1853 c1854 a1855 c1856 a2021 c2022 a2024 c2025 a2027 c2028), Ch.box g1 25 (bx25 r7 a10 c11 a12 c13), Ch.arr Ty.bool 4 (some ⟨b1873, 0, none⟩) c1102 (s1105.2.1.set (((Go.bits .and .i64 x1831 65535).tmod (r89.1.length : Int)).toNat) true)]) h.2.1.1 h.2.1.2 h.2.2.1.1 h.2.2.1.2 h.2.2.2.1 h.2.2.2.2) (fun h => (fun a2021 c2022 a2024 c2025 a2027 c2028 => [Im.sl tyRowRow a44 c45 e2030.2.current.rows, Im.sl tyRowGlyph a46 c47 e2030.2.current.begun, Im.sl tyRowRow a1853 c1854 e2030.2.acked.rows, Im.sl tyRowGlyph a1855 c1856 e2030.2.acked.begun, Im.sl Ty.str a2024 c2025 e2030.2.message.parts, Im.sl tyRowRow a44 c45 r1850.2.current.rows, Im.sl tyRowGlyph a46 c47 r1850.2.current.begun, Im.sl tyRowRow a1853 c1854 r1850.2.acked.rows, Im.sl tyRowGlyph a1855 c1856 r1850.2.acked.begun, Im.sl Ty.str a1094 c1095 r1850.2.message.parts, Im.cells b1834 (o1835 + (IntKind.i64.wrap (s1105.2.2 - 1)).toNat * 1) [.int .i64 x1831], Im.sl tyRowRow a44 c45 s1105.1.current.rows, Im.sl tyRowGlyph a46 c47 s1105.1.current.begun, Im.sl tyRowRow a1085 c1086 s1105.1.acked.rows, Im.sl tyRowGlyph a1088 c1089 s1105.1.acked.begun, Im.sl Ty.str a1094 c1095 s1105.1.message.parts, Im.sl tyRowRow a44 c45 r89.2.current.rows, Im.sl tyRowGlyph a46 c47 r89.2.current.begun, Im.sl tyRowRow a24 c25 r89.2.acked.rows, Im.sl tyRowGlyph a26 c27 r89.2.acked.begun, Im.sl Ty.str a96 c97 r89.2.message.parts, Im.sl tyRowRow a44 c45 r41.2.current.rows, Im.sl tyRowGlyph a46 c47 r41.2.current.begun, Im.sl tyRowRow a24 c25 r41.2.acked.rows, Im.sl tyRowGlyph a26 c27 r41.2.acked.begun, Im.sl Ty.str a30 c31 r41.2.message.parts, Im.sl tyRowRow a20 c21 r16.current.rows, Im.sl tyRowGlyph a22 c23 r16.current.begun, Im.sl tyRowRow a24 c25 r16.acked.rows, Im.sl tyRowGlyph a26 c27 r16.acked.begun, Im.sl Ty.str a30 c31 r16.message.parts, Im.sl tyRowRow a10 c11 r7.rows, Im.sl tyRowGlyph a12 c13 r7.begun, Im.sl tyRowRow a_0_0 c_0_0 t_.rows, Im.sl tyRowGlyph a_0_1 c_0_1 t_.begun, Im.sl (Ty.int .i64) (some ⟨b1834, o1835, none⟩) c_2 order, Im.sl (Ty.int .u32) (some ⟨0, 0, none⟩) 16 t_sum_half]) h.2.1.1 h.2.1.2 h.2.2.1.1 h.2.2.1.2 h.2.2.2.1 h.2.2.2.2) ?_ ?_
      · refine T.region ?_
        refine L.q 2 rfl ?_
        obtain ⟨r2033, h2034, H2035⟩ := bnd H2031
        refine L.a [0, 2, 2] [0, 1, 2, 3, 4, 31] (Ac.call (c_sender_Sender_Step g19 a44 c45 a46 c47 a1853 c1854 a1855 c1856 a1857 c1858 a1094 c1095 a1097 c1098 h2034) rfl rfl rfl rfl) rfl rfl rfl rfl rfl ?_
        rintro ⟨⟨a2036, c2037⟩, ⟨a2038, c2039⟩, ⟨a2040, c2041⟩, ⟨a2042, c2043⟩⟩
        refine L.q 4 rfl ?_
        refine L.cs 101 H2035 rfl (fun hc H2052 => ?_) (fun hc H2052 => ?_)
        · refine L.q 6 rfl ?_
          refine L.nil ?_
          have hr := Option.some.inj H2052
          subst e2030
          exact E.give ((), ((a2038, c2039), (a2040, c2041), (a2042, c2043))) [2, 2, 1, 1, 1] [0, 1, 2, 3, 4, 5, 6, 7, 8, 9, 10, 11, 12, 13, 14, 15, 16, 17, 18, 19, 20, 21, 22, 23, 24, 25, 26, 27, 28, 29, 30, 31, 32, 33, 34, 35, 36] trivial ⟨rfl, rfl, rfl, rfl, rfl, rfl, rfl, trivial⟩ rfl rfl
        refine L.q 1 rfl ?_
        obtain ⟨r2053, h2054, H2055⟩ := bnd H2052
        refine L.a [1, 1, 1] [0, 1, 2, 3, 4] (Ac.call (c_sender_Sender_Lacks g19 a44 c45 a46 c47 a1853 c1854 a1855 c1856 a2038 c2039 a2040 c2041 a2042 c2043 h2054) rfl rfl rfl rfl) rfl rfl rfl rfl rfl ?_
        rintro ⟨a2056, c2057⟩
        refine L.q 4 rfl ?_
        refine L.nil ?_
        have hr := Option.some.inj H2055
        subst e2030
        exact E.give ((), ((a2038, c2039), (a2040, c2041), (a2042, c2043))) [2, 2, 1, 2, 2] [0, 1, 2, 3, 4, 5, 6, 7, 8, 9, 10, 11, 12, 13, 14, 15, 16, 17, 18, 19, 20, 21, 22, 23, 24, 25, 26, 27, 28, 29, 30, 31, 32, 33, 34, 35, 36] trivial ⟨rfl, rfl, rfl, rfl, rfl, rfl, rfl, trivial⟩ rfl rfl
      rintro ⟨_, ⟨⟨a2021, c2022⟩, ⟨a2024, c2025⟩, ⟨a2027, c2028⟩⟩⟩ _
      refine T.bif rfl H2032 (fun hc H2059 => ?_) (fun hc H2059 => ?_)
      · refine T.seq (T.region ?_)
        refine L.q 1 rfl ?_
        refine L.nil (E.then (T.ret (E.block_ret (E.then_ret (E.then_ret (E.block_ret ?_))))))
        obtain ⟨w2060, hz, H2061⟩ := inrr_some H2059
        subst z1592
        have hb := hbr1594 _ rfl
        subst y1588
        have hw : w2060 = r := Option.some.inj H1590
        subst w2060
        refine E.then_ret ?_
        have hr := Option.some.inj H2061
        subst r
        exact E.ret () [] [] (.tmp rfl .nil) rfl rfl rfl
      refine T.skip (E.block (E.then (T.region ?_)))
      refine L.q 3 rfl ?_
      refine L.nil ?_
      have hr := Option.some.inj H2059
      subst z1592
      exact E.give (_, ((a1853, c1854), (a1855, c1856), (a2021, c2022), (a2024, c2025), (a2027, c2028), ((some ⟨b1873, 0, none⟩), c1102))) [0, 0, 2, 0, 0] [0, 1, 2, 3, 4, 16, 17, 18, 19, 20, 21, 22, 23, 24, 25, 26, 27, 28, 29, 30, 31, 32, 33, 34, 35, 36] (hag1593 _ rfl) ⟨rfl, rfl, rfl, rfl, rfl, rfl, trivial⟩ rfl rfl
    refine T.exit (E.then_exit' (E.then_exit' (E.block_here ?_)))
    have hr := Option.some.inj H1603
    subst z1592
    have hb := hbr1594 _ rfl
    subst y1588
    exact E.give (_, ((a1085, c1086), (a1088, c1089), (a1091, c1092), (a1094, c1095), (a1097, c1098))) [2, 2, 0, 0] [0, 1, 2, 3, 4, 5, 6, 7, 8, 9, 10, 11, 12, 13, 14, 15, 16, 17, 18, 19, 20, 21, 22, 23, 24, 25] rfl ⟨rfl, rfl, trivial⟩ rfl rfl
  rintro ⟨e1587, ⟨⟨a1572, c1573⟩, ⟨a1575, c1576⟩, ⟨a1578, c1579⟩, ⟨a1581, c1582⟩, ⟨a1584, c1585⟩⟩⟩ hy
  subst hy
  refine T.seq ?_
  obtain ⟨e2269, H2270, H2271⟩ := bnd H1590
  refine T.join (η := Unit × ((Option Addr × Nat) × (Option Addr × Nat) × (Option Addr × Nat) × (Option Addr × Nat) × (Option Addr × Nat))) (fun h => True) (fun h => (fun a2254 c2255 a2257 c2258 a2260 c2261 a2263 c2264 a2266 c2267 => [(6, .bool e2269.1)]) h.2.1.1 h.2.1.2 h.2.2.1.1 h.2.2.1.2 h.2.2.2.1.1 h.2.2.2.1.2 h.2.2.2.2.1.1 h.2.2.2.2.1.2 h.2.2.2.2.2.1 h.2.2.2.2.2.2) (fun h => (fun a2254 c2255 a2257 c2258 a2260 c2261 a2263 c2264 a2266 c2267 => [Ch.aro tySnapSnap 25 a2260 c2261 e2269.2.kept, Ch.arr Ty.bool 4 a2266 c2267 e2269.2.message.there, Ch.box g19 82 (bx82 e2269.2 a44 c45 a46 c47 a2254 c2255 a2257 c2258 a2260 c2261 a2263 c2264 a2266 c2267), Ch.box g1 25 (bx25 r7 a10 c11 a12 c13)]) h.2.1.1 h.2.1.2 h.2.2.1.1 h.2.2.1.2 h.2.2.2.1.1 h.2.2.2.1.2 h.2.2.2.2.1.1 h.2.2.2.2.1.2 h.2.2.2.2.2.1 h.2.2.2.2.2.2) (fun h => (fun a2254 c2255 a2257 c2258 a2260 c2261 a2263 c2264 a2266 c2267 => [Im.sl tyRowRow a44 c45 e2269.2.current.rows, Im.sl tyRowGlyph a46 c47 e2269.2.current.begun, Im.sl tyRowRow a2254 c2255 e2269.2.acked.rows, Im.sl tyRowGlyph a2257 c2258 e2269.2.acked.begun, Im.sl Ty.str a2263 c2264 e2269.2.message.parts, Im.sl tyRowRow a44 c45 e1587.current.rows, Im.sl tyRowGlyph a46 c47 e1587.current.begun, Im.sl tyRowRow a1572 c1573 e1587.acked.rows, Im.sl tyRowGlyph a1575 c1576 e1587.acked.begun, Im.sl Ty.str a1581 c1582 e1587.message.parts, Im.sl tyRowRow a44 c45 r89.2.current.rows, Im.sl tyRowGlyph a46 c47 r89.2.current.begun, Im.sl tyRowRow a24 c25 r89.2.acked.rows, Im.sl tyRowGlyph a26 c27 r89.2.acked.begun, Im.sl Ty.str a96 c97 r89.2.message.parts, Im.sl tyRowRow a44 c45 r41.2.current.rows, Im.sl tyRowGlyph a46 c47 r41.2.current.begun, Im.sl tyRowRow a24 c25 r41.2.acked.rows, Im.sl tyRowGlyph a26 c27 r41.2.acked.begun, Im.sl Ty.str a30 c31 r41.2.message.parts, Im.sl tyRowRow a20 c21 r16.current.rows, Im.sl tyRowGlyph a22 c23 r16.current.begun, Im.sl tyRowRow a24 c25 r16.acked.rows, Im.sl tyRowGlyph a26 c27 r16.acked.begun, Im.sl Ty.str a30 c31 r16.message.parts, Im.sl tyRowRow a10 c11 r7.rows, Im.sl tyRowGlyph a12 c13 r7.begun, Im.sl tyRowRow a_0_0 c_0_0 t_.rows, Im.sl tyRowGlyph a_0_1 c_0_1 t_.begun, Im.sl (Ty.int .i64) a_2 c_2 order, Im.sl (Ty.int .u32) (some ⟨0, 0, none⟩) 16 t_sum_half]) h.2.1.1 h.2.1.2 h.2.2.1.1 h.2.2.1.2 h.2.2.2.1.1 h.2.2.2.1.2 h.2.2.2.2.1.1 h.2.2.2.2.1.2 h.2.2.2.2.2.1 h.2.2.2.2.2.2) ?_ ?_
  · refine T.draw [] [3] mo (by rfl) rfl ?_
    refine D.q 0 rfl rfl rfl rfl rfl rfl ?_
    refine D.q 1 rfl rfl rfl rfl rfl rfl ?_
    refine D.y 2 (Yl.ldb 0 rfl rfl rfl rfl) rfl rfl rfl rfl rfl rfl ?_
    obtain ⟨r2319, h2320, H2321⟩ := bnd H2270
    refine D.one rfl rfl rfl (Dp.a [2, 0, 0] [0, 1, 2, 3, 4] (Ac.call (c_sender_Sender_Ack g19 a44 c45 a46 c47 a1572 c1573 a1575 c1576 a1578 c1579 a1581 c1582 a1584 c1585 h2320) rfl rfl rfl rfl) rfl rfl rfl rfl rfl rfl ?_)
    rintro ⟨⟨a2322, c2323⟩, ⟨a2324, c2325⟩, ⟨a2326, c2327⟩⟩
    refine D.q 4 rfl rfl rfl rfl rfl rfl ?_
    refine D.cs 112 H2321 rfl (fun hc H2335 => ?_) (fun hc H2335 => ?_)
    · refine D.q 5 rfl rfl rfl rfl rfl rfl ?_
      obtain ⟨r2336, h2337, H2338⟩ := bnd H2335
      refine D.one rfl rfl rfl (Dp.a [0, 0, 0] [0, 1, 2, 3, 4, 30] (Ac.call (c_sender_Sender_Step g19 a44 c45 a46 c47 a2322 c2323 a2324 c2325 a2326 c2327 a1581 c1582 a1584 c1585 h2337) rfl rfl rfl rfl) rfl rfl rfl rfl rfl rfl ?_)
      rintro ⟨⟨a2339, c2340⟩, ⟨a2341, c2342⟩, ⟨a2343, c2344⟩, ⟨a2345, c2346⟩⟩
      refine D.q 7 rfl rfl rfl rfl rfl rfl ?_
      refine D.q 8 rfl rfl rfl rfl rfl rfl ?_
      refine D.q 9 rfl rfl rfl rfl rfl rfl ?_
      refine D.q 10 rfl rfl rfl rfl rfl rfl ?_
      refine D.cs 118 H2338 rfl (fun hc H2355 => ?_) (fun hc H2355 => ?_)
      · refine D.q 11 rfl rfl rfl rfl rfl rfl ?_
        refine D.q 13 rfl rfl rfl rfl rfl rfl ?_
        refine D.y 14 (Yl.ldb 0 rfl rfl rfl rfl) rfl rfl rfl rfl rfl rfl ?_
        obtain ⟨r2356, h2357, H2358⟩ := bnd H2355
        refine D.one rfl rfl rfl (Dp.a [1, 1, 1] [0, 1, 2, 3, 4] (Ac.call (c_sender_Sender_Acked g19 a44 c45 a46 c47 a2322 c2323 a2324 c2325 a2341 c2342 a2343 c2344 a2345 c2346 h2357) rfl rfl rfl rfl) rfl rfl rfl rfl rfl rfl ?_)
        rintro ⟨⟩
        refine D.q 15 rfl rfl rfl rfl rfl rfl ?_
        refine D.q 16 rfl rfl rfl rfl rfl rfl ?_
        refine D.q 17 rfl rfl rfl rfl rfl rfl ?_
        refine D.cs 125 H2358 rfl (fun hc H2359 => ?_) (fun hc H2359 => ?_)
        · refine D.q 18 rfl rfl rfl rfl rfl rfl ?_
          obtain ⟨r2360, h2361, H2362⟩ := bnd H2359
          refine D.one rfl rfl rfl (Dp.a [0, 0, 0] [0, 1, 2, 3, 4] (Ac.call (c_sender_Sender_Kept g19 a44 c45 a46 c47 a2322 c2323 a2324 c2325 a2341 c2342 a2343 c2344 a2345 c2346 h2361) rfl rfl rfl rfl) rfl rfl rfl rfl rfl rfl ?_)
          rintro ⟨a2363, c2364⟩
          refine D.q 20 rfl rfl rfl rfl rfl rfl ?_
          refine D.q 21 rfl rfl rfl rfl rfl rfl ?_
          refine D.q 22 rfl rfl rfl rfl rfl rfl ?_
          refine D.q 23 rfl rfl rfl rfl rfl rfl ?_
          refine D.nil rfl rfl ?_
          have hr := Option.some.inj H2362
          subst e2269
          exact E.give ((), ((a2322, c2323), (a2324, c2325), (a2341, c2342), (a2343, c2344), (a2345, c2346))) [3, 3, 2, 0] [0, 1, 2, 3, 4, 10, 11, 12, 13, 14, 15, 16, 17, 18, 19, 20, 21, 22, 23, 24, 25, 26, 27, 28, 29, 30, 31, 32, 33, 34, 35] trivial ⟨rfl, trivial⟩ rfl rfl
        refine D.sk 18 rfl rfl rfl rfl rfl ?_
        refine D.sk 19 rfl rfl rfl rfl rfl ?_
        refine D.sk 20 rfl rfl rfl rfl rfl ?_
        refine D.sk 21 rfl rfl rfl rfl rfl ?_
        refine D.q 22 rfl rfl rfl rfl rfl rfl ?_
        refine D.q 23 rfl rfl rfl rfl rfl rfl ?_
        refine D.nil rfl rfl ?_
        have hr := Option.some.inj H2359
        subst e2269
        exact E.give ((), ((a2322, c2323), (a2324, c2325), (a2341, c2342), (a2343, c2344), (a2345, c2346))) [2, 2, 1, 0] [0, 1, 2, 3, 4, 10, 11, 12, 13, 14, 15, 16, 17, 18, 19, 20, 21, 22, 23, 24, 25, 26, 27, 28, 29, 30, 31, 32, 33, 34, 35] trivial ⟨rfl, trivial⟩ rfl rfl
      refine D.sk 11 rfl rfl rfl rfl rfl ?_
      refine D.sk 12 rfl rfl rfl rfl rfl ?_
      refine D.sk 13 rfl rfl rfl rfl rfl ?_
      refine D.sk 14 rfl rfl rfl rfl rfl ?_
      refine D.sk 15 rfl rfl rfl rfl rfl ?_
      refine D.q 16 rfl rfl rfl rfl rfl rfl ?_
      refine D.q 17 rfl rfl rfl rfl rfl rfl ?_
      refine D.sk 18 rfl rfl rfl rfl rfl ?_
      refine D.sk 19 rfl rfl rfl rfl rfl ?_
      refine D.sk 20 rfl rfl rfl rfl rfl ?_
      refine D.sk 21 rfl rfl rfl rfl rfl ?_
      refine D.q 22 rfl rfl rfl rfl rfl rfl ?_
      refine D.q 23 rfl rfl rfl rfl rfl rfl ?_
      refine D.nil rfl rfl ?_
      have hr := Option.some.inj H2355
      subst e2269
      exact E.give ((), ((a2322, c2323), (a2324, c2325), (a2341, c2342), (a2343, c2344), (a2345, c2346))) [3, 3, 2, 0] [0, 1, 2, 3, 4, 10, 11, 12, 13, 14, 15, 16, 17, 18, 19, 20, 21, 22, 23, 24, 25, 26, 27, 28, 29, 30, 31, 32, 33, 34, 35] trivial ⟨rfl, trivial⟩ rfl rfl
    refine D.sk 5 rfl rfl rfl rfl rfl ?_
    refine D.sk 6 rfl rfl rfl rfl rfl ?_
    refine D.sk 7 rfl rfl rfl rfl rfl ?_
    refine D.sk 8 rfl rfl rfl rfl rfl ?_
    refine D.q 9 rfl rfl rfl rfl rfl rfl ?_
    refine D.q 10 rfl rfl rfl rfl rfl rfl ?_
    refine D.sk 11 rfl rfl rfl rfl rfl ?_
    refine D.sk 12 rfl rfl rfl rfl rfl ?_
    refine D.sk 13 rfl rfl rfl rfl rfl ?_
    refine D.sk 14 rfl rfl rfl rfl rfl ?_
    refine D.sk 15 rfl rfl rfl rfl rfl ?_
    refine D.q 16 rfl rfl rfl rfl rfl rfl ?_
    refine D.q 17 rfl rfl rfl rfl rfl rfl ?_
    refine D.sk 18 rfl rfl rfl rfl rfl ?_
    refine D.sk 19 rfl rfl rfl rfl rfl ?_
    refine D.sk 20 rfl rfl rfl rfl rfl ?_
    refine D.sk 21 rfl rfl rfl rfl rfl ?_
    refine D.q 22 rfl rfl rfl rfl rfl rfl ?_
    refine D.q 23 rfl rfl rfl rfl rfl rfl ?_
    refine D.nil rfl rfl ?_
    have hr := Option.some.inj H2335
    subst e2269
    exact E.give ((), ((a2322, c2323), (a2324, c2325), (a2326, c2327), (a1581, c1582), (a1584, c1585))) [2, 2, 1, 0] [0, 1, 2, 3, 4, 5, 6, 7, 8, 9, 10, 11, 12, 13, 14, 15, 16, 17, 18, 19, 20, 21, 22, 23, 24, 25, 26, 27, 28, 29, 30] trivial ⟨rfl, trivial⟩ rfl rfl
  rintro ⟨_, ⟨⟨a2254, c2255⟩, ⟨a2257, c2258⟩, ⟨a2260, c2261⟩, ⟨a2263, c2264⟩, ⟨a2266, c2267⟩⟩⟩ _
  refine T.ret ?_
  have hr := Option.some.inj H2271
  subst r
  exact E.ret () [] [] (.tmp rfl .nil) rfl rfl rfl

end Go.Tw.X

set_option maxHeartbeats 2000000
set_option linter.unusedVariables false
set_option linter.unusedSimpArgs false
set_option maxRecDepth 10000
namespace Go.Tw.X
open Go Go.Tw
theorem opn_to {P : Program} {α β : Type} {t : TypeId} {ty : Ty α} {ty' : Ty β} {wf : α → Prop} {wf' : β → Prop} (h : Opn P t ty wf) (g : α → β) (gh : ty.Hid → ty'.Hid) (h1 : ∀ y hh, ty'.cs (g y) (gh hh) = ty.cs y hh) (h2 : ∀ y hh, ty'.im (g y) (gh hh) = ty.im y hh) (h3 : ∀ y, wf y → wf' (g y)) : Opn P t ty' wf' := Opn.to g gh h h1 h2 h3
theorem opn3 : Opn Go.Proofs.Tryd.prog 3 (Ty.int .i64) (inK .i64) := Opn.int (by kernel_rfl)
theorem opn9 : Opn Go.Proofs.Tryd.prog 9 Ty.str (fun s : ByteArray => s.size ≤ maxLen) := Opn.str (by kernel_rfl)
theorem opn21 : Opn Go.Proofs.Tryd.prog 21 (Ty.int .i32) (inK .i32) := Opn.int (by kernel_rfl)
theorem opn91 : Opn Go.Proofs.Tryd.prog 91 tyRowCell wfRowCell := opn_to (β := RowCell) (ty' := tyRowCell) (wf' := wfRowCell) (Opn.struct (fs := [(21, 0), (3, 1), (3, 2)]) (by kernel_rfl) (by kernel_rfl) (.cons opn21 (by kernel_rfl) (.cons opn3 (by kernel_rfl) (.cons opn3 (by kernel_rfl) .nil)))) (fun y => ⟨y.1, y.2.1, y.2.2.1⟩) (fun h => ()) (fun _ _ => rfl) (fun _ _ => rfl) (fun y h => h)
theorem opn64 : Opn Go.Proofs.Tryd.prog 64 (Ty.slice tyRowCell) (fun xs : List RowCell => ∀ x ∈ xs, wfRowCell x) := Opn.slice (by kernel_rfl) opn91 (by kernel_rfl) (by decide)
theorem opn4 : Opn Go.Proofs.Tryd.prog 4 Ty.bool (fun _ => True) := Opn.bool (by kernel_rfl)
theorem opn66 : Opn Go.Proofs.Tryd.prog 66 tyRowRow wfRowRow := opn_to (β := RowRow) (ty' := tyRowRow) (wf' := wfRowRow) (Opn.struct (fs := [(64, 0), (4, 1)]) (by kernel_rfl) (by kernel_rfl) (.cons opn64 (by kernel_rfl) (.cons opn4 (by kernel_rfl) .nil))) (fun y => ⟨y.1, y.2.1⟩) (fun h => h.1) (fun _ _ => rfl) (fun _ _ => rfl) (fun y h => h)
theorem opn22 : Opn Go.Proofs.Tryd.prog 22 (Ty.slice tyRowRow) (fun xs : List RowRow => ∀ x ∈ xs, wfRowRow x) := Opn.slice (by kernel_rfl) opn66 (by kernel_rfl) (by decide)
theorem opn86 : Opn Go.Proofs.Tryd.prog 86 tyRowGlyph wfRowGlyph := opn_to (β := RowGlyph) (ty' := tyRowGlyph) (wf' := wfRowGlyph) (Opn.struct (fs := [(21, 0), (3, 1)]) (by kernel_rfl) (by kernel_rfl) (.cons opn21 (by kernel_rfl) (.cons opn3 (by kernel_rfl) .nil))) (fun y => ⟨y.1, y.2.1⟩) (fun h => ()) (fun _ _ => rfl) (fun _ _ => rfl) (fun y h => h)
theorem opn23 : Opn Go.Proofs.Tryd.prog 23 (Ty.slice tyRowGlyph) (fun xs : List RowGlyph => ∀ x ∈ xs, wfRowGlyph x) := Opn.slice (by kernel_rfl) opn86 (by kernel_rfl) (by decide)
theorem opn25 : Opn Go.Proofs.Tryd.prog 25 tySnapSnap wfSnapSnap := opn_to (β := SnapSnap) (ty' := tySnapSnap) (wf' := wfSnapSnap) (Opn.struct (fs := [(3, 0), (3, 1), (3, 2), (3, 3), (3, 4), (9, 5), (22, 6), (3, 7), (3, 8), (23, 9)]) (by kernel_rfl) (by kernel_rfl) (.cons opn3 (by kernel_rfl) (.cons opn3 (by kernel_rfl) (.cons opn3 (by kernel_rfl) (.cons opn3 (by kernel_rfl) (.cons opn3 (by kernel_rfl) (.cons opn9 (by kernel_rfl) (.cons opn22 (by kernel_rfl) (.cons opn3 (by kernel_rfl) (.cons opn3 (by kernel_rfl) (.cons opn23 (by kernel_rfl) .nil))))))))))) (fun y => ⟨y.1, y.2.1, y.2.2.1, y.2.2.2.1, y.2.2.2.2.1, y.2.2.2.2.2.1, y.2.2.2.2.2.2.1, y.2.2.2.2.2.2.2.1, y.2.2.2.2.2.2.2.2.1, y.2.2.2.2.2.2.2.2.2.1⟩) (fun h => (h.2.2.2.2.2.2.1, h.2.2.2.2.2.2.2.2.2.1)) (fun _ _ => rfl) (fun _ _ => rfl) (fun y h => h)
theorem opn26 : Opn Go.Proofs.Tryd.prog 26 (Ty.slice (Ty.int .i64)) (fun xs : List Int => ∀ x ∈ xs, (inK .i64) x) := Opn.slice (by kernel_rfl) opn3 (by kernel_rfl) (by decide)
end Go.Tw.X

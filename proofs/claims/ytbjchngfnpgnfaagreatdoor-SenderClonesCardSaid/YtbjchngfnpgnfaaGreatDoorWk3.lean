import Derived.Test.YtbjchngfnpgnfaaGreatDoorWk2
import Derived.Test.YtbjchngfnpgnfaaGreatDoorFw2
import Derived.Test.YtbjchngfnpgnfaaGreatDoorWk1
set_option maxHeartbeats 2000000
set_option linter.unusedVariables false
set_option linter.unusedSimpArgs false
set_option maxRecDepth 10000
namespace Go.Tw.X
open Go Go.Tw
theorem c_slices_Clone_snap_Snap {s_ : List SnapSnap} (a_0 : Option Addr) (c_0 : Nat) {r : List SnapSnap} (H : p_slices_Clone_snap_Snap s_ = some r) : CT G 24 [.slice a_0 s_.length c_0] [] [Im.sl tySnapSnap a_0 c_0 s_] (fun h : (Option Addr × Nat) => .slice h.1 r.length h.2) (fun h => [Ch.arr tySnapSnap 43 h.1 h.2 r]) (fun h => []) := by
  delta p_slices_Clone_snap_Snap at H
  refine CT.of Go.Proofs.Tryz.func24 (by kernel_rfl) rfl rfl rfl fun K => ?_
  obtain ⟨_, h0, H⟩ := bnd H
  have hr := Option.some.inj H
  refine T.seq (T.region (L.q 1 rfl (L.nil (E.then (T.seq (T.seq (T.region ?_)))))))
  refine L.q 1 rfl ?_
  refine L.nilc 0 rfl rfl rfl rfl rfl rfl rfl rfl rfl (fun ha hx => ?_) ?_
  · refine L.nil (E.then (T.cond rfl (fun _ => ?_) (fun h => nomatch h)))
    refine T.seq (T.region (L.q 1 rfl (L.nil (E.then (T.ret (E.then_ret ?_))))))
    subst hx
    subst r
    refine E.nil0 tySnapSnap 43 ?_
    exact E.ret (none, 0) [0] [] (.tmp rfl .nil) rfl rfl rfl
  · refine L.nil (E.then (T.cond rfl (fun h => nomatch h) (fun _ => ?_)))
    refine T.skip (E.then (T.seq (T.region ?_)))
    refine L.a [] [] (Ac.bs (ty := tySnapSnap) (xs := []) .nil rfl rfl rfl rfl rfl rfl rfl) rfl rfl rfl rfl rfl ?_
    intro g1
    refine L.q 1 rfl ?_
    refine L.a [0] [0] (Ac.ap (ty := tySnapSnap) h0 rfl rfl rfl rfl rfl rfl rfl) rfl rfl rfl rfl rfl ?_
    rintro ⟨a1, c1⟩
    refine L.q 1 rfl ?_
    refine L.nil (E.then (T.ret ?_))
    subst r
    exact E.ret (a1, c1) [0] [] (.tmp rfl .nil) rfl rfl rfl

theorem c_sender_Sender_Ack {s_ : SenderSender} {k : Int} {id : Int} {have_ : ByteArray} (g_0 : Nat) (a_0_0 : Option Addr) (c_0_0 : Nat) (a_0_1 : Option Addr) (c_0_1 : Nat) (a_0_2 : Option Addr) (c_0_2 : Nat) (a_0_3 : Option Addr) (c_0_3 : Nat) (a_0_4 : Option Addr) (c_0_4 : Nat) (a_0_5 : Option Addr) (c_0_5 : Nat) (a_0_6 : Option Addr) (c_0_6 : Nat) {r : Bool × SenderSender} (H : p_sender_Sender_Ack s_ k id have_ = some r) : CT G 23 [.pointer (some ⟨g_0, 0, none⟩), .int .i64 k, .int .i64 id, .string have_] [Ch.box g_0 67 (bx67 s_ a_0_0 c_0_0 a_0_1 c_0_1 a_0_2 c_0_2 a_0_3 c_0_3 a_0_4 c_0_4 a_0_5 c_0_5 a_0_6 c_0_6), Ch.aro tySnapSnap 43 a_0_4 c_0_4 s_.kept, Ch.arr Ty.bool 4 a_0_6 c_0_6 s_.message.there] [Im.sl tyRowRow a_0_0 c_0_0 s_.current.rows, Im.sl tyRowGlyph a_0_1 c_0_1 s_.current.begun, Im.sl tyRowRow a_0_2 c_0_2 s_.acked.rows, Im.sl tyRowGlyph a_0_3 c_0_3 s_.acked.begun, Im.sl Ty.str a_0_5 c_0_5 s_.message.parts] (fun h : (Option Addr × Nat) × (Option Addr × Nat) × (Option Addr × Nat) => .bool r.1) (fun h => [Ch.box g_0 67 (bx67 r.2 a_0_0 c_0_0 a_0_1 c_0_1 h.1.1 h.1.2 h.2.1.1 h.2.1.2 h.2.2.1 h.2.2.2 a_0_5 c_0_5 a_0_6 c_0_6), Ch.aro tySnapSnap 43 h.2.2.1 h.2.2.2 r.2.kept, Ch.arr Ty.bool 4 a_0_6 c_0_6 r.2.message.there]) (fun h => [Im.sl tyRowRow a_0_0 c_0_0 r.2.current.rows, Im.sl tyRowGlyph a_0_1 c_0_1 r.2.current.begun, Im.sl tyRowRow h.1.1 h.1.2 r.2.acked.rows, Im.sl tyRowGlyph h.2.1.1 h.2.1.2 r.2.acked.begun, Im.sl Ty.str a_0_5 c_0_5 r.2.message.parts]) := by
  delta p_sender_Sender_Ack at H
  refine CT.of Go.Proofs.Tryz.func23 (by kernel_rfl) rfl rfl rfl fun K => ?_
  refine T.seq (T.region ?_)
  refine L.a [] [] (Ac.box rfl rfl) rfl rfl rfl rfl rfl ?_
  intro g1
  refine L.q 1 rfl ?_
  refine L.nil (E.then (T.seq (T.seq ?_)))
  obtain ⟨e5, H6, H7⟩ := bnd H
  refine T.join (η := Unit × Unit) (fun h => True) (fun h => [(0, .pointer (some ⟨g_0, 0, none⟩)), (3, .string have_), (5, .pointer (some ⟨g1, 0, none⟩)), (20, .bool e5)]) (fun h => [Ch.box g1 3 [.int .i64 k], Ch.box g_0 67 (bx67 s_ a_0_0 c_0_0 a_0_1 c_0_1 a_0_2 c_0_2 a_0_3 c_0_3 a_0_4 c_0_4 a_0_5 c_0_5 a_0_6 c_0_6), Ch.aro tySnapSnap 43 a_0_4 c_0_4 s_.kept, Ch.arr Ty.bool 4 a_0_6 c_0_6 s_.message.there]) (fun h => [Im.sl tyRowRow a_0_0 c_0_0 s_.current.rows, Im.sl tyRowGlyph a_0_1 c_0_1 s_.current.begun, Im.sl tyRowRow a_0_2 c_0_2 s_.acked.rows, Im.sl tyRowGlyph a_0_3 c_0_3 s_.acked.begun, Im.sl Ty.str a_0_5 c_0_5 s_.message.parts]) ?_ ?_
  · refine T.region ?_
    refine L.q 5 rfl ?_
    refine L.y (Yl.ldb 1 rfl rfl rfl rfl) rfl rfl rfl ?_
    refine L.q 2 rfl ?_
    refine L.cs 17 H6 rfl (fun hc H8 => ?_) (fun hc H8 => ?_)
    · refine L.q 3 rfl ?_
      refine L.nil ?_
      have hr := Option.some.inj H8
      subst e5
      exact E.give ((), ()) [0, 0, 0, 0] [0, 1, 2, 3, 4] trivial ⟨rfl, rfl, rfl, rfl, trivial⟩ rfl rfl
    refine L.q 3 rfl ?_
    refine L.nil ?_
    have hr := Option.some.inj H8
    subst e5
    exact E.give ((), ()) [0, 0, 0, 0] [0, 1, 2, 3, 4] trivial ⟨rfl, rfl, rfl, rfl, trivial⟩ rfl rfl
  rintro ⟨_, ⟨⟩⟩ _
  obtain ⟨e39, H40, H41⟩ := bnd H7
  refine T.join (η := Unit × Unit) (fun h => True) (fun h => [(0, .pointer (some ⟨g_0, 0, none⟩)), (5, .pointer (some ⟨g1, 0, none⟩))]) (fun h => [Ch.aro tySnapSnap 43 a_0_4 c_0_4 e39.kept, Ch.arr Ty.bool 4 a_0_6 c_0_6 e39.message.there, Ch.box g1 3 [.int .i64 k], Ch.box g_0 67 (bx67 e39 a_0_0 c_0_0 a_0_1 c_0_1 a_0_2 c_0_2 a_0_3 c_0_3 a_0_4 c_0_4 a_0_5 c_0_5 a_0_6 c_0_6)]) (fun h => [Im.sl tyRowRow a_0_0 c_0_0 e39.current.rows, Im.sl tyRowGlyph a_0_1 c_0_1 e39.current.begun, Im.sl tyRowRow a_0_2 c_0_2 e39.acked.rows, Im.sl tyRowGlyph a_0_3 c_0_3 e39.acked.begun, Im.sl Ty.str a_0_5 c_0_5 e39.message.parts, Im.sl tyRowRow a_0_0 c_0_0 s_.current.rows, Im.sl tyRowGlyph a_0_1 c_0_1 s_.current.begun, Im.sl tyRowRow a_0_2 c_0_2 s_.acked.rows, Im.sl tyRowGlyph a_0_3 c_0_3 s_.acked.begun, Im.sl Ty.str a_0_5 c_0_5 s_.message.parts]) ?_ ?_
  · refine T.bif rfl H40 (fun hc H42 => ?_) (fun hc H42 => ?_)
    · refine T.region ?_
      refine L.q 2 rfl ?_
      obtain ⟨r43, h44, H45⟩ := bnd H42
      refine L.a [1, 1, 1] [0, 1, 2, 3, 4] (Ac.call (c_sender_Sender_mark g_0 a_0_0 c_0_0 a_0_1 c_0_1 a_0_2 c_0_2 a_0_3 c_0_3 a_0_4 c_0_4 a_0_5 c_0_5 a_0_6 c_0_6 h44) rfl rfl rfl rfl) rfl rfl rfl rfl rfl ?_
      rintro ⟨⟩
      refine L.nil ?_
      have hr := Option.some.inj H45
      subst e39
      exact E.give ((), ()) [1, 1, 1, 0] [0, 1, 2, 3, 4, 5, 6, 7, 8, 9] trivial ⟨rfl, rfl, trivial⟩ rfl rfl
    refine T.skip ?_
    have hr := Option.some.inj H42
    subst e39
    exact E.give ((), ()) [2, 2, 0, 0] [0, 1, 2, 3, 4, 0, 1, 2, 3, 4] trivial ⟨rfl, rfl, trivial⟩ rfl rfl
  rintro ⟨_, ⟨⟩⟩ _
  refine T.seq (T.seq ?_)
  obtain ⟨e58, H59, H60⟩ := bnd H41
  refine T.join (η := Unit × Unit) (fun h => True) (fun h => [(0, .pointer (some ⟨g_0, 0, none⟩)), (5, .pointer (some ⟨g1, 0, none⟩)), (39, .bool e58)]) (fun h => [Ch.box g1 3 [.int .i64 k], Ch.box g_0 67 (bx67 e39 a_0_0 c_0_0 a_0_1 c_0_1 a_0_2 c_0_2 a_0_3 c_0_3 a_0_4 c_0_4 a_0_5 c_0_5 a_0_6 c_0_6), Ch.aro tySnapSnap 43 a_0_4 c_0_4 e39.kept, Ch.arr Ty.bool 4 a_0_6 c_0_6 e39.message.there]) (fun h => [Im.sl tyRowRow a_0_0 c_0_0 e39.current.rows, Im.sl tyRowGlyph a_0_1 c_0_1 e39.current.begun, Im.sl tyRowRow a_0_2 c_0_2 e39.acked.rows, Im.sl tyRowGlyph a_0_3 c_0_3 e39.acked.begun, Im.sl Ty.str a_0_5 c_0_5 e39.message.parts, Im.sl tyRowRow a_0_0 c_0_0 s_.current.rows, Im.sl tyRowGlyph a_0_1 c_0_1 s_.current.begun, Im.sl tyRowRow a_0_2 c_0_2 s_.acked.rows, Im.sl tyRowGlyph a_0_3 c_0_3 s_.acked.begun, Im.sl Ty.str a_0_5 c_0_5 s_.message.parts]) ?_ ?_
  · refine T.draw [] [0, 0, 0, 0] mo (by rfl) rfl ?_
    refine D.y 0 (Yl.ldb 2 rfl rfl rfl rfl) rfl rfl rfl rfl rfl rfl ?_
    refine D.q 1 rfl rfl rfl rfl rfl rfl ?_
    refine D.q 2 rfl rfl rfl rfl rfl rfl ?_
    refine D.q 3 rfl rfl rfl rfl rfl rfl ?_
    refine D.q 4 rfl rfl rfl rfl rfl rfl ?_
    refine D.y 5 (Yl.ldb 3 rfl rfl rfl rfl) rfl rfl rfl rfl rfl rfl ?_
    refine D.q 6 rfl rfl rfl rfl rfl rfl ?_
    refine D.q 7 rfl rfl rfl rfl rfl rfl ?_
    refine D.cs 31 H59 rfl (fun hc H62 => ?_) (fun hc H62 => ?_)
    · refine D.sk 8 rfl rfl rfl rfl rfl ?_
      refine D.sk 9 rfl rfl rfl rfl rfl ?_
      refine D.sk 10 rfl rfl rfl rfl rfl ?_
      refine D.sk 11 rfl rfl rfl rfl rfl ?_
      refine D.sk 12 rfl rfl rfl rfl rfl ?_
      refine D.sk 13 rfl rfl rfl rfl rfl ?_
      refine D.sk 14 rfl rfl rfl rfl rfl ?_
      refine D.q 15 rfl rfl rfl rfl rfl rfl ?_
      refine D.nil rfl rfl ?_
      have hr := Option.some.inj H62
      subst e58
      exact E.give ((), ()) [2, 2, 0, 0] [0, 1, 2, 3, 4, 5, 6, 7, 8, 9] trivial ⟨rfl, rfl, rfl, trivial⟩ rfl rfl
    refine D.y 8 (Yl.ldb 2 rfl rfl rfl rfl) rfl rfl rfl rfl rfl rfl ?_
    refine D.q 9 rfl rfl rfl rfl rfl rfl ?_
    refine D.q 10 rfl rfl rfl rfl rfl rfl ?_
    refine D.q 11 rfl rfl rfl rfl rfl rfl ?_
    refine D.q 12 rfl rfl rfl rfl rfl rfl ?_
    refine D.y 13 (Yl.ldb 3 rfl rfl rfl rfl) rfl rfl rfl rfl rfl rfl ?_
    refine D.q 14 rfl rfl rfl rfl rfl rfl ?_
    refine D.q 15 rfl rfl rfl rfl rfl rfl ?_
    refine D.nil rfl rfl ?_
    have hr := Option.some.inj H62
    subst e58
    exact E.give ((), ()) [2, 2, 0, 0] [0, 1, 2, 3, 4, 5, 6, 7, 8, 9] trivial ⟨rfl, rfl, rfl, trivial⟩ rfl rfl
  rintro ⟨_, ⟨⟩⟩ _
  refine T.bif rfl H60 (fun hc H64 => ?_) (fun hc H64 => ?_)
  · refine T.seq (T.region ?_)
    refine L.q 1 rfl ?_
    refine L.nil (E.then (T.ret (E.then_ret ?_)))
    have hr := Option.some.inj H64
    subst r
    exact E.ret ((a_0_2, c_0_2), (a_0_3, c_0_3), (a_0_4, c_0_4)) [1, 1, 1] [0, 1, 2, 3, 4] (.tmp rfl .nil) rfl rfl rfl
  refine T.skip (E.then (T.seq (T.region ?_)))
  refine L.q 3 rfl ?_
  refine L.y (Yl.ldb 1 rfl rfl rfl rfl) rfl rfl rfl ?_
  refine L.q 1 rfl ?_
  obtain ⟨r65, h66, H67⟩ := bnd H64
  refine L.br (Ac.call (c_slices_IndexFunc_snap_Snap_Sender_Ack_1_v2 a_0_4 c_0_4 g1 h66) rfl rfl rfl rfl) (Bw.cho 2 rfl (Bw.bx 0 rfl (Bw.nil))) rfl rfl rfl ?_
  intro _
  refine L.q 1 rfl ?_
  refine L.nil (E.then (T.seq (T.seq (T.region ?_))))
  refine L.q 2 rfl ?_
  refine L.nil (E.then ?_)
  refine T.bif rfl H67 (fun hc H69 => ?_) (fun hc H69 => ?_)
  · refine T.seq (T.region ?_)
    refine L.q 4 rfl ?_
    refine L.a [1] [] (Ac.stb rfl rfl rfl rfl rfl rfl) rfl rfl rfl rfl rfl ?_
    intro _
    refine L.nil (E.then (T.seq (T.region ?_)))
    refine L.q 1 rfl ?_
    refine L.nil (E.then (T.ret (E.then_ret ?_)))
    refine E.know [Im.sl tyRowRow none 0 []] (fun A w _ _ f hf => by rw [List.mem_singleton.1 hf]; exact Im.sl_nil A w) ?_
    refine E.know [Im.sl tyRowGlyph none 0 []] (fun A w _ _ f hf => by rw [List.mem_singleton.1 hf]; exact Im.sl_nil A w) ?_
    have hr := Option.some.inj H69
    subst r
    exact E.ret ((none, 0), (none, 0), (a_0_4, c_0_4)) [0, 1, 1] [2, 3, 1, 0, 6] (.tmp rfl .nil) rfl rfl rfl
  refine T.skip (E.then (T.seq (T.region ?_)))
  refine L.q 4 rfl ?_
  refine L.y (Yl.ldb 1 rfl rfl rfl rfl) rfl rfl rfl ?_
  refine L.q 1 rfl ?_
  obtain ⟨x72, h73, H74⟩ := bnd H69
  refine L.addrq 2 rfl (idx_lt h73) fun b75 o76 e77 => ?_
  obtain rfl : a_0_4 = some ⟨b75, o76, none⟩ := e77
  refine L.y (Yl.ia h73 rfl rfl rfl rfl rfl rfl) rfl rfl rfl ?_
  refine L.a [2] [] (Ac.olo r65.toNat 0 (v := (fun h : (Option Addr × Nat) × (Option Addr × Nat) => (fun a78 c79 a80 c81 => .agg (bx43 x72 a78 c79 a80 c81).toArray) h.1.1 h.1.2 h.2.1 h.2.2)) (idx_some h73).2 rfl rfl rfl (fun _ => rfl)) rfl rfl rfl rfl rfl ?_
  rintro ⟨⟨a78, c79⟩, ⟨a80, c81⟩⟩
  refine L.q 2 rfl ?_
  refine L.a [2] [] (Ac.stb rfl rfl rfl rfl rfl rfl) rfl rfl rfl rfl rfl ?_
  intro _
  refine L.nil (E.then (T.seq (T.region ?_)))
  refine L.q 4 rfl ?_
  refine L.y (Yl.ldb 0 rfl rfl rfl rfl) rfl rfl rfl ?_
  refine L.q 2 rfl ?_
  obtain ⟨_, h84, H85⟩ := bnd H74
  refine L.a [1] [] (Ac.ors (ty := tySnapSnap) h84 rfl rfl rfl rfl rfl rfl rfl rfl) rfl rfl rfl rfl rfl ?_
  rintro ⟨a86, c87⟩
  refine L.frzo 0 rfl ?_
  obtain ⟨r90, h91, H92⟩ := bnd H85
  refine L.a [] [0] (Ac.call (c_slices_Clone_snap_Snap a86 c87 h91) rfl rfl rfl rfl) rfl rfl rfl rfl rfl ?_
  rintro ⟨a93, c94⟩
  refine L.q 2 rfl ?_
  refine L.a [1] [] (Ac.stb rfl rfl rfl rfl rfl rfl) rfl rfl rfl rfl rfl ?_
  intro _
  refine L.nil (E.then (T.seq (T.region ?_)))
  refine L.q 1 rfl ?_
  refine L.nil (E.then (T.ret ?_))
  refine E.off' 1 rfl ?_
  have hr := Option.some.inj H92
  subst r
  exact E.ret ((a78, c79), (a80, c81), (a93, c94)) [1, 0, 1] [3, 4, 1, 2, 7] (.tmp rfl .nil) rfl rfl rfl

theorem c_law19_do {s_ : SenderSender} {x_ : Ref19Sender} {a : Law19Act} {now : Int} (g_0 : Nat) (a_0_0 : Option Addr) (c_0_0 : Nat) (a_0_1 : Option Addr) (c_0_1 : Nat) (a_0_2 : Option Addr) (c_0_2 : Nat) (a_0_3 : Option Addr) (c_0_3 : Nat) (a_0_4 : Option Addr) (c_0_4 : Nat) (a_0_5 : Option Addr) (c_0_5 : Nat) (a_0_6 : Option Addr) (c_0_6 : Nat) (a_1_0 : Option Addr) (c_1_0 : Nat) (a_1_1 : Option Addr) (c_1_1 : Nat) (a_1_2 : Option Addr) (c_1_2 : Nat) (a_1_3 : Option Addr) (c_1_3 : Nat) (a_1_4 : Option Addr) (c_1_4 : Nat) (a_1_5 : Option Addr) (c_1_5 : Nat) (a_1_6 : Option Addr) (c_1_6 : Nat) (a_2_0 : Option Addr) (c_2_0 : Nat) (a_2_1 : Option Addr) (c_2_1 : Nat) {r : Ref19Sender × Bool × SenderSender} (H : p_law19_do s_ x_ a now = some r) : CT G 7 [.pointer (some ⟨g_0, 0, none⟩), .agg (bx38 x_ a_1_0 c_1_0 a_1_1 c_1_1 a_1_2 c_1_2 a_1_3 c_1_3 a_1_4 c_1_4 a_1_5 c_1_5 a_1_6 c_1_6).toArray, .agg (bx45 a a_2_0 c_2_0 a_2_1 c_2_1).toArray, .int .i64 now] [Ch.box g_0 67 (bx67 s_ a_0_0 c_0_0 a_0_1 c_0_1 a_0_2 c_0_2 a_0_3 c_0_3 a_0_4 c_0_4 a_0_5 c_0_5 a_0_6 c_0_6), Ch.aro tySnapSnap 43 a_0_4 c_0_4 s_.kept, Ch.arr Ty.bool 4 a_0_6 c_0_6 s_.message.there] [Im.sl tyRowRow a_0_0 c_0_0 s_.current.rows, Im.sl tyRowGlyph a_0_1 c_0_1 s_.current.begun, Im.sl tyRowRow a_0_2 c_0_2 s_.acked.rows, Im.sl tyRowGlyph a_0_3 c_0_3 s_.acked.begun, Im.sl Ty.str a_0_5 c_0_5 s_.message.parts, Im.sl tyRef09Row a_1_0 c_1_0 x_.current.rows, Im.sl tyRef09Glyph a_1_1 c_1_1 x_.current.begun, Im.sl tyRef09Row a_1_2 c_1_2 x_.acked.rows, Im.sl tyRef09Glyph a_1_3 c_1_3 x_.acked.begun, Im.sl tyRef16Snap a_1_4 c_1_4 x_.kept, Im.sl Ty.str a_1_5 c_1_5 x_.parts, Im.sl Ty.bool a_1_6 c_1_6 x_.there, Im.sl tyRowRow a_2_0 c_2_0 a.snap.rows, Im.sl tyRowGlyph a_2_1 c_2_1 a.snap.begun, Im.sl (Ty.int .u32) (some ⟨0, 0, none⟩) 16 t_sum_half] (fun h : (Option Addr × Nat) × (Option Addr × Nat) × (Option Addr × Nat) × (Option Addr × Nat) × (Option Addr × Nat) × (Option Addr × Nat) × (Option Addr × Nat) × (Option Addr × Nat) × (Option Addr × Nat) × (Option Addr × Nat) × (Option Addr × Nat) × (Option Addr × Nat) × (Option Addr × Nat) × (Option Addr × Nat) => .tuple #[.agg (bx38 r.1 h.1.1 h.1.2 h.2.1.1 h.2.1.2 h.2.2.1.1 h.2.2.1.2 h.2.2.2.1.1 h.2.2.2.1.2 h.2.2.2.2.1.1 h.2.2.2.2.1.2 h.2.2.2.2.2.1.1 h.2.2.2.2.2.1.2 h.2.2.2.2.2.2.1.1 h.2.2.2.2.2.2.1.2).toArray, .bool r.2.1]) (fun h => [Ch.box g_0 67 (bx67 r.2.2 h.2.2.2.2.2.2.2.1.1 h.2.2.2.2.2.2.2.1.2 h.2.2.2.2.2.2.2.2.1.1 h.2.2.2.2.2.2.2.2.1.2 h.2.2.2.2.2.2.2.2.2.1.1 h.2.2.2.2.2.2.2.2.2.1.2 h.2.2.2.2.2.2.2.2.2.2.1.1 h.2.2.2.2.2.2.2.2.2.2.1.2 h.2.2.2.2.2.2.2.2.2.2.2.1.1 h.2.2.2.2.2.2.2.2.2.2.2.1.2 h.2.2.2.2.2.2.2.2.2.2.2.2.1.1 h.2.2.2.2.2.2.2.2.2.2.2.2.1.2 h.2.2.2.2.2.2.2.2.2.2.2.2.2.1 h.2.2.2.2.2.2.2.2.2.2.2.2.2.2), Ch.aro tySnapSnap 43 h.2.2.2.2.2.2.2.2.2.2.2.1.1 h.2.2.2.2.2.2.2.2.2.2.2.1.2 r.2.2.kept, Ch.arr Ty.bool 4 h.2.2.2.2.2.2.2.2.2.2.2.2.2.1 h.2.2.2.2.2.2.2.2.2.2.2.2.2.2 r.2.2.message.there]) (fun h => [Im.sl tyRef09Row h.1.1 h.1.2 r.1.current.rows, Im.sl tyRef09Glyph h.2.1.1 h.2.1.2 r.1.current.begun, Im.sl tyRef09Row h.2.2.1.1 h.2.2.1.2 r.1.acked.rows, Im.sl tyRef09Glyph h.2.2.2.1.1 h.2.2.2.1.2 r.1.acked.begun, Im.sl tyRef16Snap h.2.2.2.2.1.1 h.2.2.2.2.1.2 r.1.kept, Im.sl Ty.str h.2.2.2.2.2.1.1 h.2.2.2.2.2.1.2 r.1.parts, Im.sl Ty.bool h.2.2.2.2.2.2.1.1 h.2.2.2.2.2.2.1.2 r.1.there, Im.sl tyRowRow h.2.2.2.2.2.2.2.1.1 h.2.2.2.2.2.2.2.1.2 r.2.2.current.rows, Im.sl tyRowGlyph h.2.2.2.2.2.2.2.2.1.1 h.2.2.2.2.2.2.2.2.1.2 r.2.2.current.begun, Im.sl tyRowRow h.2.2.2.2.2.2.2.2.2.1.1 h.2.2.2.2.2.2.2.2.2.1.2 r.2.2.acked.rows, Im.sl tyRowGlyph h.2.2.2.2.2.2.2.2.2.2.1.1 h.2.2.2.2.2.2.2.2.2.2.1.2 r.2.2.acked.begun, Im.sl Ty.str h.2.2.2.2.2.2.2.2.2.2.2.2.1.1 h.2.2.2.2.2.2.2.2.2.2.2.2.1.2 r.2.2.message.parts]) := by
  delta p_law19_do at H
  refine CT.of Go.Proofs.Tryz.func7 (by kernel_rfl) rfl rfl rfl fun K => ?_
  refine T.seq (T.region ?_)
  refine L.a [] [] (Ac.box rfl rfl) rfl rfl rfl rfl rfl ?_
  intro g1
  refine L.a [] [] (Ac.box rfl rfl) rfl rfl rfl rfl rfl ?_
  intro g2
  refine L.a [] [] (Ac.alloc rfl rfl) rfl rfl rfl rfl rfl ?_
  intro g3
  refine L.q 1 rfl ?_
  refine L.nil (E.then (T.seq (T.seq (T.region ?_))))
  refine L.q 1 rfl ?_
  refine L.y (Yl.ldb 1 rfl rfl rfl rfl) rfl rfl rfl ?_
  refine L.nil (E.then (T.block (T.seq (T.region ?_))))
  refine L.q 2 rfl ?_
  refine L.nil (E.then ?_)
  refine T.bif rfl H (fun hc H276 => ?_) (fun hc H276 => ?_)
  · refine T.seq (T.region ?_)
    refine L.q 1 rfl ?_
    refine L.y (Yl.ldb 1 rfl rfl rfl rfl) rfl rfl rfl ?_
    obtain ⟨r277, h278, H279⟩ := bnd H276
    refine L.a [] [12, 13] (Ac.call (c_law16_Cut a_2_0 c_2_0 a_2_1 c_2_1 h278) rfl rfl rfl rfl) rfl rfl rfl rfl rfl ?_
    rintro ⟨⟨a280, c281⟩, ⟨a282, c283⟩⟩
    refine L.a [] [] (Ac.alloc rfl rfl) rfl rfl rfl rfl rfl ?_
    intro g286
    refine L.a [0] [] (Ac.stb rfl rfl rfl rfl rfl rfl) rfl rfl rfl rfl rfl ?_
    intro _
    refine L.nil (E.then (T.seq (T.region ?_)))
    refine L.q 2 rfl ?_
    refine L.y (Yl.ldb 3 rfl rfl rfl rfl) rfl rfl rfl ?_
    refine L.q 1 rfl ?_
    refine L.y (Yl.ldb 2 rfl rfl rfl rfl) rfl rfl rfl ?_
    refine L.q 4 rfl ?_
    refine L.a [0] [] (Ac.stb rfl rfl rfl rfl rfl rfl) rfl rfl rfl rfl rfl ?_
    intro _
    refine L.nil (E.then (T.seq ?_))
    refine T.draw [8] [0, 0, 0, 0, 0, 0, 0] mo (by rfl) rfl ?_
    refine D.y 0 (Yl.ldb 3 rfl rfl rfl rfl) rfl rfl rfl rfl rfl rfl ?_
    refine D.y 1 (Yl.ldb 0 rfl rfl rfl rfl) rfl rfl rfl rfl rfl rfl ?_
    refine DF.of rfl ?_
    obtain ⟨r359, h360, H361⟩ := bnd H279
    refine DF.add _ (FSp.ac 2 [0, 1] (Ac.call (c_law16_Told a280 c281 a282 c283 h360) rfl rfl rfl rfl) rfl rfl rfl rfl rfl) rfl ?_
    refine DF.add _ (FSp.ac 7 [] (Ac.alloc rfl rfl) rfl rfl rfl rfl rfl) rfl ?_
    refine DF.step 3 rfl rfl rfl rfl rfl ?_
    refine DFp.use 1 rfl rfl rfl ?_
    rintro ⟨⟨a362, c363⟩, ⟨a364, c365⟩⟩
    obtain ⟨r369, h370, H371⟩ := bnd H361
    refine DFp.a [] [9, 10, 11, 12, 13, 14, 15, 0, 1] (Ac.call (c_ref19_Note a_1_0 c_1_0 a_1_1 c_1_1 a_1_2 c_1_2 a_1_3 c_1_3 a_1_4 c_1_4 a_1_5 c_1_5 a_1_6 c_1_6 a362 c363 a364 c365 h370) rfl rfl rfl rfl) rfl rfl rfl rfl rfl rfl rfl rfl ?_
    rintro ⟨⟨a372, c373⟩, ⟨a374, c375⟩⟩
    refine DF.add _ (FSp.q 4 rfl rfl rfl rfl rfl) rfl ?_
    refine DF.add _ (FSp.dep 0 rfl rfl fun _ => FSp.q 5 rfl rfl rfl rfl rfl) rfl ?_
    refine DF.add _ (FSp.dep 1 rfl rfl fun _ => FSp.q 6 rfl rfl rfl rfl rfl) rfl ?_
    refine DF.step 8 rfl rfl rfl rfl rfl ?_
    refine DFp.use 1 rfl rfl rfl ?_
    intro _
    refine DFp.use 1 rfl rfl rfl ?_
    intro _
    refine DFp.use 1 rfl rfl rfl ?_
    intro g368
    refine DFp.alf [7] [] (Ac.stb rfl rfl rfl rfl rfl rfl) rfl (fo_cons (FSp.q 6 rfl rfl rfl rfl rfl) (fo_nil)) rfl rfl rfl rfl rfl rfl rfl rfl ?_
    intro _
    refine DF.add _ (FSp.dep 0 rfl rfl fun _ => FSp.q 9 rfl rfl rfl rfl rfl) rfl ?_
    refine DF.fin rfl rfl rfl rfl rfl ?_
    refine DFe.use ?_
    intro _
    refine DFe.use ?_
    intro _
    refine DFe.nil ?_
    refine E.then (T.seq ?_)
    refine T.draw [6] [0, 0, 0, 0, 0] mo (by rfl) rfl ?_
    refine D.y 0 (Yl.ldb 0 rfl rfl rfl rfl) rfl rfl rfl rfl rfl rfl ?_
    refine D.q 1 rfl rfl rfl rfl rfl rfl ?_
    refine D.y 2 (Yl.ldb 1 rfl rfl rfl rfl) rfl rfl rfl rfl rfl rfl ?_
    refine D.q 4 rfl rfl rfl rfl rfl rfl ?_
    obtain ⟨r425, h426, H427⟩ := bnd H371
    refine D.one rfl rfl rfl (Dp.a [0, 0, 0] [11, 12, 13, 14, 15, 9, 10] (Ac.call (c_sender_Sender_Note g_0 a_0_0 c_0_0 a_0_1 c_0_1 a_0_2 c_0_2 a_0_3 c_0_3 a_0_4 c_0_4 a_0_5 c_0_5 a_0_6 c_0_6 a280 c281 a282 c283 h426) rfl rfl rfl rfl) rfl rfl rfl rfl rfl rfl ?_)
    rintro ⟨⟨a428, c429⟩, ⟨a430, c431⟩⟩
    refine D.q 5 rfl rfl rfl rfl rfl rfl ?_
    refine D.one rfl rfl rfl (Dp.al [2] [] (Ac.stb rfl rfl rfl rfl rfl rfl) rfl rfl rfl rfl rfl rfl rfl ?_)
    intro _
    refine D.q 7 rfl rfl rfl rfl rfl rfl ?_
    refine D.nil rfl rfl ?_
    refine E.then (T.ret (E.block_ret (E.then_ret ?_)))
    have hr := Option.some.inj H427
    subst r
    exact E.ret ((a372, c373), (a374, c375), (a_1_2, c_1_2), (a_1_3, c_1_3), (a_1_4, c_1_4), (a_1_5, c_1_5), (a_1_6, c_1_6), (a428, c429), (a430, c431), (a_0_2, c_0_2), (a_0_3, c_0_3), (a_0_4, c_0_4), (a_0_5, c_0_5), (a_0_6, c_0_6)) [5, 5, 5] [5, 6, 7, 8, 9, 10, 11, 0, 1, 2, 3, 4] (.cell 0 rfl rfl rfl (.tmp rfl .nil)) rfl rfl rfl
  refine T.seq (T.region ?_)
  refine L.q 2 rfl ?_
  refine L.nil (E.then ?_)
  refine T.bif rfl H276 (fun hc H439 => ?_) (fun hc H439 => ?_)
  · refine T.seq (T.region ?_)
    refine L.y (Yl.ldb 2 rfl rfl rfl rfl) rfl rfl rfl ?_
    refine L.q 1 rfl ?_
    obtain ⟨r440, h441, H442⟩ := bnd H439
    refine L.a [] [5, 6, 7, 8, 9, 10, 11] (Ac.call (c_ref19_Step a_1_0 c_1_0 a_1_1 c_1_1 a_1_2 c_1_2 a_1_3 c_1_3 a_1_4 c_1_4 a_1_5 c_1_5 a_1_6 c_1_6 h441) rfl rfl rfl rfl) rfl rfl rfl rfl rfl ?_
    rintro ⟨⟨a443, c444⟩, ⟨a445, c446⟩, ⟨a447, c448⟩, ⟨a449, c450⟩⟩
    refine L.q 3 rfl ?_
    refine L.a [] [] (Ac.alloc rfl rfl) rfl rfl rfl rfl rfl ?_
    intro g459
    refine L.a [0] [] (Ac.stb rfl rfl rfl rfl rfl rfl) rfl rfl rfl rfl rfl ?_
    intro _
    refine L.q 1 rfl ?_
    refine L.nil (E.then (T.seq ?_))
    refine T.draw [6] [0, 0, 0, 0, 0] mo (by rfl) rfl ?_
    refine D.y 0 (Yl.ldb 0 rfl rfl rfl rfl) rfl rfl rfl rfl rfl rfl ?_
    refine D.q 1 rfl rfl rfl rfl rfl rfl ?_
    refine D.q 2 rfl rfl rfl rfl rfl rfl ?_
    refine D.q 4 rfl rfl rfl rfl rfl rfl ?_
    obtain ⟨r526, h527, H528⟩ := bnd H442
    refine D.one rfl rfl rfl (Dp.a [0, 0, 0] [7, 8, 9, 10, 11, 21] (Ac.call (c_sender_Sender_Step g_0 a_0_0 c_0_0 a_0_1 c_0_1 a_0_2 c_0_2 a_0_3 c_0_3 a_0_4 c_0_4 a_0_5 c_0_5 a_0_6 c_0_6 h527) rfl rfl rfl rfl) rfl rfl rfl rfl rfl rfl ?_)
    rintro ⟨⟨a529, c530⟩, ⟨a531, c532⟩, ⟨a533, c534⟩, ⟨a535, c536⟩⟩
    obtain ⟨r545, h546, H547⟩ := bnd H528
    refine D.one rfl rfl rfl (Dp.br (Ac.call (c_law19_Grams a529 c530 a449 c450 h546) rfl rfl rfl rfl) (Bw.ch 5 rfl (Bw.ch 1 rfl (Bw.nil))) rfl rfl rfl rfl ?_)
    intro _
    refine D.one rfl rfl rfl (Dp.al [2] [] (Ac.stb rfl rfl rfl rfl rfl rfl) rfl rfl rfl rfl rfl rfl rfl ?_)
    intro _
    refine D.q 7 rfl rfl rfl rfl rfl rfl ?_
    refine D.nil rfl rfl ?_
    refine E.then (T.ret (E.block_ret (E.then_ret ?_)))
    have hr := Option.some.inj H547
    subst r
    exact E.ret ((a_1_0, c_1_0), (a_1_1, c_1_1), (a_1_2, c_1_2), (a_1_3, c_1_3), (a443, c444), (a445, c446), (a447, c448), (a_0_0, c_0_0), (a_0_1, c_0_1), (a_0_2, c_0_2), (a_0_3, c_0_3), (a531, c532), (a533, c534), (a535, c536)) [6, 6, 6] [5, 6, 7, 8, 9, 10, 11, 0, 1, 2, 3, 4] (.cell 0 rfl rfl rfl (.tmp rfl .nil)) rfl rfl rfl
  refine T.skip (E.block (E.then (T.seq ?_)))
  refine T.draw [] [0, 0, 0, 0, 0, 0] mo (by rfl) rfl ?_
  refine D.q 0 rfl rfl rfl rfl rfl rfl ?_
  refine D.q 1 rfl rfl rfl rfl rfl rfl ?_
  refine D.y 2 (Yl.ldb 2 rfl rfl rfl rfl) rfl rfl rfl rfl rfl rfl ?_
  refine D.q 3 rfl rfl rfl rfl rfl rfl ?_
  refine D.y 4 (Yl.ldb 1 rfl rfl rfl rfl) rfl rfl rfl rfl rfl rfl ?_
  refine D.q 5 rfl rfl rfl rfl rfl rfl ?_
  refine D.q 6 rfl rfl rfl rfl rfl rfl ?_
  refine D.q 7 rfl rfl rfl rfl rfl rfl ?_
  refine D.q 8 rfl rfl rfl rfl rfl rfl ?_
  refine D.y 9 (Yl.ldb 2 rfl rfl rfl rfl) rfl rfl rfl rfl rfl rfl ?_
  refine D.q 10 rfl rfl rfl rfl rfl rfl ?_
  refine D.y 11 (Yl.ldb 1 rfl rfl rfl rfl) rfl rfl rfl rfl rfl rfl ?_
  refine D.q 12 rfl rfl rfl rfl rfl rfl ?_
  refine D.q 13 rfl rfl rfl rfl rfl rfl ?_
  refine D.q 14 rfl rfl rfl rfl rfl rfl ?_
  refine D.q 15 rfl rfl rfl rfl rfl rfl ?_
  refine D.nil rfl rfl ?_
  refine E.then (T.seq (T.region ?_))
  refine L.q 1 rfl ?_
  refine L.y (Yl.ldb 1 rfl rfl rfl rfl) rfl rfl rfl ?_
  obtain ⟨r548, h549, H550⟩ := bnd H439
  refine L.a [] [] (Ac.call (c_law01_Cut h549) rfl rfl rfl rfl) rfl rfl rfl rfl rfl ?_
  rintro ⟨⟩
  refine L.q 1 rfl ?_
  refine L.nil (E.then (T.seq (T.region ?_)))
  refine L.y (Yl.ldb 2 rfl rfl rfl rfl) rfl rfl rfl ?_
  refine L.q 3 rfl ?_
  obtain ⟨r551, h552, H553⟩ := bnd H550
  refine L.a [] [5, 6, 7, 8, 9, 10, 11] (Ac.call (c_ref19_Ack a_1_0 c_1_0 a_1_1 c_1_1 a_1_2 c_1_2 a_1_3 c_1_3 a_1_4 c_1_4 a_1_5 c_1_5 a_1_6 c_1_6 h552) rfl rfl rfl rfl) rfl rfl rfl rfl rfl ?_
  rintro ⟨⟨a554, c555⟩, ⟨a556, c557⟩, ⟨a558, c559⟩, ⟨a560, c561⟩⟩
  refine L.q 3 rfl ?_
  refine L.a [] [] (Ac.alloc rfl rfl) rfl rfl rfl rfl rfl ?_
  intro g569
  refine L.a [0] [] (Ac.stb rfl rfl rfl rfl rfl rfl) rfl rfl rfl rfl rfl ?_
  intro _
  refine L.q 1 rfl ?_
  refine L.nil (E.then (T.seq ?_))
  refine T.draw [8] [0, 0, 0, 0] mo (by rfl) rfl ?_
  refine D.y 0 (Yl.ldb 0 rfl rfl rfl rfl) rfl rfl rfl rfl rfl rfl ?_
  refine D.q 1 rfl rfl rfl rfl rfl rfl ?_
  refine D.q 2 rfl rfl rfl rfl rfl rfl ?_
  refine D.q 3 rfl rfl rfl rfl rfl rfl ?_
  refine D.q 4 rfl rfl rfl rfl rfl rfl ?_
  refine D.q 6 rfl rfl rfl rfl rfl rfl ?_
  obtain ⟨r618, h619, H620⟩ := bnd H553
  refine D.one rfl rfl rfl (Dp.a [0, 0, 0] [7, 8, 9, 10, 11] (Ac.call (c_sender_Sender_Ack g_0 a_0_0 c_0_0 a_0_1 c_0_1 a_0_2 c_0_2 a_0_3 c_0_3 a_0_4 c_0_4 a_0_5 c_0_5 a_0_6 c_0_6 h619) rfl rfl rfl rfl) rfl rfl rfl rfl rfl rfl ?_)
  rintro ⟨⟨a621, c622⟩, ⟨a623, c624⟩, ⟨a625, c626⟩⟩
  refine D.q 7 rfl rfl rfl rfl rfl rfl ?_
  refine D.one rfl rfl rfl (Dp.al [1] [] (Ac.stb rfl rfl rfl rfl rfl rfl) rfl rfl rfl rfl rfl rfl rfl ?_)
  intro _
  refine D.q 9 rfl rfl rfl rfl rfl rfl ?_
  refine D.nil rfl rfl ?_
  refine E.then (T.ret ?_)
  have hr := Option.some.inj H620
  subst r
  exact E.ret ((a_1_0, c_1_0), (a_1_1, c_1_1), (a554, c555), (a556, c557), (a558, c559), (a_1_5, c_1_5), (a560, c561), (a_0_0, c_0_0), (a_0_1, c_0_1), (a621, c622), (a623, c624), (a625, c626), (a_0_5, c_0_5), (a_0_6, c_0_6)) [4, 4, 4] [5, 6, 7, 8, 9, 10, 11, 0, 1, 2, 3, 4] (.cell 0 rfl rfl rfl (.tmp rfl .nil)) rfl rfl rfl

theorem c_slices_Clone_snap_Snap_lo {s_ : List SnapSnap} (a_0 : Option Addr) (c_0 : Nat) {r : List SnapSnap} (H : p_slices_Clone_snap_Snap s_ = some r) : CT G 24 [.slice a_0 s_.length c_0] [Ch.aro tySnapSnap 43 a_0 c_0 s_] [] (fun h : (Option Addr × Nat) => .slice h.1 r.length h.2) (fun h => [Ch.arr tySnapSnap 43 h.1 h.2 r, Ch.aro tySnapSnap 43 a_0 c_0 s_]) (fun h => []) := by
  delta p_slices_Clone_snap_Snap at H
  refine CT.of Go.Proofs.Tryz.func24 (by kernel_rfl) rfl rfl rfl fun K => ?_
  obtain ⟨_, h0, H⟩ := bnd H
  have hr := Option.some.inj H
  refine T.seq (T.region (L.q 1 rfl (L.nil (E.then (T.seq (T.seq (T.region ?_)))))))
  refine L.q 1 rfl ?_
  refine L.nilo 0 rfl rfl rfl rfl rfl rfl rfl rfl rfl (fun hx => ?_) ?_
  · refine L.nil (E.then (T.cond rfl (fun _ => ?_) (fun h => nomatch h)))
    refine T.seq (T.region (L.q 1 rfl (L.nil (E.then (T.ret (E.then_ret ?_))))))
    subst hx
    subst r
    refine E.nil0 tySnapSnap 43 ?_
    exact E.ret (none, 0) [0, 0] [] (.tmp rfl .nil) rfl rfl rfl
  · refine L.nil (E.then (T.cond rfl (fun h => nomatch h) (fun _ => ?_)))
    refine T.skip (E.then (T.seq (T.region ?_)))
    refine L.a [] [] (Ac.bs (ty := tySnapSnap) (xs := []) .nil rfl rfl rfl rfl rfl rfl rfl) rfl rfl rfl rfl rfl ?_
    intro g1
    refine L.q 1 rfl ?_
    refine L.a [0, 0] [] (Ac.apo (ty := tySnapSnap) h0 rfl rfl rfl rfl rfl rfl rfl) rfl rfl rfl rfl rfl ?_
    rintro ⟨a1, c1⟩
    refine L.q 1 rfl ?_
    refine L.nil (E.then (T.ret ?_))
    subst r
    exact E.ret (a1, c1) [0, 0] [] (.tmp rfl .nil) rfl rfl rfl

theorem c_slices_Clone_bool_l {s_ : List Bool} (a_0 : Option Addr) (c_0 : Nat) {r : List Bool} (H : p_slices_Clone_bool s_ = some r) : CT G 25 [.slice a_0 s_.length c_0] [Ch.arr Ty.bool 4 a_0 c_0 s_] [] (fun h : (Option Addr × Nat) => .slice h.1 r.length h.2) (fun h => [Ch.arr Ty.bool 4 h.1 h.2 r, Ch.arr Ty.bool 4 a_0 c_0 s_]) (fun h => []) := by
  delta p_slices_Clone_bool at H
  refine CT.of Go.Proofs.Tryz.func25 (by kernel_rfl) rfl rfl rfl fun K => ?_
  obtain ⟨_, h0, H⟩ := bnd H
  have hr := Option.some.inj H
  refine T.seq (T.region (L.q 1 rfl (L.nil (E.then (T.seq (T.seq (T.region ?_)))))))
  refine L.cap 0 rfl fun hle => ?_
  have hv := vw_all (ty := Ty.bool) (a0 := a_0) hle
  rw [← cut_all s_] at h0 hr
  refine L.sl 0 (k' := (cut s_ 0 (s_.length : Int)).length) (by rw [cut_all]) rfl ?_
  refine L.q 1 rfl ?_
  refine L.nilv 0 hv rfl rfl rfl rfl rfl rfl rfl rfl rfl (fun hx => ?_) ?_
  · refine L.nil (E.then (T.cond rfl (fun _ => ?_) (fun h => nomatch h)))
    refine T.seq (T.region (L.q 1 rfl (L.nil (E.then (T.ret (E.then_ret ?_))))))
    rw [hx] at hr
    subst r
    refine E.nil0 Ty.bool 4 ?_
    exact E.ret (none, 0) [0, 0] [] (.tmp rfl .nil) rfl rfl rfl
  · refine L.nil (E.then (T.cond rfl (fun h => nomatch h) (fun _ => ?_)))
    refine T.skip (E.then (T.seq (T.region ?_)))
    refine L.a [] [] (Ac.bs (ty := Ty.bool) (xs := []) .nil rfl rfl rfl rfl rfl rfl rfl) rfl rfl rfl rfl rfl ?_
    intro g1
    refine L.q 1 rfl ?_
    refine L.a [0, 0] [] (Ac.apv (ty := Ty.bool) hv h0 rfl rfl rfl rfl rfl rfl rfl) rfl rfl rfl rfl rfl ?_
    rintro ⟨a1, c1⟩
    refine L.q 1 rfl ?_
    refine L.nil (E.then (T.ret ?_))
    subst r
    exact E.ret (a1, c1) [0, 0] [] (.tmp rfl .nil) rfl rfl rfl

theorem c_sender_Sender_Clone {s_ : SenderSender} (g_0 : Nat) (a_0_0 : Option Addr) (c_0_0 : Nat) (a_0_1 : Option Addr) (c_0_1 : Nat) (a_0_2 : Option Addr) (c_0_2 : Nat) (a_0_3 : Option Addr) (c_0_3 : Nat) (a_0_4 : Option Addr) (c_0_4 : Nat) (a_0_5 : Option Addr) (c_0_5 : Nat) (a_0_6 : Option Addr) (c_0_6 : Nat) {r : SenderSender} (H : p_sender_Sender_Clone s_ = some r) : CT G 8 [.pointer (some ⟨g_0, 0, none⟩)] [Ch.box g_0 67 (bx67 s_ a_0_0 c_0_0 a_0_1 c_0_1 a_0_2 c_0_2 a_0_3 c_0_3 a_0_4 c_0_4 a_0_5 c_0_5 a_0_6 c_0_6), Ch.aro tySnapSnap 43 a_0_4 c_0_4 s_.kept, Ch.arr Ty.bool 4 a_0_6 c_0_6 s_.message.there] [Im.sl tyRowRow a_0_0 c_0_0 s_.current.rows, Im.sl tyRowGlyph a_0_1 c_0_1 s_.current.begun, Im.sl tyRowRow a_0_2 c_0_2 s_.acked.rows, Im.sl tyRowGlyph a_0_3 c_0_3 s_.acked.begun, Im.sl Ty.str a_0_5 c_0_5 s_.message.parts] (fun h : Nat × (Option Addr × Nat) × (Option Addr × Nat) => .pointer (some ⟨h.1, 0, none⟩)) (fun h => [Ch.box h.1 67 (bx67 r a_0_0 c_0_0 a_0_1 c_0_1 a_0_2 c_0_2 a_0_3 c_0_3 h.2.1.1 h.2.1.2 a_0_5 c_0_5 h.2.2.1 h.2.2.2), Ch.aro tySnapSnap 43 h.2.1.1 h.2.1.2 r.kept, Ch.arr Ty.bool 4 h.2.2.1 h.2.2.2 r.message.there, Ch.box g_0 67 (bx67 s_ a_0_0 c_0_0 a_0_1 c_0_1 a_0_2 c_0_2 a_0_3 c_0_3 a_0_4 c_0_4 a_0_5 c_0_5 a_0_6 c_0_6), Ch.aro tySnapSnap 43 a_0_4 c_0_4 s_.kept, Ch.arr Ty.bool 4 a_0_6 c_0_6 s_.message.there]) (fun h => [Im.sl tyRowRow a_0_0 c_0_0 r.current.rows, Im.sl tyRowGlyph a_0_1 c_0_1 r.current.begun, Im.sl tyRowRow a_0_2 c_0_2 r.acked.rows, Im.sl tyRowGlyph a_0_3 c_0_3 r.acked.begun, Im.sl Ty.str a_0_5 c_0_5 r.message.parts]) := by
  delta p_sender_Sender_Clone at H
  refine CT.of Go.Proofs.Tryz.func8 (by kernel_rfl) rfl rfl rfl fun K => ?_
  refine T.seq (T.region ?_)
  refine L.q 1 rfl ?_
  refine L.nil (E.then (T.seq (T.region ?_)))
  refine L.q 2 rfl ?_
  refine L.y (Yl.ldb 0 rfl rfl rfl rfl) rfl rfl rfl ?_
  refine L.a [] [] (Ac.alloc rfl rfl) rfl rfl rfl rfl rfl ?_
  intro g1
  refine L.a [0] [] (Ac.stb rfl rfl rfl rfl rfl rfl) rfl rfl rfl rfl rfl ?_
  intro _
  refine L.nil (E.then (T.seq ?_))
  refine T.draw [12, 15] [0, 0] mo (by rfl) rfl ?_
  refine D.q 0 rfl rfl rfl rfl rfl rfl ?_
  refine D.q 1 rfl rfl rfl rfl rfl rfl ?_
  refine D.q 2 rfl rfl rfl rfl rfl rfl ?_
  refine D.y 3 (Yl.ldb 1 rfl rfl rfl rfl) rfl rfl rfl rfl rfl rfl ?_
  refine D.q 5 rfl rfl rfl rfl rfl rfl ?_
  refine D.q 6 rfl rfl rfl rfl rfl rfl ?_
  refine D.q 7 rfl rfl rfl rfl rfl rfl ?_
  refine D.q 8 rfl rfl rfl rfl rfl rfl ?_
  refine D.y 9 (Yl.ldb 1 rfl rfl rfl rfl) rfl rfl rfl rfl rfl rfl ?_
  obtain ⟨r38, h39, H40⟩ := bnd H
  refine D.one rfl rfl rfl (Dp.a [0] [] (Ac.call (c_slices_Clone_snap_Snap_lo a_0_4 c_0_4 h39) rfl rfl rfl rfl) rfl rfl rfl rfl rfl rfl ?_)
  rintro ⟨a41, c42⟩
  obtain ⟨r44, h45, H46⟩ := bnd H40
  refine D.one rfl rfl rfl (Dp.a [2] [] (Ac.call (c_slices_Clone_bool_l a_0_6 c_0_6 h45) rfl rfl rfl rfl) rfl rfl rfl rfl rfl rfl ?_)
  rintro ⟨a47, c48⟩
  refine D.q 11 rfl rfl rfl rfl rfl rfl ?_
  refine D.one rfl rfl rfl (Dp.al [0] [] (Ac.stb rfl rfl rfl rfl rfl rfl) rfl rfl rfl rfl rfl rfl rfl ?_)
  intro _
  refine D.q 13 rfl rfl rfl rfl rfl rfl ?_
  refine D.q 14 rfl rfl rfl rfl rfl rfl ?_
  refine D.one rfl rfl rfl (Dp.al [0] [] (Ac.stb rfl rfl rfl rfl rfl rfl) rfl rfl rfl rfl rfl rfl rfl ?_)
  intro _
  refine D.nil rfl rfl ?_
  refine E.then (T.seq (T.region ?_))
  refine L.q 1 rfl ?_
  refine L.nil (E.then (T.ret ?_))
  refine E.off' 4 rfl ?_
  have hr := Option.some.inj H46
  subst r
  exact E.ret (g1, (a41, c42), (a47, c48)) [1, 0, 1, 0, 1, 0] [0, 1, 2, 3, 4] (.tmp rfl .nil) rfl rfl rfl

theorem c_sender_Sender_Message {s_ : SenderSender} (g_0 : Nat) (a_0_0 : Option Addr) (c_0_0 : Nat) (a_0_1 : Option Addr) (c_0_1 : Nat) (a_0_2 : Option Addr) (c_0_2 : Nat) (a_0_3 : Option Addr) (c_0_3 : Nat) (a_0_4 : Option Addr) (c_0_4 : Nat) (a_0_5 : Option Addr) (c_0_5 : Nat) (a_0_6 : Option Addr) (c_0_6 : Nat) {r : Int × Int × Int} (H : p_sender_Sender_Message s_ = some r) : CT G 26 [.pointer (some ⟨g_0, 0, none⟩)] [Ch.box g_0 67 (bx67 s_ a_0_0 c_0_0 a_0_1 c_0_1 a_0_2 c_0_2 a_0_3 c_0_3 a_0_4 c_0_4 a_0_5 c_0_5 a_0_6 c_0_6), Ch.aro tySnapSnap 43 a_0_4 c_0_4 s_.kept, Ch.arr Ty.bool 4 a_0_6 c_0_6 s_.message.there] [Im.sl tyRowRow a_0_0 c_0_0 s_.current.rows, Im.sl tyRowGlyph a_0_1 c_0_1 s_.current.begun, Im.sl tyRowRow a_0_2 c_0_2 s_.acked.rows, Im.sl tyRowGlyph a_0_3 c_0_3 s_.acked.begun, Im.sl Ty.str a_0_5 c_0_5 s_.message.parts] (fun h : Unit => .tuple #[.int .i64 r.1, .int .i64 r.2.1, .int .i64 r.2.2]) (fun h => [Ch.box g_0 67 (bx67 s_ a_0_0 c_0_0 a_0_1 c_0_1 a_0_2 c_0_2 a_0_3 c_0_3 a_0_4 c_0_4 a_0_5 c_0_5 a_0_6 c_0_6), Ch.aro tySnapSnap 43 a_0_4 c_0_4 s_.kept, Ch.arr Ty.bool 4 a_0_6 c_0_6 s_.message.there]) (fun h => []) := by
  delta p_sender_Sender_Message at H
  refine CT.of Go.Proofs.Tryz.func26 (by kernel_rfl) rfl rfl rfl fun K => ?_
  refine T.seq (T.region ?_)
  refine L.q 3 rfl ?_
  refine L.nil (E.then (T.seq ?_))
  refine T.draw [] [0, 0, 0] mo (by rfl) rfl ?_
  refine D.q 0 rfl rfl rfl rfl rfl rfl ?_
  refine D.q 1 rfl rfl rfl rfl rfl rfl ?_
  refine D.q 2 rfl rfl rfl rfl rfl rfl ?_
  refine D.q 3 rfl rfl rfl rfl rfl rfl ?_
  refine D.y 4 (Yl.ldb 0 rfl rfl rfl rfl) rfl rfl rfl rfl rfl rfl ?_
  refine D.q 5 rfl rfl rfl rfl rfl rfl ?_
  refine D.q 6 rfl rfl rfl rfl rfl rfl ?_
  refine D.q 7 rfl rfl rfl rfl rfl rfl ?_
  refine D.q 8 rfl rfl rfl rfl rfl rfl ?_
  refine D.y 9 (Yl.ldb 0 rfl rfl rfl rfl) rfl rfl rfl rfl rfl rfl ?_
  refine D.q 10 rfl rfl rfl rfl rfl rfl ?_
  refine D.q 11 rfl rfl rfl rfl rfl rfl ?_
  refine D.q 12 rfl rfl rfl rfl rfl rfl ?_
  refine D.q 13 rfl rfl rfl rfl rfl rfl ?_
  refine D.y 14 (Yl.ldb 0 rfl rfl rfl rfl) rfl rfl rfl rfl rfl rfl ?_
  refine D.q 15 rfl rfl rfl rfl rfl rfl ?_
  refine D.q 16 rfl rfl rfl rfl rfl rfl ?_
  refine D.q 17 rfl rfl rfl rfl rfl rfl ?_
  refine D.nil rfl rfl ?_
  refine E.then (T.ret ?_)
  have hr := Option.some.inj H
  subst r
  exact E.ret () [0, 0, 0] [] (.tmp rfl (.tmp rfl (.tmp rfl .nil))) rfl rfl rfl

theorem c_sender_Sender_Current {s_ : SenderSender} (g_0 : Nat) (a_0_0 : Option Addr) (c_0_0 : Nat) (a_0_1 : Option Addr) (c_0_1 : Nat) (a_0_2 : Option Addr) (c_0_2 : Nat) (a_0_3 : Option Addr) (c_0_3 : Nat) (a_0_4 : Option Addr) (c_0_4 : Nat) (a_0_5 : Option Addr) (c_0_5 : Nat) (a_0_6 : Option Addr) (c_0_6 : Nat) {r : Int} (H : p_sender_Sender_Current s_ = some r) : CT G 27 [.pointer (some ⟨g_0, 0, none⟩)] [Ch.box g_0 67 (bx67 s_ a_0_0 c_0_0 a_0_1 c_0_1 a_0_2 c_0_2 a_0_3 c_0_3 a_0_4 c_0_4 a_0_5 c_0_5 a_0_6 c_0_6), Ch.aro tySnapSnap 43 a_0_4 c_0_4 s_.kept, Ch.arr Ty.bool 4 a_0_6 c_0_6 s_.message.there] [Im.sl tyRowRow a_0_0 c_0_0 s_.current.rows, Im.sl tyRowGlyph a_0_1 c_0_1 s_.current.begun, Im.sl tyRowRow a_0_2 c_0_2 s_.acked.rows, Im.sl tyRowGlyph a_0_3 c_0_3 s_.acked.begun, Im.sl Ty.str a_0_5 c_0_5 s_.message.parts] (fun h : Unit => .int .i64 r) (fun h => [Ch.box g_0 67 (bx67 s_ a_0_0 c_0_0 a_0_1 c_0_1 a_0_2 c_0_2 a_0_3 c_0_3 a_0_4 c_0_4 a_0_5 c_0_5 a_0_6 c_0_6), Ch.aro tySnapSnap 43 a_0_4 c_0_4 s_.kept, Ch.arr Ty.bool 4 a_0_6 c_0_6 s_.message.there]) (fun h => []) := by
  delta p_sender_Sender_Current at H
  refine CT.of Go.Proofs.Tryz.func27 (by kernel_rfl) rfl rfl rfl fun K => ?_
  refine T.seq (T.region ?_)
  refine L.q 1 rfl ?_
  refine L.nil (E.then (T.seq (T.region ?_)))
  refine L.q 4 rfl ?_
  refine L.y (Yl.ldb 0 rfl rfl rfl rfl) rfl rfl rfl ?_
  refine L.q 1 rfl ?_
  refine L.nil (E.then (T.ret ?_))
  have hr := Option.some.inj H
  subst r
  exact E.ret () [0, 0, 0] [] (.tmp rfl .nil) rfl rfl rfl

theorem c_sender_Sender_Acked {s_ : SenderSender} (g_0 : Nat) (a_0_0 : Option Addr) (c_0_0 : Nat) (a_0_1 : Option Addr) (c_0_1 : Nat) (a_0_2 : Option Addr) (c_0_2 : Nat) (a_0_3 : Option Addr) (c_0_3 : Nat) (a_0_4 : Option Addr) (c_0_4 : Nat) (a_0_5 : Option Addr) (c_0_5 : Nat) (a_0_6 : Option Addr) (c_0_6 : Nat) {r : Int} (H : p_sender_Sender_Acked s_ = some r) : CT G 28 [.pointer (some ⟨g_0, 0, none⟩)] [Ch.box g_0 67 (bx67 s_ a_0_0 c_0_0 a_0_1 c_0_1 a_0_2 c_0_2 a_0_3 c_0_3 a_0_4 c_0_4 a_0_5 c_0_5 a_0_6 c_0_6), Ch.aro tySnapSnap 43 a_0_4 c_0_4 s_.kept, Ch.arr Ty.bool 4 a_0_6 c_0_6 s_.message.there] [Im.sl tyRowRow a_0_0 c_0_0 s_.current.rows, Im.sl tyRowGlyph a_0_1 c_0_1 s_.current.begun, Im.sl tyRowRow a_0_2 c_0_2 s_.acked.rows, Im.sl tyRowGlyph a_0_3 c_0_3 s_.acked.begun, Im.sl Ty.str a_0_5 c_0_5 s_.message.parts] (fun h : Unit => .int .i64 r) (fun h => [Ch.box g_0 67 (bx67 s_ a_0_0 c_0_0 a_0_1 c_0_1 a_0_2 c_0_2 a_0_3 c_0_3 a_0_4 c_0_4 a_0_5 c_0_5 a_0_6 c_0_6), Ch.aro tySnapSnap 43 a_0_4 c_0_4 s_.kept, Ch.arr Ty.bool 4 a_0_6 c_0_6 s_.message.there]) (fun h => []) := by
  delta p_sender_Sender_Acked at H
  refine CT.of Go.Proofs.Tryz.func28 (by kernel_rfl) rfl rfl rfl fun K => ?_
  refine T.seq (T.region ?_)
  refine L.q 1 rfl ?_
  refine L.nil (E.then (T.seq (T.region ?_)))
  refine L.q 4 rfl ?_
  refine L.y (Yl.ldb 0 rfl rfl rfl rfl) rfl rfl rfl ?_
  refine L.q 1 rfl ?_
  refine L.nil (E.then (T.ret ?_))
  have hr := Option.some.inj H
  subst r
  exact E.ret () [0, 0, 0] [] (.tmp rfl .nil) rfl rfl rfl

theorem c_sender_Sender_Kept {s_ : SenderSender} (g_0 : Nat) (a_0_0 : Option Addr) (c_0_0 : Nat) (a_0_1 : Option Addr) (c_0_1 : Nat) (a_0_2 : Option Addr) (c_0_2 : Nat) (a_0_3 : Option Addr) (c_0_3 : Nat) (a_0_4 : Option Addr) (c_0_4 : Nat) (a_0_5 : Option Addr) (c_0_5 : Nat) (a_0_6 : Option Addr) (c_0_6 : Nat) {r : (List Int)} (H : p_sender_Sender_Kept s_ = some r) : CT G 29 [.pointer (some ⟨g_0, 0, none⟩)] [Ch.box g_0 67 (bx67 s_ a_0_0 c_0_0 a_0_1 c_0_1 a_0_2 c_0_2 a_0_3 c_0_3 a_0_4 c_0_4 a_0_5 c_0_5 a_0_6 c_0_6), Ch.aro tySnapSnap 43 a_0_4 c_0_4 s_.kept, Ch.arr Ty.bool 4 a_0_6 c_0_6 s_.message.there] [Im.sl tyRowRow a_0_0 c_0_0 s_.current.rows, Im.sl tyRowGlyph a_0_1 c_0_1 s_.current.begun, Im.sl tyRowRow a_0_2 c_0_2 s_.acked.rows, Im.sl tyRowGlyph a_0_3 c_0_3 s_.acked.begun, Im.sl Ty.str a_0_5 c_0_5 s_.message.parts] (fun h : (Option Addr × Nat) => .slice h.1 r.length h.2) (fun h => [Ch.arr (Ty.int .i64) 3 h.1 h.2 r, Ch.box g_0 67 (bx67 s_ a_0_0 c_0_0 a_0_1 c_0_1 a_0_2 c_0_2 a_0_3 c_0_3 a_0_4 c_0_4 a_0_5 c_0_5 a_0_6 c_0_6), Ch.aro tySnapSnap 43 a_0_4 c_0_4 s_.kept, Ch.arr Ty.bool 4 a_0_6 c_0_6 s_.message.there]) (fun h => []) := by
  delta p_sender_Sender_Kept at H
  refine CT.of Go.Proofs.Tryz.func29 (by kernel_rfl) rfl rfl rfl fun K => ?_
  refine T.seq (T.region ?_)
  refine L.q 1 rfl ?_
  refine L.nil (E.then (T.seq (T.region ?_)))
  refine L.q 1 rfl ?_
  refine L.nil (E.then (T.seq (T.seq (T.region ?_))))
  refine L.q 3 rfl ?_
  refine L.y (Yl.ldb 0 rfl rfl rfl rfl) rfl rfl rfl ?_
  refine L.q 2 rfl ?_
  refine L.nil (E.then ?_)
  obtain ⟨e155, H156, H157⟩ := bnd H
  refine T.join (η := Unit × ((Option Addr × Nat))) (fun h => True) (fun h => (fun a152 c153 => [(3, .slice a152 e155.length c153)]) h.2.1 h.2.2) (fun h => (fun a152 c153 => [Ch.arr (Ty.int .i64) 3 a152 c153 e155, Ch.box g_0 67 (bx67 s_ a_0_0 c_0_0 a_0_1 c_0_1 a_0_2 c_0_2 a_0_3 c_0_3 a_0_4 c_0_4 a_0_5 c_0_5 a_0_6 c_0_6), Ch.aro tySnapSnap 43 a_0_4 c_0_4 s_.kept, Ch.arr Ty.bool 4 a_0_6 c_0_6 s_.message.there]) h.2.1 h.2.2) (fun h => (fun a152 c153 => [Im.sl tyRowRow a_0_0 c_0_0 s_.current.rows, Im.sl tyRowGlyph a_0_1 c_0_1 s_.current.begun, Im.sl tyRowRow a_0_2 c_0_2 s_.acked.rows, Im.sl tyRowGlyph a_0_3 c_0_3 s_.acked.begun, Im.sl Ty.str a_0_5 c_0_5 s_.message.parts]) h.2.1 h.2.2) ?_ ?_
  · refine T.block ?_
    refine T.nil0 (Ty.int .i64) 3 ?_
    refine T.lp (η := (Option Addr × Nat)) (fun s106 h => (fun a103 c104 => [(3, .slice a103 s106.2.length c104), (9, .slice a_0_4 s_.kept.length c_0_4), (10, .int .i64 (s_.kept.length : Int)), (11, .int .i64 s106.1)]) h.1 h.2) (fun s106 h => (fun a103 c104 => [Ch.arr (Ty.int .i64) 3 a103 c104 s106.2, Ch.box g_0 67 (bx67 s_ a_0_0 c_0_0 a_0_1 c_0_1 a_0_2 c_0_2 a_0_3 c_0_3 a_0_4 c_0_4 a_0_5 c_0_5 a_0_6 c_0_6), Ch.aro tySnapSnap 43 a_0_4 c_0_4 s_.kept, Ch.arr Ty.bool 4 a_0_6 c_0_6 s_.message.there]) h.1 h.2) (fun s106 h => (fun a103 c104 => [Im.sl tyRowRow a_0_0 c_0_0 s_.current.rows, Im.sl tyRowGlyph a_0_1 c_0_1 s_.current.begun, Im.sl tyRowRow a_0_2 c_0_2 s_.acked.rows, Im.sl tyRowGlyph a_0_3 c_0_3 s_.acked.begun, Im.sl Ty.str a_0_5 c_0_5 s_.message.parts]) h.1 h.2) (none, 0) [0, 0, 0, 0] [0, 1, 2, 3, 4] H156 ⟨rfl, rfl, rfl, rfl, trivial⟩ rfl rfl ?_
    rintro k_ s106 ⟨a103, c104⟩ z159 H158 hag160 hbr161
    refine T.seq (T.region ?_)
    refine L.q 1 rfl ?_
    refine L.nil (E.then (T.seq ?_))
    refine T.bif rfl H158 (fun hc H163 => ?_) (fun hc H163 => ?_)
    · refine T.skip (E.then (T.seq (T.block (T.seq (T.region ?_)))))
      obtain ⟨x185, h186, H187⟩ := bnd H163
      refine L.addrq 2 rfl (idx_lt h186) fun b188 o189 e190 => ?_
      obtain rfl : a_0_4 = some ⟨b188, o189, none⟩ := e190
      refine L.y (Yl.ia h186 rfl rfl rfl rfl rfl rfl) rfl rfl rfl ?_
      refine L.a [2] [] (Ac.olo s106.1.toNat 0 (v := (fun h : (Option Addr × Nat) × (Option Addr × Nat) => (fun a191 c192 a193 c194 => .agg (bx43 x185 a191 c192 a193 c194).toArray) h.1.1 h.1.2 h.2.1 h.2.2)) (idx_some h186).2 rfl rfl rfl (fun _ => rfl)) rfl rfl rfl rfl rfl ?_
      rintro ⟨⟨a191, c192⟩, ⟨a193, c194⟩⟩
      refine L.a [] [] (Ac.alloc rfl rfl) rfl rfl rfl rfl rfl ?_
      intro g197
      refine L.a [0] [] (Ac.stb rfl rfl rfl rfl rfl rfl) rfl rfl rfl rfl rfl ?_
      intro _
      refine L.nil (E.then (T.region ?_))
      refine L.q 2 rfl ?_
      refine L.y (Yl.ldb 0 rfl rfl rfl rfl) rfl rfl rfl ?_
      refine L.a [] [] (Ac.bs (ty := (Ty.int .i64)) (xs := [x185.k]) (.cons () [] rfl .nil) rfl rfl rfl rfl rfl rfl rfl) rfl rfl rfl rfl rfl ?_
      intro g198
      refine L.frz 0 rfl ?_
      obtain ⟨_, h201, H202⟩ := bnd H187
      refine L.a [2] [0] (Ac.ap (ty := (Ty.int .i64)) h201 rfl rfl rfl rfl rfl rfl rfl) rfl rfl rfl rfl rfl ?_
      rintro ⟨a203, c204⟩
      refine L.q 1 rfl ?_
      refine L.nil (E.block (E.then (T.region ?_)))
      refine L.q 2 rfl ?_
      refine L.nil ?_
      have hr := Option.some.inj H202
      subst z159
      exact E.give (_, (a203, c204)) [0, 2, 1, 1] [3, 4, 5, 6, 7] (hag160 _ rfl) ⟨rfl, rfl, rfl, rfl, trivial⟩ rfl rfl
    refine T.exit (E.then_exit' (E.then_exit' (E.block_here ?_)))
    have hr := Option.some.inj H163
    subst z159
    have hb := hbr161 _ rfl
    subst e155
    exact E.give ((), (a103, c104)) [0, 0, 0, 0] [0, 1, 2, 3, 4] trivial ⟨rfl, trivial⟩ rfl rfl
  rintro ⟨_, ⟨a152, c153⟩⟩ _
  refine T.seq (T.region ?_)
  refine L.q 2 rfl ?_
  refine L.nil (E.then (T.ret ?_))
  have hr := Option.some.inj H157
  subst r
  exact E.ret (a152, c153) [0, 0, 0, 0] [] (.tmp rfl .nil) rfl rfl rfl

theorem c_sender_Sender_Lacks {s_ : SenderSender} (g_0 : Nat) (a_0_0 : Option Addr) (c_0_0 : Nat) (a_0_1 : Option Addr) (c_0_1 : Nat) (a_0_2 : Option Addr) (c_0_2 : Nat) (a_0_3 : Option Addr) (c_0_3 : Nat) (a_0_4 : Option Addr) (c_0_4 : Nat) (a_0_5 : Option Addr) (c_0_5 : Nat) (a_0_6 : Option Addr) (c_0_6 : Nat) {r : (List Int)} (H : p_sender_Sender_Lacks s_ = some r) : CT G 30 [.pointer (some ⟨g_0, 0, none⟩)] [Ch.box g_0 67 (bx67 s_ a_0_0 c_0_0 a_0_1 c_0_1 a_0_2 c_0_2 a_0_3 c_0_3 a_0_4 c_0_4 a_0_5 c_0_5 a_0_6 c_0_6), Ch.aro tySnapSnap 43 a_0_4 c_0_4 s_.kept, Ch.arr Ty.bool 4 a_0_6 c_0_6 s_.message.there] [Im.sl tyRowRow a_0_0 c_0_0 s_.current.rows, Im.sl tyRowGlyph a_0_1 c_0_1 s_.current.begun, Im.sl tyRowRow a_0_2 c_0_2 s_.acked.rows, Im.sl tyRowGlyph a_0_3 c_0_3 s_.acked.begun, Im.sl Ty.str a_0_5 c_0_5 s_.message.parts] (fun h : (Option Addr × Nat) => .slice h.1 r.length h.2) (fun h => [Ch.arr (Ty.int .i64) 3 h.1 h.2 r, Ch.box g_0 67 (bx67 s_ a_0_0 c_0_0 a_0_1 c_0_1 a_0_2 c_0_2 a_0_3 c_0_3 a_0_4 c_0_4 a_0_5 c_0_5 a_0_6 c_0_6), Ch.aro tySnapSnap 43 a_0_4 c_0_4 s_.kept, Ch.arr Ty.bool 4 a_0_6 c_0_6 s_.message.there]) (fun h => []) := by
  delta p_sender_Sender_Lacks at H
  refine CT.of Go.Proofs.Tryz.func30 (by kernel_rfl) rfl rfl rfl fun K => ?_
  refine T.dfs0 ?_
  refine T.seq (T.region ?_)
  refine L.q 1 rfl ?_
  refine L.nil (E.then (T.seq (T.region ?_)))
  refine L.a [] [] (Ac.alloc rfl rfl) rfl rfl rfl rfl rfl ?_
  intro g1
  refine L.nil (E.then (T.seq (T.seq (T.region ?_))))
  refine L.q 3 rfl ?_
  refine L.y (Yl.ldb 2 rfl rfl rfl rfl) rfl rfl rfl ?_
  refine L.q 1 rfl ?_
  refine L.nil (E.then (T.block ?_))
  refine T.nil0 (Ty.int .i64) 3 ?_
  obtain ⟨r41, h42, H43⟩ := bnd H
  refine T.rf2 (σ := (List Int)) (η := (Option Addr × Nat)) (X := Int × ByteArray) (θ := Unit) (τ := (Option Addr × Nat)) (s1 := r41) (hx := fun x => x) (fun x t => [.int .i64 x.1, .string x.2]) (fun x t => []) (fun _ => none) (fun s29 h => (fun a14 c15 => [Ch.arr (Ty.int .i64) 3 a14 c15 s29, Ch.box g1 58 [.slice a14 s29.length c15], Ch.box g_0 67 (bx67 s_ a_0_0 c_0_0 a_0_1 c_0_1 a_0_2 c_0_2 a_0_3 c_0_3 a_0_4 c_0_4 a_0_5 c_0_5 a_0_6 c_0_6), Ch.aro tySnapSnap 43 a_0_4 c_0_4 s_.kept]) h.1 h.2) (fun s29 h => (fun a14 c15 => [Im.sl tyRowRow a_0_0 c_0_0 s_.current.rows, Im.sl tyRowGlyph a_0_1 c_0_1 s_.current.begun, Im.sl tyRowRow a_0_2 c_0_2 s_.acked.rows, Im.sl tyRowGlyph a_0_3 c_0_3 s_.acked.begun, Im.sl Ty.str a_0_5 c_0_5 s_.message.parts]) h.1 h.2) 2 [0, 0, 0, 0, 0] [0, 1, 2, 3, 4] [4] rfl rfl (fun _ _ => rfl) rfl (fun yl C hY => (c_sender_message_lacks a_0_5 c_0_5 a_0_6 c_0_6 hY (none, 0) h42 : _)) (fun _ _ _ _ => rfl) rfl rfl rfl rfl rfl ?_ rfl ?_
  · rintro yl K2 s29 ⟨a14, c15⟩ x2 ⟨⟩ z30 H31
    refine T.region ?_
    refine L.q 1 rfl ?_
    refine L.nil ?_
    refine E.begin fun K3 => ?_
    refine T.block (T.region ?_)
    refine L.y (Yl.ldb 1 rfl rfl rfl rfl) rfl rfl rfl ?_
    refine L.q 1 rfl ?_
    refine L.a [] [] (Ac.bs (ty := (Ty.int .i64)) (xs := [x2.1]) (.cons () [] rfl .nil) rfl rfl rfl rfl rfl rfl rfl) rfl rfl rfl rfl rfl ?_
    intro g32
    refine L.frz 0 rfl ?_
    obtain ⟨_, h35, H36⟩ := bnd H31
    refine L.a [0] [0] (Ac.ap (ty := (Ty.int .i64)) h35 rfl rfl rfl rfl rfl rfl rfl) rfl rfl rfl rfl rfl ?_
    rintro ⟨a37, c38⟩
    refine L.a [1] [] (Ac.stb rfl rfl rfl rfl rfl rfl) rfl rfl rfl rfl rfl ?_
    intro _
    refine L.nil (E.block ?_)
    have hr := Option.some.inj H36
    subst z30
    exact E.on (a37, c38) [1, 0, 0, 0] [1, 2, 3, 4, 5] rfl rfl rfl rfl
  rintro h44 D45
  refine E.block (E.then (T.seq (T.region ?_)))
  refine L.y (Yl.ldb 2 rfl rfl rfl rfl) rfl rfl rfl ?_
  refine L.q 1 rfl ?_
  refine L.nil (E.then (T.ret ?_))
  have hr := Option.some.inj H43
  subst r
  exact E.retd (h44.1, h44.2) 0 [0, 1, 1, 1] [] rfl (.tmp rfl .nil) rfl rfl rfl

theorem c_law19_Is {s_ : SenderSender} {x_ : Ref19Sender} (g_0 : Nat) (a_0_0 : Option Addr) (c_0_0 : Nat) (a_0_1 : Option Addr) (c_0_1 : Nat) (a_0_2 : Option Addr) (c_0_2 : Nat) (a_0_3 : Option Addr) (c_0_3 : Nat) (a_0_4 : Option Addr) (c_0_4 : Nat) (a_0_5 : Option Addr) (c_0_5 : Nat) (a_0_6 : Option Addr) (c_0_6 : Nat) (a_1_0 : Option Addr) (c_1_0 : Nat) (a_1_1 : Option Addr) (c_1_1 : Nat) (a_1_2 : Option Addr) (c_1_2 : Nat) (a_1_3 : Option Addr) (c_1_3 : Nat) (a_1_4 : Option Addr) (c_1_4 : Nat) (a_1_5 : Option Addr) (c_1_5 : Nat) (a_1_6 : Option Addr) (c_1_6 : Nat) {r : Bool} (H : p_law19_Is s_ x_ = some r) : CT G 9 [.pointer (some ⟨g_0, 0, none⟩), .agg (bx38 x_ a_1_0 c_1_0 a_1_1 c_1_1 a_1_2 c_1_2 a_1_3 c_1_3 a_1_4 c_1_4 a_1_5 c_1_5 a_1_6 c_1_6).toArray] [Ch.box g_0 67 (bx67 s_ a_0_0 c_0_0 a_0_1 c_0_1 a_0_2 c_0_2 a_0_3 c_0_3 a_0_4 c_0_4 a_0_5 c_0_5 a_0_6 c_0_6), Ch.aro tySnapSnap 43 a_0_4 c_0_4 s_.kept, Ch.arr Ty.bool 4 a_0_6 c_0_6 s_.message.there] [Im.sl tyRowRow a_0_0 c_0_0 s_.current.rows, Im.sl tyRowGlyph a_0_1 c_0_1 s_.current.begun, Im.sl tyRowRow a_0_2 c_0_2 s_.acked.rows, Im.sl tyRowGlyph a_0_3 c_0_3 s_.acked.begun, Im.sl Ty.str a_0_5 c_0_5 s_.message.parts, Im.sl tyRef09Row a_1_0 c_1_0 x_.current.rows, Im.sl tyRef09Glyph a_1_1 c_1_1 x_.current.begun, Im.sl tyRef09Row a_1_2 c_1_2 x_.acked.rows, Im.sl tyRef09Glyph a_1_3 c_1_3 x_.acked.begun, Im.sl tyRef16Snap a_1_4 c_1_4 x_.kept, Im.sl Ty.str a_1_5 c_1_5 x_.parts, Im.sl Ty.bool a_1_6 c_1_6 x_.there] (fun h : Unit => .bool r) (fun h => [Ch.box g_0 67 (bx67 s_ a_0_0 c_0_0 a_0_1 c_0_1 a_0_2 c_0_2 a_0_3 c_0_3 a_0_4 c_0_4 a_0_5 c_0_5 a_0_6 c_0_6), Ch.aro tySnapSnap 43 a_0_4 c_0_4 s_.kept, Ch.arr Ty.bool 4 a_0_6 c_0_6 s_.message.there]) (fun h => []) := by
  delta p_law19_Is at H
  refine CT.of Go.Proofs.Tryz.func9 (by kernel_rfl) rfl rfl rfl fun K => ?_
  refine T.seq (T.region ?_)
  refine L.a [] [] (Ac.box rfl rfl) rfl rfl rfl rfl rfl ?_
  intro g1
  refine L.q 1 rfl ?_
  refine L.nil (E.then (T.seq (T.region ?_)))
  refine L.q 2 rfl ?_
  refine L.nil (E.then (T.seq (T.seq (T.region ?_))))
  refine L.q 1 rfl ?_
  refine L.y (Yl.ldb 0 rfl rfl rfl rfl) rfl rfl rfl ?_
  refine L.q 2 rfl ?_
  refine L.nil (E.then ?_)
  obtain ⟨e162, H163, H164⟩ := bnd H
  refine T.join (η := Unit × ((Option Addr × Nat))) (fun h => True) (fun h => (fun a159 c160 => [(0, .pointer (some ⟨g_0, 0, none⟩)), (3, .pointer (some ⟨g1, 0, none⟩)), (5, .slice a159 e162.length c160), (6, .slice none 0 0)]) h.2.1 h.2.2) (fun h => (fun a159 c160 => [Ch.arr (Ty.int .i64) 3 a159 c160 e162, Ch.box g1 38 (bx38 x_ a_1_0 c_1_0 a_1_1 c_1_1 a_1_2 c_1_2 a_1_3 c_1_3 a_1_4 c_1_4 a_1_5 c_1_5 a_1_6 c_1_6), Ch.box g_0 67 (bx67 s_ a_0_0 c_0_0 a_0_1 c_0_1 a_0_2 c_0_2 a_0_3 c_0_3 a_0_4 c_0_4 a_0_5 c_0_5 a_0_6 c_0_6), Ch.aro tySnapSnap 43 a_0_4 c_0_4 s_.kept, Ch.arr Ty.bool 4 a_0_6 c_0_6 s_.message.there]) h.2.1 h.2.2) (fun h => (fun a159 c160 => [Im.sl tyRowRow a_0_0 c_0_0 s_.current.rows, Im.sl tyRowGlyph a_0_1 c_0_1 s_.current.begun, Im.sl tyRowRow a_0_2 c_0_2 s_.acked.rows, Im.sl tyRowGlyph a_0_3 c_0_3 s_.acked.begun, Im.sl Ty.str a_0_5 c_0_5 s_.message.parts, Im.sl tyRef09Row a_1_0 c_1_0 x_.current.rows, Im.sl tyRef09Glyph a_1_1 c_1_1 x_.current.begun, Im.sl tyRef09Row a_1_2 c_1_2 x_.acked.rows, Im.sl tyRef09Glyph a_1_3 c_1_3 x_.acked.begun, Im.sl tyRef16Snap a_1_4 c_1_4 x_.kept, Im.sl Ty.str a_1_5 c_1_5 x_.parts, Im.sl Ty.bool a_1_6 c_1_6 x_.there]) h.2.1 h.2.2) ?_ ?_
  · refine T.block ?_
    refine T.nil0 (Ty.int .i64) 3 ?_
    refine T.lp (η := (Option Addr × Nat)) (fun s111 h => (fun a108 c109 => [(0, .pointer (some ⟨g_0, 0, none⟩)), (3, .pointer (some ⟨g1, 0, none⟩)), (5, .slice a108 s111.2.length c109), (6, .slice none 0 0), (15, .slice a_1_4 x_.kept.length c_1_4), (16, .int .i64 (x_.kept.length : Int)), (17, .int .i64 s111.1)]) h.1 h.2) (fun s111 h => (fun a108 c109 => [Ch.arr (Ty.int .i64) 3 a108 c109 s111.2, Ch.box g1 38 (bx38 x_ a_1_0 c_1_0 a_1_1 c_1_1 a_1_2 c_1_2 a_1_3 c_1_3 a_1_4 c_1_4 a_1_5 c_1_5 a_1_6 c_1_6), Ch.box g_0 67 (bx67 s_ a_0_0 c_0_0 a_0_1 c_0_1 a_0_2 c_0_2 a_0_3 c_0_3 a_0_4 c_0_4 a_0_5 c_0_5 a_0_6 c_0_6), Ch.aro tySnapSnap 43 a_0_4 c_0_4 s_.kept, Ch.arr Ty.bool 4 a_0_6 c_0_6 s_.message.there]) h.1 h.2) (fun s111 h => (fun a108 c109 => [Im.sl tyRowRow a_0_0 c_0_0 s_.current.rows, Im.sl tyRowGlyph a_0_1 c_0_1 s_.current.begun, Im.sl tyRowRow a_0_2 c_0_2 s_.acked.rows, Im.sl tyRowGlyph a_0_3 c_0_3 s_.acked.begun, Im.sl Ty.str a_0_5 c_0_5 s_.message.parts, Im.sl tyRef09Row a_1_0 c_1_0 x_.current.rows, Im.sl tyRef09Glyph a_1_1 c_1_1 x_.current.begun, Im.sl tyRef09Row a_1_2 c_1_2 x_.acked.rows, Im.sl tyRef09Glyph a_1_3 c_1_3 x_.acked.begun, Im.sl tyRef16Snap a_1_4 c_1_4 x_.kept, Im.sl Ty.str a_1_5 c_1_5 x_.parts, Im.sl Ty.bool a_1_6 c_1_6 x_.there]) h.1 h.2) (none, 0) [0, 0, 0, 0, 0] [0, 1, 2, 3, 4, 5, 6, 7, 8, 9, 10, 11] H163 ⟨rfl, rfl, rfl, rfl, rfl, rfl, rfl, trivial⟩ rfl rfl ?_
    rintro k_ s111 ⟨a108, c109⟩ z166 H165 hag167 hbr168
    refine T.seq (T.region ?_)
    refine L.q 1 rfl ?_
    refine L.nil (E.then (T.seq ?_))
    refine T.bif rfl H165 (fun hc H170 => ?_) (fun hc H170 => ?_)
    · refine T.skip (E.then (T.seq (T.block (T.seq (T.region ?_)))))
      obtain ⟨x193, h194, H195⟩ := bnd H170
      refine L.addr 9 rfl (idx_lt h194) fun b196 o197 e198 => ?_
      obtain rfl : a_1_4 = some ⟨b196, o197, none⟩ := e198
      refine L.y (Yl.ia h194 rfl rfl rfl rfl rfl rfl) rfl rfl rfl ?_
      refine L.el 9 rfl (idx_some h194).2 ?_
      rintro ⟨⟨a199, c200⟩, ⟨a201, c202⟩⟩
      refine L.y (Yl.ldc 0 0 rfl rfl rfl rfl) rfl rfl rfl ?_
      refine L.a [] [] (Ac.alloc rfl rfl) rfl rfl rfl rfl rfl ?_
      intro g206
      refine L.a [0] [] (Ac.stb rfl rfl rfl rfl rfl rfl) rfl rfl rfl rfl rfl ?_
      intro _
      refine L.nil (E.then (T.region ?_))
      refine L.q 2 rfl ?_
      refine L.y (Yl.ldb 0 rfl rfl rfl rfl) rfl rfl rfl ?_
      refine L.a [] [] (Ac.bs (ty := (Ty.int .i64)) (xs := [x193.k]) (.cons () [] rfl .nil) rfl rfl rfl rfl rfl rfl rfl) rfl rfl rfl rfl rfl ?_
      intro g207
      refine L.frz 0 rfl ?_
      obtain ⟨_, h210, H211⟩ := bnd H195
      refine L.a [1] [0] (Ac.ap (ty := (Ty.int .i64)) h210 rfl rfl rfl rfl rfl rfl rfl) rfl rfl rfl rfl rfl ?_
      rintro ⟨a212, c213⟩
      refine L.q 1 rfl ?_
      refine L.nil (E.block (E.then (T.region ?_)))
      refine L.q 2 rfl ?_
      refine L.nil ?_
      have hr := Option.some.inj H211
      subst z166
      exact E.give (_, (a212, c213)) [0, 1, 1, 1, 1] [4, 5, 6, 7, 8, 9, 10, 11, 12, 13, 14, 15] (hag167 _ rfl) ⟨rfl, rfl, rfl, rfl, rfl, rfl, rfl, trivial⟩ rfl rfl
    refine T.exit (E.then_exit' (E.then_exit' (E.block_here ?_)))
    have hr := Option.some.inj H170
    subst z166
    have hb := hbr168 _ rfl
    subst e162
    exact E.give ((), (a108, c109)) [0, 0, 0, 0, 0] [0, 1, 2, 3, 4, 5, 6, 7, 8, 9, 10, 11] trivial ⟨rfl, rfl, rfl, rfl, trivial⟩ rfl rfl
  rintro ⟨_, ⟨a159, c160⟩⟩ _
  refine T.seq (T.seq (T.region ?_))
  refine L.q 1 rfl ?_
  refine L.y (Yl.ldb 1 rfl rfl rfl rfl) rfl rfl rfl ?_
  refine L.q 2 rfl ?_
  refine L.nil (E.then ?_)
  obtain ⟨e410, H411, H412⟩ := bnd H164
  refine T.join (η := Unit × ((Option Addr × Nat))) (fun h => True) (fun h => (fun a407 c408 => [(0, .pointer (some ⟨g_0, 0, none⟩)), (3, .pointer (some ⟨g1, 0, none⟩)), (5, .slice a159 e162.length c160), (6, .slice a407 e410.length c408)]) h.2.1 h.2.2) (fun h => (fun a407 c408 => [Ch.arr (Ty.int .i64) 3 a407 c408 e410, Ch.box g1 38 (bx38 x_ a_1_0 c_1_0 a_1_1 c_1_1 a_1_2 c_1_2 a_1_3 c_1_3 a_1_4 c_1_4 a_1_5 c_1_5 a_1_6 c_1_6), Ch.box g_0 67 (bx67 s_ a_0_0 c_0_0 a_0_1 c_0_1 a_0_2 c_0_2 a_0_3 c_0_3 a_0_4 c_0_4 a_0_5 c_0_5 a_0_6 c_0_6), Ch.arr (Ty.int .i64) 3 a159 c160 e162, Ch.aro tySnapSnap 43 a_0_4 c_0_4 s_.kept, Ch.arr Ty.bool 4 a_0_6 c_0_6 s_.message.there]) h.2.1 h.2.2) (fun h => (fun a407 c408 => [Im.sl tyRowRow a_0_0 c_0_0 s_.current.rows, Im.sl tyRowGlyph a_0_1 c_0_1 s_.current.begun, Im.sl tyRowRow a_0_2 c_0_2 s_.acked.rows, Im.sl tyRowGlyph a_0_3 c_0_3 s_.acked.begun, Im.sl Ty.str a_0_5 c_0_5 s_.message.parts, Im.sl tyRef09Row a_1_0 c_1_0 x_.current.rows, Im.sl tyRef09Glyph a_1_1 c_1_1 x_.current.begun, Im.sl tyRef09Row a_1_2 c_1_2 x_.acked.rows, Im.sl tyRef09Glyph a_1_3 c_1_3 x_.acked.begun, Im.sl tyRef16Snap a_1_4 c_1_4 x_.kept, Im.sl Ty.str a_1_5 c_1_5 x_.parts, Im.sl Ty.bool a_1_6 c_1_6 x_.there]) h.2.1 h.2.2) ?_ ?_
  · refine T.block ?_
    refine T.nil0 (Ty.int .i64) 3 ?_
    refine T.lp (η := (Option Addr × Nat)) (fun s348 h => (fun a345 c346 => [(0, .pointer (some ⟨g_0, 0, none⟩)), (3, .pointer (some ⟨g1, 0, none⟩)), (5, .slice a159 e162.length c160), (6, .slice a345 s348.2.length c346), (28, .slice a_1_6 x_.there.length c_1_6), (29, .int .i64 (x_.there.length : Int)), (30, .int .i64 s348.1)]) h.1 h.2) (fun s348 h => (fun a345 c346 => [Ch.arr (Ty.int .i64) 3 a345 c346 s348.2, Ch.box g1 38 (bx38 x_ a_1_0 c_1_0 a_1_1 c_1_1 a_1_2 c_1_2 a_1_3 c_1_3 a_1_4 c_1_4 a_1_5 c_1_5 a_1_6 c_1_6), Ch.box g_0 67 (bx67 s_ a_0_0 c_0_0 a_0_1 c_0_1 a_0_2 c_0_2 a_0_3 c_0_3 a_0_4 c_0_4 a_0_5 c_0_5 a_0_6 c_0_6), Ch.arr (Ty.int .i64) 3 a159 c160 e162, Ch.aro tySnapSnap 43 a_0_4 c_0_4 s_.kept, Ch.arr Ty.bool 4 a_0_6 c_0_6 s_.message.there]) h.1 h.2) (fun s348 h => (fun a345 c346 => [Im.sl tyRowRow a_0_0 c_0_0 s_.current.rows, Im.sl tyRowGlyph a_0_1 c_0_1 s_.current.begun, Im.sl tyRowRow a_0_2 c_0_2 s_.acked.rows, Im.sl tyRowGlyph a_0_3 c_0_3 s_.acked.begun, Im.sl Ty.str a_0_5 c_0_5 s_.message.parts, Im.sl tyRef09Row a_1_0 c_1_0 x_.current.rows, Im.sl tyRef09Glyph a_1_1 c_1_1 x_.current.begun, Im.sl tyRef09Row a_1_2 c_1_2 x_.acked.rows, Im.sl tyRef09Glyph a_1_3 c_1_3 x_.acked.begun, Im.sl tyRef16Snap a_1_4 c_1_4 x_.kept, Im.sl Ty.str a_1_5 c_1_5 x_.parts, Im.sl Ty.bool a_1_6 c_1_6 x_.there]) h.1 h.2) (none, 0) [0, 1, 1, 0, 0, 0] [0, 1, 2, 3, 4, 5, 6, 7, 8, 9, 10, 11] H411 ⟨rfl, rfl, rfl, rfl, rfl, rfl, rfl, trivial⟩ rfl rfl ?_
    rintro k_ s348 ⟨a345, c346⟩ z414 H413 hag415 hbr416
    refine T.seq (T.region ?_)
    refine L.q 1 rfl ?_
    refine L.nil (E.then (T.seq ?_))
    refine T.bif rfl H413 (fun hc H418 => ?_) (fun hc H418 => ?_)
    · refine T.skip (E.then (T.seq ?_))
      obtain ⟨e455, H456, H457⟩ := bnd H418
      refine T.join (η := Unit × ((Option Addr × Nat))) (fun h => True) (fun h => (fun a452 c453 => [(0, .pointer (some ⟨g_0, 0, none⟩)), (3, .pointer (some ⟨g1, 0, none⟩)), (5, .slice a159 e162.length c160), (6, .slice a452 e455.length c453), (28, .slice a_1_6 x_.there.length c_1_6), (29, .int .i64 (x_.there.length : Int)), (30, .int .i64 s348.1)]) h.2.1 h.2.2) (fun h => (fun a452 c453 => [Ch.arr (Ty.int .i64) 3 a452 c453 e455, Ch.box g1 38 (bx38 x_ a_1_0 c_1_0 a_1_1 c_1_1 a_1_2 c_1_2 a_1_3 c_1_3 a_1_4 c_1_4 a_1_5 c_1_5 a_1_6 c_1_6), Ch.box g_0 67 (bx67 s_ a_0_0 c_0_0 a_0_1 c_0_1 a_0_2 c_0_2 a_0_3 c_0_3 a_0_4 c_0_4 a_0_5 c_0_5 a_0_6 c_0_6), Ch.arr (Ty.int .i64) 3 a159 c160 e162, Ch.aro tySnapSnap 43 a_0_4 c_0_4 s_.kept, Ch.arr Ty.bool 4 a_0_6 c_0_6 s_.message.there]) h.2.1 h.2.2) (fun h => (fun a452 c453 => [Im.sl tyRowRow a_0_0 c_0_0 s_.current.rows, Im.sl tyRowGlyph a_0_1 c_0_1 s_.current.begun, Im.sl tyRowRow a_0_2 c_0_2 s_.acked.rows, Im.sl tyRowGlyph a_0_3 c_0_3 s_.acked.begun, Im.sl Ty.str a_0_5 c_0_5 s_.message.parts, Im.sl tyRef09Row a_1_0 c_1_0 x_.current.rows, Im.sl tyRef09Glyph a_1_1 c_1_1 x_.current.begun, Im.sl tyRef09Row a_1_2 c_1_2 x_.acked.rows, Im.sl tyRef09Glyph a_1_3 c_1_3 x_.acked.begun, Im.sl tyRef16Snap a_1_4 c_1_4 x_.kept, Im.sl Ty.str a_1_5 c_1_5 x_.parts, Im.sl Ty.bool a_1_6 c_1_6 x_.there]) h.2.1 h.2.2) ?_ ?_
      · refine T.block (T.seq (T.region ?_))
        refine L.q 1 rfl ?_
        obtain ⟨x458, h459, H460⟩ := bnd H456
        refine L.addr 11 rfl (idx_lt h459) fun b461 o462 e463 => ?_
        obtain rfl : a_1_6 = some ⟨b461, o462, none⟩ := e463
        refine L.y (Yl.ia h459 rfl rfl rfl rfl rfl rfl) rfl rfl rfl ?_
        refine L.el 11 rfl (idx_some h459).2 ?_
        rintro _
        refine L.y (Yl.ldc 0 0 rfl rfl rfl rfl) rfl rfl rfl ?_
        refine L.q 2 rfl ?_
        refine L.nil (E.then (T.seq (T.region ?_)))
        refine L.q 2 rfl ?_
        refine L.nil (E.then ?_)
        refine T.bif rfl H460 (fun hc H465 => ?_) (fun hc H465 => ?_)
        · refine T.region ?_
          refine L.q 2 rfl ?_
          refine L.a [] [] (Ac.bs (ty := (Ty.int .i64)) (xs := [s348.1]) (.cons () [] rfl .nil) rfl rfl rfl rfl rfl rfl rfl) rfl rfl rfl rfl rfl ?_
          intro g466
          refine L.frz 0 rfl ?_
          obtain ⟨_, h469, H470⟩ := bnd H465
          refine L.a [0] [0] (Ac.ap (ty := (Ty.int .i64)) h469 rfl rfl rfl rfl rfl rfl rfl) rfl rfl rfl rfl rfl ?_
          rintro ⟨a471, c472⟩
          refine L.q 1 rfl ?_
          refine L.nil (E.block ?_)
          have hr := Option.some.inj H470
          subst e455
          exact E.give ((), (a471, c472)) [0, 0, 0, 0, 0, 0] [2, 3, 4, 5, 6, 7, 8, 9, 10, 11, 12, 13] trivial ⟨rfl, rfl, rfl, rfl, rfl, rfl, rfl, trivial⟩ rfl rfl
        refine T.skip (E.block ?_)
        have hr := Option.some.inj H465
        subst e455
        exact E.give ((), (a345, c346)) [0, 0, 0, 0, 0, 0] [1, 2, 3, 4, 5, 6, 7, 8, 9, 10, 11, 12] trivial ⟨rfl, rfl, rfl, rfl, rfl, rfl, rfl, trivial⟩ rfl rfl
      rintro ⟨_, ⟨a452, c453⟩⟩ _
      refine T.region ?_
      refine L.q 2 rfl ?_
      refine L.nil ?_
      have hr := Option.some.inj H457
      subst z414
      exact E.give (_, (a452, c453)) [0, 0, 0, 0, 0, 0] [0, 1, 2, 3, 4, 5, 6, 7, 8, 9, 10, 11] (hag415 _ rfl) ⟨rfl, rfl, rfl, rfl, rfl, rfl, rfl, trivial⟩ rfl rfl
    refine T.exit (E.then_exit' (E.then_exit' (E.block_here ?_)))
    have hr := Option.some.inj H418
    subst z414
    have hb := hbr416 _ rfl
    subst e410
    exact E.give ((), (a345, c346)) [0, 0, 0, 0, 0, 0] [0, 1, 2, 3, 4, 5, 6, 7, 8, 9, 10, 11] trivial ⟨rfl, rfl, rfl, rfl, trivial⟩ rfl rfl
  rintro ⟨_, ⟨a407, c408⟩⟩ _
  refine T.seq (T.region ?_)
  refine L.q 1 rfl ?_
  obtain ⟨r474, h475, H476⟩ := bnd H412
  refine L.a [2, 3, 3] [0, 1, 2, 3, 4] (Ac.call (c_sender_Sender_Message g_0 a_0_0 c_0_0 a_0_1 c_0_1 a_0_2 c_0_2 a_0_3 c_0_3 a_0_4 c_0_4 a_0_5 c_0_5 a_0_6 c_0_6 h475) rfl rfl rfl rfl) rfl rfl rfl rfl rfl ?_
  rintro ⟨⟩
  refine L.q 7 rfl ?_
  refine L.nil (E.then (T.seq ?_))
  obtain ⟨e598, H599, H600⟩ := bnd H476
  refine T.join (η := Unit × Unit) (fun h => True) (fun h => [(4, .bool e598)]) (fun h => [Ch.box g_0 67 (bx67 s_ a_0_0 c_0_0 a_0_1 c_0_1 a_0_2 c_0_2 a_0_3 c_0_3 a_0_4 c_0_4 a_0_5 c_0_5 a_0_6 c_0_6), Ch.box g1 38 (bx38 x_ a_1_0 c_1_0 a_1_1 c_1_1 a_1_2 c_1_2 a_1_3 c_1_3 a_1_4 c_1_4 a_1_5 c_1_5 a_1_6 c_1_6), Ch.aro tySnapSnap 43 a_0_4 c_0_4 s_.kept, Ch.arr Ty.bool 4 a_0_6 c_0_6 s_.message.there]) (fun h => [Im.sl tyRowRow a_0_0 c_0_0 s_.current.rows, Im.sl tyRowGlyph a_0_1 c_0_1 s_.current.begun, Im.sl tyRowRow a_0_2 c_0_2 s_.acked.rows, Im.sl tyRowGlyph a_0_3 c_0_3 s_.acked.begun, Im.sl Ty.str a_0_5 c_0_5 s_.message.parts, Im.sl tyRef09Row a_1_0 c_1_0 x_.current.rows, Im.sl tyRef09Glyph a_1_1 c_1_1 x_.current.begun, Im.sl tyRef09Row a_1_2 c_1_2 x_.acked.rows, Im.sl tyRef09Glyph a_1_3 c_1_3 x_.acked.begun, Im.sl tyRef16Snap a_1_4 c_1_4 x_.kept, Im.sl Ty.str a_1_5 c_1_5 x_.parts, Im.sl Ty.bool a_1_6 c_1_6 x_.there]) ?_ ?_
  · refine T.draw [] [3, 3, 3] mo (by rfl) rfl ?_
    refine D.q 0 rfl rfl rfl rfl rfl rfl ?_
    refine D.q 2 rfl rfl rfl rfl rfl rfl ?_
    refine D.q 3 rfl rfl rfl rfl rfl rfl ?_
    refine D.y 4 (Yl.ldb 1 rfl rfl rfl rfl) rfl rfl rfl rfl rfl rfl ?_
    obtain ⟨r631, h632, H633⟩ := bnd H599
    refine D.one rfl rfl rfl (Dp.a [0, 0, 0] [0, 1, 2, 3, 4] (Ac.call (c_sender_Sender_Current g_0 a_0_0 c_0_0 a_0_1 c_0_1 a_0_2 c_0_2 a_0_3 c_0_3 a_0_4 c_0_4 a_0_5 c_0_5 a_0_6 c_0_6 h632) rfl rfl rfl rfl) rfl rfl rfl rfl rfl rfl ?_)
    rintro ⟨⟩
    refine D.q 5 rfl rfl rfl rfl rfl rfl ?_
    refine D.q 6 rfl rfl rfl rfl rfl rfl ?_
    refine D.cs 54 H633 rfl (fun hc H634 => ?_) (fun hc H634 => ?_)
    · refine D.q 7 rfl rfl rfl rfl rfl rfl ?_
      refine D.q 9 rfl rfl rfl rfl rfl rfl ?_
      refine D.q 10 rfl rfl rfl rfl rfl rfl ?_
      refine D.y 11 (Yl.ldb 1 rfl rfl rfl rfl) rfl rfl rfl rfl rfl rfl ?_
      obtain ⟨r635, h636, H637⟩ := bnd H634
      refine D.one rfl rfl rfl (Dp.a [0, 0, 0] [0, 1, 2, 3, 4] (Ac.call (c_sender_Sender_Acked g_0 a_0_0 c_0_0 a_0_1 c_0_1 a_0_2 c_0_2 a_0_3 c_0_3 a_0_4 c_0_4 a_0_5 c_0_5 a_0_6 c_0_6 h636) rfl rfl rfl rfl) rfl rfl rfl rfl rfl rfl ?_)
      rintro ⟨⟩
      refine D.q 12 rfl rfl rfl rfl rfl rfl ?_
      refine D.q 13 rfl rfl rfl rfl rfl rfl ?_
      refine D.q 14 rfl rfl rfl rfl rfl rfl ?_
      refine D.cs 62 H637 rfl (fun hc H638 => ?_) (fun hc H638 => ?_)
      · refine D.q 15 rfl rfl rfl rfl rfl rfl ?_
        refine D.q 17 rfl rfl rfl rfl rfl rfl ?_
        obtain ⟨r639, h640, H641⟩ := bnd H638
        refine D.one rfl rfl rfl (Dp.a [0, 0, 0] [0, 1, 2, 3, 4] (Ac.call (c_sender_Sender_Kept g_0 a_0_0 c_0_0 a_0_1 c_0_1 a_0_2 c_0_2 a_0_3 c_0_3 a_0_4 c_0_4 a_0_5 c_0_5 a_0_6 c_0_6 h640) rfl rfl rfl rfl) rfl rfl rfl rfl rfl rfl ?_)
        rintro ⟨a642, c643⟩
        obtain ⟨r645, h646, H647⟩ := bnd H641
        refine D.one rfl rfl rfl (Dp.br (Ac.call (c_law01_Same a642 c643 a159 c160 h646) rfl rfl rfl rfl) (Bw.ch 3 rfl (Bw.ch 2 rfl (Bw.nil))) rfl rfl rfl rfl ?_)
        intro _
        refine D.q 19 rfl rfl rfl rfl rfl rfl ?_
        refine D.q 20 rfl rfl rfl rfl rfl rfl ?_
        refine D.cs 68 H647 rfl (fun hc H648 => ?_) (fun hc H648 => ?_)
        · refine D.q 21 rfl rfl rfl rfl rfl rfl ?_
          refine D.q 22 rfl rfl rfl rfl rfl rfl ?_
          refine D.y 23 (Yl.ldb 1 rfl rfl rfl rfl) rfl rfl rfl rfl rfl rfl ?_
          refine D.q 24 rfl rfl rfl rfl rfl rfl ?_
          refine D.q 25 rfl rfl rfl rfl rfl rfl ?_
          refine D.q 26 rfl rfl rfl rfl rfl rfl ?_
          refine D.cs 74 H648 rfl (fun hc H649 => ?_) (fun hc H649 => ?_)
          · refine D.q 27 rfl rfl rfl rfl rfl rfl ?_
            refine D.q 28 rfl rfl rfl rfl rfl rfl ?_
            refine D.y 29 (Yl.ldb 1 rfl rfl rfl rfl) rfl rfl rfl rfl rfl rfl ?_
            refine D.q 30 rfl rfl rfl rfl rfl rfl ?_
            refine D.q 31 rfl rfl rfl rfl rfl rfl ?_
            refine D.q 32 rfl rfl rfl rfl rfl rfl ?_
            refine D.cs 80 H649 rfl (fun hc H650 => ?_) (fun hc H650 => ?_)
            · refine D.q 33 rfl rfl rfl rfl rfl rfl ?_
              refine D.q 34 rfl rfl rfl rfl rfl rfl ?_
              refine D.y 35 (Yl.ldb 1 rfl rfl rfl rfl) rfl rfl rfl rfl rfl rfl ?_
              refine D.q 36 rfl rfl rfl rfl rfl rfl ?_
              refine D.q 37 rfl rfl rfl rfl rfl rfl ?_
              refine D.q 38 rfl rfl rfl rfl rfl rfl ?_
              refine D.cs 86 H650 rfl (fun hc H651 => ?_) (fun hc H651 => ?_)
              · refine D.q 39 rfl rfl rfl rfl rfl rfl ?_
                refine D.q 41 rfl rfl rfl rfl rfl rfl ?_
                obtain ⟨r652, h653, H654⟩ := bnd H651
                refine D.one rfl rfl rfl (Dp.a [1, 1, 1] [0, 1, 2, 3, 4] (Ac.call (c_sender_Sender_Lacks g_0 a_0_0 c_0_0 a_0_1 c_0_1 a_0_2 c_0_2 a_0_3 c_0_3 a_0_4 c_0_4 a_0_5 c_0_5 a_0_6 c_0_6 h653) rfl rfl rfl rfl) rfl rfl rfl rfl rfl rfl ?_)
                rintro ⟨a655, c656⟩
                obtain ⟨r658, h659, H660⟩ := bnd H654
                refine D.one rfl rfl rfl (Dp.br (Ac.call (c_law01_Same a655 c656 a407 c408 h659) rfl rfl rfl rfl) (Bw.ch 3 rfl (Bw.ch 0 rfl (Bw.nil))) rfl rfl rfl rfl ?_)
                intro _
                refine D.q 43 rfl rfl rfl rfl rfl rfl ?_
                refine D.q 44 rfl rfl rfl rfl rfl rfl ?_
                refine D.nil rfl rfl ?_
                have hr := Option.some.inj H660
                subst e598
                exact E.give ((), ()) [4, 1, 3, 3] [0, 1, 2, 3, 4, 5, 6, 7, 8, 9, 10, 11] trivial ⟨rfl, trivial⟩ rfl rfl
              refine D.sk 39 rfl rfl rfl rfl rfl ?_
              refine D.sk 40 rfl rfl rfl rfl rfl ?_
              refine D.sk 41 rfl rfl rfl rfl rfl ?_
              refine D.sk 42 rfl rfl rfl rfl rfl ?_
              refine D.q 43 rfl rfl rfl rfl rfl rfl ?_
              refine D.q 44 rfl rfl rfl rfl rfl rfl ?_
              refine D.nil rfl rfl ?_
              have hr := Option.some.inj H651
              subst e598
              exact E.give ((), ()) [4, 1, 3, 3] [0, 1, 2, 3, 4, 5, 6, 7, 8, 9, 10, 11] trivial ⟨rfl, trivial⟩ rfl rfl
            refine D.sk 33 rfl rfl rfl rfl rfl ?_
            refine D.sk 34 rfl rfl rfl rfl rfl ?_
            refine D.sk 35 rfl rfl rfl rfl rfl ?_
            refine D.sk 36 rfl rfl rfl rfl rfl ?_
            refine D.q 37 rfl rfl rfl rfl rfl rfl ?_
            refine D.q 38 rfl rfl rfl rfl rfl rfl ?_
            refine D.sk 39 rfl rfl rfl rfl rfl ?_
            refine D.sk 40 rfl rfl rfl rfl rfl ?_
            refine D.sk 41 rfl rfl rfl rfl rfl ?_
            refine D.sk 42 rfl rfl rfl rfl rfl ?_
            refine D.q 43 rfl rfl rfl rfl rfl rfl ?_
            refine D.q 44 rfl rfl rfl rfl rfl rfl ?_
            refine D.nil rfl rfl ?_
            have hr := Option.some.inj H650
            subst e598
            exact E.give ((), ()) [4, 1, 3, 3] [0, 1, 2, 3, 4, 5, 6, 7, 8, 9, 10, 11] trivial ⟨rfl, trivial⟩ rfl rfl
          refine D.sk 27 rfl rfl rfl rfl rfl ?_
          refine D.sk 28 rfl rfl rfl rfl rfl ?_
          refine D.sk 29 rfl rfl rfl rfl rfl ?_
          refine D.sk 30 rfl rfl rfl rfl rfl ?_
          refine D.q 31 rfl rfl rfl rfl rfl rfl ?_
          refine D.q 32 rfl rfl rfl rfl rfl rfl ?_
          refine D.sk 33 rfl rfl rfl rfl rfl ?_
          refine D.sk 34 rfl rfl rfl rfl rfl ?_
          refine D.sk 35 rfl rfl rfl rfl rfl ?_
          refine D.sk 36 rfl rfl rfl rfl rfl ?_
          refine D.q 37 rfl rfl rfl rfl rfl rfl ?_
          refine D.q 38 rfl rfl rfl rfl rfl rfl ?_
          refine D.sk 39 rfl rfl rfl rfl rfl ?_
          refine D.sk 40 rfl rfl rfl rfl rfl ?_
          refine D.sk 41 rfl rfl rfl rfl rfl ?_
          refine D.sk 42 rfl rfl rfl rfl rfl ?_
          refine D.q 43 rfl rfl rfl rfl rfl rfl ?_
          refine D.q 44 rfl rfl rfl rfl rfl rfl ?_
          refine D.nil rfl rfl ?_
          have hr := Option.some.inj H649
          subst e598
          exact E.give ((), ()) [4, 1, 3, 3] [0, 1, 2, 3, 4, 5, 6, 7, 8, 9, 10, 11] trivial ⟨rfl, trivial⟩ rfl rfl
        refine D.sk 21 rfl rfl rfl rfl rfl ?_
        refine D.sk 22 rfl rfl rfl rfl rfl ?_
        refine D.sk 23 rfl rfl rfl rfl rfl ?_
        refine D.sk 24 rfl rfl rfl rfl rfl ?_
        refine D.q 25 rfl rfl rfl rfl rfl rfl ?_
        refine D.q 26 rfl rfl rfl rfl rfl rfl ?_
        refine D.sk 27 rfl rfl rfl rfl rfl ?_
        refine D.sk 28 rfl rfl rfl rfl rfl ?_
        refine D.sk 29 rfl rfl rfl rfl rfl ?_
        refine D.sk 30 rfl rfl rfl rfl rfl ?_
        refine D.q 31 rfl rfl rfl rfl rfl rfl ?_
        refine D.q 32 rfl rfl rfl rfl rfl rfl ?_
        refine D.sk 33 rfl rfl rfl rfl rfl ?_
        refine D.sk 34 rfl rfl rfl rfl rfl ?_
        refine D.sk 35 rfl rfl rfl rfl rfl ?_
        refine D.sk 36 rfl rfl rfl rfl rfl ?_
        refine D.q 37 rfl rfl rfl rfl rfl rfl ?_
        refine D.q 38 rfl rfl rfl rfl rfl rfl ?_
        refine D.sk 39 rfl rfl rfl rfl rfl ?_
        refine D.sk 40 rfl rfl rfl rfl rfl ?_
        refine D.sk 41 rfl rfl rfl rfl rfl ?_
        refine D.sk 42 rfl rfl rfl rfl rfl ?_
        refine D.q 43 rfl rfl rfl rfl rfl rfl ?_
        refine D.q 44 rfl rfl rfl rfl rfl rfl ?_
        refine D.nil rfl rfl ?_
        have hr := Option.some.inj H648
        subst e598
        exact E.give ((), ()) [4, 1, 3, 3] [0, 1, 2, 3, 4, 5, 6, 7, 8, 9, 10, 11] trivial ⟨rfl, trivial⟩ rfl rfl
      refine D.sk 15 rfl rfl rfl rfl rfl ?_
      refine D.sk 16 rfl rfl rfl rfl rfl ?_
      refine D.sk 17 rfl rfl rfl rfl rfl ?_
      refine D.sk 18 rfl rfl rfl rfl rfl ?_
      refine D.q 19 rfl rfl rfl rfl rfl rfl ?_
      refine D.q 20 rfl rfl rfl rfl rfl rfl ?_
      refine D.sk 21 rfl rfl rfl rfl rfl ?_
      refine D.sk 22 rfl rfl rfl rfl rfl ?_
      refine D.sk 23 rfl rfl rfl rfl rfl ?_
      refine D.sk 24 rfl rfl rfl rfl rfl ?_
      refine D.q 25 rfl rfl rfl rfl rfl rfl ?_
      refine D.q 26 rfl rfl rfl rfl rfl rfl ?_
      refine D.sk 27 rfl rfl rfl rfl rfl ?_
      refine D.sk 28 rfl rfl rfl rfl rfl ?_
      refine D.sk 29 rfl rfl rfl rfl rfl ?_
      refine D.sk 30 rfl rfl rfl rfl rfl ?_
      refine D.q 31 rfl rfl rfl rfl rfl rfl ?_
      refine D.q 32 rfl rfl rfl rfl rfl rfl ?_
      refine D.sk 33 rfl rfl rfl rfl rfl ?_
      refine D.sk 34 rfl rfl rfl rfl rfl ?_
      refine D.sk 35 rfl rfl rfl rfl rfl ?_
      refine D.sk 36 rfl rfl rfl rfl rfl ?_
      refine D.q 37 rfl rfl rfl rfl rfl rfl ?_
      refine D.q 38 rfl rfl rfl rfl rfl rfl ?_
      refine D.sk 39 rfl rfl rfl rfl rfl ?_
      refine D.sk 40 rfl rfl rfl rfl rfl ?_
      refine D.sk 41 rfl rfl rfl rfl rfl ?_
      refine D.sk 42 rfl rfl rfl rfl rfl ?_
      refine D.q 43 rfl rfl rfl rfl rfl rfl ?_
      refine D.q 44 rfl rfl rfl rfl rfl rfl ?_
      refine D.nil rfl rfl ?_
      have hr := Option.some.inj H638
      subst e598
      exact E.give ((), ()) [3, 1, 2, 2] [0, 1, 2, 3, 4, 5, 6, 7, 8, 9, 10, 11] trivial ⟨rfl, trivial⟩ rfl rfl
    refine D.sk 7 rfl rfl rfl rfl rfl ?_
    refine D.sk 8 rfl rfl rfl rfl rfl ?_
    refine D.sk 9 rfl rfl rfl rfl rfl ?_
    refine D.sk 10 rfl rfl rfl rfl rfl ?_
    refine D.sk 11 rfl rfl rfl rfl rfl ?_
    refine D.sk 12 rfl rfl rfl rfl rfl ?_
    refine D.q 13 rfl rfl rfl rfl rfl rfl ?_
    refine D.q 14 rfl rfl rfl rfl rfl rfl ?_
    refine D.sk 15 rfl rfl rfl rfl rfl ?_
    refine D.sk 16 rfl rfl rfl rfl rfl ?_
    refine D.sk 17 rfl rfl rfl rfl rfl ?_
    refine D.sk 18 rfl rfl rfl rfl rfl ?_
    refine D.q 19 rfl rfl rfl rfl rfl rfl ?_
    refine D.q 20 rfl rfl rfl rfl rfl rfl ?_
    refine D.sk 21 rfl rfl rfl rfl rfl ?_
    refine D.sk 22 rfl rfl rfl rfl rfl ?_
    refine D.sk 23 rfl rfl rfl rfl rfl ?_
    refine D.sk 24 rfl rfl rfl rfl rfl ?_
    refine D.q 25 rfl rfl rfl rfl rfl rfl ?_
    refine D.q 26 rfl rfl rfl rfl rfl rfl ?_
    refine D.sk 27 rfl rfl rfl rfl rfl ?_
    refine D.sk 28 rfl rfl rfl rfl rfl ?_
    refine D.sk 29 rfl rfl rfl rfl rfl ?_
    refine D.sk 30 rfl rfl rfl rfl rfl ?_
    refine D.q 31 rfl rfl rfl rfl rfl rfl ?_
    refine D.q 32 rfl rfl rfl rfl rfl rfl ?_
    refine D.sk 33 rfl rfl rfl rfl rfl ?_
    refine D.sk 34 rfl rfl rfl rfl rfl ?_
    refine D.sk 35 rfl rfl rfl rfl rfl ?_
    refine D.sk 36 rfl rfl rfl rfl rfl ?_
    refine D.q 37 rfl rfl rfl rfl rfl rfl ?_
    refine D.q 38 rfl rfl rfl rfl rfl rfl ?_
    refine D.sk 39 rfl rfl rfl rfl rfl ?_
    refine D.sk 40 rfl rfl rfl rfl rfl ?_
    refine D.sk 41 rfl rfl rfl rfl rfl ?_
    refine D.sk 42 rfl rfl rfl rfl rfl ?_
    refine D.q 43 rfl rfl rfl rfl rfl rfl ?_
    refine D.q 44 rfl rfl rfl rfl rfl rfl ?_
    refine D.nil rfl rfl ?_
    have hr := Option.some.inj H634
    subst e598
    exact E.give ((), ()) [3, 1, 2, 2] [0, 1, 2, 3, 4, 5, 6, 7, 8, 9, 10, 11] trivial ⟨rfl, trivial⟩ rfl rfl
  rintro ⟨_, ⟨⟩⟩ _
  refine T.ret ?_
  have hr := Option.some.inj H600
  subst r
  exact E.ret () [0, 1, 1] [] (.tmp rfl .nil) rfl rfl rfl

end Go.Tw.X

set_option maxHeartbeats 2000000
set_option linter.unusedVariables false
set_option linter.unusedSimpArgs false
set_option maxRecDepth 10000
namespace Go.Tw.X
open Go Go.Tw
theorem c_law19_SenderClones {acts : List Law19Act} {more : List Law19Act} (a_0 : Option Addr) (c_0 : Nat) (a_1 : Option Addr) (c_1 : Nat) {r : Bool} (H : p_law19_SenderClones acts more = some r) : CT G 3 [.slice a_0 acts.length c_0, .slice a_1 more.length c_1] [] [Im.sl tyLaw19Act a_0 c_0 acts, Im.sl tyLaw19Act a_1 c_1 more, Im.sl (Ty.int .u32) (some ⟨0, 0, none⟩) 16 t_sum_half] (fun h : Unit => .bool r) (fun h => []) (fun h => []) := by
  delta p_law19_SenderClones at H
  refine CT.of Go.Proofs.Tryz.func3 (by kernel_rfl) rfl rfl rfl fun K => ?_
  refine T.seq (T.region ?_)
  refine L.q 1 rfl ?_
  refine L.nil (E.then (T.seq (T.seq (T.region ?_))))
  obtain ⟨r1, h2, H3⟩ := bnd H
  refine L.a [] [2] (Ac.call (c_law19_awake h2) rfl rfl rfl rfl) rfl rfl rfl rfl rfl ?_
  rintro ⟨⟩
  refine L.q 1 rfl ?_
  refine L.nil (E.then ?_)
  refine T.bif rfl H3 (fun hc H5 => ?_) (fun hc H5 => ?_)
  · refine T.seq (T.region ?_)
    refine L.q 1 rfl ?_
    refine L.nil (E.then (T.ret (E.then_ret ?_)))
    have hr := Option.some.inj H5
    subst r
    exact E.ret () [] [] (.tmp rfl .nil) rfl rfl rfl
  refine T.skip (E.then (T.seq (T.region ?_)))
  refine L.q 1 rfl ?_
  refine L.a [] [] (Ac.alloc rfl rfl) rfl rfl rfl rfl rfl ?_
  intro g6
  refine L.a [0] [] (Ac.stb rfl rfl rfl rfl rfl rfl) rfl rfl rfl rfl rfl ?_
  intro _
  refine L.nil (E.then (T.seq ?_))
  refine T.draw [6] [0] mo (by rfl) rfl ?_
  refine D.y 0 (Yl.ldb 0 rfl rfl rfl rfl) rfl rfl rfl rfl rfl rfl ?_
  refine D.y 2 (Yl.ldb 0 rfl rfl rfl rfl) rfl rfl rfl rfl rfl rfl ?_
  refine DF.of rfl ?_
  refine DF.add _ (FSp.ac 4 [] (Ac.alloc rfl rfl) rfl rfl rfl rfl rfl) rfl ?_
  refine DF.step 1 rfl rfl rfl rfl rfl ?_
  obtain ⟨r158, h159, H160⟩ := bnd H5
  refine DFp.a [] [] (Ac.call (c_sender_New h159) rfl rfl rfl rfl) rfl rfl rfl rfl rfl rfl rfl rfl ?_
  rintro ⟨g161, ⟨a162, c163⟩, ⟨a164, c165⟩, ⟨a166, c167⟩, ⟨a168, c169⟩, ⟨a170, c171⟩, ⟨a172, c173⟩, ⟨a174, c175⟩⟩
  obtain ⟨r183, h184, H185⟩ := bnd H160
  refine DF.add _ (FSp.ac 3 [] (Ac.call (c_ref19_New h184) rfl rfl rfl rfl) rfl rfl rfl rfl rfl) rfl ?_
  refine DF.step 5 rfl rfl rfl rfl rfl ?_
  refine DFp.use 0 rfl rfl rfl ?_
  rintro ⟨⟨a186, c187⟩, ⟨a188, c189⟩, ⟨a190, c191⟩, ⟨a192, c193⟩, ⟨a194, c195⟩, ⟨a196, c197⟩, ⟨a198, c199⟩⟩
  refine DFp.use 0 rfl rfl rfl ?_
  intro g157
  refine DFp.a [] [] (Ac.q rfl) rfl rfl rfl rfl rfl rfl rfl rfl ?_
  intro _
  refine DF.step 6 rfl rfl rfl rfl rfl ?_
  refine DFp.al [1] [] (Ac.stb rfl rfl rfl rfl rfl rfl) rfl rfl rfl rfl rfl rfl rfl ?_
  intro _
  refine DF.fin rfl rfl rfl rfl rfl ?_
  refine DFe.nil ?_
  refine E.then (T.seq (T.seq (T.region ?_)))
  refine L.q 1 rfl ?_
  refine L.y (Yl.pn rfl rfl rfl rfl rfl rfl) rfl rfl rfl ?_
  refine L.nil (E.then ?_)
  refine T.cond rfl (fun h => nomatch h) (fun _ => ?_)
  refine T.skip (E.then (T.seq (T.region ?_)))
  refine L.q 2 rfl ?_
  refine L.nil (E.then (T.seq (T.seq (T.region ?_))))
  refine L.q 1 rfl ?_
  refine L.nil (E.then ?_)
  obtain ⟨y1823, H1824, H1825⟩ := bnd H185
  refine T.join (η := (Int × Ref19Sender × SenderSender) × ((Option Addr × Nat) × (Option Addr × Nat) × (Option Addr × Nat) × (Option Addr × Nat) × (Option Addr × Nat) × (Option Addr × Nat) × (Option Addr × Nat) × (Option Addr × Nat) × (Option Addr × Nat) × (Option Addr × Nat) × (Option Addr × Nat) × (Option Addr × Nat) × (Option Addr × Nat) × (Option Addr × Nat))) (fun h => y1823 = .inl h.1) (fun h => (fun e1822 => (fun a1779 c1780 a1782 c1783 a1785 c1786 a1788 c1789 a1791 c1792 a1794 c1795 a1797 c1798 a1801 c1802 a1804 c1805 a1807 c1808 a1810 c1811 a1813 c1814 a1816 c1817 a1819 c1820 => [(1, .slice a_1 more.length c_1), (6, .pointer (some ⟨g161, 0, none⟩)), (7, .pointer (some ⟨g157, 0, none⟩)), (8, .int .i64 e1822.1)]) h.2.1.1 h.2.1.2 h.2.2.1.1 h.2.2.1.2 h.2.2.2.1.1 h.2.2.2.1.2 h.2.2.2.2.1.1 h.2.2.2.2.1.2 h.2.2.2.2.2.1.1 h.2.2.2.2.2.1.2 h.2.2.2.2.2.2.1.1 h.2.2.2.2.2.2.1.2 h.2.2.2.2.2.2.2.1.1 h.2.2.2.2.2.2.2.1.2 h.2.2.2.2.2.2.2.2.1.1 h.2.2.2.2.2.2.2.2.1.2 h.2.2.2.2.2.2.2.2.2.1.1 h.2.2.2.2.2.2.2.2.2.1.2 h.2.2.2.2.2.2.2.2.2.2.1.1 h.2.2.2.2.2.2.2.2.2.2.1.2 h.2.2.2.2.2.2.2.2.2.2.2.1.1 h.2.2.2.2.2.2.2.2.2.2.2.1.2 h.2.2.2.2.2.2.2.2.2.2.2.2.1.1 h.2.2.2.2.2.2.2.2.2.2.2.2.1.2 h.2.2.2.2.2.2.2.2.2.2.2.2.2.1.1 h.2.2.2.2.2.2.2.2.2.2.2.2.2.1.2 h.2.2.2.2.2.2.2.2.2.2.2.2.2.2.1 h.2.2.2.2.2.2.2.2.2.2.2.2.2.2.2) h.1) (fun h => (fun e1822 => (fun a1779 c1780 a1782 c1783 a1785 c1786 a1788 c1789 a1791 c1792 a1794 c1795 a1797 c1798 a1801 c1802 a1804 c1805 a1807 c1808 a1810 c1811 a1813 c1814 a1816 c1817 a1819 c1820 => [Ch.aro tySnapSnap 43 a1813 c1814 e1822.2.2.kept, Ch.arr Ty.bool 4 a1819 c1820 e1822.2.2.message.there, Ch.box g157 38 (bx38 e1822.2.1 a1779 c1780 a1782 c1783 a1785 c1786 a1788 c1789 a1791 c1792 a1794 c1795 a1797 c1798), Ch.box g6 25 [.int .i64 10, .int .i64 2, .int .i64 3], Ch.box g161 67 (bx67 e1822.2.2 a1801 c1802 a1804 c1805 a1807 c1808 a1810 c1811 a1813 c1814 a1816 c1817 a1819 c1820)]) h.2.1.1 h.2.1.2 h.2.2.1.1 h.2.2.1.2 h.2.2.2.1.1 h.2.2.2.1.2 h.2.2.2.2.1.1 h.2.2.2.2.1.2 h.2.2.2.2.2.1.1 h.2.2.2.2.2.1.2 h.2.2.2.2.2.2.1.1 h.2.2.2.2.2.2.1.2 h.2.2.2.2.2.2.2.1.1 h.2.2.2.2.2.2.2.1.2 h.2.2.2.2.2.2.2.2.1.1 h.2.2.2.2.2.2.2.2.1.2 h.2.2.2.2.2.2.2.2.2.1.1 h.2.2.2.2.2.2.2.2.2.1.2 h.2.2.2.2.2.2.2.2.2.2.1.1 h.2.2.2.2.2.2.2.2.2.2.1.2 h.2.2.2.2.2.2.2.2.2.2.2.1.1 h.2.2.2.2.2.2.2.2.2.2.2.1.2 h.2.2.2.2.2.2.2.2.2.2.2.2.1.1 h.2.2.2.2.2.2.2.2.2.2.2.2.1.2 h.2.2.2.2.2.2.2.2.2.2.2.2.2.1.1 h.2.2.2.2.2.2.2.2.2.2.2.2.2.1.2 h.2.2.2.2.2.2.2.2.2.2.2.2.2.2.1 h.2.2.2.2.2.2.2.2.2.2.2.2.2.2.2) h.1) (fun h => (fun e1822 => (fun a1779 c1780 a1782 c1783 a1785 c1786 a1788 c1789 a1791 c1792 a1794 c1795 a1797 c1798 a1801 c1802 a1804 c1805 a1807 c1808 a1810 c1811 a1813 c1814 a1816 c1817 a1819 c1820 => [Im.sl tyRef09Row a1779 c1780 e1822.2.1.current.rows, Im.sl tyRef09Glyph a1782 c1783 e1822.2.1.current.begun, Im.sl tyRef09Row a1785 c1786 e1822.2.1.acked.rows, Im.sl tyRef09Glyph a1788 c1789 e1822.2.1.acked.begun, Im.sl tyRef16Snap a1791 c1792 e1822.2.1.kept, Im.sl Ty.str a1794 c1795 e1822.2.1.parts, Im.sl Ty.bool a1797 c1798 e1822.2.1.there, Im.sl tyRowRow a1801 c1802 e1822.2.2.current.rows, Im.sl tyRowGlyph a1804 c1805 e1822.2.2.current.begun, Im.sl tyRowRow a1807 c1808 e1822.2.2.acked.rows, Im.sl tyRowGlyph a1810 c1811 e1822.2.2.acked.begun, Im.sl Ty.str a1816 c1817 e1822.2.2.message.parts, Im.sl tyRef09Row a186 c187 r183.current.rows, Im.sl tyRef09Glyph a188 c189 r183.current.begun, Im.sl tyRef09Row a190 c191 r183.acked.rows, Im.sl tyRef09Glyph a192 c193 r183.acked.begun, Im.sl tyRef16Snap a194 c195 r183.kept, Im.sl Ty.str a196 c197 r183.parts, Im.sl Ty.bool a198 c199 r183.there, Im.sl tyRowRow a162 c163 r158.current.rows, Im.sl tyRowGlyph a164 c165 r158.current.begun, Im.sl tyRowRow a166 c167 r158.acked.rows, Im.sl tyRowGlyph a168 c169 r158.acked.begun, Im.sl Ty.str a172 c173 r158.message.parts, Im.sl tyLaw19Act a_0 c_0 acts, Im.sl tyLaw19Act a_1 c_1 more, Im.sl (Ty.int .u32) (some ⟨0, 0, none⟩) 16 t_sum_half]) h.2.1.1 h.2.1.2 h.2.2.1.1 h.2.2.1.2 h.2.2.2.1.1 h.2.2.2.1.2 h.2.2.2.2.1.1 h.2.2.2.2.1.2 h.2.2.2.2.2.1.1 h.2.2.2.2.2.1.2 h.2.2.2.2.2.2.1.1 h.2.2.2.2.2.2.1.2 h.2.2.2.2.2.2.2.1.1 h.2.2.2.2.2.2.2.1.2 h.2.2.2.2.2.2.2.2.1.1 h.2.2.2.2.2.2.2.2.1.2 h.2.2.2.2.2.2.2.2.2.1.1 h.2.2.2.2.2.2.2.2.2.1.2 h.2.2.2.2.2.2.2.2.2.2.1.1 h.2.2.2.2.2.2.2.2.2.2.1.2 h.2.2.2.2.2.2.2.2.2.2.2.1.1 h.2.2.2.2.2.2.2.2.2.2.2.1.2 h.2.2.2.2.2.2.2.2.2.2.2.2.1.1 h.2.2.2.2.2.2.2.2.2.2.2.2.1.2 h.2.2.2.2.2.2.2.2.2.2.2.2.2.1.1 h.2.2.2.2.2.2.2.2.2.2.2.2.2.1.2 h.2.2.2.2.2.2.2.2.2.2.2.2.2.2.1 h.2.2.2.2.2.2.2.2.2.2.2.2.2.2.2) h.1) ?_ ?_
  · refine T.block ?_
    refine T.lp (η := (Option Addr × Nat) × (Option Addr × Nat) × (Option Addr × Nat) × (Option Addr × Nat) × (Option Addr × Nat) × (Option Addr × Nat) × (Option Addr × Nat) × (Option Addr × Nat) × (Option Addr × Nat) × (Option Addr × Nat) × (Option Addr × Nat) × (Option Addr × Nat) × (Option Addr × Nat) × (Option Addr × Nat)) (fun s1299 h => (fun a1254 c1255 a1257 c1258 a1260 c1261 a1263 c1264 a1266 c1267 a1269 c1270 a1272 c1273 a1276 c1277 a1279 c1280 a1282 c1283 a1285 c1286 a1288 c1289 a1291 c1292 a1294 c1295 => [(0, .slice a_0 acts.length c_0), (1, .slice a_1 more.length c_1), (6, .pointer (some ⟨g161, 0, none⟩)), (7, .pointer (some ⟨g157, 0, none⟩)), (8, .int .i64 s1299.2.2.2), (10, .int .i64 s1299.2.2.1)]) h.1.1 h.1.2 h.2.1.1 h.2.1.2 h.2.2.1.1 h.2.2.1.2 h.2.2.2.1.1 h.2.2.2.1.2 h.2.2.2.2.1.1 h.2.2.2.2.1.2 h.2.2.2.2.2.1.1 h.2.2.2.2.2.1.2 h.2.2.2.2.2.2.1.1 h.2.2.2.2.2.2.1.2 h.2.2.2.2.2.2.2.1.1 h.2.2.2.2.2.2.2.1.2 h.2.2.2.2.2.2.2.2.1.1 h.2.2.2.2.2.2.2.2.1.2 h.2.2.2.2.2.2.2.2.2.1.1 h.2.2.2.2.2.2.2.2.2.1.2 h.2.2.2.2.2.2.2.2.2.2.1.1 h.2.2.2.2.2.2.2.2.2.2.1.2 h.2.2.2.2.2.2.2.2.2.2.2.1.1 h.2.2.2.2.2.2.2.2.2.2.2.1.2 h.2.2.2.2.2.2.2.2.2.2.2.2.1.1 h.2.2.2.2.2.2.2.2.2.2.2.2.1.2 h.2.2.2.2.2.2.2.2.2.2.2.2.2.1 h.2.2.2.2.2.2.2.2.2.2.2.2.2.2) (fun s1299 h => (fun a1254 c1255 a1257 c1258 a1260 c1261 a1263 c1264 a1266 c1267 a1269 c1270 a1272 c1273 a1276 c1277 a1279 c1280 a1282 c1283 a1285 c1286 a1288 c1289 a1291 c1292 a1294 c1295 => [Ch.aro tySnapSnap 43 a1288 c1289 s1299.2.1.kept, Ch.arr Ty.bool 4 a1294 c1295 s1299.2.1.message.there, Ch.box g157 38 (bx38 s1299.1 a1254 c1255 a1257 c1258 a1260 c1261 a1263 c1264 a1266 c1267 a1269 c1270 a1272 c1273), Ch.box g6 25 [.int .i64 10, .int .i64 2, .int .i64 3], Ch.box g161 67 (bx67 s1299.2.1 a1276 c1277 a1279 c1280 a1282 c1283 a1285 c1286 a1288 c1289 a1291 c1292 a1294 c1295)]) h.1.1 h.1.2 h.2.1.1 h.2.1.2 h.2.2.1.1 h.2.2.1.2 h.2.2.2.1.1 h.2.2.2.1.2 h.2.2.2.2.1.1 h.2.2.2.2.1.2 h.2.2.2.2.2.1.1 h.2.2.2.2.2.1.2 h.2.2.2.2.2.2.1.1 h.2.2.2.2.2.2.1.2 h.2.2.2.2.2.2.2.1.1 h.2.2.2.2.2.2.2.1.2 h.2.2.2.2.2.2.2.2.1.1 h.2.2.2.2.2.2.2.2.1.2 h.2.2.2.2.2.2.2.2.2.1.1 h.2.2.2.2.2.2.2.2.2.1.2 h.2.2.2.2.2.2.2.2.2.2.1.1 h.2.2.2.2.2.2.2.2.2.2.1.2 h.2.2.2.2.2.2.2.2.2.2.2.1.1 h.2.2.2.2.2.2.2.2.2.2.2.1.2 h.2.2.2.2.2.2.2.2.2.2.2.2.1.1 h.2.2.2.2.2.2.2.2.2.2.2.2.1.2 h.2.2.2.2.2.2.2.2.2.2.2.2.2.1 h.2.2.2.2.2.2.2.2.2.2.2.2.2.2) (fun s1299 h => (fun a1254 c1255 a1257 c1258 a1260 c1261 a1263 c1264 a1266 c1267 a1269 c1270 a1272 c1273 a1276 c1277 a1279 c1280 a1282 c1283 a1285 c1286 a1288 c1289 a1291 c1292 a1294 c1295 => [Im.sl tyRef09Row a1254 c1255 s1299.1.current.rows, Im.sl tyRef09Glyph a1257 c1258 s1299.1.current.begun, Im.sl tyRef09Row a1260 c1261 s1299.1.acked.rows, Im.sl tyRef09Glyph a1263 c1264 s1299.1.acked.begun, Im.sl tyRef16Snap a1266 c1267 s1299.1.kept, Im.sl Ty.str a1269 c1270 s1299.1.parts, Im.sl Ty.bool a1272 c1273 s1299.1.there, Im.sl tyRowRow a1276 c1277 s1299.2.1.current.rows, Im.sl tyRowGlyph a1279 c1280 s1299.2.1.current.begun, Im.sl tyRowRow a1282 c1283 s1299.2.1.acked.rows, Im.sl tyRowGlyph a1285 c1286 s1299.2.1.acked.begun, Im.sl Ty.str a1291 c1292 s1299.2.1.message.parts, Im.sl tyRef09Row a186 c187 r183.current.rows, Im.sl tyRef09Glyph a188 c189 r183.current.begun, Im.sl tyRef09Row a190 c191 r183.acked.rows, Im.sl tyRef09Glyph a192 c193 r183.acked.begun, Im.sl tyRef16Snap a194 c195 r183.kept, Im.sl Ty.str a196 c197 r183.parts, Im.sl Ty.bool a198 c199 r183.there, Im.sl tyRowRow a162 c163 r158.current.rows, Im.sl tyRowGlyph a164 c165 r158.current.begun, Im.sl tyRowRow a166 c167 r158.acked.rows, Im.sl tyRowGlyph a168 c169 r158.acked.begun, Im.sl Ty.str a172 c173 r158.message.parts, Im.sl tyLaw19Act a_0 c_0 acts, Im.sl tyLaw19Act a_1 c_1 more, Im.sl (Ty.int .u32) (some ⟨0, 0, none⟩) 16 t_sum_half]) h.1.1 h.1.2 h.2.1.1 h.2.1.2 h.2.2.1.1 h.2.2.1.2 h.2.2.2.1.1 h.2.2.2.1.2 h.2.2.2.2.1.1 h.2.2.2.2.1.2 h.2.2.2.2.2.1.1 h.2.2.2.2.2.1.2 h.2.2.2.2.2.2.1.1 h.2.2.2.2.2.2.1.2 h.2.2.2.2.2.2.2.1.1 h.2.2.2.2.2.2.2.1.2 h.2.2.2.2.2.2.2.2.1.1 h.2.2.2.2.2.2.2.2.1.2 h.2.2.2.2.2.2.2.2.2.1.1 h.2.2.2.2.2.2.2.2.2.1.2 h.2.2.2.2.2.2.2.2.2.2.1.1 h.2.2.2.2.2.2.2.2.2.2.1.2 h.2.2.2.2.2.2.2.2.2.2.2.1.1 h.2.2.2.2.2.2.2.2.2.2.2.1.2 h.2.2.2.2.2.2.2.2.2.2.2.2.1.1 h.2.2.2.2.2.2.2.2.2.2.2.2.1.2 h.2.2.2.2.2.2.2.2.2.2.2.2.2.1 h.2.2.2.2.2.2.2.2.2.2.2.2.2.2) ((a186, c187), (a188, c189), (a190, c191), (a192, c193), (a194, c195), (a196, c197), (a198, c199), (a162, c163), (a164, c165), (a166, c167), (a168, c169), (a170, c171), (a172, c173), (a174, c175)) [3, 3, 0, 0, 0] [0, 1, 2, 3, 4, 5, 6, 7, 8, 9, 10, 11, 0, 1, 2, 3, 4, 5, 6, 7, 8, 9, 10, 11, 12, 13, 14] H1824 ⟨rfl, rfl, rfl, rfl, rfl, rfl, trivial⟩ rfl rfl ?_
    rintro k_ s1299 ⟨⟨a1254, c1255⟩, ⟨a1257, c1258⟩, ⟨a1260, c1261⟩, ⟨a1263, c1264⟩, ⟨a1266, c1267⟩, ⟨a1269, c1270⟩, ⟨a1272, c1273⟩, ⟨a1276, c1277⟩, ⟨a1279, c1280⟩, ⟨a1282, c1283⟩, ⟨a1285, c1286⟩, ⟨a1288, c1289⟩, ⟨a1291, c1292⟩, ⟨a1294, c1295⟩⟩ z1827 H1826 hag1828 hbr1829
    refine T.seq (T.seq ?_)
    obtain ⟨e1833, H1834, H1835⟩ := bnd H1826
    refine T.join (η := Unit × Unit) (fun h => True) (fun h => [(0, .slice a_0 acts.length c_0), (1, .slice a_1 more.length c_1), (6, .pointer (some ⟨g161, 0, none⟩)), (7, .pointer (some ⟨g157, 0, none⟩)), (8, .int .i64 s1299.2.2.2), (10, .int .i64 s1299.2.2.1), (30, .bool e1833)]) (fun h => [Ch.box g157 38 (bx38 s1299.1 a1254 c1255 a1257 c1258 a1260 c1261 a1263 c1264 a1266 c1267 a1269 c1270 a1272 c1273), Ch.box g6 25 [.int .i64 10, .int .i64 2, .int .i64 3], Ch.box g161 67 (bx67 s1299.2.1 a1276 c1277 a1279 c1280 a1282 c1283 a1285 c1286 a1288 c1289 a1291 c1292 a1294 c1295), Ch.aro tySnapSnap 43 a1288 c1289 s1299.2.1.kept, Ch.arr Ty.bool 4 a1294 c1295 s1299.2.1.message.there]) (fun h => [Im.sl tyRef09Row a1254 c1255 s1299.1.current.rows, Im.sl tyRef09Glyph a1257 c1258 s1299.1.current.begun, Im.sl tyRef09Row a1260 c1261 s1299.1.acked.rows, Im.sl tyRef09Glyph a1263 c1264 s1299.1.acked.begun, Im.sl tyRef16Snap a1266 c1267 s1299.1.kept, Im.sl Ty.str a1269 c1270 s1299.1.parts, Im.sl Ty.bool a1272 c1273 s1299.1.there, Im.sl tyRowRow a1276 c1277 s1299.2.1.current.rows, Im.sl tyRowGlyph a1279 c1280 s1299.2.1.current.begun, Im.sl tyRowRow a1282 c1283 s1299.2.1.acked.rows, Im.sl tyRowGlyph a1285 c1286 s1299.2.1.acked.begun, Im.sl Ty.str a1291 c1292 s1299.2.1.message.parts, Im.sl tyRef09Row a186 c187 r183.current.rows, Im.sl tyRef09Glyph a188 c189 r183.current.begun, Im.sl tyRef09Row a190 c191 r183.acked.rows, Im.sl tyRef09Glyph a192 c193 r183.acked.begun, Im.sl tyRef16Snap a194 c195 r183.kept, Im.sl Ty.str a196 c197 r183.parts, Im.sl Ty.bool a198 c199 r183.there, Im.sl tyRowRow a162 c163 r158.current.rows, Im.sl tyRowGlyph a164 c165 r158.current.begun, Im.sl tyRowRow a166 c167 r158.acked.rows, Im.sl tyRowGlyph a168 c169 r158.acked.begun, Im.sl Ty.str a172 c173 r158.message.parts, Im.sl tyLaw19Act a_0 c_0 acts, Im.sl tyLaw19Act a_1 c_1 more, Im.sl (Ty.int .u32) (some ⟨0, 0, none⟩) 16 t_sum_half]) ?_ ?_
    · refine T.region ?_
      refine L.q 5 rfl ?_
      refine L.cs 27 H1834 rfl (fun hc H1836 => ?_) (fun hc H1836 => ?_)
      · refine L.q 3 rfl ?_
        refine L.nil ?_
        have hr := Option.some.inj H1836
        subst e1833
        exact E.give ((), ()) [2, 2, 2, 0, 0] [0, 1, 2, 3, 4, 5, 6, 7, 8, 9, 10, 11, 12, 13, 14, 15, 16, 17, 18, 19, 20, 21, 22, 23, 24, 25, 26] trivial ⟨rfl, rfl, rfl, rfl, rfl, rfl, rfl, trivial⟩ rfl rfl
      refine L.q 3 rfl ?_
      refine L.nil ?_
      have hr := Option.some.inj H1836
      subst e1833
      exact E.give ((), ()) [2, 2, 2, 0, 0] [0, 1, 2, 3, 4, 5, 6, 7, 8, 9, 10, 11, 12, 13, 14, 15, 16, 17, 18, 19, 20, 21, 22, 23, 24, 25, 26] trivial ⟨rfl, rfl, rfl, rfl, rfl, rfl, rfl, trivial⟩ rfl rfl
    rintro ⟨_, ⟨⟩⟩ _
    refine T.bif rfl H1835 (fun hc H1838 => ?_) (fun hc H1838 => ?_)
    · refine T.skip (E.then (T.seq (T.block (T.seq (T.region ?_)))))
      refine L.q 3 rfl ?_
      obtain ⟨x2073, h2074, H2075⟩ := bnd H1838
      refine L.addr 24 rfl (idx_lt h2074) fun b2076 o2077 e2078 => ?_
      obtain rfl : a_0 = some ⟨b2076, o2077, none⟩ := e2078
      refine L.y (Yl.ia h2074 rfl rfl rfl rfl rfl rfl) rfl rfl rfl ?_
      refine L.el 24 rfl (idx_some h2074).2 ?_
      rintro ⟨⟨a2079, c2080⟩, ⟨a2081, c2082⟩⟩
      refine L.q 1 rfl ?_
      refine L.y (Yl.ldc 0 3 rfl rfl rfl rfl) rfl rfl rfl ?_
      refine L.q 3 rfl ?_
      refine L.nil (E.then (T.seq ?_))
      refine T.draw [11] [0, 0] mo (by rfl) rfl ?_
      refine D.q 0 rfl rfl rfl rfl rfl rfl ?_
      refine D.y 1 (Yl.ldb 0 rfl rfl rfl rfl) rfl rfl rfl rfl rfl rfl ?_
      refine D.q 2 rfl rfl rfl rfl rfl rfl ?_
      refine D.q 3 rfl rfl rfl rfl rfl rfl ?_
      obtain ⟨x2251, h2252, H2253⟩ := bnd H2075
      refine D.y 4 (Yl.ia h2252 rfl rfl rfl rfl rfl rfl) rfl rfl rfl rfl rfl rfl ?_
      refine D.el 27 rfl (idx_some h2252).2 ?_
      rintro ⟨⟨a2254, c2255⟩, ⟨a2256, c2257⟩⟩
      refine D.y 5 (Yl.ldc 0 0 rfl rfl rfl rfl) rfl rfl rfl rfl rfl rfl ?_
      refine D.q 6 rfl rfl rfl rfl rfl rfl ?_
      obtain ⟨r2261, h2262, H2263⟩ := bnd H2253
      refine D.one rfl rfl rfl (Dp.a [0, 0, 0] [13, 14, 15, 16, 17, 6, 7, 8, 9, 10, 11, 12, 1, 2, 32] (Ac.call (c_law19_do g161 a1276 c1277 a1279 c1280 a1282 c1283 a1285 c1286 a1288 c1289 a1291 c1292 a1294 c1295 a1254 c1255 a1257 c1258 a1260 c1261 a1263 c1264 a1266 c1267 a1269 c1270 a1272 c1273 a2254 c2255 a2256 c2257 h2262) rfl rfl rfl rfl) rfl rfl rfl rfl rfl rfl ?_)
      rintro ⟨⟨a2264, c2265⟩, ⟨a2266, c2267⟩, ⟨a2268, c2269⟩, ⟨a2270, c2271⟩, ⟨a2272, c2273⟩, ⟨a2274, c2275⟩, ⟨a2276, c2277⟩, ⟨a2278, c2279⟩, ⟨a2280, c2281⟩, ⟨a2282, c2283⟩, ⟨a2284, c2285⟩, ⟨a2286, c2287⟩, ⟨a2288, c2289⟩, ⟨a2290, c2291⟩⟩
      refine D.q 8 rfl rfl rfl rfl rfl rfl ?_
      refine D.q 9 rfl rfl rfl rfl rfl rfl ?_
      refine D.q 10 rfl rfl rfl rfl rfl rfl ?_
      refine D.one rfl rfl rfl (Dp.al [0] [] (Ac.stb rfl rfl rfl rfl rfl rfl) rfl rfl rfl rfl rfl rfl rfl ?_)
      intro _
      refine D.q 12 rfl rfl rfl rfl rfl rfl ?_
      refine D.nil rfl rfl ?_
      refine E.then (T.seq (T.region ?_))
      refine L.q 2 rfl ?_
      refine L.nil (E.then ?_)
      refine T.bif rfl H2263 (fun hc H2306 => ?_) (fun hc H2306 => ?_)
      · refine T.seq (T.region ?_)
        refine L.q 1 rfl ?_
        refine L.nil (E.then (T.ret (E.block_ret (E.then_ret (E.then_ret (E.block_ret ?_))))))
        obtain ⟨w2307, hz, H2308⟩ := inrr_some H2306
        subst z1827
        have hb := hbr1829 _ rfl
        subst y1823
        have hw : w2307 = r := Option.some.inj H1825
        subst w2307
        refine E.then_ret ?_
        have hr := Option.some.inj H2308
        subst r
        exact E.ret () [] [] (.tmp rfl .nil) rfl rfl rfl
      refine T.skip (E.block (E.then (T.region ?_)))
      refine L.q 3 rfl ?_
      refine L.nil ?_
      have hr := Option.some.inj H2306
      subst z1827
      exact E.give (_, ((a2264, c2265), (a2266, c2267), (a2268, c2269), (a2270, c2271), (a2272, c2273), (a2274, c2275), (a2276, c2277), (a2278, c2279), (a2280, c2281), (a2282, c2283), (a2284, c2285), (a2286, c2287), (a2288, c2289), (a2290, c2291))) [3, 3, 0, 0, 0] [0, 1, 2, 3, 4, 5, 6, 7, 8, 9, 10, 11, 30, 31, 32, 33, 34, 35, 36, 37, 38, 39, 40, 41, 42, 43, 44] (hag1828 _ rfl) ⟨rfl, rfl, rfl, rfl, rfl, rfl, trivial⟩ rfl rfl
    refine T.exit (E.then_exit' (E.then_exit' (E.block_here ?_)))
    have hr := Option.some.inj H1838
    subst z1827
    have hb := hbr1829 _ rfl
    subst y1823
    exact E.give (_, ((a1254, c1255), (a1257, c1258), (a1260, c1261), (a1263, c1264), (a1266, c1267), (a1269, c1270), (a1272, c1273), (a1276, c1277), (a1279, c1280), (a1282, c1283), (a1285, c1286), (a1288, c1289), (a1291, c1292), (a1294, c1295))) [3, 3, 0, 0, 0] [0, 1, 2, 3, 4, 5, 6, 7, 8, 9, 10, 11, 12, 13, 14, 15, 16, 17, 18, 19, 20, 21, 22, 23, 24, 25, 26] rfl ⟨rfl, rfl, rfl, rfl, trivial⟩ rfl rfl
  rintro ⟨e1822, ⟨⟨a1779, c1780⟩, ⟨a1782, c1783⟩, ⟨a1785, c1786⟩, ⟨a1788, c1789⟩, ⟨a1791, c1792⟩, ⟨a1794, c1795⟩, ⟨a1797, c1798⟩, ⟨a1801, c1802⟩, ⟨a1804, c1805⟩, ⟨a1807, c1808⟩, ⟨a1810, c1811⟩, ⟨a1813, c1814⟩, ⟨a1816, c1817⟩, ⟨a1819, c1820⟩⟩⟩ hy
  subst hy
  refine T.seq ?_
  obtain ⟨e2535, H2536, H2537⟩ := bnd H1825
  refine T.join (η := Unit × (Nat × (Option Addr × Nat) × (Option Addr × Nat) × (Option Addr × Nat) × (Option Addr × Nat) × (Option Addr × Nat) × (Option Addr × Nat) × (Option Addr × Nat) × Nat × (Option Addr × Nat) × (Option Addr × Nat) × (Option Addr × Nat) × (Option Addr × Nat) × (Option Addr × Nat) × (Option Addr × Nat) × (Option Addr × Nat))) (fun h => True) (fun h => (fun g2490 a2491 c2492 a2494 c2495 a2497 c2498 a2500 c2501 a2503 c2504 a2506 c2507 a2509 c2510 g2513 a2514 c2515 a2517 c2518 a2520 c2521 a2523 c2524 a2526 c2527 a2529 c2530 a2532 c2533 => [(1, .slice a_1 more.length c_1), (6, .pointer (some ⟨g161, 0, none⟩)), (7, .pointer (some ⟨g157, 0, none⟩)), (8, .int .i64 e1822.1), (11, .pointer (some ⟨g2490, 0, none⟩)), (12, .pointer (some ⟨g2513, 0, none⟩))]) h.2.1 h.2.2.1.1 h.2.2.1.2 h.2.2.2.1.1 h.2.2.2.1.2 h.2.2.2.2.1.1 h.2.2.2.2.1.2 h.2.2.2.2.2.1.1 h.2.2.2.2.2.1.2 h.2.2.2.2.2.2.1.1 h.2.2.2.2.2.2.1.2 h.2.2.2.2.2.2.2.1.1 h.2.2.2.2.2.2.2.1.2 h.2.2.2.2.2.2.2.2.1.1 h.2.2.2.2.2.2.2.2.1.2 h.2.2.2.2.2.2.2.2.2.1 h.2.2.2.2.2.2.2.2.2.2.1.1 h.2.2.2.2.2.2.2.2.2.2.1.2 h.2.2.2.2.2.2.2.2.2.2.2.1.1 h.2.2.2.2.2.2.2.2.2.2.2.1.2 h.2.2.2.2.2.2.2.2.2.2.2.2.1.1 h.2.2.2.2.2.2.2.2.2.2.2.2.1.2 h.2.2.2.2.2.2.2.2.2.2.2.2.2.1.1 h.2.2.2.2.2.2.2.2.2.2.2.2.2.1.2 h.2.2.2.2.2.2.2.2.2.2.2.2.2.2.1.1 h.2.2.2.2.2.2.2.2.2.2.2.2.2.2.1.2 h.2.2.2.2.2.2.2.2.2.2.2.2.2.2.2.1.1 h.2.2.2.2.2.2.2.2.2.2.2.2.2.2.2.1.2 h.2.2.2.2.2.2.2.2.2.2.2.2.2.2.2.2.1 h.2.2.2.2.2.2.2.2.2.2.2.2.2.2.2.2.2) (fun h => (fun g2490 a2491 c2492 a2494 c2495 a2497 c2498 a2500 c2501 a2503 c2504 a2506 c2507 a2509 c2510 g2513 a2514 c2515 a2517 c2518 a2520 c2521 a2523 c2524 a2526 c2527 a2529 c2530 a2532 c2533 => [Ch.aro tySnapSnap 43 a2503 c2504 e2535.1.kept, Ch.arr Ty.bool 4 a2509 c2510 e2535.1.message.there, Ch.box g157 38 (bx38 e1822.2.1 a1779 c1780 a1782 c1783 a1785 c1786 a1788 c1789 a1791 c1792 a1794 c1795 a1797 c1798), Ch.box g6 25 [.int .i64 10, .int .i64 2, .int .i64 3], Ch.box g161 67 (bx67 e1822.2.2 a1801 c1802 a1804 c1805 a1807 c1808 a1810 c1811 a1813 c1814 a1816 c1817 a1819 c1820), Ch.box g2490 67 (bx67 e2535.1 a2491 c2492 a2494 c2495 a2497 c2498 a2500 c2501 a2503 c2504 a2506 c2507 a2509 c2510), Ch.box g2513 38 (bx38 e2535.2 a2514 c2515 a2517 c2518 a2520 c2521 a2523 c2524 a2526 c2527 a2529 c2530 a2532 c2533), Ch.aro tySnapSnap 43 a1813 c1814 e1822.2.2.kept, Ch.arr Ty.bool 4 a1819 c1820 e1822.2.2.message.there]) h.2.1 h.2.2.1.1 h.2.2.1.2 h.2.2.2.1.1 h.2.2.2.1.2 h.2.2.2.2.1.1 h.2.2.2.2.1.2 h.2.2.2.2.2.1.1 h.2.2.2.2.2.1.2 h.2.2.2.2.2.2.1.1 h.2.2.2.2.2.2.1.2 h.2.2.2.2.2.2.2.1.1 h.2.2.2.2.2.2.2.1.2 h.2.2.2.2.2.2.2.2.1.1 h.2.2.2.2.2.2.2.2.1.2 h.2.2.2.2.2.2.2.2.2.1 h.2.2.2.2.2.2.2.2.2.2.1.1 h.2.2.2.2.2.2.2.2.2.2.1.2 h.2.2.2.2.2.2.2.2.2.2.2.1.1 h.2.2.2.2.2.2.2.2.2.2.2.1.2 h.2.2.2.2.2.2.2.2.2.2.2.2.1.1 h.2.2.2.2.2.2.2.2.2.2.2.2.1.2 h.2.2.2.2.2.2.2.2.2.2.2.2.2.1.1 h.2.2.2.2.2.2.2.2.2.2.2.2.2.1.2 h.2.2.2.2.2.2.2.2.2.2.2.2.2.2.1.1 h.2.2.2.2.2.2.2.2.2.2.2.2.2.2.1.2 h.2.2.2.2.2.2.2.2.2.2.2.2.2.2.2.1.1 h.2.2.2.2.2.2.2.2.2.2.2.2.2.2.2.1.2 h.2.2.2.2.2.2.2.2.2.2.2.2.2.2.2.2.1 h.2.2.2.2.2.2.2.2.2.2.2.2.2.2.2.2.2) (fun h => (fun g2490 a2491 c2492 a2494 c2495 a2497 c2498 a2500 c2501 a2503 c2504 a2506 c2507 a2509 c2510 g2513 a2514 c2515 a2517 c2518 a2520 c2521 a2523 c2524 a2526 c2527 a2529 c2530 a2532 c2533 => [Im.sl tyRowRow a2491 c2492 e2535.1.current.rows, Im.sl tyRowGlyph a2494 c2495 e2535.1.current.begun, Im.sl tyRowRow a2497 c2498 e2535.1.acked.rows, Im.sl tyRowGlyph a2500 c2501 e2535.1.acked.begun, Im.sl Ty.str a2506 c2507 e2535.1.message.parts, Im.sl tyRef09Row a2514 c2515 e2535.2.current.rows, Im.sl tyRef09Glyph a2517 c2518 e2535.2.current.begun, Im.sl tyRef09Row a2520 c2521 e2535.2.acked.rows, Im.sl tyRef09Glyph a2523 c2524 e2535.2.acked.begun, Im.sl tyRef16Snap a2526 c2527 e2535.2.kept, Im.sl Ty.str a2529 c2530 e2535.2.parts, Im.sl Ty.bool a2532 c2533 e2535.2.there, Im.sl tyRef09Row a1779 c1780 e1822.2.1.current.rows, Im.sl tyRef09Glyph a1782 c1783 e1822.2.1.current.begun, Im.sl tyRef09Row a1785 c1786 e1822.2.1.acked.rows, Im.sl tyRef09Glyph a1788 c1789 e1822.2.1.acked.begun, Im.sl tyRef16Snap a1791 c1792 e1822.2.1.kept, Im.sl Ty.str a1794 c1795 e1822.2.1.parts, Im.sl Ty.bool a1797 c1798 e1822.2.1.there, Im.sl tyRowRow a1801 c1802 e1822.2.2.current.rows, Im.sl tyRowGlyph a1804 c1805 e1822.2.2.current.begun, Im.sl tyRowRow a1807 c1808 e1822.2.2.acked.rows, Im.sl tyRowGlyph a1810 c1811 e1822.2.2.acked.begun, Im.sl Ty.str a1816 c1817 e1822.2.2.message.parts, Im.sl tyRef09Row a186 c187 r183.current.rows, Im.sl tyRef09Glyph a188 c189 r183.current.begun, Im.sl tyRef09Row a190 c191 r183.acked.rows, Im.sl tyRef09Glyph a192 c193 r183.acked.begun, Im.sl tyRef16Snap a194 c195 r183.kept, Im.sl Ty.str a196 c197 r183.parts, Im.sl Ty.bool a198 c199 r183.there, Im.sl tyRowRow a162 c163 r158.current.rows, Im.sl tyRowGlyph a164 c165 r158.current.begun, Im.sl tyRowRow a166 c167 r158.acked.rows, Im.sl tyRowGlyph a168 c169 r158.acked.begun, Im.sl Ty.str a172 c173 r158.message.parts, Im.sl tyLaw19Act a_0 c_0 acts, Im.sl tyLaw19Act a_1 c_1 more, Im.sl (Ty.int .u32) (some ⟨0, 0, none⟩) 16 t_sum_half]) h.2.1 h.2.2.1.1 h.2.2.1.2 h.2.2.2.1.1 h.2.2.2.1.2 h.2.2.2.2.1.1 h.2.2.2.2.1.2 h.2.2.2.2.2.1.1 h.2.2.2.2.2.1.2 h.2.2.2.2.2.2.1.1 h.2.2.2.2.2.2.1.2 h.2.2.2.2.2.2.2.1.1 h.2.2.2.2.2.2.2.1.2 h.2.2.2.2.2.2.2.2.1.1 h.2.2.2.2.2.2.2.2.1.2 h.2.2.2.2.2.2.2.2.2.1 h.2.2.2.2.2.2.2.2.2.2.1.1 h.2.2.2.2.2.2.2.2.2.2.1.2 h.2.2.2.2.2.2.2.2.2.2.2.1.1 h.2.2.2.2.2.2.2.2.2.2.2.1.2 h.2.2.2.2.2.2.2.2.2.2.2.2.1.1 h.2.2.2.2.2.2.2.2.2.2.2.2.1.2 h.2.2.2.2.2.2.2.2.2.2.2.2.2.1.1 h.2.2.2.2.2.2.2.2.2.2.2.2.2.1.2 h.2.2.2.2.2.2.2.2.2.2.2.2.2.2.1.1 h.2.2.2.2.2.2.2.2.2.2.2.2.2.2.1.2 h.2.2.2.2.2.2.2.2.2.2.2.2.2.2.2.1.1 h.2.2.2.2.2.2.2.2.2.2.2.2.2.2.2.1.2 h.2.2.2.2.2.2.2.2.2.2.2.2.2.2.2.2.1 h.2.2.2.2.2.2.2.2.2.2.2.2.2.2.2.2.2) ?_ ?_
  · refine T.draw [5] [2, 2] mo (by rfl) rfl ?_
    refine D.q 0 rfl rfl rfl rfl rfl rfl ?_
    refine D.y 2 (Yl.ldb 0 rfl rfl rfl rfl) rfl rfl rfl rfl rfl rfl ?_
    obtain ⟨r2583, h2584, H2599⟩ := bnd H2536
    refine D.two rfl rfl rfl ?_ ?_
    · refine Dp.a [2, 0, 0] [7, 8, 9, 10, 11] (Ac.call (c_sender_Sender_Clone g161 a1801 c1802 a1804 c1805 a1807 c1808 a1810 c1811 a1813 c1814 a1816 c1817 a1819 c1820 h2584) rfl rfl rfl rfl) rfl rfl rfl rfl rfl rfl ?_
      rintro ⟨g2601, ⟨a2602, c2603⟩, ⟨a2604, c2605⟩⟩
      refine D.one rfl rfl rfl (Dp.a [] [] (Ac.alloc rfl rfl) rfl rfl rfl rfl rfl rfl ?_)
      intro g2613
      refine D.q 4 rfl rfl rfl rfl rfl rfl ?_
      refine D.one rfl rfl rfl (Dp.al [2] [] (Ac.stb rfl rfl rfl rfl rfl rfl) rfl rfl rfl rfl rfl rfl rfl ?_)
      intro _
      refine D.nil rfl rfl ?_
      have hr := Option.some.inj H2599
      subst e2535
      exact E.give ((), (g2601, (a1801, c1802), (a1804, c1805), (a1807, c1808), (a1810, c1811), (a2602, c2603), (a1816, c1817), (a2604, c2605), g2613, (a1779, c1780), (a1782, c1783), (a1785, c1786), (a1788, c1789), (a1791, c1792), (a1794, c1795), (a1797, c1798))) [4, 4, 1, 1, 2, 1, 0, 0, 0] [0, 1, 2, 3, 4, 5, 6, 7, 8, 9, 10, 11, 5, 6, 7, 8, 9, 10, 11, 12, 13, 14, 15, 16, 17, 18, 19, 20, 21, 22, 23, 24, 25, 26, 27, 28, 29, 30, 31] trivial ⟨rfl, rfl, rfl, rfl, rfl, rfl, trivial⟩ rfl rfl
    refine Dp.a [] [] (Ac.alloc rfl rfl) rfl rfl rfl rfl rfl rfl ?_
    intro g2614
    refine D.one rfl rfl rfl (Dp.a [3, 1, 1] [7, 8, 9, 10, 11] (Ac.call (c_sender_Sender_Clone g161 a1801 c1802 a1804 c1805 a1807 c1808 a1810 c1811 a1813 c1814 a1816 c1817 a1819 c1820 h2584) rfl rfl rfl rfl) rfl rfl rfl rfl rfl rfl ?_)
    rintro ⟨g2616, ⟨a2617, c2618⟩, ⟨a2619, c2620⟩⟩
    refine D.q 4 rfl rfl rfl rfl rfl rfl ?_
    refine D.one rfl rfl rfl (Dp.al [8] [] (Ac.stb rfl rfl rfl rfl rfl rfl) rfl rfl rfl rfl rfl rfl rfl ?_)
    intro _
    refine D.nil rfl rfl ?_
    have hr := Option.some.inj H2599
    subst e2535
    exact E.give ((), (g2616, (a1801, c1802), (a1804, c1805), (a1807, c1808), (a1810, c1811), (a2617, c2618), (a1816, c1817), (a2619, c2620), g2614, (a1779, c1780), (a1782, c1783), (a1785, c1786), (a1788, c1789), (a1791, c1792), (a1794, c1795), (a1797, c1798))) [4, 4, 1, 1, 2, 1, 0, 0, 0] [0, 1, 2, 3, 4, 5, 6, 7, 8, 9, 10, 11, 5, 6, 7, 8, 9, 10, 11, 12, 13, 14, 15, 16, 17, 18, 19, 20, 21, 22, 23, 24, 25, 26, 27, 28, 29, 30, 31] trivial ⟨rfl, rfl, rfl, rfl, rfl, rfl, trivial⟩ rfl rfl
  rintro ⟨_, ⟨g2490, ⟨a2491, c2492⟩, ⟨a2494, c2495⟩, ⟨a2497, c2498⟩, ⟨a2500, c2501⟩, ⟨a2503, c2504⟩, ⟨a2506, c2507⟩, ⟨a2509, c2510⟩, g2513, ⟨a2514, c2515⟩, ⟨a2517, c2518⟩, ⟨a2520, c2521⟩, ⟨a2523, c2524⟩, ⟨a2526, c2527⟩, ⟨a2529, c2530⟩, ⟨a2532, c2533⟩⟩⟩ _
  refine T.seq (T.seq (T.region ?_))
  refine L.q 1 rfl ?_
  refine L.y (Yl.pn rfl rfl rfl rfl rfl rfl) rfl rfl rfl ?_
  refine L.nil (E.then ?_)
  refine T.cond rfl (fun h => nomatch h) (fun _ => ?_)
  refine T.skip (E.then (T.seq (T.seq (T.region ?_))))
  refine L.q 1 rfl ?_
  refine L.nil (E.then ?_)
  obtain ⟨y4243, H4244, H4245⟩ := bnd H2537
  refine T.join (η := (SenderSender × Ref19Sender) × ((Option Addr × Nat) × (Option Addr × Nat) × (Option Addr × Nat) × (Option Addr × Nat) × (Option Addr × Nat) × (Option Addr × Nat) × (Option Addr × Nat) × (Option Addr × Nat) × (Option Addr × Nat) × (Option Addr × Nat) × (Option Addr × Nat) × (Option Addr × Nat) × (Option Addr × Nat) × (Option Addr × Nat))) (fun h => y4243 = .inl h.1) (fun h => (fun e4242 => (fun a4199 c4200 a4202 c4203 a4205 c4206 a4208 c4209 a4211 c4212 a4214 c4215 a4217 c4218 a4221 c4222 a4224 c4225 a4227 c4228 a4230 c4231 a4233 c4234 a4236 c4237 a4239 c4240 => [(6, .pointer (some ⟨g161, 0, none⟩)), (7, .pointer (some ⟨g157, 0, none⟩)), (11, .pointer (some ⟨g2490, 0, none⟩)), (12, .pointer (some ⟨g2513, 0, none⟩))]) h.2.1.1 h.2.1.2 h.2.2.1.1 h.2.2.1.2 h.2.2.2.1.1 h.2.2.2.1.2 h.2.2.2.2.1.1 h.2.2.2.2.1.2 h.2.2.2.2.2.1.1 h.2.2.2.2.2.1.2 h.2.2.2.2.2.2.1.1 h.2.2.2.2.2.2.1.2 h.2.2.2.2.2.2.2.1.1 h.2.2.2.2.2.2.2.1.2 h.2.2.2.2.2.2.2.2.1.1 h.2.2.2.2.2.2.2.2.1.2 h.2.2.2.2.2.2.2.2.2.1.1 h.2.2.2.2.2.2.2.2.2.1.2 h.2.2.2.2.2.2.2.2.2.2.1.1 h.2.2.2.2.2.2.2.2.2.2.1.2 h.2.2.2.2.2.2.2.2.2.2.2.1.1 h.2.2.2.2.2.2.2.2.2.2.2.1.2 h.2.2.2.2.2.2.2.2.2.2.2.2.1.1 h.2.2.2.2.2.2.2.2.2.2.2.2.1.2 h.2.2.2.2.2.2.2.2.2.2.2.2.2.1.1 h.2.2.2.2.2.2.2.2.2.2.2.2.2.1.2 h.2.2.2.2.2.2.2.2.2.2.2.2.2.2.1 h.2.2.2.2.2.2.2.2.2.2.2.2.2.2.2) h.1) (fun h => (fun e4242 => (fun a4199 c4200 a4202 c4203 a4205 c4206 a4208 c4209 a4211 c4212 a4214 c4215 a4217 c4218 a4221 c4222 a4224 c4225 a4227 c4228 a4230 c4231 a4233 c4234 a4236 c4237 a4239 c4240 => [Ch.aro tySnapSnap 43 a4211 c4212 e4242.1.kept, Ch.arr Ty.bool 4 a4217 c4218 e4242.1.message.there, Ch.box g157 38 (bx38 e1822.2.1 a1779 c1780 a1782 c1783 a1785 c1786 a1788 c1789 a1791 c1792 a1794 c1795 a1797 c1798), Ch.box g6 25 [.int .i64 10, .int .i64 2, .int .i64 3], Ch.box g161 67 (bx67 e1822.2.2 a1801 c1802 a1804 c1805 a1807 c1808 a1810 c1811 a1813 c1814 a1816 c1817 a1819 c1820), Ch.box g2490 67 (bx67 e4242.1 a4199 c4200 a4202 c4203 a4205 c4206 a4208 c4209 a4211 c4212 a4214 c4215 a4217 c4218), Ch.box g2513 38 (bx38 e4242.2 a4221 c4222 a4224 c4225 a4227 c4228 a4230 c4231 a4233 c4234 a4236 c4237 a4239 c4240), Ch.aro tySnapSnap 43 a1813 c1814 e1822.2.2.kept, Ch.arr Ty.bool 4 a1819 c1820 e1822.2.2.message.there]) h.2.1.1 h.2.1.2 h.2.2.1.1 h.2.2.1.2 h.2.2.2.1.1 h.2.2.2.1.2 h.2.2.2.2.1.1 h.2.2.2.2.1.2 h.2.2.2.2.2.1.1 h.2.2.2.2.2.1.2 h.2.2.2.2.2.2.1.1 h.2.2.2.2.2.2.1.2 h.2.2.2.2.2.2.2.1.1 h.2.2.2.2.2.2.2.1.2 h.2.2.2.2.2.2.2.2.1.1 h.2.2.2.2.2.2.2.2.1.2 h.2.2.2.2.2.2.2.2.2.1.1 h.2.2.2.2.2.2.2.2.2.1.2 h.2.2.2.2.2.2.2.2.2.2.1.1 h.2.2.2.2.2.2.2.2.2.2.1.2 h.2.2.2.2.2.2.2.2.2.2.2.1.1 h.2.2.2.2.2.2.2.2.2.2.2.1.2 h.2.2.2.2.2.2.2.2.2.2.2.2.1.1 h.2.2.2.2.2.2.2.2.2.2.2.2.1.2 h.2.2.2.2.2.2.2.2.2.2.2.2.2.1.1 h.2.2.2.2.2.2.2.2.2.2.2.2.2.1.2 h.2.2.2.2.2.2.2.2.2.2.2.2.2.2.1 h.2.2.2.2.2.2.2.2.2.2.2.2.2.2.2) h.1) (fun h => (fun e4242 => (fun a4199 c4200 a4202 c4203 a4205 c4206 a4208 c4209 a4211 c4212 a4214 c4215 a4217 c4218 a4221 c4222 a4224 c4225 a4227 c4228 a4230 c4231 a4233 c4234 a4236 c4237 a4239 c4240 => [Im.sl tyRowRow a4199 c4200 e4242.1.current.rows, Im.sl tyRowGlyph a4202 c4203 e4242.1.current.begun, Im.sl tyRowRow a4205 c4206 e4242.1.acked.rows, Im.sl tyRowGlyph a4208 c4209 e4242.1.acked.begun, Im.sl Ty.str a4214 c4215 e4242.1.message.parts, Im.sl tyRef09Row a4221 c4222 e4242.2.current.rows, Im.sl tyRef09Glyph a4224 c4225 e4242.2.current.begun, Im.sl tyRef09Row a4227 c4228 e4242.2.acked.rows, Im.sl tyRef09Glyph a4230 c4231 e4242.2.acked.begun, Im.sl tyRef16Snap a4233 c4234 e4242.2.kept, Im.sl Ty.str a4236 c4237 e4242.2.parts, Im.sl Ty.bool a4239 c4240 e4242.2.there, Im.sl tyRowRow a2491 c2492 e2535.1.current.rows, Im.sl tyRowGlyph a2494 c2495 e2535.1.current.begun, Im.sl tyRowRow a2497 c2498 e2535.1.acked.rows, Im.sl tyRowGlyph a2500 c2501 e2535.1.acked.begun, Im.sl Ty.str a2506 c2507 e2535.1.message.parts, Im.sl tyRef09Row a2514 c2515 e2535.2.current.rows, Im.sl tyRef09Glyph a2517 c2518 e2535.2.current.begun, Im.sl tyRef09Row a2520 c2521 e2535.2.acked.rows, Im.sl tyRef09Glyph a2523 c2524 e2535.2.acked.begun, Im.sl tyRef16Snap a2526 c2527 e2535.2.kept, Im.sl Ty.str a2529 c2530 e2535.2.parts, Im.sl Ty.bool a2532 c2533 e2535.2.there, Im.sl tyRef09Row a1779 c1780 e1822.2.1.current.rows, Im.sl tyRef09Glyph a1782 c1783 e1822.2.1.current.begun, Im.sl tyRef09Row a1785 c1786 e1822.2.1.acked.rows, Im.sl tyRef09Glyph a1788 c1789 e1822.2.1.acked.begun, Im.sl tyRef16Snap a1791 c1792 e1822.2.1.kept, Im.sl Ty.str a1794 c1795 e1822.2.1.parts, Im.sl Ty.bool a1797 c1798 e1822.2.1.there, Im.sl tyRowRow a1801 c1802 e1822.2.2.current.rows, Im.sl tyRowGlyph a1804 c1805 e1822.2.2.current.begun, Im.sl tyRowRow a1807 c1808 e1822.2.2.acked.rows, Im.sl tyRowGlyph a1810 c1811 e1822.2.2.acked.begun, Im.sl Ty.str a1816 c1817 e1822.2.2.message.parts, Im.sl tyRef09Row a186 c187 r183.current.rows, Im.sl tyRef09Glyph a188 c189 r183.current.begun, Im.sl tyRef09Row a190 c191 r183.acked.rows, Im.sl tyRef09Glyph a192 c193 r183.acked.begun, Im.sl tyRef16Snap a194 c195 r183.kept, Im.sl Ty.str a196 c197 r183.parts, Im.sl Ty.bool a198 c199 r183.there, Im.sl tyRowRow a162 c163 r158.current.rows, Im.sl tyRowGlyph a164 c165 r158.current.begun, Im.sl tyRowRow a166 c167 r158.acked.rows, Im.sl tyRowGlyph a168 c169 r158.acked.begun, Im.sl Ty.str a172 c173 r158.message.parts, Im.sl tyLaw19Act a_0 c_0 acts, Im.sl tyLaw19Act a_1 c_1 more, Im.sl (Ty.int .u32) (some ⟨0, 0, none⟩) 16 t_sum_half]) h.2.1.1 h.2.1.2 h.2.2.1.1 h.2.2.1.2 h.2.2.2.1.1 h.2.2.2.1.2 h.2.2.2.2.1.1 h.2.2.2.2.1.2 h.2.2.2.2.2.1.1 h.2.2.2.2.2.1.2 h.2.2.2.2.2.2.1.1 h.2.2.2.2.2.2.1.2 h.2.2.2.2.2.2.2.1.1 h.2.2.2.2.2.2.2.1.2 h.2.2.2.2.2.2.2.2.1.1 h.2.2.2.2.2.2.2.2.1.2 h.2.2.2.2.2.2.2.2.2.1.1 h.2.2.2.2.2.2.2.2.2.1.2 h.2.2.2.2.2.2.2.2.2.2.1.1 h.2.2.2.2.2.2.2.2.2.2.1.2 h.2.2.2.2.2.2.2.2.2.2.2.1.1 h.2.2.2.2.2.2.2.2.2.2.2.1.2 h.2.2.2.2.2.2.2.2.2.2.2.2.1.1 h.2.2.2.2.2.2.2.2.2.2.2.2.1.2 h.2.2.2.2.2.2.2.2.2.2.2.2.2.1.1 h.2.2.2.2.2.2.2.2.2.2.2.2.2.1.2 h.2.2.2.2.2.2.2.2.2.2.2.2.2.2.1 h.2.2.2.2.2.2.2.2.2.2.2.2.2.2.2) h.1) ?_ ?_
  · refine T.block ?_
    refine T.lp (η := (Option Addr × Nat) × (Option Addr × Nat) × (Option Addr × Nat) × (Option Addr × Nat) × (Option Addr × Nat) × (Option Addr × Nat) × (Option Addr × Nat) × (Option Addr × Nat) × (Option Addr × Nat) × (Option Addr × Nat) × (Option Addr × Nat) × (Option Addr × Nat) × (Option Addr × Nat) × (Option Addr × Nat)) (fun s3720 h => (fun a3675 c3676 a3678 c3679 a3681 c3682 a3684 c3685 a3687 c3688 a3690 c3691 a3693 c3694 a3697 c3698 a3700 c3701 a3703 c3704 a3706 c3707 a3709 c3710 a3712 c3713 a3715 c3716 => [(1, .slice a_1 more.length c_1), (6, .pointer (some ⟨g161, 0, none⟩)), (7, .pointer (some ⟨g157, 0, none⟩)), (8, .int .i64 s3720.2.2.2), (11, .pointer (some ⟨g2490, 0, none⟩)), (12, .pointer (some ⟨g2513, 0, none⟩)), (13, .int .i64 s3720.2.2.1)]) h.1.1 h.1.2 h.2.1.1 h.2.1.2 h.2.2.1.1 h.2.2.1.2 h.2.2.2.1.1 h.2.2.2.1.2 h.2.2.2.2.1.1 h.2.2.2.2.1.2 h.2.2.2.2.2.1.1 h.2.2.2.2.2.1.2 h.2.2.2.2.2.2.1.1 h.2.2.2.2.2.2.1.2 h.2.2.2.2.2.2.2.1.1 h.2.2.2.2.2.2.2.1.2 h.2.2.2.2.2.2.2.2.1.1 h.2.2.2.2.2.2.2.2.1.2 h.2.2.2.2.2.2.2.2.2.1.1 h.2.2.2.2.2.2.2.2.2.1.2 h.2.2.2.2.2.2.2.2.2.2.1.1 h.2.2.2.2.2.2.2.2.2.2.1.2 h.2.2.2.2.2.2.2.2.2.2.2.1.1 h.2.2.2.2.2.2.2.2.2.2.2.1.2 h.2.2.2.2.2.2.2.2.2.2.2.2.1.1 h.2.2.2.2.2.2.2.2.2.2.2.2.1.2 h.2.2.2.2.2.2.2.2.2.2.2.2.2.1 h.2.2.2.2.2.2.2.2.2.2.2.2.2.2) (fun s3720 h => (fun a3675 c3676 a3678 c3679 a3681 c3682 a3684 c3685 a3687 c3688 a3690 c3691 a3693 c3694 a3697 c3698 a3700 c3701 a3703 c3704 a3706 c3707 a3709 c3710 a3712 c3713 a3715 c3716 => [Ch.aro tySnapSnap 43 a3687 c3688 s3720.1.kept, Ch.arr Ty.bool 4 a3693 c3694 s3720.1.message.there, Ch.box g157 38 (bx38 e1822.2.1 a1779 c1780 a1782 c1783 a1785 c1786 a1788 c1789 a1791 c1792 a1794 c1795 a1797 c1798), Ch.box g6 25 [.int .i64 10, .int .i64 2, .int .i64 3], Ch.box g161 67 (bx67 e1822.2.2 a1801 c1802 a1804 c1805 a1807 c1808 a1810 c1811 a1813 c1814 a1816 c1817 a1819 c1820), Ch.box g2490 67 (bx67 s3720.1 a3675 c3676 a3678 c3679 a3681 c3682 a3684 c3685 a3687 c3688 a3690 c3691 a3693 c3694), Ch.box g2513 38 (bx38 s3720.2.1 a3697 c3698 a3700 c3701 a3703 c3704 a3706 c3707 a3709 c3710 a3712 c3713 a3715 c3716), Ch.aro tySnapSnap 43 a1813 c1814 e1822.2.2.kept, Ch.arr Ty.bool 4 a1819 c1820 e1822.2.2.message.there]) h.1.1 h.1.2 h.2.1.1 h.2.1.2 h.2.2.1.1 h.2.2.1.2 h.2.2.2.1.1 h.2.2.2.1.2 h.2.2.2.2.1.1 h.2.2.2.2.1.2 h.2.2.2.2.2.1.1 h.2.2.2.2.2.1.2 h.2.2.2.2.2.2.1.1 h.2.2.2.2.2.2.1.2 h.2.2.2.2.2.2.2.1.1 h.2.2.2.2.2.2.2.1.2 h.2.2.2.2.2.2.2.2.1.1 h.2.2.2.2.2.2.2.2.1.2 h.2.2.2.2.2.2.2.2.2.1.1 h.2.2.2.2.2.2.2.2.2.1.2 h.2.2.2.2.2.2.2.2.2.2.1.1 h.2.2.2.2.2.2.2.2.2.2.1.2 h.2.2.2.2.2.2.2.2.2.2.2.1.1 h.2.2.2.2.2.2.2.2.2.2.2.1.2 h.2.2.2.2.2.2.2.2.2.2.2.2.1.1 h.2.2.2.2.2.2.2.2.2.2.2.2.1.2 h.2.2.2.2.2.2.2.2.2.2.2.2.2.1 h.2.2.2.2.2.2.2.2.2.2.2.2.2.2) (fun s3720 h => (fun a3675 c3676 a3678 c3679 a3681 c3682 a3684 c3685 a3687 c3688 a3690 c3691 a3693 c3694 a3697 c3698 a3700 c3701 a3703 c3704 a3706 c3707 a3709 c3710 a3712 c3713 a3715 c3716 => [Im.sl tyRowRow a3675 c3676 s3720.1.current.rows, Im.sl tyRowGlyph a3678 c3679 s3720.1.current.begun, Im.sl tyRowRow a3681 c3682 s3720.1.acked.rows, Im.sl tyRowGlyph a3684 c3685 s3720.1.acked.begun, Im.sl Ty.str a3690 c3691 s3720.1.message.parts, Im.sl tyRef09Row a3697 c3698 s3720.2.1.current.rows, Im.sl tyRef09Glyph a3700 c3701 s3720.2.1.current.begun, Im.sl tyRef09Row a3703 c3704 s3720.2.1.acked.rows, Im.sl tyRef09Glyph a3706 c3707 s3720.2.1.acked.begun, Im.sl tyRef16Snap a3709 c3710 s3720.2.1.kept, Im.sl Ty.str a3712 c3713 s3720.2.1.parts, Im.sl Ty.bool a3715 c3716 s3720.2.1.there, Im.sl tyRowRow a2491 c2492 e2535.1.current.rows, Im.sl tyRowGlyph a2494 c2495 e2535.1.current.begun, Im.sl tyRowRow a2497 c2498 e2535.1.acked.rows, Im.sl tyRowGlyph a2500 c2501 e2535.1.acked.begun, Im.sl Ty.str a2506 c2507 e2535.1.message.parts, Im.sl tyRef09Row a2514 c2515 e2535.2.current.rows, Im.sl tyRef09Glyph a2517 c2518 e2535.2.current.begun, Im.sl tyRef09Row a2520 c2521 e2535.2.acked.rows, Im.sl tyRef09Glyph a2523 c2524 e2535.2.acked.begun, Im.sl tyRef16Snap a2526 c2527 e2535.2.kept, Im.sl Ty.str a2529 c2530 e2535.2.parts, Im.sl Ty.bool a2532 c2533 e2535.2.there, Im.sl tyRef09Row a1779 c1780 e1822.2.1.current.rows, Im.sl tyRef09Glyph a1782 c1783 e1822.2.1.current.begun, Im.sl tyRef09Row a1785 c1786 e1822.2.1.acked.rows, Im.sl tyRef09Glyph a1788 c1789 e1822.2.1.acked.begun, Im.sl tyRef16Snap a1791 c1792 e1822.2.1.kept, Im.sl Ty.str a1794 c1795 e1822.2.1.parts, Im.sl Ty.bool a1797 c1798 e1822.2.1.there, Im.sl tyRowRow a1801 c1802 e1822.2.2.current.rows, Im.sl tyRowGlyph a1804 c1805 e1822.2.2.current.begun, Im.sl tyRowRow a1807 c1808 e1822.2.2.acked.rows, Im.sl tyRowGlyph a1810 c1811 e1822.2.2.acked.begun, Im.sl Ty.str a1816 c1817 e1822.2.2.message.parts, Im.sl tyRef09Row a186 c187 r183.current.rows, Im.sl tyRef09Glyph a188 c189 r183.current.begun, Im.sl tyRef09Row a190 c191 r183.acked.rows, Im.sl tyRef09Glyph a192 c193 r183.acked.begun, Im.sl tyRef16Snap a194 c195 r183.kept, Im.sl Ty.str a196 c197 r183.parts, Im.sl Ty.bool a198 c199 r183.there, Im.sl tyRowRow a162 c163 r158.current.rows, Im.sl tyRowGlyph a164 c165 r158.current.begun, Im.sl tyRowRow a166 c167 r158.acked.rows, Im.sl tyRowGlyph a168 c169 r158.acked.begun, Im.sl Ty.str a172 c173 r158.message.parts, Im.sl tyLaw19Act a_0 c_0 acts, Im.sl tyLaw19Act a_1 c_1 more, Im.sl (Ty.int .u32) (some ⟨0, 0, none⟩) 16 t_sum_half]) h.1.1 h.1.2 h.2.1.1 h.2.1.2 h.2.2.1.1 h.2.2.1.2 h.2.2.2.1.1 h.2.2.2.1.2 h.2.2.2.2.1.1 h.2.2.2.2.1.2 h.2.2.2.2.2.1.1 h.2.2.2.2.2.1.2 h.2.2.2.2.2.2.1.1 h.2.2.2.2.2.2.1.2 h.2.2.2.2.2.2.2.1.1 h.2.2.2.2.2.2.2.1.2 h.2.2.2.2.2.2.2.2.1.1 h.2.2.2.2.2.2.2.2.1.2 h.2.2.2.2.2.2.2.2.2.1.1 h.2.2.2.2.2.2.2.2.2.1.2 h.2.2.2.2.2.2.2.2.2.2.1.1 h.2.2.2.2.2.2.2.2.2.2.1.2 h.2.2.2.2.2.2.2.2.2.2.2.1.1 h.2.2.2.2.2.2.2.2.2.2.2.1.2 h.2.2.2.2.2.2.2.2.2.2.2.2.1.1 h.2.2.2.2.2.2.2.2.2.2.2.2.1.2 h.2.2.2.2.2.2.2.2.2.2.2.2.2.1 h.2.2.2.2.2.2.2.2.2.2.2.2.2.2) ((a2491, c2492), (a2494, c2495), (a2497, c2498), (a2500, c2501), (a2503, c2504), (a2506, c2507), (a2509, c2510), (a2514, c2515), (a2517, c2518), (a2520, c2521), (a2523, c2524), (a2526, c2527), (a2529, c2530), (a2532, c2533)) [0, 0, 0, 0, 0, 0, 0, 0, 0] [0, 1, 2, 3, 4, 5, 6, 7, 8, 9, 10, 11, 0, 1, 2, 3, 4, 5, 6, 7, 8, 9, 10, 11, 12, 13, 14, 15, 16, 17, 18, 19, 20, 21, 22, 23, 24, 25, 26, 27, 28, 29, 30, 31, 32, 33, 34, 35, 36, 37, 38] H4244 ⟨rfl, rfl, rfl, rfl, rfl, rfl, rfl, trivial⟩ rfl rfl ?_
    rintro k_ s3720 ⟨⟨a3675, c3676⟩, ⟨a3678, c3679⟩, ⟨a3681, c3682⟩, ⟨a3684, c3685⟩, ⟨a3687, c3688⟩, ⟨a3690, c3691⟩, ⟨a3693, c3694⟩, ⟨a3697, c3698⟩, ⟨a3700, c3701⟩, ⟨a3703, c3704⟩, ⟨a3706, c3707⟩, ⟨a3709, c3710⟩, ⟨a3712, c3713⟩, ⟨a3715, c3716⟩⟩ z4247 H4246 hag4248 hbr4249
    refine T.seq (T.seq ?_)
    obtain ⟨e4253, H4254, H4255⟩ := bnd H4246
    refine T.join (η := Unit × Unit) (fun h => True) (fun h => [(1, .slice a_1 more.length c_1), (6, .pointer (some ⟨g161, 0, none⟩)), (7, .pointer (some ⟨g157, 0, none⟩)), (8, .int .i64 s3720.2.2.2), (11, .pointer (some ⟨g2490, 0, none⟩)), (12, .pointer (some ⟨g2513, 0, none⟩)), (13, .int .i64 s3720.2.2.1), (66, .bool e4253)]) (fun h => [Ch.box g157 38 (bx38 e1822.2.1 a1779 c1780 a1782 c1783 a1785 c1786 a1788 c1789 a1791 c1792 a1794 c1795 a1797 c1798), Ch.box g6 25 [.int .i64 10, .int .i64 2, .int .i64 3], Ch.box g161 67 (bx67 e1822.2.2 a1801 c1802 a1804 c1805 a1807 c1808 a1810 c1811 a1813 c1814 a1816 c1817 a1819 c1820), Ch.box g2490 67 (bx67 s3720.1 a3675 c3676 a3678 c3679 a3681 c3682 a3684 c3685 a3687 c3688 a3690 c3691 a3693 c3694), Ch.box g2513 38 (bx38 s3720.2.1 a3697 c3698 a3700 c3701 a3703 c3704 a3706 c3707 a3709 c3710 a3712 c3713 a3715 c3716), Ch.aro tySnapSnap 43 a3687 c3688 s3720.1.kept, Ch.arr Ty.bool 4 a3693 c3694 s3720.1.message.there, Ch.aro tySnapSnap 43 a1813 c1814 e1822.2.2.kept, Ch.arr Ty.bool 4 a1819 c1820 e1822.2.2.message.there]) (fun h => [Im.sl tyRowRow a3675 c3676 s3720.1.current.rows, Im.sl tyRowGlyph a3678 c3679 s3720.1.current.begun, Im.sl tyRowRow a3681 c3682 s3720.1.acked.rows, Im.sl tyRowGlyph a3684 c3685 s3720.1.acked.begun, Im.sl Ty.str a3690 c3691 s3720.1.message.parts, Im.sl tyRef09Row a3697 c3698 s3720.2.1.current.rows, Im.sl tyRef09Glyph a3700 c3701 s3720.2.1.current.begun, Im.sl tyRef09Row a3703 c3704 s3720.2.1.acked.rows, Im.sl tyRef09Glyph a3706 c3707 s3720.2.1.acked.begun, Im.sl tyRef16Snap a3709 c3710 s3720.2.1.kept, Im.sl Ty.str a3712 c3713 s3720.2.1.parts, Im.sl Ty.bool a3715 c3716 s3720.2.1.there, Im.sl tyRowRow a2491 c2492 e2535.1.current.rows, Im.sl tyRowGlyph a2494 c2495 e2535.1.current.begun, Im.sl tyRowRow a2497 c2498 e2535.1.acked.rows, Im.sl tyRowGlyph a2500 c2501 e2535.1.acked.begun, Im.sl Ty.str a2506 c2507 e2535.1.message.parts, Im.sl tyRef09Row a2514 c2515 e2535.2.current.rows, Im.sl tyRef09Glyph a2517 c2518 e2535.2.current.begun, Im.sl tyRef09Row a2520 c2521 e2535.2.acked.rows, Im.sl tyRef09Glyph a2523 c2524 e2535.2.acked.begun, Im.sl tyRef16Snap a2526 c2527 e2535.2.kept, Im.sl Ty.str a2529 c2530 e2535.2.parts, Im.sl Ty.bool a2532 c2533 e2535.2.there, Im.sl tyRef09Row a1779 c1780 e1822.2.1.current.rows, Im.sl tyRef09Glyph a1782 c1783 e1822.2.1.current.begun, Im.sl tyRef09Row a1785 c1786 e1822.2.1.acked.rows, Im.sl tyRef09Glyph a1788 c1789 e1822.2.1.acked.begun, Im.sl tyRef16Snap a1791 c1792 e1822.2.1.kept, Im.sl Ty.str a1794 c1795 e1822.2.1.parts, Im.sl Ty.bool a1797 c1798 e1822.2.1.there, Im.sl tyRowRow a1801 c1802 e1822.2.2.current.rows, Im.sl tyRowGlyph a1804 c1805 e1822.2.2.current.begun, Im.sl tyRowRow a1807 c1808 e1822.2.2.acked.rows, Im.sl tyRowGlyph a1810 c1811 e1822.2.2.acked.begun, Im.sl Ty.str a1816 c1817 e1822.2.2.message.parts, Im.sl tyRef09Row a186 c187 r183.current.rows, Im.sl tyRef09Glyph a188 c189 r183.current.begun, Im.sl tyRef09Row a190 c191 r183.acked.rows, Im.sl tyRef09Glyph a192 c193 r183.acked.begun, Im.sl tyRef16Snap a194 c195 r183.kept, Im.sl Ty.str a196 c197 r183.parts, Im.sl Ty.bool a198 c199 r183.there, Im.sl tyRowRow a162 c163 r158.current.rows, Im.sl tyRowGlyph a164 c165 r158.current.begun, Im.sl tyRowRow a166 c167 r158.acked.rows, Im.sl tyRowGlyph a168 c169 r158.acked.begun, Im.sl Ty.str a172 c173 r158.message.parts, Im.sl tyLaw19Act a_0 c_0 acts, Im.sl tyLaw19Act a_1 c_1 more, Im.sl (Ty.int .u32) (some ⟨0, 0, none⟩) 16 t_sum_half]) ?_ ?_
    · refine T.region ?_
      refine L.q 5 rfl ?_
      refine L.cs 63 H4254 rfl (fun hc H4256 => ?_) (fun hc H4256 => ?_)
      · refine L.q 3 rfl ?_
        refine L.nil ?_
        have hr := Option.some.inj H4256
        subst e4253
        exact E.give ((), ()) [2, 2, 2, 2, 2, 0, 0, 0, 0] [0, 1, 2, 3, 4, 5, 6, 7, 8, 9, 10, 11, 12, 13, 14, 15, 16, 17, 18, 19, 20, 21, 22, 23, 24, 25, 26, 27, 28, 29, 30, 31, 32, 33, 34, 35, 36, 37, 38, 39, 40, 41, 42, 43, 44, 45, 46, 47, 48, 49, 50] trivial ⟨rfl, rfl, rfl, rfl, rfl, rfl, rfl, rfl, trivial⟩ rfl rfl
      refine L.q 3 rfl ?_
      refine L.nil ?_
      have hr := Option.some.inj H4256
      subst e4253
      exact E.give ((), ()) [2, 2, 2, 2, 2, 0, 0, 0, 0] [0, 1, 2, 3, 4, 5, 6, 7, 8, 9, 10, 11, 12, 13, 14, 15, 16, 17, 18, 19, 20, 21, 22, 23, 24, 25, 26, 27, 28, 29, 30, 31, 32, 33, 34, 35, 36, 37, 38, 39, 40, 41, 42, 43, 44, 45, 46, 47, 48, 49, 50] trivial ⟨rfl, rfl, rfl, rfl, rfl, rfl, rfl, rfl, trivial⟩ rfl rfl
    rintro ⟨_, ⟨⟩⟩ _
    refine T.bif rfl H4255 (fun hc H4258 => ?_) (fun hc H4258 => ?_)
    · refine T.skip (E.then (T.seq (T.block (T.seq (T.region ?_)))))
      refine L.q 3 rfl ?_
      obtain ⟨x4493, h4494, H4495⟩ := bnd H4258
      refine L.addr 49 rfl (idx_lt h4494) fun b4496 o4497 e4498 => ?_
      obtain rfl : a_1 = some ⟨b4496, o4497, none⟩ := e4498
      refine L.y (Yl.ia h4494 rfl rfl rfl rfl rfl rfl) rfl rfl rfl ?_
      refine L.el 49 rfl (idx_some h4494).2 ?_
      rintro ⟨⟨a4499, c4500⟩, ⟨a4501, c4502⟩⟩
      refine L.q 1 rfl ?_
      refine L.y (Yl.ldc 0 3 rfl rfl rfl rfl) rfl rfl rfl ?_
      refine L.q 3 rfl ?_
      refine L.nil (E.then (T.seq ?_))
      refine T.draw [11] [0, 0, 0, 1, 3, 3] mo (by rfl) rfl ?_
      refine D.q 0 rfl rfl rfl rfl rfl rfl ?_
      refine D.y 1 (Yl.ldb 3 rfl rfl rfl rfl) rfl rfl rfl rfl rfl rfl ?_
      refine D.q 2 rfl rfl rfl rfl rfl rfl ?_
      refine D.q 3 rfl rfl rfl rfl rfl rfl ?_
      obtain ⟨x4671, h4672, H4673⟩ := bnd H4495
      refine D.y 4 (Yl.ia h4672 rfl rfl rfl rfl rfl rfl) rfl rfl rfl rfl rfl rfl ?_
      refine D.el 52 rfl (idx_some h4672).2 ?_
      rintro ⟨⟨a4674, c4675⟩, ⟨a4676, c4677⟩⟩
      refine D.y 5 (Yl.ldc 0 0 rfl rfl rfl rfl) rfl rfl rfl rfl rfl rfl ?_
      refine D.q 6 rfl rfl rfl rfl rfl rfl ?_
      obtain ⟨r4681, h4682, H4683⟩ := bnd H4673
      refine D.one rfl rfl rfl (Dp.a [0, 0, 0] [6, 7, 8, 9, 10, 11, 12, 13, 14, 15, 16, 17, 1, 2, 56] (Ac.call (c_law19_do g2490 a3675 c3676 a3678 c3679 a3681 c3682 a3684 c3685 a3687 c3688 a3690 c3691 a3693 c3694 a3697 c3698 a3700 c3701 a3703 c3704 a3706 c3707 a3709 c3710 a3712 c3713 a3715 c3716 a4674 c4675 a4676 c4677 h4682) rfl rfl rfl rfl) rfl rfl rfl rfl rfl rfl ?_)
      rintro ⟨⟨a4684, c4685⟩, ⟨a4686, c4687⟩, ⟨a4688, c4689⟩, ⟨a4690, c4691⟩, ⟨a4692, c4693⟩, ⟨a4694, c4695⟩, ⟨a4696, c4697⟩, ⟨a4698, c4699⟩, ⟨a4700, c4701⟩, ⟨a4702, c4703⟩, ⟨a4704, c4705⟩, ⟨a4706, c4707⟩, ⟨a4708, c4709⟩, ⟨a4710, c4711⟩⟩
      refine D.q 8 rfl rfl rfl rfl rfl rfl ?_
      refine D.q 9 rfl rfl rfl rfl rfl rfl ?_
      refine D.q 10 rfl rfl rfl rfl rfl rfl ?_
      refine D.one rfl rfl rfl (Dp.al [3] [] (Ac.stb rfl rfl rfl rfl rfl rfl) rfl rfl rfl rfl rfl rfl rfl ?_)
      intro _
      refine D.q 12 rfl rfl rfl rfl rfl rfl ?_
      refine D.nil rfl rfl ?_
      refine E.then (T.seq (T.region ?_))
      refine L.q 2 rfl ?_
      refine L.nil (E.then ?_)
      refine T.bif rfl H4683 (fun hc H4726 => ?_) (fun hc H4726 => ?_)
      · refine T.seq (T.region ?_)
        refine L.q 1 rfl ?_
        refine L.nil (E.then (T.ret (E.block_ret (E.then_ret (E.then_ret (E.block_ret ?_))))))
        obtain ⟨w4727, hz, H4728⟩ := inrr_some H4726
        subst z4247
        have hb := hbr4249 _ rfl
        subst y4243
        have hw : w4727 = r := Option.some.inj H4245
        subst w4727
        refine E.then_ret ?_
        have hr := Option.some.inj H4728
        subst r
        exact E.ret () [] [] (.tmp rfl .nil) rfl rfl rfl
      refine T.skip (E.block (E.then (T.region ?_)))
      refine L.q 3 rfl ?_
      refine L.nil ?_
      have hr := Option.some.inj H4726
      subst z4247
      exact E.give (_, ((a4698, c4699), (a4700, c4701), (a4702, c4703), (a4704, c4705), (a4706, c4707), (a4708, c4709), (a4710, c4711), (a4684, c4685), (a4686, c4687), (a4688, c4689), (a4690, c4691), (a4692, c4693), (a4694, c4695), (a4696, c4697))) [7, 7, 1, 1, 1, 3, 0, 0, 0] [7, 8, 9, 10, 11, 0, 1, 2, 3, 4, 5, 6, 30, 31, 32, 33, 34, 35, 36, 37, 38, 39, 40, 41, 42, 43, 44, 45, 46, 47, 48, 49, 50, 51, 52, 53, 54, 55, 56, 57, 58, 59, 60, 61, 62, 63, 64, 65, 66, 67, 68] (hag4248 _ rfl) ⟨rfl, rfl, rfl, rfl, rfl, rfl, rfl, trivial⟩ rfl rfl
    refine T.exit (E.then_exit' (E.then_exit' (E.block_here ?_)))
    have hr := Option.some.inj H4258
    subst z4247
    have hb := hbr4249 _ rfl
    subst y4243
    exact E.give (_, ((a3675, c3676), (a3678, c3679), (a3681, c3682), (a3684, c3685), (a3687, c3688), (a3690, c3691), (a3693, c3694), (a3697, c3698), (a3700, c3701), (a3703, c3704), (a3706, c3707), (a3709, c3710), (a3712, c3713), (a3715, c3716))) [5, 5, 0, 0, 0, 0, 0, 0, 0] [0, 1, 2, 3, 4, 5, 6, 7, 8, 9, 10, 11, 12, 13, 14, 15, 16, 17, 18, 19, 20, 21, 22, 23, 24, 25, 26, 27, 28, 29, 30, 31, 32, 33, 34, 35, 36, 37, 38, 39, 40, 41, 42, 43, 44, 45, 46, 47, 48, 49, 50] rfl ⟨rfl, rfl, rfl, rfl, trivial⟩ rfl rfl
  rintro ⟨e4242, ⟨⟨a4199, c4200⟩, ⟨a4202, c4203⟩, ⟨a4205, c4206⟩, ⟨a4208, c4209⟩, ⟨a4211, c4212⟩, ⟨a4214, c4215⟩, ⟨a4217, c4218⟩, ⟨a4221, c4222⟩, ⟨a4224, c4225⟩, ⟨a4227, c4228⟩, ⟨a4230, c4231⟩, ⟨a4233, c4234⟩, ⟨a4236, c4237⟩, ⟨a4239, c4240⟩⟩⟩ hy
  subst hy
  refine T.seq ?_
  obtain ⟨e4744, H4745, H4746⟩ := bnd H4245
  refine T.join (η := Unit × Unit) (fun h => True) (fun h => [(4, .bool e4744)]) (fun h => [Ch.box g157 38 (bx38 e1822.2.1 a1779 c1780 a1782 c1783 a1785 c1786 a1788 c1789 a1791 c1792 a1794 c1795 a1797 c1798), Ch.box g6 25 [.int .i64 10, .int .i64 2, .int .i64 3], Ch.box g161 67 (bx67 e1822.2.2 a1801 c1802 a1804 c1805 a1807 c1808 a1810 c1811 a1813 c1814 a1816 c1817 a1819 c1820), Ch.box g2490 67 (bx67 e4242.1 a4199 c4200 a4202 c4203 a4205 c4206 a4208 c4209 a4211 c4212 a4214 c4215 a4217 c4218), Ch.box g2513 38 (bx38 e4242.2 a4221 c4222 a4224 c4225 a4227 c4228 a4230 c4231 a4233 c4234 a4236 c4237 a4239 c4240), Ch.aro tySnapSnap 43 a4211 c4212 e4242.1.kept, Ch.arr Ty.bool 4 a4217 c4218 e4242.1.message.there, Ch.aro tySnapSnap 43 a1813 c1814 e1822.2.2.kept, Ch.arr Ty.bool 4 a1819 c1820 e1822.2.2.message.there]) (fun h => [Im.sl tyRowRow a4199 c4200 e4242.1.current.rows, Im.sl tyRowGlyph a4202 c4203 e4242.1.current.begun, Im.sl tyRowRow a4205 c4206 e4242.1.acked.rows, Im.sl tyRowGlyph a4208 c4209 e4242.1.acked.begun, Im.sl Ty.str a4214 c4215 e4242.1.message.parts, Im.sl tyRef09Row a4221 c4222 e4242.2.current.rows, Im.sl tyRef09Glyph a4224 c4225 e4242.2.current.begun, Im.sl tyRef09Row a4227 c4228 e4242.2.acked.rows, Im.sl tyRef09Glyph a4230 c4231 e4242.2.acked.begun, Im.sl tyRef16Snap a4233 c4234 e4242.2.kept, Im.sl Ty.str a4236 c4237 e4242.2.parts, Im.sl Ty.bool a4239 c4240 e4242.2.there, Im.sl tyRowRow a2491 c2492 e2535.1.current.rows, Im.sl tyRowGlyph a2494 c2495 e2535.1.current.begun, Im.sl tyRowRow a2497 c2498 e2535.1.acked.rows, Im.sl tyRowGlyph a2500 c2501 e2535.1.acked.begun, Im.sl Ty.str a2506 c2507 e2535.1.message.parts, Im.sl tyRef09Row a2514 c2515 e2535.2.current.rows, Im.sl tyRef09Glyph a2517 c2518 e2535.2.current.begun, Im.sl tyRef09Row a2520 c2521 e2535.2.acked.rows, Im.sl tyRef09Glyph a2523 c2524 e2535.2.acked.begun, Im.sl tyRef16Snap a2526 c2527 e2535.2.kept, Im.sl Ty.str a2529 c2530 e2535.2.parts, Im.sl Ty.bool a2532 c2533 e2535.2.there, Im.sl tyRef09Row a1779 c1780 e1822.2.1.current.rows, Im.sl tyRef09Glyph a1782 c1783 e1822.2.1.current.begun, Im.sl tyRef09Row a1785 c1786 e1822.2.1.acked.rows, Im.sl tyRef09Glyph a1788 c1789 e1822.2.1.acked.begun, Im.sl tyRef16Snap a1791 c1792 e1822.2.1.kept, Im.sl Ty.str a1794 c1795 e1822.2.1.parts, Im.sl Ty.bool a1797 c1798 e1822.2.1.there, Im.sl tyRowRow a1801 c1802 e1822.2.2.current.rows, Im.sl tyRowGlyph a1804 c1805 e1822.2.2.current.begun, Im.sl tyRowRow a1807 c1808 e1822.2.2.acked.rows, Im.sl tyRowGlyph a1810 c1811 e1822.2.2.acked.begun, Im.sl Ty.str a1816 c1817 e1822.2.2.message.parts, Im.sl tyRef09Row a186 c187 r183.current.rows, Im.sl tyRef09Glyph a188 c189 r183.current.begun, Im.sl tyRef09Row a190 c191 r183.acked.rows, Im.sl tyRef09Glyph a192 c193 r183.acked.begun, Im.sl tyRef16Snap a194 c195 r183.kept, Im.sl Ty.str a196 c197 r183.parts, Im.sl Ty.bool a198 c199 r183.there, Im.sl tyRowRow a162 c163 r158.current.rows, Im.sl tyRowGlyph a164 c165 r158.current.begun, Im.sl tyRowRow a166 c167 r158.acked.rows, Im.sl tyRowGlyph a168 c169 r158.acked.begun, Im.sl Ty.str a172 c173 r158.message.parts, Im.sl tyLaw19Act a_0 c_0 acts, Im.sl tyLaw19Act a_1 c_1 more, Im.sl (Ty.int .u32) (some ⟨0, 0, none⟩) 16 t_sum_half]) ?_ ?_
  · refine T.region ?_
    refine L.q 1 rfl ?_
    refine L.y (Yl.ldb 2 rfl rfl rfl rfl) rfl rfl rfl ?_
    obtain ⟨r4747, h4748, H4749⟩ := bnd H4745
    refine L.a [4, 6, 6] [31, 32, 33, 34, 35, 24, 25, 26, 27, 28, 29, 30] (Ac.call (c_law19_Is g161 a1801 c1802 a1804 c1805 a1807 c1808 a1810 c1811 a1813 c1814 a1816 c1817 a1819 c1820 a1779 c1780 a1782 c1783 a1785 c1786 a1788 c1789 a1791 c1792 a1794 c1795 a1797 c1798 h4748) rfl rfl rfl rfl) rfl rfl rfl rfl rfl ?_
    rintro ⟨⟩
    refine L.q 1 rfl ?_
    refine L.cs 93 H4749 rfl (fun hc H4750 => ?_) (fun hc H4750 => ?_)
    · refine L.q 1 rfl ?_
      refine L.y (Yl.ldb 8 rfl rfl rfl rfl) rfl rfl rfl ?_
      obtain ⟨r4751, h4752, H4753⟩ := bnd H4750
      refine L.a [7, 3, 3] [0, 1, 2, 3, 4, 5, 6, 7, 8, 9, 10, 11] (Ac.call (c_law19_Is g2490 a4199 c4200 a4202 c4203 a4205 c4206 a4208 c4209 a4211 c4212 a4214 c4215 a4217 c4218 a4221 c4222 a4224 c4225 a4227 c4228 a4230 c4231 a4233 c4234 a4236 c4237 a4239 c4240 h4752) rfl rfl rfl rfl) rfl rfl rfl rfl rfl ?_
      rintro ⟨⟩
      refine L.q 2 rfl ?_
      refine L.nil ?_
      have hr := Option.some.inj H4753
      subst e4744
      exact E.give ((), ()) [6, 6, 3, 0, 4, 0, 0, 0, 0] [0, 1, 2, 3, 4, 5, 6, 7, 8, 9, 10, 11, 12, 13, 14, 15, 16, 17, 18, 19, 20, 21, 22, 23, 24, 25, 26, 27, 28, 29, 30, 31, 32, 33, 34, 35, 36, 37, 38, 39, 40, 41, 42, 43, 44, 45, 46, 47, 48, 49, 50] trivial ⟨rfl, trivial⟩ rfl rfl
    refine L.q 5 rfl ?_
    refine L.nil ?_
    have hr := Option.some.inj H4750
    subst e4744
    exact E.give ((), ()) [5, 5, 0, 4, 4, 2, 2, 0, 0] [0, 1, 2, 3, 4, 5, 6, 7, 8, 9, 10, 11, 12, 13, 14, 15, 16, 17, 18, 19, 20, 21, 22, 23, 24, 25, 26, 27, 28, 29, 30, 31, 32, 33, 34, 35, 36, 37, 38, 39, 40, 41, 42, 43, 44, 45, 46, 47, 48, 49, 50] trivial ⟨rfl, trivial⟩ rfl rfl
  rintro ⟨_, ⟨⟩⟩ _
  refine T.ret ?_
  have hr := Option.some.inj H4746
  subst r
  exact E.ret () [] [] (.tmp rfl .nil) rfl rfl rfl

end Go.Tw.X

set_option maxHeartbeats 2000000
set_option linter.unusedVariables false
set_option linter.unusedSimpArgs false
set_option maxRecDepth 10000
namespace Go.Tw.X
open Go Go.Tw
theorem opn_to {P : Program} {α β : Type} {t : TypeId} {ty : Ty α} {ty' : Ty β} {wf : α → Prop} {wf' : β → Prop} (h : Opn P t ty wf) (g : α → β) (gh : ty.Hid → ty'.Hid) (h1 : ∀ y hh, ty'.cs (g y) (gh hh) = ty.cs y hh) (h2 : ∀ y hh, ty'.im (g y) (gh hh) = ty.im y hh) (h3 : ∀ y, wf y → wf' (g y)) : Opn P t ty' wf' := Opn.to g gh h h1 h2 h3
theorem opn3 : Opn Go.Proofs.Tryz.prog 3 (Ty.int .i64) (inK .i64) := Opn.int (by kernel_rfl)
theorem opn9 : Opn Go.Proofs.Tryz.prog 9 Ty.str (fun s : ByteArray => s.size ≤ maxLen) := Opn.str (by kernel_rfl)
theorem opn21 : Opn Go.Proofs.Tryz.prog 21 (Ty.int .i32) (inK .i32) := Opn.int (by kernel_rfl)
theorem opn112 : Opn Go.Proofs.Tryz.prog 112 tyRowCell wfRowCell := opn_to (β := RowCell) (ty' := tyRowCell) (wf' := wfRowCell) (Opn.struct (fs := [(21, 0), (3, 1), (3, 2)]) (by kernel_rfl) (by kernel_rfl) (.cons opn21 (by kernel_rfl) (.cons opn3 (by kernel_rfl) (.cons opn3 (by kernel_rfl) .nil)))) (fun y => ⟨y.1, y.2.1, y.2.2.1⟩) (fun h => ()) (fun _ _ => rfl) (fun _ _ => rfl) (fun y h => h)
theorem opn52 : Opn Go.Proofs.Tryz.prog 52 (Ty.slice tyRowCell) (fun xs : List RowCell => ∀ x ∈ xs, wfRowCell x) := Opn.slice (by kernel_rfl) opn112 (by kernel_rfl) (by decide)
theorem opn4 : Opn Go.Proofs.Tryz.prog 4 Ty.bool (fun _ => True) := Opn.bool (by kernel_rfl)
theorem opn54 : Opn Go.Proofs.Tryz.prog 54 tyRowRow wfRowRow := opn_to (β := RowRow) (ty' := tyRowRow) (wf' := wfRowRow) (Opn.struct (fs := [(52, 0), (4, 1)]) (by kernel_rfl) (by kernel_rfl) (.cons opn52 (by kernel_rfl) (.cons opn4 (by kernel_rfl) .nil))) (fun y => ⟨y.1, y.2.1⟩) (fun h => h.1) (fun _ _ => rfl) (fun _ _ => rfl) (fun y h => h)
theorem opn40 : Opn Go.Proofs.Tryz.prog 40 (Ty.slice tyRowRow) (fun xs : List RowRow => ∀ x ∈ xs, wfRowRow x) := Opn.slice (by kernel_rfl) opn54 (by kernel_rfl) (by decide)
theorem opn107 : Opn Go.Proofs.Tryz.prog 107 tyRowGlyph wfRowGlyph := opn_to (β := RowGlyph) (ty' := tyRowGlyph) (wf' := wfRowGlyph) (Opn.struct (fs := [(21, 0), (3, 1)]) (by kernel_rfl) (by kernel_rfl) (.cons opn21 (by kernel_rfl) (.cons opn3 (by kernel_rfl) .nil))) (fun y => ⟨y.1, y.2.1⟩) (fun h => ()) (fun _ _ => rfl) (fun _ _ => rfl) (fun y h => h)
theorem opn41 : Opn Go.Proofs.Tryz.prog 41 (Ty.slice tyRowGlyph) (fun xs : List RowGlyph => ∀ x ∈ xs, wfRowGlyph x) := Opn.slice (by kernel_rfl) opn107 (by kernel_rfl) (by decide)
theorem opn43 : Opn Go.Proofs.Tryz.prog 43 tySnapSnap wfSnapSnap := opn_to (β := SnapSnap) (ty' := tySnapSnap) (wf' := wfSnapSnap) (Opn.struct (fs := [(3, 0), (3, 1), (3, 2), (3, 3), (3, 4), (9, 5), (40, 6), (3, 7), (3, 8), (41, 9)]) (by kernel_rfl) (by kernel_rfl) (.cons opn3 (by kernel_rfl) (.cons opn3 (by kernel_rfl) (.cons opn3 (by kernel_rfl) (.cons opn3 (by kernel_rfl) (.cons opn3 (by kernel_rfl) (.cons opn9 (by kernel_rfl) (.cons opn40 (by kernel_rfl) (.cons opn3 (by kernel_rfl) (.cons opn3 (by kernel_rfl) (.cons opn41 (by kernel_rfl) .nil))))))))))) (fun y => ⟨y.1, y.2.1, y.2.2.1, y.2.2.2.1, y.2.2.2.2.1, y.2.2.2.2.2.1, y.2.2.2.2.2.2.1, y.2.2.2.2.2.2.2.1, y.2.2.2.2.2.2.2.2.1, y.2.2.2.2.2.2.2.2.2.1⟩) (fun h => (h.2.2.2.2.2.2.1, h.2.2.2.2.2.2.2.2.2.1)) (fun _ _ => rfl) (fun _ _ => rfl) (fun y h => h)
theorem opn45 : Opn Go.Proofs.Tryz.prog 45 tyLaw19Act wfLaw19Act := opn_to (β := Law19Act) (ty' := tyLaw19Act) (wf' := wfLaw19Act) (Opn.struct (fs := [(3, 0), (3, 1), (3, 2), (3, 3), (9, 4), (43, 5)]) (by kernel_rfl) (by kernel_rfl) (.cons opn3 (by kernel_rfl) (.cons opn3 (by kernel_rfl) (.cons opn3 (by kernel_rfl) (.cons opn3 (by kernel_rfl) (.cons opn9 (by kernel_rfl) (.cons opn43 (by kernel_rfl) .nil))))))) (fun y => ⟨y.1, y.2.1, y.2.2.1, y.2.2.2.1, y.2.2.2.2.1, y.2.2.2.2.2.1⟩) (fun h => (h.2.2.2.2.2.1.1, h.2.2.2.2.2.1.2)) (fun _ _ => rfl) (fun _ _ => rfl) (fun y h => h)
theorem opn22 : Opn Go.Proofs.Tryz.prog 22 (Ty.slice tyLaw19Act) (fun xs : List Law19Act => ∀ x ∈ xs, wfLaw19Act x) := Opn.slice (by kernel_rfl) opn45 (by kernel_rfl) (by decide)
end Go.Tw.X

import Derived.Test.YtpopkbmeefaicaaDoorWk2
import Derived.Test.YtpopkbmeefaicaaDoorFw2
import Derived.Test.YtpopkbmeefaicaaDoorWk1
set_option maxHeartbeats 2000000
set_option linter.unusedVariables false
set_option linter.unusedSimpArgs false
set_option maxRecDepth 10000
namespace Go.Tw.X
open Go Go.Tw
theorem c_law19_do {s_ : SenderSender} {x_ : Ref19Sender} {a : Law19Act} {now : Int} (g_0 : Nat) (a_0_0 : Option Addr) (c_0_0 : Nat) (a_0_1 : Option Addr) (c_0_1 : Nat) (a_0_2 : Option Addr) (c_0_2 : Nat) (a_0_3 : Option Addr) (c_0_3 : Nat) (a_0_4 : Option Addr) (c_0_4 : Nat) (a_0_5 : Option Addr) (c_0_5 : Nat) (a_0_6 : Option Addr) (c_0_6 : Nat) (a_1_0 : Option Addr) (c_1_0 : Nat) (a_1_1 : Option Addr) (c_1_1 : Nat) (a_1_2 : Option Addr) (c_1_2 : Nat) (a_1_3 : Option Addr) (c_1_3 : Nat) (a_1_4 : Option Addr) (c_1_4 : Nat) (a_1_5 : Option Addr) (c_1_5 : Nat) (a_1_6 : Option Addr) (c_1_6 : Nat) (a_2_0 : Option Addr) (c_2_0 : Nat) (a_2_1 : Option Addr) (c_2_1 : Nat) {r : Ref19Sender × Bool × SenderSender} (H : p_law19_do s_ x_ a now = some r) : CT G 20 [.pointer (some ⟨g_0, 0, none⟩), .agg (bx54 x_ a_1_0 c_1_0 a_1_1 c_1_1 a_1_2 c_1_2 a_1_3 c_1_3 a_1_4 c_1_4 a_1_5 c_1_5 a_1_6 c_1_6).toArray, .agg (bx59 a a_2_0 c_2_0 a_2_1 c_2_1).toArray, .int .i64 now] [Ch.box g_0 82 (bx82 s_ a_0_0 c_0_0 a_0_1 c_0_1 a_0_2 c_0_2 a_0_3 c_0_3 a_0_4 c_0_4 a_0_5 c_0_5 a_0_6 c_0_6), Ch.aro tySnapSnap 25 a_0_4 c_0_4 s_.kept, Ch.arr Ty.bool 4 a_0_6 c_0_6 s_.message.there] [Im.sl tyRowRow a_0_0 c_0_0 s_.current.rows, Im.sl tyRowGlyph a_0_1 c_0_1 s_.current.begun, Im.sl tyRowRow a_0_2 c_0_2 s_.acked.rows, Im.sl tyRowGlyph a_0_3 c_0_3 s_.acked.begun, Im.sl Ty.str a_0_5 c_0_5 s_.message.parts, Im.sl tyRef09Row a_1_0 c_1_0 x_.current.rows, Im.sl tyRef09Glyph a_1_1 c_1_1 x_.current.begun, Im.sl tyRef09Row a_1_2 c_1_2 x_.acked.rows, Im.sl tyRef09Glyph a_1_3 c_1_3 x_.acked.begun, Im.sl tyRef16Snap a_1_4 c_1_4 x_.kept, Im.sl Ty.str a_1_5 c_1_5 x_.parts, Im.sl Ty.bool a_1_6 c_1_6 x_.there, Im.sl tyRowRow a_2_0 c_2_0 a.snap.rows, Im.sl tyRowGlyph a_2_1 c_2_1 a.snap.begun, Im.sl (Ty.int .u32) (some ⟨0, 0, none⟩) 16 t_sum_half] (fun h : (Option Addr × Nat) × (Option Addr × Nat) × (Option Addr × Nat) × (Option Addr × Nat) × (Option Addr × Nat) × (Option Addr × Nat) × (Option Addr × Nat) × (Option Addr × Nat) × (Option Addr × Nat) × (Option Addr × Nat) × (Option Addr × Nat) × (Option Addr × Nat) × (Option Addr × Nat) × (Option Addr × Nat) => .tuple #[.agg (bx54 r.1 h.1.1 h.1.2 h.2.1.1 h.2.1.2 h.2.2.1.1 h.2.2.1.2 h.2.2.2.1.1 h.2.2.2.1.2 h.2.2.2.2.1.1 h.2.2.2.2.1.2 h.2.2.2.2.2.1.1 h.2.2.2.2.2.1.2 h.2.2.2.2.2.2.1.1 h.2.2.2.2.2.2.1.2).toArray, .bool r.2.1]) (fun h => [Ch.box g_0 82 (bx82 r.2.2 h.2.2.2.2.2.2.2.1.1 h.2.2.2.2.2.2.2.1.2 h.2.2.2.2.2.2.2.2.1.1 h.2.2.2.2.2.2.2.2.1.2 h.2.2.2.2.2.2.2.2.2.1.1 h.2.2.2.2.2.2.2.2.2.1.2 h.2.2.2.2.2.2.2.2.2.2.1.1 h.2.2.2.2.2.2.2.2.2.2.1.2 h.2.2.2.2.2.2.2.2.2.2.2.1.1 h.2.2.2.2.2.2.2.2.2.2.2.1.2 h.2.2.2.2.2.2.2.2.2.2.2.2.1.1 h.2.2.2.2.2.2.2.2.2.2.2.2.1.2 h.2.2.2.2.2.2.2.2.2.2.2.2.2.1 h.2.2.2.2.2.2.2.2.2.2.2.2.2.2), Ch.aro tySnapSnap 25 h.2.2.2.2.2.2.2.2.2.2.2.1.1 h.2.2.2.2.2.2.2.2.2.2.2.1.2 r.2.2.kept, Ch.arr Ty.bool 4 h.2.2.2.2.2.2.2.2.2.2.2.2.2.1 h.2.2.2.2.2.2.2.2.2.2.2.2.2.2 r.2.2.message.there]) (fun h => [Im.sl tyRef09Row h.1.1 h.1.2 r.1.current.rows, Im.sl tyRef09Glyph h.2.1.1 h.2.1.2 r.1.current.begun, Im.sl tyRef09Row h.2.2.1.1 h.2.2.1.2 r.1.acked.rows, Im.sl tyRef09Glyph h.2.2.2.1.1 h.2.2.2.1.2 r.1.acked.begun, Im.sl tyRef16Snap h.2.2.2.2.1.1 h.2.2.2.2.1.2 r.1.kept, Im.sl Ty.str h.2.2.2.2.2.1.1 h.2.2.2.2.2.1.2 r.1.parts, Im.sl Ty.bool h.2.2.2.2.2.2.1.1 h.2.2.2.2.2.2.1.2 r.1.there, Im.sl tyRowRow h.2.2.2.2.2.2.2.1.1 h.2.2.2.2.2.2.2.1.2 r.2.2.current.rows, Im.sl tyRowGlyph h.2.2.2.2.2.2.2.2.1.1 h.2.2.2.2.2.2.2.2.1.2 r.2.2.current.begun, Im.sl tyRowRow h.2.2.2.2.2.2.2.2.2.1.1 h.2.2.2.2.2.2.2.2.2.1.2 r.2.2.acked.rows, Im.sl tyRowGlyph h.2.2.2.2.2.2.2.2.2.2.1.1 h.2.2.2.2.2.2.2.2.2.2.1.2 r.2.2.acked.begun, Im.sl Ty.str h.2.2.2.2.2.2.2.2.2.2.2.2.1.1 h.2.2.2.2.2.2.2.2.2.2.2.2.1.2 r.2.2.message.parts]) := by
  delta p_law19_do at H
  refine CT.of Go.Proofs.Tryd.func20 (by kernel_rfl) rfl rfl rfl fun K => ?_
  refine T.seq (T.region ?_)
  refine L.a [] [] (Ac.box rfl rfl) rfl rfl rfl rfl rfl ?_
  intro g1
  refine L.a [] [] (Ac.box rfl rfl) rfl rfl rfl rfl rfl ?_
  intro g2
  refine L.a [] [] (Ac.alloc rfl rfl) rfl rfl rfl rfl rfl ?_
  intro g3
  refine L.q 1 rfl ?_
  refine L.nil (E.then (T.seq (T.seq (T.region ?_))))
  refine L.q 1 rfl ?_
  refine L.y (Yl.ldb 1 rfl rfl rfl rfl) rfl rfl rfl ?_
  refine L.nil (E.then (T.block (T.seq (T.region ?_))))
  refine L.q 2 rfl ?_
  refine L.nil (E.then ?_)
  refine T.bif rfl H (fun hc H276 => ?_) (fun hc H276 => ?_)
  · refine T.seq (T.region ?_)
    refine L.q 1 rfl ?_
    refine L.y (Yl.ldb 1 rfl rfl rfl rfl) rfl rfl rfl ?_
    obtain ⟨r277, h278, H279⟩ := bnd H276
    refine L.a [] [12, 13] (Ac.call (c_law16_Cut a_2_0 c_2_0 a_2_1 c_2_1 h278) rfl rfl rfl rfl) rfl rfl rfl rfl rfl ?_
    rintro ⟨⟨a280, c281⟩, ⟨a282, c283⟩⟩
    refine L.a [] [] (Ac.alloc rfl rfl) rfl rfl rfl rfl rfl ?_
    intro g286
    refine L.a [0] [] (Ac.stb rfl rfl rfl rfl rfl rfl) rfl rfl rfl rfl rfl ?_
    intro _
    refine L.nil (E.then (T.seq (T.region ?_)))
    refine L.q 2 rfl ?_
    refine L.y (Yl.ldb 3 rfl rfl rfl rfl) rfl rfl rfl ?_
    refine L.q 1 rfl ?_
    refine L.y (Yl.ldb 2 rfl rfl rfl rfl) rfl rfl rfl ?_
    refine L.q 4 rfl ?_
    refine L.a [0] [] (Ac.stb rfl rfl rfl rfl rfl rfl) rfl rfl rfl rfl rfl ?_
    intro _
    refine L.nil (E.then (T.seq ?_))
    refine T.draw [8] [0, 0, 0, 0, 0, 0, 0] mo (by rfl) rfl ?_
    refine D.y 0 (Yl.ldb 3 rfl rfl rfl rfl) rfl rfl rfl rfl rfl rfl ?_
    refine D.y 1 (Yl.ldb 0 rfl rfl rfl rfl) rfl rfl rfl rfl rfl rfl ?_
    refine DF.of rfl ?_
    obtain ⟨r359, h360, H361⟩ := bnd H279
    refine DF.add _ (FSp.ac 2 [0, 1] (Ac.call (c_law16_Told a280 c281 a282 c283 h360) rfl rfl rfl rfl) rfl rfl rfl rfl rfl) rfl ?_
    refine DF.add _ (FSp.ac 7 [] (Ac.alloc rfl rfl) rfl rfl rfl rfl rfl) rfl ?_
    refine DF.step 3 rfl rfl rfl rfl rfl ?_
    refine DFp.use 1 rfl rfl rfl ?_
    rintro ⟨⟨a362, c363⟩, ⟨a364, c365⟩⟩
    obtain ⟨r369, h370, H371⟩ := bnd H361
    refine DFp.a [] [9, 10, 11, 12, 13, 14, 15, 0, 1] (Ac.call (c_ref19_Note a_1_0 c_1_0 a_1_1 c_1_1 a_1_2 c_1_2 a_1_3 c_1_3 a_1_4 c_1_4 a_1_5 c_1_5 a_1_6 c_1_6 a362 c363 a364 c365 h370) rfl rfl rfl rfl) rfl rfl rfl rfl rfl rfl rfl rfl ?_
    rintro ⟨⟨a372, c373⟩, ⟨a374, c375⟩⟩
    refine DF.add _ (FSp.q 4 rfl rfl rfl rfl rfl) rfl ?_
    refine DF.add _ (FSp.dep 0 rfl rfl fun _ => FSp.q 5 rfl rfl rfl rfl rfl) rfl ?_
    refine DF.add _ (FSp.dep 1 rfl rfl fun _ => FSp.q 6 rfl rfl rfl rfl rfl) rfl ?_
    refine DF.step 8 rfl rfl rfl rfl rfl ?_
    refine DFp.use 1 rfl rfl rfl ?_
    intro _
    refine DFp.use 1 rfl rfl rfl ?_
    intro _
    refine DFp.use 1 rfl rfl rfl ?_
    intro g368
    refine DFp.alf [7] [] (Ac.stb rfl rfl rfl rfl rfl rfl) rfl (fo_cons (FSp.q 6 rfl rfl rfl rfl rfl) (fo_nil)) rfl rfl rfl rfl rfl rfl rfl rfl ?_
    intro _
    refine DF.add _ (FSp.dep 0 rfl rfl fun _ => FSp.q 9 rfl rfl rfl rfl rfl) rfl ?_
    refine DF.fin rfl rfl rfl rfl rfl ?_
    refine DFe.use ?_
    intro _
    refine DFe.use ?_
    intro _
    refine DFe.nil ?_
    refine E.then (T.seq ?_)
    refine T.draw [6] [0, 0, 0, 0, 0] mo (by rfl) rfl ?_
    refine D.y 0 (Yl.ldb 0 rfl rfl rfl rfl) rfl rfl rfl rfl rfl rfl ?_
    refine D.q 1 rfl rfl rfl rfl rfl rfl ?_
    refine D.y 2 (Yl.ldb 1 rfl rfl rfl rfl) rfl rfl rfl rfl rfl rfl ?_
    refine D.q 4 rfl rfl rfl rfl rfl rfl ?_
    obtain ⟨r425, h426, H427⟩ := bnd H371
    refine D.one rfl rfl rfl (Dp.a [0, 0, 0] [11, 12, 13, 14, 15, 9, 10] (Ac.call (c_sender_Sender_Note g_0 a_0_0 c_0_0 a_0_1 c_0_1 a_0_2 c_0_2 a_0_3 c_0_3 a_0_4 c_0_4 a_0_5 c_0_5 a_0_6 c_0_6 a280 c281 a282 c283 h426) rfl rfl rfl rfl) rfl rfl rfl rfl rfl rfl ?_)
    rintro ⟨⟨a428, c429⟩, ⟨a430, c431⟩⟩
    refine D.q 5 rfl rfl rfl rfl rfl rfl ?_
    refine D.one rfl rfl rfl (Dp.al [2] [] (Ac.stb rfl rfl rfl rfl rfl rfl) rfl rfl rfl rfl rfl rfl rfl ?_)
    intro _
    refine D.q 7 rfl rfl rfl rfl rfl rfl ?_
    refine D.nil rfl rfl ?_
    refine E.then (T.ret (E.block_ret (E.then_ret ?_)))
    have hr := Option.some.inj H427
    subst r
    exact E.ret ((a372, c373), (a374, c375), (a_1_2, c_1_2), (a_1_3, c_1_3), (a_1_4, c_1_4), (a_1_5, c_1_5), (a_1_6, c_1_6), (a428, c429), (a430, c431), (a_0_2, c_0_2), (a_0_3, c_0_3), (a_0_4, c_0_4), (a_0_5, c_0_5), (a_0_6, c_0_6)) [5, 5, 5] [5, 6, 7, 8, 9, 10, 11, 0, 1, 2, 3, 4] (.cell 0 rfl rfl rfl (.tmp rfl .nil)) rfl rfl rfl
  refine T.seq (T.region ?_)
  refine L.q 2 rfl ?_
  refine L.nil (E.then ?_)
  refine T.bif rfl H276 (fun hc H439 => ?_) (fun hc H439 => ?_)
  · refine T.seq (T.region ?_)
    refine L.y (Yl.ldb 2 rfl rfl rfl rfl) rfl rfl rfl ?_
    refine L.q 1 rfl ?_
    obtain ⟨r440, h441, H442⟩ := bnd H439
    refine L.a [] [5, 6, 7, 8, 9, 10, 11] (Ac.call (c_ref19_Step a_1_0 c_1_0 a_1_1 c_1_1 a_1_2 c_1_2 a_1_3 c_1_3 a_1_4 c_1_4 a_1_5 c_1_5 a_1_6 c_1_6 h441) rfl rfl rfl rfl) rfl rfl rfl rfl rfl ?_
    rintro ⟨⟨a443, c444⟩, ⟨a445, c446⟩, ⟨a447, c448⟩, ⟨a449, c450⟩⟩
    refine L.q 3 rfl ?_
    refine L.a [] [] (Ac.alloc rfl rfl) rfl rfl rfl rfl rfl ?_
    intro g459
    refine L.a [0] [] (Ac.stb rfl rfl rfl rfl rfl rfl) rfl rfl rfl rfl rfl ?_
    intro _
    refine L.q 1 rfl ?_
    refine L.nil (E.then (T.seq ?_))
    refine T.draw [6] [0, 0, 0, 0, 0] mo (by rfl) rfl ?_
    refine D.y 0 (Yl.ldb 0 rfl rfl rfl rfl) rfl rfl rfl rfl rfl rfl ?_
    refine D.q 1 rfl rfl rfl rfl rfl rfl ?_
    refine D.q 2 rfl rfl rfl rfl rfl rfl ?_
    refine D.q 4 rfl rfl rfl rfl rfl rfl ?_
    obtain ⟨r526, h527, H528⟩ := bnd H442
    refine D.one rfl rfl rfl (Dp.a [0, 0, 0] [7, 8, 9, 10, 11, 21] (Ac.call (c_sender_Sender_Step g_0 a_0_0 c_0_0 a_0_1 c_0_1 a_0_2 c_0_2 a_0_3 c_0_3 a_0_4 c_0_4 a_0_5 c_0_5 a_0_6 c_0_6 h527) rfl rfl rfl rfl) rfl rfl rfl rfl rfl rfl ?_)
    rintro ⟨⟨a529, c530⟩, ⟨a531, c532⟩, ⟨a533, c534⟩, ⟨a535, c536⟩⟩
    obtain ⟨r545, h546, H547⟩ := bnd H528
    refine D.one rfl rfl rfl (Dp.br (Ac.call (c_law19_Grams a529 c530 a449 c450 h546) rfl rfl rfl rfl) (Bw.ch 5 rfl (Bw.ch 1 rfl (Bw.nil))) rfl rfl rfl rfl ?_)
    intro _
    refine D.one rfl rfl rfl (Dp.al [2] [] (Ac.stb rfl rfl rfl rfl rfl rfl) rfl rfl rfl rfl rfl rfl rfl ?_)
    intro _
    refine D.q 7 rfl rfl rfl rfl rfl rfl ?_
    refine D.nil rfl rfl ?_
    refine E.then (T.ret (E.block_ret (E.then_ret ?_)))
    have hr := Option.some.inj H547
    subst r
    exact E.ret ((a_1_0, c_1_0), (a_1_1, c_1_1), (a_1_2, c_1_2), (a_1_3, c_1_3), (a443, c444), (a445, c446), (a447, c448), (a_0_0, c_0_0), (a_0_1, c_0_1), (a_0_2, c_0_2), (a_0_3, c_0_3), (a531, c532), (a533, c534), (a535, c536)) [6, 6, 6] [5, 6, 7, 8, 9, 10, 11, 0, 1, 2, 3, 4] (.cell 0 rfl rfl rfl (.tmp rfl .nil)) rfl rfl rfl
  refine T.skip (E.block (E.then (T.seq ?_)))
  refine T.draw [] [0, 0, 0, 0, 0, 0] mo (by rfl) rfl ?_
  refine D.q 0 rfl rfl rfl rfl rfl rfl ?_
  refine D.q 1 rfl rfl rfl rfl rfl rfl ?_
  refine D.y 2 (Yl.ldb 2 rfl rfl rfl rfl) rfl rfl rfl rfl rfl rfl ?_
  refine D.q 3 rfl rfl rfl rfl rfl rfl ?_
  refine D.y 4 (Yl.ldb 1 rfl rfl rfl rfl) rfl rfl rfl rfl rfl rfl ?_
  refine D.q 5 rfl rfl rfl rfl rfl rfl ?_
  refine D.q 6 rfl rfl rfl rfl rfl rfl ?_
  refine D.q 7 rfl rfl rfl rfl rfl rfl ?_
  refine D.q 8 rfl rfl rfl rfl rfl rfl ?_
  refine D.y 9 (Yl.ldb 2 rfl rfl rfl rfl) rfl rfl rfl rfl rfl rfl ?_
  refine D.q 10 rfl rfl rfl rfl rfl rfl ?_
  refine D.y 11 (Yl.ldb 1 rfl rfl rfl rfl) rfl rfl rfl rfl rfl rfl ?_
  refine D.q 12 rfl rfl rfl rfl rfl rfl ?_
  refine D.q 13 rfl rfl rfl rfl rfl rfl ?_
  refine D.q 14 rfl rfl rfl rfl rfl rfl ?_
  refine D.q 15 rfl rfl rfl rfl rfl rfl ?_
  refine D.nil rfl rfl ?_
  refine E.then (T.seq (T.region ?_))
  refine L.q 1 rfl ?_
  refine L.y (Yl.ldb 1 rfl rfl rfl rfl) rfl rfl rfl ?_
  obtain ⟨r548, h549, H550⟩ := bnd H439
  refine L.a [] [] (Ac.call (c_law01_Cut h549) rfl rfl rfl rfl) rfl rfl rfl rfl rfl ?_
  rintro ⟨⟩
  refine L.q 1 rfl ?_
  refine L.nil (E.then (T.seq (T.region ?_)))
  refine L.y (Yl.ldb 2 rfl rfl rfl rfl) rfl rfl rfl ?_
  refine L.q 3 rfl ?_
  obtain ⟨r551, h552, H553⟩ := bnd H550
  refine L.a [] [5, 6, 7, 8, 9, 10, 11] (Ac.call (c_ref19_Ack a_1_0 c_1_0 a_1_1 c_1_1 a_1_2 c_1_2 a_1_3 c_1_3 a_1_4 c_1_4 a_1_5 c_1_5 a_1_6 c_1_6 h552) rfl rfl rfl rfl) rfl rfl rfl rfl rfl ?_
  rintro ⟨⟨a554, c555⟩, ⟨a556, c557⟩, ⟨a558, c559⟩, ⟨a560, c561⟩⟩
  refine L.q 3 rfl ?_
  refine L.a [] [] (Ac.alloc rfl rfl) rfl rfl rfl rfl rfl ?_
  intro g569
  refine L.a [0] [] (Ac.stb rfl rfl rfl rfl rfl rfl) rfl rfl rfl rfl rfl ?_
  intro _
  refine L.q 1 rfl ?_
  refine L.nil (E.then (T.seq ?_))
  refine T.draw [8] [0, 0, 0, 0] mo (by rfl) rfl ?_
  refine D.y 0 (Yl.ldb 0 rfl rfl rfl rfl) rfl rfl rfl rfl rfl rfl ?_
  refine D.q 1 rfl rfl rfl rfl rfl rfl ?_
  refine D.q 2 rfl rfl rfl rfl rfl rfl ?_
  refine D.q 3 rfl rfl rfl rfl rfl rfl ?_
  refine D.q 4 rfl rfl rfl rfl rfl rfl ?_
  refine D.q 6 rfl rfl rfl rfl rfl rfl ?_
  obtain ⟨r618, h619, H620⟩ := bnd H553
  refine D.one rfl rfl rfl (Dp.a [0, 0, 0] [7, 8, 9, 10, 11] (Ac.call (c_sender_Sender_Ack g_0 a_0_0 c_0_0 a_0_1 c_0_1 a_0_2 c_0_2 a_0_3 c_0_3 a_0_4 c_0_4 a_0_5 c_0_5 a_0_6 c_0_6 h619) rfl rfl rfl rfl) rfl rfl rfl rfl rfl rfl ?_)
  rintro ⟨⟨a621, c622⟩, ⟨a623, c624⟩, ⟨a625, c626⟩⟩
  refine D.q 7 rfl rfl rfl rfl rfl rfl ?_
  refine D.one rfl rfl rfl (Dp.al [1] [] (Ac.stb rfl rfl rfl rfl rfl rfl) rfl rfl rfl rfl rfl rfl rfl ?_)
  intro _
  refine D.q 9 rfl rfl rfl rfl rfl rfl ?_
  refine D.nil rfl rfl ?_
  refine E.then (T.ret ?_)
  have hr := Option.some.inj H620
  subst r
  exact E.ret ((a_1_0, c_1_0), (a_1_1, c_1_1), (a554, c555), (a556, c557), (a558, c559), (a_1_5, c_1_5), (a560, c561), (a_0_0, c_0_0), (a_0_1, c_0_1), (a621, c622), (a623, c624), (a625, c626), (a_0_5, c_0_5), (a_0_6, c_0_6)) [4, 4, 4] [5, 6, 7, 8, 9, 10, 11, 0, 1, 2, 3, 4] (.cell 0 rfl rfl rfl (.tmp rfl .nil)) rfl rfl rfl

theorem c_sender_Sender_Message {s_ : SenderSender} (g_0 : Nat) (a_0_0 : Option Addr) (c_0_0 : Nat) (a_0_1 : Option Addr) (c_0_1 : Nat) (a_0_2 : Option Addr) (c_0_2 : Nat) (a_0_3 : Option Addr) (c_0_3 : Nat) (a_0_4 : Option Addr) (c_0_4 : Nat) (a_0_5 : Option Addr) (c_0_5 : Nat) (a_0_6 : Option Addr) (c_0_6 : Nat) {r : Int × Int × Int} (H : p_sender_Sender_Message s_ = some r) : CT G 51 [.pointer (some ⟨g_0, 0, none⟩)] [Ch.box g_0 82 (bx82 s_ a_0_0 c_0_0 a_0_1 c_0_1 a_0_2 c_0_2 a_0_3 c_0_3 a_0_4 c_0_4 a_0_5 c_0_5 a_0_6 c_0_6), Ch.aro tySnapSnap 25 a_0_4 c_0_4 s_.kept, Ch.arr Ty.bool 4 a_0_6 c_0_6 s_.message.there] [Im.sl tyRowRow a_0_0 c_0_0 s_.current.rows, Im.sl tyRowGlyph a_0_1 c_0_1 s_.current.begun, Im.sl tyRowRow a_0_2 c_0_2 s_.acked.rows, Im.sl tyRowGlyph a_0_3 c_0_3 s_.acked.begun, Im.sl Ty.str a_0_5 c_0_5 s_.message.parts] (fun h : Unit => .tuple #[.int .i64 r.1, .int .i64 r.2.1, .int .i64 r.2.2]) (fun h => [Ch.box g_0 82 (bx82 s_ a_0_0 c_0_0 a_0_1 c_0_1 a_0_2 c_0_2 a_0_3 c_0_3 a_0_4 c_0_4 a_0_5 c_0_5 a_0_6 c_0_6), Ch.aro tySnapSnap 25 a_0_4 c_0_4 s_.kept, Ch.arr Ty.bool 4 a_0_6 c_0_6 s_.message.there]) (fun h => []) := by
  delta p_sender_Sender_Message at H
  refine CT.of Go.Proofs.Tryd.func51 (by kernel_rfl) rfl rfl rfl fun K => ?_
  refine T.seq (T.region ?_)
  refine L.q 3 rfl ?_
  refine L.nil (E.then (T.seq ?_))
  refine T.draw [] [0, 0, 0] mo (by rfl) rfl ?_
  refine D.q 0 rfl rfl rfl rfl rfl rfl ?_
  refine D.q 1 rfl rfl rfl rfl rfl rfl ?_
  refine D.q 2 rfl rfl rfl rfl rfl rfl ?_
  refine D.q 3 rfl rfl rfl rfl rfl rfl ?_
  refine D.y 4 (Yl.ldb 0 rfl rfl rfl rfl) rfl rfl rfl rfl rfl rfl ?_
  refine D.q 5 rfl rfl rfl rfl rfl rfl ?_
  refine D.q 6 rfl rfl rfl rfl rfl rfl ?_
  refine D.q 7 rfl rfl rfl rfl rfl rfl ?_
  refine D.q 8 rfl rfl rfl rfl rfl rfl ?_
  refine D.y 9 (Yl.ldb 0 rfl rfl rfl rfl) rfl rfl rfl rfl rfl rfl ?_
  refine D.q 10 rfl rfl rfl rfl rfl rfl ?_
  refine D.q 11 rfl rfl rfl rfl rfl rfl ?_
  refine D.q 12 rfl rfl rfl rfl rfl rfl ?_
  refine D.q 13 rfl rfl rfl rfl rfl rfl ?_
  refine D.y 14 (Yl.ldb 0 rfl rfl rfl rfl) rfl rfl rfl rfl rfl rfl ?_
  refine D.q 15 rfl rfl rfl rfl rfl rfl ?_
  refine D.q 16 rfl rfl rfl rfl rfl rfl ?_
  refine D.q 17 rfl rfl rfl rfl rfl rfl ?_
  refine D.nil rfl rfl ?_
  refine E.then (T.ret ?_)
  have hr := Option.some.inj H
  subst r
  exact E.ret () [0, 0, 0] [] (.tmp rfl (.tmp rfl (.tmp rfl .nil))) rfl rfl rfl

theorem c_sender_Sender_Current {s_ : SenderSender} (g_0 : Nat) (a_0_0 : Option Addr) (c_0_0 : Nat) (a_0_1 : Option Addr) (c_0_1 : Nat) (a_0_2 : Option Addr) (c_0_2 : Nat) (a_0_3 : Option Addr) (c_0_3 : Nat) (a_0_4 : Option Addr) (c_0_4 : Nat) (a_0_5 : Option Addr) (c_0_5 : Nat) (a_0_6 : Option Addr) (c_0_6 : Nat) {r : Int} (H : p_sender_Sender_Current s_ = some r) : CT G 26 [.pointer (some ⟨g_0, 0, none⟩)] [Ch.box g_0 82 (bx82 s_ a_0_0 c_0_0 a_0_1 c_0_1 a_0_2 c_0_2 a_0_3 c_0_3 a_0_4 c_0_4 a_0_5 c_0_5 a_0_6 c_0_6), Ch.aro tySnapSnap 25 a_0_4 c_0_4 s_.kept, Ch.arr Ty.bool 4 a_0_6 c_0_6 s_.message.there] [Im.sl tyRowRow a_0_0 c_0_0 s_.current.rows, Im.sl tyRowGlyph a_0_1 c_0_1 s_.current.begun, Im.sl tyRowRow a_0_2 c_0_2 s_.acked.rows, Im.sl tyRowGlyph a_0_3 c_0_3 s_.acked.begun, Im.sl Ty.str a_0_5 c_0_5 s_.message.parts] (fun h : Unit => .int .i64 r) (fun h => [Ch.box g_0 82 (bx82 s_ a_0_0 c_0_0 a_0_1 c_0_1 a_0_2 c_0_2 a_0_3 c_0_3 a_0_4 c_0_4 a_0_5 c_0_5 a_0_6 c_0_6), Ch.aro tySnapSnap 25 a_0_4 c_0_4 s_.kept, Ch.arr Ty.bool 4 a_0_6 c_0_6 s_.message.there]) (fun h => []) := by
  delta p_sender_Sender_Current at H
  refine CT.of Go.Proofs.Tryd.func26 (by kernel_rfl) rfl rfl rfl fun K => ?_
  refine T.seq (T.region ?_)
  refine L.q 1 rfl ?_
  refine L.nil (E.then (T.seq (T.region ?_)))
  refine L.q 4 rfl ?_
  refine L.y (Yl.ldb 0 rfl rfl rfl rfl) rfl rfl rfl ?_
  refine L.q 1 rfl ?_
  refine L.nil (E.then (T.ret ?_))
  have hr := Option.some.inj H
  subst r
  exact E.ret () [0, 0, 0] [] (.tmp rfl .nil) rfl rfl rfl

theorem c_law19_Is {s_ : SenderSender} {x_ : Ref19Sender} (g_0 : Nat) (a_0_0 : Option Addr) (c_0_0 : Nat) (a_0_1 : Option Addr) (c_0_1 : Nat) (a_0_2 : Option Addr) (c_0_2 : Nat) (a_0_3 : Option Addr) (c_0_3 : Nat) (a_0_4 : Option Addr) (c_0_4 : Nat) (a_0_5 : Option Addr) (c_0_5 : Nat) (a_0_6 : Option Addr) (c_0_6 : Nat) (a_1_0 : Option Addr) (c_1_0 : Nat) (a_1_1 : Option Addr) (c_1_1 : Nat) (a_1_2 : Option Addr) (c_1_2 : Nat) (a_1_3 : Option Addr) (c_1_3 : Nat) (a_1_4 : Option Addr) (c_1_4 : Nat) (a_1_5 : Option Addr) (c_1_5 : Nat) (a_1_6 : Option Addr) (c_1_6 : Nat) {r : Bool} (H : p_law19_Is s_ x_ = some r) : CT G 21 [.pointer (some ⟨g_0, 0, none⟩), .agg (bx54 x_ a_1_0 c_1_0 a_1_1 c_1_1 a_1_2 c_1_2 a_1_3 c_1_3 a_1_4 c_1_4 a_1_5 c_1_5 a_1_6 c_1_6).toArray] [Ch.box g_0 82 (bx82 s_ a_0_0 c_0_0 a_0_1 c_0_1 a_0_2 c_0_2 a_0_3 c_0_3 a_0_4 c_0_4 a_0_5 c_0_5 a_0_6 c_0_6), Ch.aro tySnapSnap 25 a_0_4 c_0_4 s_.kept, Ch.arr Ty.bool 4 a_0_6 c_0_6 s_.message.there] [Im.sl tyRowRow a_0_0 c_0_0 s_.current.rows, Im.sl tyRowGlyph a_0_1 c_0_1 s_.current.begun, Im.sl tyRowRow a_0_2 c_0_2 s_.acked.rows, Im.sl tyRowGlyph a_0_3 c_0_3 s_.acked.begun, Im.sl Ty.str a_0_5 c_0_5 s_.message.parts, Im.sl tyRef09Row a_1_0 c_1_0 x_.current.rows, Im.sl tyRef09Glyph a_1_1 c_1_1 x_.current.begun, Im.sl tyRef09Row a_1_2 c_1_2 x_.acked.rows, Im.sl tyRef09Glyph a_1_3 c_1_3 x_.acked.begun, Im.sl tyRef16Snap a_1_4 c_1_4 x_.kept, Im.sl Ty.str a_1_5 c_1_5 x_.parts, Im.sl Ty.bool a_1_6 c_1_6 x_.there] (fun h : Unit => .bool r) (fun h => [Ch.box g_0 82 (bx82 s_ a_0_0 c_0_0 a_0_1 c_0_1 a_0_2 c_0_2 a_0_3 c_0_3 a_0_4 c_0_4 a_0_5 c_0_5 a_0_6 c_0_6), Ch.aro tySnapSnap 25 a_0_4 c_0_4 s_.kept, Ch.arr Ty.bool 4 a_0_6 c_0_6 s_.message.there]) (fun h => []) := by
  delta p_law19_Is at H
  refine CT.of Go.Proofs.Tryd.func21 (by kernel_rfl) rfl rfl rfl fun K => ?_
  refine T.seq (T.region ?_)
  refine L.a [] [] (Ac.box rfl rfl) rfl rfl rfl rfl rfl ?_
  intro g1
  refine L.q 1 rfl ?_
  refine L.nil (E.then (T.seq (T.region ?_)))
  refine L.q 2 rfl ?_
  refine L.nil (E.then (T.seq (T.seq (T.region ?_))))
  refine L.q 1 rfl ?_
  refine L.y (Yl.ldb 0 rfl rfl rfl rfl) rfl rfl rfl ?_
  refine L.q 2 rfl ?_
  refine L.nil (E.then ?_)
  obtain ⟨e162, H163, H164⟩ := bnd H
  refine T.join (η := Unit × ((Option Addr × Nat))) (fun h => True) (fun h => (fun a159 c160 => [(0, .pointer (some ⟨g_0, 0, none⟩)), (3, .pointer (some ⟨g1, 0, none⟩)), (5, .slice a159 e162.length c160), (6, .slice none 0 0)]) h.2.1 h.2.2) (fun h => (fun a159 c160 => [Ch.arr (Ty.int .i64) 3 a159 c160 e162, Ch.box g1 54 (bx54 x_ a_1_0 c_1_0 a_1_1 c_1_1 a_1_2 c_1_2 a_1_3 c_1_3 a_1_4 c_1_4 a_1_5 c_1_5 a_1_6 c_1_6), Ch.box g_0 82 (bx82 s_ a_0_0 c_0_0 a_0_1 c_0_1 a_0_2 c_0_2 a_0_3 c_0_3 a_0_4 c_0_4 a_0_5 c_0_5 a_0_6 c_0_6), Ch.aro tySnapSnap 25 a_0_4 c_0_4 s_.kept, Ch.arr Ty.bool 4 a_0_6 c_0_6 s_.message.there]) h.2.1 h.2.2) (fun h => (fun a159 c160 => [Im.sl tyRowRow a_0_0 c_0_0 s_.current.rows, Im.sl tyRowGlyph a_0_1 c_0_1 s_.current.begun, Im.sl tyRowRow a_0_2 c_0_2 s_.acked.rows, Im.sl tyRowGlyph a_0_3 c_0_3 s_.acked.begun, Im.sl Ty.str a_0_5 c_0_5 s_.message.parts, Im.sl tyRef09Row a_1_0 c_1_0 x_.current.rows, Im.sl tyRef09Glyph a_1_1 c_1_1 x_.current.begun, Im.sl tyRef09Row a_1_2 c_1_2 x_.acked.rows, Im.sl tyRef09Glyph a_1_3 c_1_3 x_.acked.begun, Im.sl tyRef16Snap a_1_4 c_1_4 x_.kept, Im.sl Ty.str a_1_5 c_1_5 x_.parts, Im.sl Ty.bool a_1_6 c_1_6 x_.there]) h.2.1 h.2.2) ?_ ?_
  · refine T.block ?_
    refine T.nil0 (Ty.int .i64) 3 ?_
    refine T.lp (η := (Option Addr × Nat)) (fun s111 h => (fun a108 c109 => [(0, .pointer (some ⟨g_0, 0, none⟩)), (3, .pointer (some ⟨g1, 0, none⟩)), (5, .slice a108 s111.2.length c109), (6, .slice none 0 0), (15, .slice a_1_4 x_.kept.length c_1_4), (16, .int .i64 (x_.kept.length : Int)), (17, .int .i64 s111.1)]) h.1 h.2) (fun s111 h => (fun a108 c109 => [Ch.arr (Ty.int .i64) 3 a108 c109 s111.2, Ch.box g1 54 (bx54 x_ a_1_0 c_1_0 a_1_1 c_1_1 a_1_2 c_1_2 a_1_3 c_1_3 a_1_4 c_1_4 a_1_5 c_1_5 a_1_6 c_1_6), Ch.box g_0 82 (bx82 s_ a_0_0 c_0_0 a_0_1 c_0_1 a_0_2 c_0_2 a_0_3 c_0_3 a_0_4 c_0_4 a_0_5 c_0_5 a_0_6 c_0_6), Ch.aro tySnapSnap 25 a_0_4 c_0_4 s_.kept, Ch.arr Ty.bool 4 a_0_6 c_0_6 s_.message.there]) h.1 h.2) (fun s111 h => (fun a108 c109 => [Im.sl tyRowRow a_0_0 c_0_0 s_.current.rows, Im.sl tyRowGlyph a_0_1 c_0_1 s_.current.begun, Im.sl tyRowRow a_0_2 c_0_2 s_.acked.rows, Im.sl tyRowGlyph a_0_3 c_0_3 s_.acked.begun, Im.sl Ty.str a_0_5 c_0_5 s_.message.parts, Im.sl tyRef09Row a_1_0 c_1_0 x_.current.rows, Im.sl tyRef09Glyph a_1_1 c_1_1 x_.current.begun, Im.sl tyRef09Row a_1_2 c_1_2 x_.acked.rows, Im.sl tyRef09Glyph a_1_3 c_1_3 x_.acked.begun, Im.sl tyRef16Snap a_1_4 c_1_4 x_.kept, Im.sl Ty.str a_1_5 c_1_5 x_.parts, Im.sl Ty.bool a_1_6 c_1_6 x_.there]) h.1 h.2) (none, 0) [0, 0, 0, 0, 0] [0, 1, 2, 3, 4, 5, 6, 7, 8, 9, 10, 11] H163 ⟨rfl, rfl, rfl, rfl, rfl, rfl, rfl, trivial⟩ rfl rfl ?_
    rintro k_ s111 ⟨a108, c109⟩ z166 H165 hag167 hbr168
    refine T.seq (T.region ?_)
    refine L.q 1 rfl ?_
    refine L.nil (E.then (T.seq ?_))
    refine T.bif rfl H165 (fun hc H170 => ?_) (fun hc H170 => ?_)
    · refine T.skip (E.then (T.seq (T.block (T.seq (T.region ?_)))))
      obtain ⟨x193, h194, H195⟩ := bnd H170
      refine L.addr 9 rfl (idx_lt h194) fun b196 o197 e198 => ?_
      obtain rfl : a_1_4 = some ⟨b196, o197, none⟩ := e198
      refine L.y (Yl.ia h194 rfl rfl rfl rfl rfl rfl) rfl rfl rfl ?_
      refine L.el 9 rfl (idx_some h194).2 ?_
      rintro ⟨⟨a199, c200⟩, ⟨a201, c202⟩⟩
      refine L.y (Yl.ldc 0 0 rfl rfl rfl rfl) rfl rfl rfl ?_
      refine L.a [] [] (Ac.alloc rfl rfl) rfl rfl rfl rfl rfl ?_
      intro g206
      refine L.a [0] [] (Ac.stb rfl rfl rfl rfl rfl rfl) rfl rfl rfl rfl rfl ?_
      intro _
      refine L.nil (E.then (T.region ?_))
      refine L.q 2 rfl ?_
      refine L.y (Yl.ldb 0 rfl rfl rfl rfl) rfl rfl rfl ?_
      refine L.a [] [] (Ac.bs (ty := (Ty.int .i64)) (xs := [x193.k]) (.cons () [] rfl .nil) rfl rfl rfl rfl rfl rfl rfl) rfl rfl rfl rfl rfl ?_
      intro g207
      refine L.frz 0 rfl ?_
      obtain ⟨_, h210, H211⟩ := bnd H195
      refine L.a [1] [0] (Ac.ap (ty := (Ty.int .i64)) h210 rfl rfl rfl rfl rfl rfl rfl) rfl rfl rfl rfl rfl ?_
      rintro ⟨a212, c213⟩
      refine L.q 1 rfl ?_
      refine L.nil (E.block (E.then (T.region ?_)))
      refine L.q 2 rfl ?_
      refine L.nil ?_
      have hr := Option.some.inj H211
      subst z166
      exact E.give (_, (a212, c213)) [0, 1, 1, 1, 1] [4, 5, 6, 7, 8, 9, 10, 11, 12, 13, 14, 15] (hag167 _ rfl) ⟨rfl, rfl, rfl, rfl, rfl, rfl, rfl, trivial⟩ rfl rfl
    refine T.exit (E.then_exit' (E.then_exit' (E.block_here ?_)))
    have hr := Option.some.inj H170
    subst z166
    have hb := hbr168 _ rfl
    subst e162
    exact E.give ((), (a108, c109)) [0, 0, 0, 0, 0] [0, 1, 2, 3, 4, 5, 6, 7, 8, 9, 10, 11] trivial ⟨rfl, rfl, rfl, rfl, trivial⟩ rfl rfl
  rintro ⟨_, ⟨a159, c160⟩⟩ _
  refine T.seq (T.seq (T.region ?_))
  refine L.q 1 rfl ?_
  refine L.y (Yl.ldb 1 rfl rfl rfl rfl) rfl rfl rfl ?_
  refine L.q 2 rfl ?_
  refine L.nil (E.then ?_)
  obtain ⟨e410, H411, H412⟩ := bnd H164
  refine T.join (η := Unit × ((Option Addr × Nat))) (fun h => True) (fun h => (fun a407 c408 => [(0, .pointer (some ⟨g_0, 0, none⟩)), (3, .pointer (some ⟨g1, 0, none⟩)), (5, .slice a159 e162.length c160), (6, .slice a407 e410.length c408)]) h.2.1 h.2.2) (fun h => (fun a407 c408 => [Ch.arr (Ty.int .i64) 3 a407 c408 e410, Ch.box g1 54 (bx54 x_ a_1_0 c_1_0 a_1_1 c_1_1 a_1_2 c_1_2 a_1_3 c_1_3 a_1_4 c_1_4 a_1_5 c_1_5 a_1_6 c_1_6), Ch.box g_0 82 (bx82 s_ a_0_0 c_0_0 a_0_1 c_0_1 a_0_2 c_0_2 a_0_3 c_0_3 a_0_4 c_0_4 a_0_5 c_0_5 a_0_6 c_0_6), Ch.arr (Ty.int .i64) 3 a159 c160 e162, Ch.aro tySnapSnap 25 a_0_4 c_0_4 s_.kept, Ch.arr Ty.bool 4 a_0_6 c_0_6 s_.message.there]) h.2.1 h.2.2) (fun h => (fun a407 c408 => [Im.sl tyRowRow a_0_0 c_0_0 s_.current.rows, Im.sl tyRowGlyph a_0_1 c_0_1 s_.current.begun, Im.sl tyRowRow a_0_2 c_0_2 s_.acked.rows, Im.sl tyRowGlyph a_0_3 c_0_3 s_.acked.begun, Im.sl Ty.str a_0_5 c_0_5 s_.message.parts, Im.sl tyRef09Row a_1_0 c_1_0 x_.current.rows, Im.sl tyRef09Glyph a_1_1 c_1_1 x_.current.begun, Im.sl tyRef09Row a_1_2 c_1_2 x_.acked.rows, Im.sl tyRef09Glyph a_1_3 c_1_3 x_.acked.begun, Im.sl tyRef16Snap a_1_4 c_1_4 x_.kept, Im.sl Ty.str a_1_5 c_1_5 x_.parts, Im.sl Ty.bool a_1_6 c_1_6 x_.there]) h.2.1 h.2.2) ?_ ?_
  · refine T.block ?_
    refine T.nil0 (Ty.int .i64) 3 ?_
    refine T.lp (η := (Option Addr × Nat)) (fun s348 h => (fun a345 c346 => [(0, .pointer (some ⟨g_0, 0, none⟩)), (3, .pointer (some ⟨g1, 0, none⟩)), (5, .slice a159 e162.length c160), (6, .slice a345 s348.2.length c346), (28, .slice a_1_6 x_.there.length c_1_6), (29, .int .i64 (x_.there.length : Int)), (30, .int .i64 s348.1)]) h.1 h.2) (fun s348 h => (fun a345 c346 => [Ch.arr (Ty.int .i64) 3 a345 c346 s348.2, Ch.box g1 54 (bx54 x_ a_1_0 c_1_0 a_1_1 c_1_1 a_1_2 c_1_2 a_1_3 c_1_3 a_1_4 c_1_4 a_1_5 c_1_5 a_1_6 c_1_6), Ch.box g_0 82 (bx82 s_ a_0_0 c_0_0 a_0_1 c_0_1 a_0_2 c_0_2 a_0_3 c_0_3 a_0_4 c_0_4 a_0_5 c_0_5 a_0_6 c_0_6), Ch.arr (Ty.int .i64) 3 a159 c160 e162, Ch.aro tySnapSnap 25 a_0_4 c_0_4 s_.kept, Ch.arr Ty.bool 4 a_0_6 c_0_6 s_.message.there]) h.1 h.2) (fun s348 h => (fun a345 c346 => [Im.sl tyRowRow a_0_0 c_0_0 s_.current.rows, Im.sl tyRowGlyph a_0_1 c_0_1 s_.current.begun, Im.sl tyRowRow a_0_2 c_0_2 s_.acked.rows, Im.sl tyRowGlyph a_0_3 c_0_3 s_.acked.begun, Im.sl Ty.str a_0_5 c_0_5 s_.message.parts, Im.sl tyRef09Row a_1_0 c_1_0 x_.current.rows, Im.sl tyRef09Glyph a_1_1 c_1_1 x_.current.begun, Im.sl tyRef09Row a_1_2 c_1_2 x_.acked.rows, Im.sl tyRef09Glyph a_1_3 c_1_3 x_.acked.begun, Im.sl tyRef16Snap a_1_4 c_1_4 x_.kept, Im.sl Ty.str a_1_5 c_1_5 x_.parts, Im.sl Ty.bool a_1_6 c_1_6 x_.there]) h.1 h.2) (none, 0) [0, 1, 1, 0, 0, 0] [0, 1, 2, 3, 4, 5, 6, 7, 8, 9, 10, 11] H411 ⟨rfl, rfl, rfl, rfl, rfl, rfl, rfl, trivial⟩ rfl rfl ?_
    rintro k_ s348 ⟨a345, c346⟩ z414 H413 hag415 hbr416
    refine T.seq (T.region ?_)
    refine L.q 1 rfl ?_
    refine L.nil (E.then (T.seq ?_))
    refine T.bif rfl H413 (fun hc H418 => ?_) (fun hc H418 => ?_)
    · refine T.skip (E.then (T.seq ?_))
      obtain ⟨e455, H456, H457⟩ := bnd H418
      refine T.join (η := Unit × ((Option Addr × Nat))) (fun h => True) (fun h => (fun a452 c453 => [(0, .pointer (some ⟨g_0, 0, none⟩)), (3, .pointer (some ⟨g1, 0, none⟩)), (5, .slice a159 e162.length c160), (6, .slice a452 e455.length c453), (28, .slice a_1_6 x_.there.length c_1_6), (29, .int .i64 (x_.there.length : Int)), (30, .int .i64 s348.1)]) h.2.1 h.2.2) (fun h => (fun a452 c453 => [Ch.arr (Ty.int .i64) 3 a452 c453 e455, Ch.box g1 54 (bx54 x_ a_1_0 c_1_0 a_1_1 c_1_1 a_1_2 c_1_2 a_1_3 c_1_3 a_1_4 c_1_4 a_1_5 c_1_5 a_1_6 c_1_6), Ch.box g_0 82 (bx82 s_ a_0_0 c_0_0 a_0_1 c_0_1 a_0_2 c_0_2 a_0_3 c_0_3 a_0_4 c_0_4 a_0_5 c_0_5 a_0_6 c_0_6), Ch.arr (Ty.int .i64) 3 a159 c160 e162, Ch.aro tySnapSnap 25 a_0_4 c_0_4 s_.kept, Ch.arr Ty.bool 4 a_0_6 c_0_6 s_.message.there]) h.2.1 h.2.2) (fun h => (fun a452 c453 => [Im.sl tyRowRow a_0_0 c_0_0 s_.current.rows, Im.sl tyRowGlyph a_0_1 c_0_1 s_.current.begun, Im.sl tyRowRow a_0_2 c_0_2 s_.acked.rows, Im.sl tyRowGlyph a_0_3 c_0_3 s_.acked.begun, Im.sl Ty.str a_0_5 c_0_5 s_.message.parts, Im.sl tyRef09Row a_1_0 c_1_0 x_.current.rows, Im.sl tyRef09Glyph a_1_1 c_1_1 x_.current.begun, Im.sl tyRef09Row a_1_2 c_1_2 x_.acked.rows, Im.sl tyRef09Glyph a_1_3 c_1_3 x_.acked.begun, Im.sl tyRef16Snap a_1_4 c_1_4 x_.kept, Im.sl Ty.str a_1_5 c_1_5 x_.parts, Im.sl Ty.bool a_1_6 c_1_6 x_.there]) h.2.1 h.2.2) ?_ ?_
      · refine T.block (T.seq (T.region ?_))
        refine L.q 1 rfl ?_
        obtain ⟨x458, h459, H460⟩ := bnd H456
        refine L.addr 11 rfl (idx_lt h459) fun b461 o462 e463 => ?_
        obtain rfl : a_1_6 = some ⟨b461, o462, none⟩ := e463
        refine L.y (Yl.ia h459 rfl rfl rfl rfl rfl rfl) rfl rfl rfl ?_
        refine L.el 11 rfl (idx_some h459).2 ?_
        rintro _
        refine L.y (Yl.ldc 0 0 rfl rfl rfl rfl) rfl rfl rfl ?_
        refine L.q 2 rfl ?_
        refine L.nil (E.then (T.seq (T.region ?_)))
        refine L.q 2 rfl ?_
        refine L.nil (E.then ?_)
        refine T.bif rfl H460 (fun hc H465 => ?_) (fun hc H465 => ?_)
        · refine T.region ?_
          refine L.q 2 rfl ?_
          refine L.a [] [] (Ac.bs (ty := (Ty.int .i64)) (xs := [s348.1]) (.cons () [] rfl .nil) rfl rfl rfl rfl rfl rfl rfl) rfl rfl rfl rfl rfl ?_
          intro g466
          refine L.frz 0 rfl ?_
          obtain ⟨_, h469, H470⟩ := bnd H465
          refine L.a [0] [0] (Ac.ap (ty := (Ty.int .i64)) h469 rfl rfl rfl rfl rfl rfl rfl) rfl rfl rfl rfl rfl ?_
          rintro ⟨a471, c472⟩
          refine L.q 1 rfl ?_
          refine L.nil (E.block ?_)
          have hr := Option.some.inj H470
          subst e455
          exact E.give ((), (a471, c472)) [0, 0, 0, 0, 0, 0] [2, 3, 4, 5, 6, 7, 8, 9, 10, 11, 12, 13] trivial ⟨rfl, rfl, rfl, rfl, rfl, rfl, rfl, trivial⟩ rfl rfl
        refine T.skip (E.block ?_)
        have hr := Option.some.inj H465
        subst e455
        exact E.give ((), (a345, c346)) [0, 0, 0, 0, 0, 0] [1, 2, 3, 4, 5, 6, 7, 8, 9, 10, 11, 12] trivial ⟨rfl, rfl, rfl, rfl, rfl, rfl, rfl, trivial⟩ rfl rfl
      rintro ⟨_, ⟨a452, c453⟩⟩ _
      refine T.region ?_
      refine L.q 2 rfl ?_
      refine L.nil ?_
      have hr := Option.some.inj H457
      subst z414
      exact E.give (_, (a452, c453)) [0, 0, 0, 0, 0, 0] [0, 1, 2, 3, 4, 5, 6, 7, 8, 9, 10, 11] (hag415 _ rfl) ⟨rfl, rfl, rfl, rfl, rfl, rfl, rfl, trivial⟩ rfl rfl
    refine T.exit (E.then_exit' (E.then_exit' (E.block_here ?_)))
    have hr := Option.some.inj H418
    subst z414
    have hb := hbr416 _ rfl
    subst e410
    exact E.give ((), (a345, c346)) [0, 0, 0, 0, 0, 0] [0, 1, 2, 3, 4, 5, 6, 7, 8, 9, 10, 11] trivial ⟨rfl, rfl, rfl, rfl, trivial⟩ rfl rfl
  rintro ⟨_, ⟨a407, c408⟩⟩ _
  refine T.seq (T.region ?_)
  refine L.q 1 rfl ?_
  obtain ⟨r474, h475, H476⟩ := bnd H412
  refine L.a [2, 3, 3] [0, 1, 2, 3, 4] (Ac.call (c_sender_Sender_Message g_0 a_0_0 c_0_0 a_0_1 c_0_1 a_0_2 c_0_2 a_0_3 c_0_3 a_0_4 c_0_4 a_0_5 c_0_5 a_0_6 c_0_6 h475) rfl rfl rfl rfl) rfl rfl rfl rfl rfl ?_
  rintro ⟨⟩
  refine L.q 7 rfl ?_
  refine L.nil (E.then (T.seq ?_))
  obtain ⟨e598, H599, H600⟩ := bnd H476
  refine T.join (η := Unit × Unit) (fun h => True) (fun h => [(4, .bool e598)]) (fun h => [Ch.box g_0 82 (bx82 s_ a_0_0 c_0_0 a_0_1 c_0_1 a_0_2 c_0_2 a_0_3 c_0_3 a_0_4 c_0_4 a_0_5 c_0_5 a_0_6 c_0_6), Ch.box g1 54 (bx54 x_ a_1_0 c_1_0 a_1_1 c_1_1 a_1_2 c_1_2 a_1_3 c_1_3 a_1_4 c_1_4 a_1_5 c_1_5 a_1_6 c_1_6), Ch.aro tySnapSnap 25 a_0_4 c_0_4 s_.kept, Ch.arr Ty.bool 4 a_0_6 c_0_6 s_.message.there]) (fun h => [Im.sl tyRowRow a_0_0 c_0_0 s_.current.rows, Im.sl tyRowGlyph a_0_1 c_0_1 s_.current.begun, Im.sl tyRowRow a_0_2 c_0_2 s_.acked.rows, Im.sl tyRowGlyph a_0_3 c_0_3 s_.acked.begun, Im.sl Ty.str a_0_5 c_0_5 s_.message.parts, Im.sl tyRef09Row a_1_0 c_1_0 x_.current.rows, Im.sl tyRef09Glyph a_1_1 c_1_1 x_.current.begun, Im.sl tyRef09Row a_1_2 c_1_2 x_.acked.rows, Im.sl tyRef09Glyph a_1_3 c_1_3 x_.acked.begun, Im.sl tyRef16Snap a_1_4 c_1_4 x_.kept, Im.sl Ty.str a_1_5 c_1_5 x_.parts, Im.sl Ty.bool a_1_6 c_1_6 x_.there]) ?_ ?_
  · refine T.draw [] [3, 3, 3] mo (by rfl) rfl ?_
    refine D.q 0 rfl rfl rfl rfl rfl rfl ?_
    refine D.q 2 rfl rfl rfl rfl rfl rfl ?_
    refine D.q 3 rfl rfl rfl rfl rfl rfl ?_
    refine D.y 4 (Yl.ldb 1 rfl rfl rfl rfl) rfl rfl rfl rfl rfl rfl ?_
    obtain ⟨r631, h632, H633⟩ := bnd H599
    refine D.one rfl rfl rfl (Dp.a [0, 0, 0] [0, 1, 2, 3, 4] (Ac.call (c_sender_Sender_Current g_0 a_0_0 c_0_0 a_0_1 c_0_1 a_0_2 c_0_2 a_0_3 c_0_3 a_0_4 c_0_4 a_0_5 c_0_5 a_0_6 c_0_6 h632) rfl rfl rfl rfl) rfl rfl rfl rfl rfl rfl ?_)
    rintro ⟨⟩
    refine D.q 5 rfl rfl rfl rfl rfl rfl ?_
    refine D.q 6 rfl rfl rfl rfl rfl rfl ?_
    refine D.cs 54 H633 rfl (fun hc H634 => ?_) (fun hc H634 => ?_)
    · refine D.q 7 rfl rfl rfl rfl rfl rfl ?_
      refine D.q 9 rfl rfl rfl rfl rfl rfl ?_
      refine D.q 10 rfl rfl rfl rfl rfl rfl ?_
      refine D.y 11 (Yl.ldb 1 rfl rfl rfl rfl) rfl rfl rfl rfl rfl rfl ?_
      obtain ⟨r635, h636, H637⟩ := bnd H634
      refine D.one rfl rfl rfl (Dp.a [0, 0, 0] [0, 1, 2, 3, 4] (Ac.call (c_sender_Sender_Acked g_0 a_0_0 c_0_0 a_0_1 c_0_1 a_0_2 c_0_2 a_0_3 c_0_3 a_0_4 c_0_4 a_0_5 c_0_5 a_0_6 c_0_6 h636) rfl rfl rfl rfl) rfl rfl rfl rfl rfl rfl ?_)
      rintro ⟨⟩
      refine D.q 12 rfl rfl rfl rfl rfl rfl ?_
      refine D.q 13 rfl rfl rfl rfl rfl rfl ?_
      refine D.q 14 rfl rfl rfl rfl rfl rfl ?_
      refine D.cs 62 H637 rfl (fun hc H638 => ?_) (fun hc H638 => ?_)
      · refine D.q 15 rfl rfl rfl rfl rfl rfl ?_
        refine D.q 17 rfl rfl rfl rfl rfl rfl ?_
        obtain ⟨r639, h640, H641⟩ := bnd H638
        refine D.one rfl rfl rfl (Dp.a [0, 0, 0] [0, 1, 2, 3, 4] (Ac.call (c_sender_Sender_Kept g_0 a_0_0 c_0_0 a_0_1 c_0_1 a_0_2 c_0_2 a_0_3 c_0_3 a_0_4 c_0_4 a_0_5 c_0_5 a_0_6 c_0_6 h640) rfl rfl rfl rfl) rfl rfl rfl rfl rfl rfl ?_)
        rintro ⟨a642, c643⟩
        obtain ⟨r645, h646, H647⟩ := bnd H641
        refine D.one rfl rfl rfl (Dp.br (Ac.call (c_law01_Same a642 c643 a159 c160 h646) rfl rfl rfl rfl) (Bw.ch 3 rfl (Bw.ch 2 rfl (Bw.nil))) rfl rfl rfl rfl ?_)
        intro _
        refine D.q 19 rfl rfl rfl rfl rfl rfl ?_
        refine D.q 20 rfl rfl rfl rfl rfl rfl ?_
        refine D.cs 68 H647 rfl (fun hc H648 => ?_) (fun hc H648 => ?_)
        · refine D.q 21 rfl rfl rfl rfl rfl rfl ?_
          refine D.q 22 rfl rfl rfl rfl rfl rfl ?_
          refine D.y 23 (Yl.ldb 1 rfl rfl rfl rfl) rfl rfl rfl rfl rfl rfl ?_
          refine D.q 24 rfl rfl rfl rfl rfl rfl ?_
          refine D.q 25 rfl rfl rfl rfl rfl rfl ?_
          refine D.q 26 rfl rfl rfl rfl rfl rfl ?_
          refine D.cs 74 H648 rfl (fun hc H649 => ?_) (fun hc H649 => ?_)
          · refine D.q 27 rfl rfl rfl rfl rfl rfl ?_
            refine D.q 28 rfl rfl rfl rfl rfl rfl ?_
            refine D.y 29 (Yl.ldb 1 rfl rfl rfl rfl) rfl rfl rfl rfl rfl rfl ?_
            refine D.q 30 rfl rfl rfl rfl rfl rfl ?_
            refine D.q 31 rfl rfl rfl rfl rfl rfl ?_
            refine D.q 32 rfl rfl rfl rfl rfl rfl ?_
            refine D.cs 80 H649 rfl (fun hc H650 => ?_) (fun hc H650 => ?_)
            · refine D.q 33 rfl rfl rfl rfl rfl rfl ?_
              refine D.q 34 rfl rfl rfl rfl rfl rfl ?_
              refine D.y 35 (Yl.ldb 1 rfl rfl rfl rfl) rfl rfl rfl rfl rfl rfl ?_
              refine D.q 36 rfl rfl rfl rfl rfl rfl ?_
              refine D.q 37 rfl rfl rfl rfl rfl rfl ?_
              refine D.q 38 rfl rfl rfl rfl rfl rfl ?_
              refine D.cs 86 H650 rfl (fun hc H651 => ?_) (fun hc H651 => ?_)
              · refine D.q 39 rfl rfl rfl rfl rfl rfl ?_
                refine D.q 41 rfl rfl rfl rfl rfl rfl ?_
                obtain ⟨r652, h653, H654⟩ := bnd H651
                refine D.one rfl rfl rfl (Dp.a [1, 1, 1] [0, 1, 2, 3, 4] (Ac.call (c_sender_Sender_Lacks g_0 a_0_0 c_0_0 a_0_1 c_0_1 a_0_2 c_0_2 a_0_3 c_0_3 a_0_4 c_0_4 a_0_5 c_0_5 a_0_6 c_0_6 h653) rfl rfl rfl rfl) rfl rfl rfl rfl rfl rfl ?_)
                rintro ⟨a655, c656⟩
                obtain ⟨r658, h659, H660⟩ := bnd H654
                refine D.one rfl rfl rfl (Dp.br (Ac.call (c_law01_Same a655 c656 a407 c408 h659) rfl rfl rfl rfl) (Bw.ch 3 rfl (Bw.ch 0 rfl (Bw.nil))) rfl rfl rfl rfl ?_)
                intro _
                refine D.q 43 rfl rfl rfl rfl rfl rfl ?_
                refine D.q 44 rfl rfl rfl rfl rfl rfl ?_
                refine D.nil rfl rfl ?_
                have hr := Option.some.inj H660
                subst e598
                exact E.give ((), ()) [4, 1, 3, 3] [0, 1, 2, 3, 4, 5, 6, 7, 8, 9, 10, 11] trivial ⟨rfl, trivial⟩ rfl rfl
              refine D.sk 39 rfl rfl rfl rfl rfl ?_
              refine D.sk 40 rfl rfl rfl rfl rfl ?_
              refine D.sk 41 rfl rfl rfl rfl rfl ?_
              refine D.sk 42 rfl rfl rfl rfl rfl ?_
              refine D.q 43 rfl rfl rfl rfl rfl rfl ?_
              refine D.q 44 rfl rfl rfl rfl rfl rfl ?_
              refine D.nil rfl rfl ?_
              have hr := Option.some.inj H651
              subst e598
              exact E.give ((), ()) [4, 1, 3, 3] [0, 1, 2, 3, 4, 5, 6, 7, 8, 9, 10, 11] trivial ⟨rfl, trivial⟩ rfl rfl
            refine D.sk 33 rfl rfl rfl rfl rfl ?_
            refine D.sk 34 rfl rfl rfl rfl rfl ?_
            refine D.sk 35 rfl rfl rfl rfl rfl ?_
            refine D.sk 36 rfl rfl rfl rfl rfl ?_
            refine D.q 37 rfl rfl rfl rfl rfl rfl ?_
            refine D.q 38 rfl rfl rfl rfl rfl rfl ?_
            refine D.sk 39 rfl rfl rfl rfl rfl ?_
            refine D.sk 40 rfl rfl rfl rfl rfl ?_
            refine D.sk 41 rfl rfl rfl rfl rfl ?_
            refine D.sk 42 rfl rfl rfl rfl rfl ?_
            refine D.q 43 rfl rfl rfl rfl rfl rfl ?_
            refine D.q 44 rfl rfl rfl rfl rfl rfl ?_
            refine D.nil rfl rfl ?_
            have hr := Option.some.inj H650
            subst e598
            exact E.give ((), ()) [4, 1, 3, 3] [0, 1, 2, 3, 4, 5, 6, 7, 8, 9, 10, 11] trivial ⟨rfl, trivial⟩ rfl rfl
          refine D.sk 27 rfl rfl rfl rfl rfl ?_
          refine D.sk 28 rfl rfl rfl rfl rfl ?_
          refine D.sk 29 rfl rfl rfl rfl rfl ?_
          refine D.sk 30 rfl rfl rfl rfl rfl ?_
          refine D.q 31 rfl rfl rfl rfl rfl rfl ?_
          refine D.q 32 rfl rfl rfl rfl rfl rfl ?_
          refine D.sk 33 rfl rfl rfl rfl rfl ?_
          refine D.sk 34 rfl rfl rfl rfl rfl ?_
          refine D.sk 35 rfl rfl rfl rfl rfl ?_
          refine D.sk 36 rfl rfl rfl rfl rfl ?_
          refine D.q 37 rfl rfl rfl rfl rfl rfl ?_
          refine D.q 38 rfl rfl rfl rfl rfl rfl ?_
          refine D.sk 39 rfl rfl rfl rfl rfl ?_
          refine D.sk 40 rfl rfl rfl rfl rfl ?_
          refine D.sk 41 rfl rfl rfl rfl rfl ?_
          refine D.sk 42 rfl rfl rfl rfl rfl ?_
          refine D.q 43 rfl rfl rfl rfl rfl rfl ?_
          refine D.q 44 rfl rfl rfl rfl rfl rfl ?_
          refine D.nil rfl rfl ?_
          have hr := Option.some.inj H649
          subst e598
          exact E.give ((), ()) [4, 1, 3, 3] [0, 1, 2, 3, 4, 5, 6, 7, 8, 9, 10, 11] trivial ⟨rfl, trivial⟩ rfl rfl
        refine D.sk 21 rfl rfl rfl rfl rfl ?_
        refine D.sk 22 rfl rfl rfl rfl rfl ?_
        refine D.sk 23 rfl rfl rfl rfl rfl ?_
        refine D.sk 24 rfl rfl rfl rfl rfl ?_
        refine D.q 25 rfl rfl rfl rfl rfl rfl ?_
        refine D.q 26 rfl rfl rfl rfl rfl rfl ?_
        refine D.sk 27 rfl rfl rfl rfl rfl ?_
        refine D.sk 28 rfl rfl rfl rfl rfl ?_
        refine D.sk 29 rfl rfl rfl rfl rfl ?_
        refine D.sk 30 rfl rfl rfl rfl rfl ?_
        refine D.q 31 rfl rfl rfl rfl rfl rfl ?_
        refine D.q 32 rfl rfl rfl rfl rfl rfl ?_
        refine D.sk 33 rfl rfl rfl rfl rfl ?_
        refine D.sk 34 rfl rfl rfl rfl rfl ?_
        refine D.sk 35 rfl rfl rfl rfl rfl ?_
        refine D.sk 36 rfl rfl rfl rfl rfl ?_
        refine D.q 37 rfl rfl rfl rfl rfl rfl ?_
        refine D.q 38 rfl rfl rfl rfl rfl rfl ?_
        refine D.sk 39 rfl rfl rfl rfl rfl ?_
        refine D.sk 40 rfl rfl rfl rfl rfl ?_
        refine D.sk 41 rfl rfl rfl rfl rfl ?_
        refine D.sk 42 rfl rfl rfl rfl rfl ?_
        refine D.q 43 rfl rfl rfl rfl rfl rfl ?_
        refine D.q 44 rfl rfl rfl rfl rfl rfl ?_
        refine D.nil rfl rfl ?_
        have hr := Option.some.inj H648
        subst e598
        exact E.give ((), ()) [4, 1, 3, 3] [0, 1, 2, 3, 4, 5, 6, 7, 8, 9, 10, 11] trivial ⟨rfl, trivial⟩ rfl rfl
      refine D.sk 15 rfl rfl rfl rfl rfl ?_
      refine D.sk 16 rfl rfl rfl rfl rfl ?_
      refine D.sk 17 rfl rfl rfl rfl rfl ?_
      refine D.sk 18 rfl rfl rfl rfl rfl ?_
      refine D.q 19 rfl rfl rfl rfl rfl rfl ?_
      refine D.q 20 rfl rfl rfl rfl rfl rfl ?_
      refine D.sk 21 rfl rfl rfl rfl rfl ?_
      refine D.sk 22 rfl rfl rfl rfl rfl ?_
      refine D.sk 23 rfl rfl rfl rfl rfl ?_
      refine D.sk 24 rfl rfl rfl rfl rfl ?_
      refine D.q 25 rfl rfl rfl rfl rfl rfl ?_
      refine D.q 26 rfl rfl rfl rfl rfl rfl ?_
      refine D.sk 27 rfl rfl rfl rfl rfl ?_
      refine D.sk 28 rfl rfl rfl rfl rfl ?_
      refine D.sk 29 rfl rfl rfl rfl rfl ?_
      refine D.sk 30 rfl rfl rfl rfl rfl ?_
      refine D.q 31 rfl rfl rfl rfl rfl rfl ?_
      refine D.q 32 rfl rfl rfl rfl rfl rfl ?_
      refine D.sk 33 rfl rfl rfl rfl rfl ?_
      refine D.sk 34 rfl rfl rfl rfl rfl ?_
      refine D.sk 35 rfl rfl rfl rfl rfl ?_
      refine D.sk 36 rfl rfl rfl rfl rfl ?_
      refine D.q 37 rfl rfl rfl rfl rfl rfl ?_
      refine D.q 38 rfl rfl rfl rfl rfl rfl ?_
      refine D.sk 39 rfl rfl rfl rfl rfl ?_
      refine D.sk 40 rfl rfl rfl rfl rfl ?_
      refine D.sk 41 rfl rfl rfl rfl rfl ?_
      refine D.sk 42 rfl rfl rfl rfl rfl ?_
      refine D.q 43 rfl rfl rfl rfl rfl rfl ?_
      refine D.q 44 rfl rfl rfl rfl rfl rfl ?_
      refine D.nil rfl rfl ?_
      have hr := Option.some.inj H638
      subst e598
      exact E.give ((), ()) [3, 1, 2, 2] [0, 1, 2, 3, 4, 5, 6, 7, 8, 9, 10, 11] trivial ⟨rfl, trivial⟩ rfl rfl
    refine D.sk 7 rfl rfl rfl rfl rfl ?_
    refine D.sk 8 rfl rfl rfl rfl rfl ?_
    refine D.sk 9 rfl rfl rfl rfl rfl ?_
    refine D.sk 10 rfl rfl rfl rfl rfl ?_
    refine D.sk 11 rfl rfl rfl rfl rfl ?_
    refine D.sk 12 rfl rfl rfl rfl rfl ?_
    refine D.q 13 rfl rfl rfl rfl rfl rfl ?_
    refine D.q 14 rfl rfl rfl rfl rfl rfl ?_
    refine D.sk 15 rfl rfl rfl rfl rfl ?_
    refine D.sk 16 rfl rfl rfl rfl rfl ?_
    refine D.sk 17 rfl rfl rfl rfl rfl ?_
    refine D.sk 18 rfl rfl rfl rfl rfl ?_
    refine D.q 19 rfl rfl rfl rfl rfl rfl ?_
    refine D.q 20 rfl rfl rfl rfl rfl rfl ?_
    refine D.sk 21 rfl rfl rfl rfl rfl ?_
    refine D.sk 22 rfl rfl rfl rfl rfl ?_
    refine D.sk 23 rfl rfl rfl rfl rfl ?_
    refine D.sk 24 rfl rfl rfl rfl rfl ?_
    refine D.q 25 rfl rfl rfl rfl rfl rfl ?_
    refine D.q 26 rfl rfl rfl rfl rfl rfl ?_
    refine D.sk 27 rfl rfl rfl rfl rfl ?_
    refine D.sk 28 rfl rfl rfl rfl rfl ?_
    refine D.sk 29 rfl rfl rfl rfl rfl ?_
    refine D.sk 30 rfl rfl rfl rfl rfl ?_
    refine D.q 31 rfl rfl rfl rfl rfl rfl ?_
    refine D.q 32 rfl rfl rfl rfl rfl rfl ?_
    refine D.sk 33 rfl rfl rfl rfl rfl ?_
    refine D.sk 34 rfl rfl rfl rfl rfl ?_
    refine D.sk 35 rfl rfl rfl rfl rfl ?_
    refine D.sk 36 rfl rfl rfl rfl rfl ?_
    refine D.q 37 rfl rfl rfl rfl rfl rfl ?_
    refine D.q 38 rfl rfl rfl rfl rfl rfl ?_
    refine D.sk 39 rfl rfl rfl rfl rfl ?_
    refine D.sk 40 rfl rfl rfl rfl rfl ?_
    refine D.sk 41 rfl rfl rfl rfl rfl ?_
    refine D.sk 42 rfl rfl rfl rfl rfl ?_
    refine D.q 43 rfl rfl rfl rfl rfl rfl ?_
    refine D.q 44 rfl rfl rfl rfl rfl rfl ?_
    refine D.nil rfl rfl ?_
    have hr := Option.some.inj H634
    subst e598
    exact E.give ((), ()) [3, 1, 2, 2] [0, 1, 2, 3, 4, 5, 6, 7, 8, 9, 10, 11] trivial ⟨rfl, trivial⟩ rfl rfl
  rintro ⟨_, ⟨⟩⟩ _
  refine T.ret ?_
  have hr := Option.some.inj H600
  subst r
  exact E.ret () [0, 1, 1] [] (.tmp rfl .nil) rfl rfl rfl

theorem c_law19_SenderPlays {c : Ref19Config} {acts : List Law19Act} (a_1 : Option Addr) (c_1 : Nat) {r : Bool} (H : p_law19_SenderPlays c acts = some r) : CT G 4 [.agg #[.int .i64 c.part, .int .i64 c.every, .int .i64 c.most], .slice a_1 acts.length c_1] [] [Im.sl tyLaw19Act a_1 c_1 acts, Im.sl (Ty.int .u32) (some ⟨0, 0, none⟩) 16 t_sum_half] (fun h : Unit => .bool r) (fun h => []) (fun h => []) := by
  delta p_law19_SenderPlays at H
  refine CT.of Go.Proofs.Tryd.func4 (by kernel_rfl) rfl rfl rfl fun K => ?_
  refine T.seq (T.region ?_)
  refine L.a [] [] (Ac.box rfl rfl) rfl rfl rfl rfl rfl ?_
  intro g1
  refine L.q 1 rfl ?_
  refine L.nil (E.then (T.seq (T.seq (T.region ?_))))
  obtain ⟨r2, h3, H4⟩ := bnd H
  refine L.a [] [1] (Ac.call (c_law19_awake h3) rfl rfl rfl rfl) rfl rfl rfl rfl rfl ?_
  rintro ⟨⟩
  refine L.q 1 rfl ?_
  refine L.nil (E.then ?_)
  refine T.bif rfl H4 (fun hc H6 => ?_) (fun hc H6 => ?_)
  · refine T.seq (T.region ?_)
    refine L.q 1 rfl ?_
    refine L.nil (E.then (T.ret (E.then_ret ?_)))
    have hr := Option.some.inj H6
    subst r
    exact E.ret () [] [] (.tmp rfl .nil) rfl rfl rfl
  refine T.skip (E.then (T.seq ?_))
  refine T.draw [6] [0] mo (by rfl) rfl ?_
  refine D.y 0 (Yl.ldb 0 rfl rfl rfl rfl) rfl rfl rfl rfl rfl rfl ?_
  refine D.y 2 (Yl.ldb 0 rfl rfl rfl rfl) rfl rfl rfl rfl rfl rfl ?_
  refine DF.of rfl ?_
  refine DF.add _ (FSp.ac 4 [] (Ac.alloc rfl rfl) rfl rfl rfl rfl rfl) rfl ?_
  refine DF.step 1 rfl rfl rfl rfl rfl ?_
  obtain ⟨r158, h159, H160⟩ := bnd H6
  refine DFp.a [] [] (Ac.call (c_sender_New h159) rfl rfl rfl rfl) rfl rfl rfl rfl rfl rfl rfl rfl ?_
  rintro ⟨g161, ⟨a162, c163⟩, ⟨a164, c165⟩, ⟨a166, c167⟩, ⟨a168, c169⟩, ⟨a170, c171⟩, ⟨a172, c173⟩, ⟨a174, c175⟩⟩
  obtain ⟨r183, h184, H185⟩ := bnd H160
  refine DF.add _ (FSp.ac 3 [] (Ac.call (c_ref19_New h184) rfl rfl rfl rfl) rfl rfl rfl rfl rfl) rfl ?_
  refine DF.step 5 rfl rfl rfl rfl rfl ?_
  refine DFp.use 0 rfl rfl rfl ?_
  rintro ⟨⟨a186, c187⟩, ⟨a188, c189⟩, ⟨a190, c191⟩, ⟨a192, c193⟩, ⟨a194, c195⟩, ⟨a196, c197⟩, ⟨a198, c199⟩⟩
  refine DFp.use 0 rfl rfl rfl ?_
  intro g157
  refine DFp.a [] [] (Ac.q rfl) rfl rfl rfl rfl rfl rfl rfl rfl ?_
  intro _
  refine DF.step 6 rfl rfl rfl rfl rfl ?_
  refine DFp.al [1] [] (Ac.stb rfl rfl rfl rfl rfl rfl) rfl rfl rfl rfl rfl rfl rfl ?_
  intro _
  refine DF.fin rfl rfl rfl rfl rfl ?_
  refine DFe.nil ?_
  refine E.then (T.seq (T.seq ?_))
  refine T.draw [] [0, 0, 0, 0, 0] mo (by rfl) rfl ?_
  refine D.q 0 rfl rfl rfl rfl rfl rfl ?_
  refine D.y 1 (Yl.pn rfl rfl rfl rfl rfl rfl) rfl rfl rfl rfl rfl rfl ?_
  refine D.q 2 rfl rfl rfl rfl rfl rfl ?_
  refine D.y 3 (Yl.ldb 1 rfl rfl rfl rfl) rfl rfl rfl rfl rfl rfl ?_
  refine D.y 5 (Yl.ldb 1 rfl rfl rfl rfl) rfl rfl rfl rfl rfl rfl ?_
  obtain ⟨r225, h226, H227⟩ := bnd H185
  refine D.one rfl rfl rfl (Dp.a [] [] (Ac.call (c_sender_Config_Clip h226) rfl rfl rfl rfl) rfl rfl rfl rfl rfl rfl ?_)
  rintro ⟨⟩
  obtain ⟨r228, h229, H230⟩ := bnd H227
  refine D.one rfl rfl rfl (Dp.a [] [] (Ac.call (c_ref19_Clip h229) rfl rfl rfl rfl) rfl rfl rfl rfl rfl rfl ?_)
  rintro ⟨⟩
  refine D.q 7 rfl rfl rfl rfl rfl rfl ?_
  refine D.q 8 rfl rfl rfl rfl rfl rfl ?_
  refine D.nil rfl rfl ?_
  refine E.then ?_
  refine T.bif rfl H230 (fun hc H232 => ?_) (fun hc H232 => ?_)
  · refine T.seq (T.region ?_)
    refine L.q 1 rfl ?_
    refine L.nil (E.then (T.ret (E.then_ret ?_)))
    have hr := Option.some.inj H232
    subst r
    exact E.ret () [] [] (.tmp rfl .nil) rfl rfl rfl
  refine T.skip (E.then (T.seq (T.region ?_)))
  refine L.q 2 rfl ?_
  refine L.nil (E.then (T.seq (T.seq (T.region ?_))))
  refine L.q 1 rfl ?_
  refine L.nil (E.then ?_)
  obtain ⟨y1962, H1963, H1964⟩ := bnd H232
  refine T.join (η := (Ref19Sender × SenderSender) × ((Option Addr × Nat) × (Option Addr × Nat) × (Option Addr × Nat) × (Option Addr × Nat) × (Option Addr × Nat) × (Option Addr × Nat) × (Option Addr × Nat) × (Option Addr × Nat) × (Option Addr × Nat) × (Option Addr × Nat) × (Option Addr × Nat) × (Option Addr × Nat) × (Option Addr × Nat) × (Option Addr × Nat))) (fun h => y1962 = .inl h.1) (fun h => (fun e1961 => (fun a1918 c1919 a1921 c1922 a1924 c1925 a1927 c1928 a1930 c1931 a1933 c1934 a1936 c1937 a1940 c1941 a1943 c1944 a1946 c1947 a1949 c1950 a1952 c1953 a1955 c1956 a1958 c1959 => []) h.2.1.1 h.2.1.2 h.2.2.1.1 h.2.2.1.2 h.2.2.2.1.1 h.2.2.2.1.2 h.2.2.2.2.1.1 h.2.2.2.2.1.2 h.2.2.2.2.2.1.1 h.2.2.2.2.2.1.2 h.2.2.2.2.2.2.1.1 h.2.2.2.2.2.2.1.2 h.2.2.2.2.2.2.2.1.1 h.2.2.2.2.2.2.2.1.2 h.2.2.2.2.2.2.2.2.1.1 h.2.2.2.2.2.2.2.2.1.2 h.2.2.2.2.2.2.2.2.2.1.1 h.2.2.2.2.2.2.2.2.2.1.2 h.2.2.2.2.2.2.2.2.2.2.1.1 h.2.2.2.2.2.2.2.2.2.2.1.2 h.2.2.2.2.2.2.2.2.2.2.2.1.1 h.2.2.2.2.2.2.2.2.2.2.2.1.2 h.2.2.2.2.2.2.2.2.2.2.2.2.1.1 h.2.2.2.2.2.2.2.2.2.2.2.2.1.2 h.2.2.2.2.2.2.2.2.2.2.2.2.2.1.1 h.2.2.2.2.2.2.2.2.2.2.2.2.2.1.2 h.2.2.2.2.2.2.2.2.2.2.2.2.2.2.1 h.2.2.2.2.2.2.2.2.2.2.2.2.2.2.2) h.1) (fun h => (fun e1961 => (fun a1918 c1919 a1921 c1922 a1924 c1925 a1927 c1928 a1930 c1931 a1933 c1934 a1936 c1937 a1940 c1941 a1943 c1944 a1946 c1947 a1949 c1950 a1952 c1953 a1955 c1956 a1958 c1959 => [Ch.aro tySnapSnap 25 a1952 c1953 e1961.2.kept, Ch.arr Ty.bool 4 a1958 c1959 e1961.2.message.there, Ch.box g157 54 (bx54 e1961.1 a1918 c1919 a1921 c1922 a1924 c1925 a1927 c1928 a1930 c1931 a1933 c1934 a1936 c1937), Ch.box g1 44 [.int .i64 c.part, .int .i64 c.every, .int .i64 c.most], Ch.box g161 82 (bx82 e1961.2 a1940 c1941 a1943 c1944 a1946 c1947 a1949 c1950 a1952 c1953 a1955 c1956 a1958 c1959)]) h.2.1.1 h.2.1.2 h.2.2.1.1 h.2.2.1.2 h.2.2.2.1.1 h.2.2.2.1.2 h.2.2.2.2.1.1 h.2.2.2.2.1.2 h.2.2.2.2.2.1.1 h.2.2.2.2.2.1.2 h.2.2.2.2.2.2.1.1 h.2.2.2.2.2.2.1.2 h.2.2.2.2.2.2.2.1.1 h.2.2.2.2.2.2.2.1.2 h.2.2.2.2.2.2.2.2.1.1 h.2.2.2.2.2.2.2.2.1.2 h.2.2.2.2.2.2.2.2.2.1.1 h.2.2.2.2.2.2.2.2.2.1.2 h.2.2.2.2.2.2.2.2.2.2.1.1 h.2.2.2.2.2.2.2.2.2.2.1.2 h.2.2.2.2.2.2.2.2.2.2.2.1.1 h.2.2.2.2.2.2.2.2.2.2.2.1.2 h.2.2.2.2.2.2.2.2.2.2.2.2.1.1 h.2.2.2.2.2.2.2.2.2.2.2.2.1.2 h.2.2.2.2.2.2.2.2.2.2.2.2.2.1.1 h.2.2.2.2.2.2.2.2.2.2.2.2.2.1.2 h.2.2.2.2.2.2.2.2.2.2.2.2.2.2.1 h.2.2.2.2.2.2.2.2.2.2.2.2.2.2.2) h.1) (fun h => (fun e1961 => (fun a1918 c1919 a1921 c1922 a1924 c1925 a1927 c1928 a1930 c1931 a1933 c1934 a1936 c1937 a1940 c1941 a1943 c1944 a1946 c1947 a1949 c1950 a1952 c1953 a1955 c1956 a1958 c1959 => [Im.sl tyRef09Row a1918 c1919 e1961.1.current.rows, Im.sl tyRef09Glyph a1921 c1922 e1961.1.current.begun, Im.sl tyRef09Row a1924 c1925 e1961.1.acked.rows, Im.sl tyRef09Glyph a1927 c1928 e1961.1.acked.begun, Im.sl tyRef16Snap a1930 c1931 e1961.1.kept, Im.sl Ty.str a1933 c1934 e1961.1.parts, Im.sl Ty.bool a1936 c1937 e1961.1.there, Im.sl tyRowRow a1940 c1941 e1961.2.current.rows, Im.sl tyRowGlyph a1943 c1944 e1961.2.current.begun, Im.sl tyRowRow a1946 c1947 e1961.2.acked.rows, Im.sl tyRowGlyph a1949 c1950 e1961.2.acked.begun, Im.sl Ty.str a1955 c1956 e1961.2.message.parts, Im.sl tyRef09Row a186 c187 r183.current.rows, Im.sl tyRef09Glyph a188 c189 r183.current.begun, Im.sl tyRef09Row a190 c191 r183.acked.rows, Im.sl tyRef09Glyph a192 c193 r183.acked.begun, Im.sl tyRef16Snap a194 c195 r183.kept, Im.sl Ty.str a196 c197 r183.parts, Im.sl Ty.bool a198 c199 r183.there, Im.sl tyRowRow a162 c163 r158.current.rows, Im.sl tyRowGlyph a164 c165 r158.current.begun, Im.sl tyRowRow a166 c167 r158.acked.rows, Im.sl tyRowGlyph a168 c169 r158.acked.begun, Im.sl Ty.str a172 c173 r158.message.parts, Im.sl tyLaw19Act a_1 c_1 acts, Im.sl (Ty.int .u32) (some ⟨0, 0, none⟩) 16 t_sum_half]) h.2.1.1 h.2.1.2 h.2.2.1.1 h.2.2.1.2 h.2.2.2.1.1 h.2.2.2.1.2 h.2.2.2.2.1.1 h.2.2.2.2.1.2 h.2.2.2.2.2.1.1 h.2.2.2.2.2.1.2 h.2.2.2.2.2.2.1.1 h.2.2.2.2.2.2.1.2 h.2.2.2.2.2.2.2.1.1 h.2.2.2.2.2.2.2.1.2 h.2.2.2.2.2.2.2.2.1.1 h.2.2.2.2.2.2.2.2.1.2 h.2.2.2.2.2.2.2.2.2.1.1 h.2.2.2.2.2.2.2.2.2.1.2 h.2.2.2.2.2.2.2.2.2.2.1.1 h.2.2.2.2.2.2.2.2.2.2.1.2 h.2.2.2.2.2.2.2.2.2.2.2.1.1 h.2.2.2.2.2.2.2.2.2.2.2.1.2 h.2.2.2.2.2.2.2.2.2.2.2.2.1.1 h.2.2.2.2.2.2.2.2.2.2.2.2.1.2 h.2.2.2.2.2.2.2.2.2.2.2.2.2.1.1 h.2.2.2.2.2.2.2.2.2.2.2.2.2.1.2 h.2.2.2.2.2.2.2.2.2.2.2.2.2.2.1 h.2.2.2.2.2.2.2.2.2.2.2.2.2.2.2) h.1) ?_ ?_
  · refine T.block ?_
    refine T.lp (η := (Option Addr × Nat) × (Option Addr × Nat) × (Option Addr × Nat) × (Option Addr × Nat) × (Option Addr × Nat) × (Option Addr × Nat) × (Option Addr × Nat) × (Option Addr × Nat) × (Option Addr × Nat) × (Option Addr × Nat) × (Option Addr × Nat) × (Option Addr × Nat) × (Option Addr × Nat) × (Option Addr × Nat)) (fun s1401 h => (fun a1356 c1357 a1359 c1360 a1362 c1363 a1365 c1366 a1368 c1369 a1371 c1372 a1374 c1375 a1378 c1379 a1381 c1382 a1384 c1385 a1387 c1388 a1390 c1391 a1393 c1394 a1396 c1397 => [(1, .slice a_1 acts.length c_1), (5, .pointer (some ⟨g161, 0, none⟩)), (6, .pointer (some ⟨g157, 0, none⟩)), (7, .int .i64 s1401.2.2.1), (9, .int .i64 s1401.2.2.2)]) h.1.1 h.1.2 h.2.1.1 h.2.1.2 h.2.2.1.1 h.2.2.1.2 h.2.2.2.1.1 h.2.2.2.1.2 h.2.2.2.2.1.1 h.2.2.2.2.1.2 h.2.2.2.2.2.1.1 h.2.2.2.2.2.1.2 h.2.2.2.2.2.2.1.1 h.2.2.2.2.2.2.1.2 h.2.2.2.2.2.2.2.1.1 h.2.2.2.2.2.2.2.1.2 h.2.2.2.2.2.2.2.2.1.1 h.2.2.2.2.2.2.2.2.1.2 h.2.2.2.2.2.2.2.2.2.1.1 h.2.2.2.2.2.2.2.2.2.1.2 h.2.2.2.2.2.2.2.2.2.2.1.1 h.2.2.2.2.2.2.2.2.2.2.1.2 h.2.2.2.2.2.2.2.2.2.2.2.1.1 h.2.2.2.2.2.2.2.2.2.2.2.1.2 h.2.2.2.2.2.2.2.2.2.2.2.2.1.1 h.2.2.2.2.2.2.2.2.2.2.2.2.1.2 h.2.2.2.2.2.2.2.2.2.2.2.2.2.1 h.2.2.2.2.2.2.2.2.2.2.2.2.2.2) (fun s1401 h => (fun a1356 c1357 a1359 c1360 a1362 c1363 a1365 c1366 a1368 c1369 a1371 c1372 a1374 c1375 a1378 c1379 a1381 c1382 a1384 c1385 a1387 c1388 a1390 c1391 a1393 c1394 a1396 c1397 => [Ch.aro tySnapSnap 25 a1390 c1391 s1401.2.1.kept, Ch.arr Ty.bool 4 a1396 c1397 s1401.2.1.message.there, Ch.box g157 54 (bx54 s1401.1 a1356 c1357 a1359 c1360 a1362 c1363 a1365 c1366 a1368 c1369 a1371 c1372 a1374 c1375), Ch.box g1 44 [.int .i64 c.part, .int .i64 c.every, .int .i64 c.most], Ch.box g161 82 (bx82 s1401.2.1 a1378 c1379 a1381 c1382 a1384 c1385 a1387 c1388 a1390 c1391 a1393 c1394 a1396 c1397)]) h.1.1 h.1.2 h.2.1.1 h.2.1.2 h.2.2.1.1 h.2.2.1.2 h.2.2.2.1.1 h.2.2.2.1.2 h.2.2.2.2.1.1 h.2.2.2.2.1.2 h.2.2.2.2.2.1.1 h.2.2.2.2.2.1.2 h.2.2.2.2.2.2.1.1 h.2.2.2.2.2.2.1.2 h.2.2.2.2.2.2.2.1.1 h.2.2.2.2.2.2.2.1.2 h.2.2.2.2.2.2.2.2.1.1 h.2.2.2.2.2.2.2.2.1.2 h.2.2.2.2.2.2.2.2.2.1.1 h.2.2.2.2.2.2.2.2.2.1.2 h.2.2.2.2.2.2.2.2.2.2.1.1 h.2.2.2.2.2.2.2.2.2.2.1.2 h.2.2.2.2.2.2.2.2.2.2.2.1.1 h.2.2.2.2.2.2.2.2.2.2.2.1.2 h.2.2.2.2.2.2.2.2.2.2.2.2.1.1 h.2.2.2.2.2.2.2.2.2.2.2.2.1.2 h.2.2.2.2.2.2.2.2.2.2.2.2.2.1 h.2.2.2.2.2.2.2.2.2.2.2.2.2.2) (fun s1401 h => (fun a1356 c1357 a1359 c1360 a1362 c1363 a1365 c1366 a1368 c1369 a1371 c1372 a1374 c1375 a1378 c1379 a1381 c1382 a1384 c1385 a1387 c1388 a1390 c1391 a1393 c1394 a1396 c1397 => [Im.sl tyRef09Row a1356 c1357 s1401.1.current.rows, Im.sl tyRef09Glyph a1359 c1360 s1401.1.current.begun, Im.sl tyRef09Row a1362 c1363 s1401.1.acked.rows, Im.sl tyRef09Glyph a1365 c1366 s1401.1.acked.begun, Im.sl tyRef16Snap a1368 c1369 s1401.1.kept, Im.sl Ty.str a1371 c1372 s1401.1.parts, Im.sl Ty.bool a1374 c1375 s1401.1.there, Im.sl tyRowRow a1378 c1379 s1401.2.1.current.rows, Im.sl tyRowGlyph a1381 c1382 s1401.2.1.current.begun, Im.sl tyRowRow a1384 c1385 s1401.2.1.acked.rows, Im.sl tyRowGlyph a1387 c1388 s1401.2.1.acked.begun, Im.sl Ty.str a1393 c1394 s1401.2.1.message.parts, Im.sl tyRef09Row a186 c187 r183.current.rows, Im.sl tyRef09Glyph a188 c189 r183.current.begun, Im.sl tyRef09Row a190 c191 r183.acked.rows, Im.sl tyRef09Glyph a192 c193 r183.acked.begun, Im.sl tyRef16Snap a194 c195 r183.kept, Im.sl Ty.str a196 c197 r183.parts, Im.sl Ty.bool a198 c199 r183.there, Im.sl tyRowRow a162 c163 r158.current.rows, Im.sl tyRowGlyph a164 c165 r158.current.begun, Im.sl tyRowRow a166 c167 r158.acked.rows, Im.sl tyRowGlyph a168 c169 r158.acked.begun, Im.sl Ty.str a172 c173 r158.message.parts, Im.sl tyLaw19Act a_1 c_1 acts, Im.sl (Ty.int .u32) (some ⟨0, 0, none⟩) 16 t_sum_half]) h.1.1 h.1.2 h.2.1.1 h.2.1.2 h.2.2.1.1 h.2.2.1.2 h.2.2.2.1.1 h.2.2.2.1.2 h.2.2.2.2.1.1 h.2.2.2.2.1.2 h.2.2.2.2.2.1.1 h.2.2.2.2.2.1.2 h.2.2.2.2.2.2.1.1 h.2.2.2.2.2.2.1.2 h.2.2.2.2.2.2.2.1.1 h.2.2.2.2.2.2.2.1.2 h.2.2.2.2.2.2.2.2.1.1 h.2.2.2.2.2.2.2.2.1.2 h.2.2.2.2.2.2.2.2.2.1.1 h.2.2.2.2.2.2.2.2.2.1.2 h.2.2.2.2.2.2.2.2.2.2.1.1 h.2.2.2.2.2.2.2.2.2.2.1.2 h.2.2.2.2.2.2.2.2.2.2.2.1.1 h.2.2.2.2.2.2.2.2.2.2.2.1.2 h.2.2.2.2.2.2.2.2.2.2.2.2.1.1 h.2.2.2.2.2.2.2.2.2.2.2.2.1.2 h.2.2.2.2.2.2.2.2.2.2.2.2.2.1 h.2.2.2.2.2.2.2.2.2.2.2.2.2.2) ((a186, c187), (a188, c189), (a190, c191), (a192, c193), (a194, c195), (a196, c197), (a198, c199), (a162, c163), (a164, c165), (a166, c167), (a168, c169), (a170, c171), (a172, c173), (a174, c175)) [3, 3, 0, 0, 0] [0, 1, 2, 3, 4, 5, 6, 7, 8, 9, 10, 11, 0, 1, 2, 3, 4, 5, 6, 7, 8, 9, 10, 11, 12, 13] H1963 ⟨rfl, rfl, rfl, rfl, rfl, trivial⟩ rfl rfl ?_
    rintro k_ s1401 ⟨⟨a1356, c1357⟩, ⟨a1359, c1360⟩, ⟨a1362, c1363⟩, ⟨a1365, c1366⟩, ⟨a1368, c1369⟩, ⟨a1371, c1372⟩, ⟨a1374, c1375⟩, ⟨a1378, c1379⟩, ⟨a1381, c1382⟩, ⟨a1384, c1385⟩, ⟨a1387, c1388⟩, ⟨a1390, c1391⟩, ⟨a1393, c1394⟩, ⟨a1396, c1397⟩⟩ z1966 H1965 hag1967 hbr1968
    refine T.seq (T.seq ?_)
    obtain ⟨e1972, H1973, H1974⟩ := bnd H1965
    refine T.join (η := Unit × Unit) (fun h => True) (fun h => [(1, .slice a_1 acts.length c_1), (5, .pointer (some ⟨g161, 0, none⟩)), (6, .pointer (some ⟨g157, 0, none⟩)), (7, .int .i64 s1401.2.2.1), (9, .int .i64 s1401.2.2.2), (32, .bool e1972)]) (fun h => [Ch.box g157 54 (bx54 s1401.1 a1356 c1357 a1359 c1360 a1362 c1363 a1365 c1366 a1368 c1369 a1371 c1372 a1374 c1375), Ch.box g1 44 [.int .i64 c.part, .int .i64 c.every, .int .i64 c.most], Ch.box g161 82 (bx82 s1401.2.1 a1378 c1379 a1381 c1382 a1384 c1385 a1387 c1388 a1390 c1391 a1393 c1394 a1396 c1397), Ch.aro tySnapSnap 25 a1390 c1391 s1401.2.1.kept, Ch.arr Ty.bool 4 a1396 c1397 s1401.2.1.message.there]) (fun h => [Im.sl tyRef09Row a1356 c1357 s1401.1.current.rows, Im.sl tyRef09Glyph a1359 c1360 s1401.1.current.begun, Im.sl tyRef09Row a1362 c1363 s1401.1.acked.rows, Im.sl tyRef09Glyph a1365 c1366 s1401.1.acked.begun, Im.sl tyRef16Snap a1368 c1369 s1401.1.kept, Im.sl Ty.str a1371 c1372 s1401.1.parts, Im.sl Ty.bool a1374 c1375 s1401.1.there, Im.sl tyRowRow a1378 c1379 s1401.2.1.current.rows, Im.sl tyRowGlyph a1381 c1382 s1401.2.1.current.begun, Im.sl tyRowRow a1384 c1385 s1401.2.1.acked.rows, Im.sl tyRowGlyph a1387 c1388 s1401.2.1.acked.begun, Im.sl Ty.str a1393 c1394 s1401.2.1.message.parts, Im.sl tyRef09Row a186 c187 r183.current.rows, Im.sl tyRef09Glyph a188 c189 r183.current.begun, Im.sl tyRef09Row a190 c191 r183.acked.rows, Im.sl tyRef09Glyph a192 c193 r183.acked.begun, Im.sl tyRef16Snap a194 c195 r183.kept, Im.sl Ty.str a196 c197 r183.parts, Im.sl Ty.bool a198 c199 r183.there, Im.sl tyRowRow a162 c163 r158.current.rows, Im.sl tyRowGlyph a164 c165 r158.current.begun, Im.sl tyRowRow a166 c167 r158.acked.rows, Im.sl tyRowGlyph a168 c169 r158.acked.begun, Im.sl Ty.str a172 c173 r158.message.parts, Im.sl tyLaw19Act a_1 c_1 acts, Im.sl (Ty.int .u32) (some ⟨0, 0, none⟩) 16 t_sum_half]) ?_ ?_
    · refine T.region ?_
      refine L.q 5 rfl ?_
      refine L.cs 29 H1973 rfl (fun hc H1975 => ?_) (fun hc H1975 => ?_)
      · refine L.q 3 rfl ?_
        refine L.nil ?_
        have hr := Option.some.inj H1975
        subst e1972
        exact E.give ((), ()) [2, 2, 2, 0, 0] [0, 1, 2, 3, 4, 5, 6, 7, 8, 9, 10, 11, 12, 13, 14, 15, 16, 17, 18, 19, 20, 21, 22, 23, 24, 25] trivial ⟨rfl, rfl, rfl, rfl, rfl, rfl, trivial⟩ rfl rfl
      refine L.q 3 rfl ?_
      refine L.nil ?_
      have hr := Option.some.inj H1975
      subst e1972
      exact E.give ((), ()) [2, 2, 2, 0, 0] [0, 1, 2, 3, 4, 5, 6, 7, 8, 9, 10, 11, 12, 13, 14, 15, 16, 17, 18, 19, 20, 21, 22, 23, 24, 25] trivial ⟨rfl, rfl, rfl, rfl, rfl, rfl, trivial⟩ rfl rfl
    rintro ⟨_, ⟨⟩⟩ _
    refine T.bif rfl H1974 (fun hc H1977 => ?_) (fun hc H1977 => ?_)
    · refine T.skip (E.then (T.seq (T.block (T.seq (T.region ?_)))))
      refine L.q 3 rfl ?_
      obtain ⟨x2231, h2232, H2233⟩ := bnd H1977
      refine L.addr 24 rfl (idx_lt h2232) fun b2234 o2235 e2236 => ?_
      obtain rfl : a_1 = some ⟨b2234, o2235, none⟩ := e2236
      refine L.y (Yl.ia h2232 rfl rfl rfl rfl rfl rfl) rfl rfl rfl ?_
      refine L.el 24 rfl (idx_some h2232).2 ?_
      rintro ⟨⟨a2237, c2238⟩, ⟨a2239, c2240⟩⟩
      refine L.q 1 rfl ?_
      refine L.y (Yl.ldc 0 3 rfl rfl rfl rfl) rfl rfl rfl ?_
      refine L.q 3 rfl ?_
      refine L.nil (E.then (T.seq ?_))
      refine T.draw [11] [0, 0] mo (by rfl) rfl ?_
      refine D.q 0 rfl rfl rfl rfl rfl rfl ?_
      refine D.y 1 (Yl.ldb 0 rfl rfl rfl rfl) rfl rfl rfl rfl rfl rfl ?_
      refine D.q 2 rfl rfl rfl rfl rfl rfl ?_
      refine D.q 3 rfl rfl rfl rfl rfl rfl ?_
      obtain ⟨x2409, h2410, H2411⟩ := bnd H2233
      refine D.y 4 (Yl.ia h2410 rfl rfl rfl rfl rfl rfl) rfl rfl rfl rfl rfl rfl ?_
      refine D.el 27 rfl (idx_some h2410).2 ?_
      rintro ⟨⟨a2412, c2413⟩, ⟨a2414, c2415⟩⟩
      refine D.y 5 (Yl.ldc 0 0 rfl rfl rfl rfl) rfl rfl rfl rfl rfl rfl ?_
      refine D.q 6 rfl rfl rfl rfl rfl rfl ?_
      obtain ⟨r2419, h2420, H2421⟩ := bnd H2411
      refine D.one rfl rfl rfl (Dp.a [0, 0, 0] [13, 14, 15, 16, 17, 6, 7, 8, 9, 10, 11, 12, 1, 2, 31] (Ac.call (c_law19_do g161 a1378 c1379 a1381 c1382 a1384 c1385 a1387 c1388 a1390 c1391 a1393 c1394 a1396 c1397 a1356 c1357 a1359 c1360 a1362 c1363 a1365 c1366 a1368 c1369 a1371 c1372 a1374 c1375 a2412 c2413 a2414 c2415 h2420) rfl rfl rfl rfl) rfl rfl rfl rfl rfl rfl ?_)
      rintro ⟨⟨a2422, c2423⟩, ⟨a2424, c2425⟩, ⟨a2426, c2427⟩, ⟨a2428, c2429⟩, ⟨a2430, c2431⟩, ⟨a2432, c2433⟩, ⟨a2434, c2435⟩, ⟨a2436, c2437⟩, ⟨a2438, c2439⟩, ⟨a2440, c2441⟩, ⟨a2442, c2443⟩, ⟨a2444, c2445⟩, ⟨a2446, c2447⟩, ⟨a2448, c2449⟩⟩
      refine D.q 8 rfl rfl rfl rfl rfl rfl ?_
      refine D.q 9 rfl rfl rfl rfl rfl rfl ?_
      refine D.q 10 rfl rfl rfl rfl rfl rfl ?_
      refine D.one rfl rfl rfl (Dp.al [0] [] (Ac.stb rfl rfl rfl rfl rfl rfl) rfl rfl rfl rfl rfl rfl rfl ?_)
      intro _
      refine D.q 12 rfl rfl rfl rfl rfl rfl ?_
      refine D.nil rfl rfl ?_
      refine E.then (T.seq ?_)
      obtain ⟨e2475, H2476, H2477⟩ := bnd H2421
      refine T.join (η := Unit × Unit) (fun h => True) (fun h => [(1, .slice (some ⟨b2234, o2235, none⟩) acts.length c_1), (5, .pointer (some ⟨g161, 0, none⟩)), (6, .pointer (some ⟨g157, 0, none⟩)), (7, .int .i64 (IntKind.i64.wrap (s1401.2.2.1 + (Go.bits .and .i64 x2231.later 255)))), (9, .int .i64 s1401.2.2.2), (70, .bool e2475)]) (fun h => [Ch.box g157 54 (bx54 r2419.1 a2422 c2423 a2424 c2425 a2426 c2427 a2428 c2429 a2430 c2431 a2432 c2433 a2434 c2435), Ch.box g1 44 [.int .i64 c.part, .int .i64 c.every, .int .i64 c.most], Ch.box g161 82 (bx82 r2419.2.2 a2436 c2437 a2438 c2439 a2440 c2441 a2442 c2443 a2444 c2445 a2446 c2447 a2448 c2449), Ch.aro tySnapSnap 25 a2444 c2445 r2419.2.2.kept, Ch.arr Ty.bool 4 a2448 c2449 r2419.2.2.message.there]) (fun h => [Im.sl tyRef09Row a2422 c2423 r2419.1.current.rows, Im.sl tyRef09Glyph a2424 c2425 r2419.1.current.begun, Im.sl tyRef09Row a2426 c2427 r2419.1.acked.rows, Im.sl tyRef09Glyph a2428 c2429 r2419.1.acked.begun, Im.sl tyRef16Snap a2430 c2431 r2419.1.kept, Im.sl Ty.str a2432 c2433 r2419.1.parts, Im.sl Ty.bool a2434 c2435 r2419.1.there, Im.sl tyRowRow a2436 c2437 r2419.2.2.current.rows, Im.sl tyRowGlyph a2438 c2439 r2419.2.2.current.begun, Im.sl tyRowRow a2440 c2441 r2419.2.2.acked.rows, Im.sl tyRowGlyph a2442 c2443 r2419.2.2.acked.begun, Im.sl Ty.str a2446 c2447 r2419.2.2.message.parts, Im.cells b2234 (o2235 + s1401.2.2.2.toNat * 15) [.int .i64 x2409.kind, .int .i64 x2409.k, .int .i64 x2409.iD, .int .i64 x2409.later, .string x2409.have_, .int .i64 x2409.snap.k, .int .i64 x2409.snap.w, .int .i64 x2409.snap.h, .int .i64 x2409.snap.x, .int .i64 x2409.snap.y, .string x2409.snap.title, .slice a2412 x2409.snap.rows.length c2413, .int .i64 x2409.snap.len, .int .i64 x2409.snap.chain, .slice a2414 x2409.snap.begun.length c2415], Im.sl tyRowRow a2412 c2413 x2409.snap.rows, Im.sl tyRowGlyph a2414 c2415 x2409.snap.begun, Im.cells b2234 (o2235 + s1401.2.2.2.toNat * 15) [.int .i64 x2231.kind, .int .i64 x2231.k, .int .i64 x2231.iD, .int .i64 x2231.later, .string x2231.have_, .int .i64 x2231.snap.k, .int .i64 x2231.snap.w, .int .i64 x2231.snap.h, .int .i64 x2231.snap.x, .int .i64 x2231.snap.y, .string x2231.snap.title, .slice a2237 x2231.snap.rows.length c2238, .int .i64 x2231.snap.len, .int .i64 x2231.snap.chain, .slice a2239 x2231.snap.begun.length c2240], Im.sl tyRowRow a2237 c2238 x2231.snap.rows, Im.sl tyRowGlyph a2239 c2240 x2231.snap.begun, Im.sl tyRef09Row a1356 c1357 s1401.1.current.rows, Im.sl tyRef09Glyph a1359 c1360 s1401.1.current.begun, Im.sl tyRef09Row a1362 c1363 s1401.1.acked.rows, Im.sl tyRef09Glyph a1365 c1366 s1401.1.acked.begun, Im.sl tyRef16Snap a1368 c1369 s1401.1.kept, Im.sl Ty.str a1371 c1372 s1401.1.parts, Im.sl Ty.bool a1374 c1375 s1401.1.there, Im.sl tyRowRow a1378 c1379 s1401.2.1.current.rows, Im.sl tyRowGlyph a1381 c1382 s1401.2.1.current.begun, Im.sl tyRowRow a1384 c1385 s1401.2.1.acked.rows, Im.sl tyRowGlyph a1387 c1388 s1401.2.1.acked.begun, Im.sl Ty.str a1393 c1394 s1401.2.1.message.parts, Im.sl tyRef09Row a186 c187 r183.current.rows, Im.sl tyRef09Glyph a188 c189 r183.current.begun, Im.sl tyRef09Row a190 c191 r183.acked.rows, Im.sl tyRef09Glyph a192 c193 r183.acked.begun, Im.sl tyRef16Snap a194 c195 r183.kept, Im.sl Ty.str a196 c197 r183.parts, Im.sl Ty.bool a198 c199 r183.there, Im.sl tyRowRow a162 c163 r158.current.rows, Im.sl tyRowGlyph a164 c165 r158.current.begun, Im.sl tyRowRow a166 c167 r158.acked.rows, Im.sl tyRowGlyph a168 c169 r158.acked.begun, Im.sl Ty.str a172 c173 r158.message.parts, Im.sl tyLaw19Act (some ⟨b2234, o2235, none⟩) c_1 acts, Im.sl (Ty.int .u32) (some ⟨0, 0, none⟩) 16 t_sum_half]) ?_ ?_
      · refine T.region ?_
        refine L.q 3 rfl ?_
        refine L.cs 56 H2476 rfl (fun hc H2478 => ?_) (fun hc H2478 => ?_)
        · refine L.q 14 rfl ?_
          refine L.nil ?_
          have hr := Option.some.inj H2478
          subst e2475
          exact E.give ((), ()) [0, 0, 0, 0, 0] [0, 1, 2, 3, 4, 5, 6, 7, 8, 9, 10, 11, 12, 13, 14, 15, 16, 17, 18, 19, 20, 21, 22, 23, 24, 25, 26, 27, 28, 29, 30, 31, 32, 33, 34, 35, 36, 37, 38, 39, 40, 41, 42, 43] trivial ⟨rfl, rfl, rfl, rfl, rfl, rfl, trivial⟩ rfl rfl
        refine L.q 1 rfl ?_
        refine L.y (Yl.ldb 0 rfl rfl rfl rfl) rfl rfl rfl ?_
        obtain ⟨r2479, h2480, H2481⟩ := bnd H2478
        refine L.a [2, 2, 2] [7, 8, 9, 10, 11, 0, 1, 2, 3, 4, 5, 6] (Ac.call (c_law19_Is g161 a2436 c2437 a2438 c2439 a2440 c2441 a2442 c2443 a2444 c2445 a2446 c2447 a2448 c2449 a2422 c2423 a2424 c2425 a2426 c2427 a2428 c2429 a2430 c2431 a2432 c2433 a2434 c2435 h2480) rfl rfl rfl rfl) rfl rfl rfl rfl rfl ?_
        rintro ⟨⟩
        refine L.q 3 rfl ?_
        refine L.cs 62 H2481 rfl (fun hc H2482 => ?_) (fun hc H2482 => ?_)
        · refine L.q 8 rfl ?_
          refine L.nil ?_
          have hr := Option.some.inj H2482
          subst e2475
          exact E.give ((), ()) [3, 3, 0, 0, 0] [0, 1, 2, 3, 4, 5, 6, 7, 8, 9, 10, 11, 12, 13, 14, 15, 16, 17, 18, 19, 20, 21, 22, 23, 24, 25, 26, 27, 28, 29, 30, 31, 32, 33, 34, 35, 36, 37, 38, 39, 40, 41, 42, 43] trivial ⟨rfl, rfl, rfl, rfl, rfl, rfl, trivial⟩ rfl rfl
        refine L.q 1 rfl ?_
        refine L.y (Yl.ldb 3 rfl rfl rfl rfl) rfl rfl rfl ?_
        refine L.q 3 rfl ?_
        refine L.y (Yl.ldb 3 rfl rfl rfl rfl) rfl rfl rfl ?_
        refine L.q 2 rfl ?_
        refine L.nil ?_
        have hr := Option.some.inj H2482
        subst e2475
        exact E.give ((), ()) [3, 3, 0, 0, 0] [0, 1, 2, 3, 4, 5, 6, 7, 8, 9, 10, 11, 12, 13, 14, 15, 16, 17, 18, 19, 20, 21, 22, 23, 24, 25, 26, 27, 28, 29, 30, 31, 32, 33, 34, 35, 36, 37, 38, 39, 40, 41, 42, 43] trivial ⟨rfl, rfl, rfl, rfl, rfl, rfl, trivial⟩ rfl rfl
      rintro ⟨_, ⟨⟩⟩ _
      refine T.bif rfl H2477 (fun hc H2483 => ?_) (fun hc H2483 => ?_)
      · refine T.seq (T.region ?_)
        refine L.q 1 rfl ?_
        refine L.nil (E.then (T.ret (E.block_ret (E.then_ret (E.then_ret (E.block_ret ?_))))))
        obtain ⟨w2484, hz, H2485⟩ := inrr_some H2483
        subst z1966
        have hb := hbr1968 _ rfl
        subst y1962
        have hw : w2484 = r := Option.some.inj H1964
        subst w2484
        refine E.then_ret ?_
        have hr := Option.some.inj H2485
        subst r
        exact E.ret () [] [] (.tmp rfl .nil) rfl rfl rfl
      refine T.skip (E.block (E.then (T.region ?_)))
      refine L.q 3 rfl ?_
      refine L.nil ?_
      have hr := Option.some.inj H2483
      subst z1966
      exact E.give (_, ((a2422, c2423), (a2424, c2425), (a2426, c2427), (a2428, c2429), (a2430, c2431), (a2432, c2433), (a2434, c2435), (a2436, c2437), (a2438, c2439), (a2440, c2441), (a2442, c2443), (a2444, c2445), (a2446, c2447), (a2448, c2449))) [3, 3, 0, 0, 0] [0, 1, 2, 3, 4, 5, 6, 7, 8, 9, 10, 11, 30, 31, 32, 33, 34, 35, 36, 37, 38, 39, 40, 41, 42, 43] (hag1967 _ rfl) ⟨rfl, rfl, rfl, rfl, rfl, trivial⟩ rfl rfl
    refine T.exit (E.then_exit' (E.then_exit' (E.block_here ?_)))
    have hr := Option.some.inj H1977
    subst z1966
    have hb := hbr1968 _ rfl
    subst y1962
    exact E.give (_, ((a1356, c1357), (a1359, c1360), (a1362, c1363), (a1365, c1366), (a1368, c1369), (a1371, c1372), (a1374, c1375), (a1378, c1379), (a1381, c1382), (a1384, c1385), (a1387, c1388), (a1390, c1391), (a1393, c1394), (a1396, c1397))) [3, 3, 0, 0, 0] [0, 1, 2, 3, 4, 5, 6, 7, 8, 9, 10, 11, 12, 13, 14, 15, 16, 17, 18, 19, 20, 21, 22, 23, 24, 25] rfl trivial rfl rfl
  rintro ⟨e1961, ⟨⟨a1918, c1919⟩, ⟨a1921, c1922⟩, ⟨a1924, c1925⟩, ⟨a1927, c1928⟩, ⟨a1930, c1931⟩, ⟨a1933, c1934⟩, ⟨a1936, c1937⟩, ⟨a1940, c1941⟩, ⟨a1943, c1944⟩, ⟨a1946, c1947⟩, ⟨a1949, c1950⟩, ⟨a1952, c1953⟩, ⟨a1955, c1956⟩, ⟨a1958, c1959⟩⟩⟩ hy
  subst hy
  refine T.seq (T.region ?_)
  refine L.q 1 rfl ?_
  refine L.nil (E.then (T.ret ?_))
  have hr := Option.some.inj H1964
  subst r
  exact E.ret () [] [] (.tmp rfl .nil) rfl rfl rfl

end Go.Tw.X

set_option maxHeartbeats 2000000
set_option linter.unusedVariables false
set_option linter.unusedSimpArgs false
set_option maxRecDepth 10000
namespace Go.Tw.X
open Go Go.Tw
theorem opn_to {P : Program} {α β : Type} {t : TypeId} {ty : Ty α} {ty' : Ty β} {wf : α → Prop} {wf' : β → Prop} (h : Opn P t ty wf) (g : α → β) (gh : ty.Hid → ty'.Hid) (h1 : ∀ y hh, ty'.cs (g y) (gh hh) = ty.cs y hh) (h2 : ∀ y hh, ty'.im (g y) (gh hh) = ty.im y hh) (h3 : ∀ y, wf y → wf' (g y)) : Opn P t ty' wf' := Opn.to g gh h h1 h2 h3
theorem opn3 : Opn Go.Proofs.Tryd.prog 3 (Ty.int .i64) (inK .i64) := Opn.int (by kernel_rfl)
theorem opn9 : Opn Go.Proofs.Tryd.prog 9 Ty.str (fun s : ByteArray => s.size ≤ maxLen) := Opn.str (by kernel_rfl)
theorem opn21 : Opn Go.Proofs.Tryd.prog 21 (Ty.int .i32) (inK .i32) := Opn.int (by kernel_rfl)
theorem opn91 : Opn Go.Proofs.Tryd.prog 91 tyRowCell wfRowCell := opn_to (β := RowCell) (ty' := tyRowCell) (wf' := wfRowCell) (Opn.struct (fs := [(21, 0), (3, 1), (3, 2)]) (by kernel_rfl) (by kernel_rfl) (.cons opn21 (by kernel_rfl) (.cons opn3 (by kernel_rfl) (.cons opn3 (by kernel_rfl) .nil)))) (fun y => ⟨y.1, y.2.1, y.2.2.1⟩) (fun h => ()) (fun _ _ => rfl) (fun _ _ => rfl) (fun y h => h)
theorem opn64 : Opn Go.Proofs.Tryd.prog 64 (Ty.slice tyRowCell) (fun xs : List RowCell => ∀ x ∈ xs, wfRowCell x) := Opn.slice (by kernel_rfl) opn91 (by kernel_rfl) (by decide)
theorem opn4 : Opn Go.Proofs.Tryd.prog 4 Ty.bool (fun _ => True) := Opn.bool (by kernel_rfl)
theorem opn66 : Opn Go.Proofs.Tryd.prog 66 tyRowRow wfRowRow := opn_to (β := RowRow) (ty' := tyRowRow) (wf' := wfRowRow) (Opn.struct (fs := [(64, 0), (4, 1)]) (by kernel_rfl) (by kernel_rfl) (.cons opn64 (by kernel_rfl) (.cons opn4 (by kernel_rfl) .nil))) (fun y => ⟨y.1, y.2.1⟩) (fun h => h.1) (fun _ _ => rfl) (fun _ _ => rfl) (fun y h => h)
theorem opn22 : Opn Go.Proofs.Tryd.prog 22 (Ty.slice tyRowRow) (fun xs : List RowRow => ∀ x ∈ xs, wfRowRow x) := Opn.slice (by kernel_rfl) opn66 (by kernel_rfl) (by decide)
theorem opn86 : Opn Go.Proofs.Tryd.prog 86 tyRowGlyph wfRowGlyph := opn_to (β := RowGlyph) (ty' := tyRowGlyph) (wf' := wfRowGlyph) (Opn.struct (fs := [(21, 0), (3, 1)]) (by kernel_rfl) (by kernel_rfl) (.cons opn21 (by kernel_rfl) (.cons opn3 (by kernel_rfl) .nil))) (fun y => ⟨y.1, y.2.1⟩) (fun h => ()) (fun _ _ => rfl) (fun _ _ => rfl) (fun y h => h)
theorem opn23 : Opn Go.Proofs.Tryd.prog 23 (Ty.slice tyRowGlyph) (fun xs : List RowGlyph => ∀ x ∈ xs, wfRowGlyph x) := Opn.slice (by kernel_rfl) opn86 (by kernel_rfl) (by decide)
theorem opn25 : Opn Go.Proofs.Tryd.prog 25 tySnapSnap wfSnapSnap := opn_to (β := SnapSnap) (ty' := tySnapSnap) (wf' := wfSnapSnap) (Opn.struct (fs := [(3, 0), (3, 1), (3, 2), (3, 3), (3, 4), (9, 5), (22, 6), (3, 7), (3, 8), (23, 9)]) (by kernel_rfl) (by kernel_rfl) (.cons opn3 (by kernel_rfl) (.cons opn3 (by kernel_rfl) (.cons opn3 (by kernel_rfl) (.cons opn3 (by kernel_rfl) (.cons opn3 (by kernel_rfl) (.cons opn9 (by kernel_rfl) (.cons opn22 (by kernel_rfl) (.cons opn3 (by kernel_rfl) (.cons opn3 (by kernel_rfl) (.cons opn23 (by kernel_rfl) .nil))))))))))) (fun y => ⟨y.1, y.2.1, y.2.2.1, y.2.2.2.1, y.2.2.2.2.1, y.2.2.2.2.2.1, y.2.2.2.2.2.2.1, y.2.2.2.2.2.2.2.1, y.2.2.2.2.2.2.2.2.1, y.2.2.2.2.2.2.2.2.2.1⟩) (fun h => (h.2.2.2.2.2.2.1, h.2.2.2.2.2.2.2.2.2.1)) (fun _ _ => rfl) (fun _ _ => rfl) (fun y h => h)
theorem opn44 : Opn Go.Proofs.Tryd.prog 44 tyRef19Config wfRef19Config := opn_to (β := Ref19Config) (ty' := tyRef19Config) (wf' := wfRef19Config) (Opn.struct (fs := [(3, 0), (3, 1), (3, 2)]) (by kernel_rfl) (by kernel_rfl) (.cons opn3 (by kernel_rfl) (.cons opn3 (by kernel_rfl) (.cons opn3 (by kernel_rfl) .nil)))) (fun y => ⟨y.1, y.2.1, y.2.2.1⟩) (fun h => ()) (fun _ _ => rfl) (fun _ _ => rfl) (fun y h => h)
theorem opn59 : Opn Go.Proofs.Tryd.prog 59 tyLaw19Act wfLaw19Act := opn_to (β := Law19Act) (ty' := tyLaw19Act) (wf' := wfLaw19Act) (Opn.struct (fs := [(3, 0), (3, 1), (3, 2), (3, 3), (9, 4), (25, 5)]) (by kernel_rfl) (by kernel_rfl) (.cons opn3 (by kernel_rfl) (.cons opn3 (by kernel_rfl) (.cons opn3 (by kernel_rfl) (.cons opn3 (by kernel_rfl) (.cons opn9 (by kernel_rfl) (.cons opn25 (by kernel_rfl) .nil))))))) (fun y => ⟨y.1, y.2.1, y.2.2.1, y.2.2.2.1, y.2.2.2.2.1, y.2.2.2.2.2.1⟩) (fun h => (h.2.2.2.2.2.1.1, h.2.2.2.2.2.1.2)) (fun _ _ => rfl) (fun _ _ => rfl) (fun y h => h)
theorem opn45 : Opn Go.Proofs.Tryd.prog 45 (Ty.slice tyLaw19Act) (fun xs : List Law19Act => ∀ x ∈ xs, wfLaw19Act x) := Opn.slice (by kernel_rfl) opn59 (by kernel_rfl) (by decide)
end Go.Tw.X

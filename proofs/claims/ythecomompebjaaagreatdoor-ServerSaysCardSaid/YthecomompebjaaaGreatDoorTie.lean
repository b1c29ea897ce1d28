/-
  DERIVED. GIVEN WITH THE SEED: THE PROGRAM's TIES (one call each: nine closed facts by the kernel) AND EACH ROW's TIE, after the 31st guide's Derived/Test/Toyas{Tie, Card}.lean. No idea stands in it: it is a product of the set-up. Laid BY PROGRAM, IN A SANDBOX (cutbox-door.mjs). By AI agents, Wed Nov 11 2026. No macro, syntax, notation, axiom, sorry.
-/
import Derived.Test.YthecomompebjaaaGreatDoorRows
import Derived.LaidByTextLater
import Derived.SevenTiedAt
import Derived.LaidSub
import Derived.LaidOnce
namespace Go.Proofs.YthecomompebjaaaGreatDoor
open Go
set_option maxRecDepth 100000
theorem seatTie1 : Tryz.prog.laidByTextLater [("tidewrack/glyph.leads", Rows.laid_tidewrack_glyph_leads), ("tidewrack/sum.half", Rows.laid_tidewrack_sum_half), ("tidewrack/wide.twos", Rows.laid_tidewrack_wide_twos), ("tidewrack/wide.nones", Rows.laid_tidewrack_wide_nones)] [.data, .data, .widerDeep, .widerDeep] true :=
  Program.laidByTextLater_by_one 64 8 41 (by kernel_rfl) (by kernel_rfl) (by kernel_rfl) (by kernel_rfl) (by kernel_rfl) (by kernel_rfl) (fun _ _ => by kernel_rfl)
theorem noOwnUnsafe : Tryz.pinned.checked.prog.headLifts.contains "ownunsafe" = false := by kernel_rfl
theorem tie : Tryz.prog.laidByTextLater [("tidewrack/glyph.leads", Rows.laid_tidewrack_glyph_leads), ("tidewrack/sum.half", Rows.laid_tidewrack_sum_half), ("tidewrack/wide.twos", Rows.laid_tidewrack_wide_twos), ("tidewrack/wide.nones", Rows.laid_tidewrack_wide_nones)] [.data, .data, .widerDeep, .widerDeep] true :=
  Program.laidByTextLater.sub seatTie1 ["tidewrack/glyph.leads", "tidewrack/sum.half", "tidewrack/wide.twos", "tidewrack/wide.nones"] (by kernel_rfl) (by kernel_rfl)
theorem serverSays_row_tie : Rows.serverSaysRow.laidByTextAt .later Tryz.pinned [.data, .data, .widerDeep, .widerDeep] true :=
  OpenClaim.laidByTextAt_later rfl rfl tie noOwnUnsafe
theorem serverPlays_row_tie : Rows.serverPlaysRow.laidByTextAt .later Tryz.pinned [.data, .data, .widerDeep, .widerDeep] true :=
  OpenClaim.laidByTextAt_later rfl rfl tie noOwnUnsafe
theorem serverClones_row_tie : Rows.serverClonesRow.laidByTextAt .later Tryz.pinned [.data, .data, .widerDeep, .widerDeep] true :=
  OpenClaim.laidByTextAt_later rfl rfl tie noOwnUnsafe
theorem serverRefuses_row_tie : Rows.serverRefusesRow.laidByTextAt .later Tryz.pinned [.data, .data, .widerDeep, .widerDeep] true :=
  OpenClaim.laidByTextAt_later rfl rfl tie noOwnUnsafe
theorem serverSaysUpto_row_tie : Rows.serverSaysUptoRow.laidByTextAt .later Tryz.pinned [.data, .data, .widerDeep, .widerDeep] true :=
  OpenClaim.laidByTextAt_later rfl rfl tie noOwnUnsafe
theorem serverPlaysUpto_row_tie : Rows.serverPlaysUptoRow.laidByTextAt .later Tryz.pinned [.data, .data, .widerDeep, .widerDeep] true :=
  OpenClaim.laidByTextAt_later rfl rfl tie noOwnUnsafe
theorem serverClonesUpto_row_tie : Rows.serverClonesUptoRow.laidByTextAt .later Tryz.pinned [.data, .data, .widerDeep, .widerDeep] true :=
  OpenClaim.laidByTextAt_later rfl rfl tie noOwnUnsafe
theorem serverRefusesUpto_row_tie : Rows.serverRefusesUptoRow.laidByTextAt .later Tryz.pinned [.data, .data, .widerDeep, .widerDeep] true :=
  OpenClaim.laidByTextAt_later rfl rfl tie noOwnUnsafe
end Go.Proofs.YthecomompebjaaaGreatDoor

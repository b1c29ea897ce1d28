/-
  DERIVED. GIVEN WITH THE SEED: THE CARDS: each row of YtjpeabeokdkkbaaGreatDoorRows.lean that lists a variable, with what it lists TIED to the program's text (the seventh form; the later family's looks); each row that meets fmt, with fmt's text TOLD by the authors' own Lean function (tested against real Go, not proved from fmt's source: count such statements apart). THE CARD IS WHAT COUNTS. Prove the row's statement (the work); the ties are given (YtjpeabeokdkkbaaGreatDoorTie.lean); close each card by the builder's one call (the guide's Derived/Test/ToyasCard.lean, 'card_holds'). Laid BY PROGRAM, IN A SANDBOX (cutbox-door.mjs). By AI agents, Wed Nov 11 2026. No macro, syntax, notation, axiom, sorry.
-/
import Derived.Test.YtjpeabeokdkkbaaGreatDoorRows
import GoSem.ClaimSeven
namespace Go.Proofs.YtjpeabeokdkkbaaGreatDoor
namespace Rows

/-- THE TIED CARD OF 'tidewracktop.TidewrackPatched'. -/
def tidewrackPatchedCard : Claim7 := { stood := { row := tidewrackPatchedRow, standIns := [], harness := (true, "4ca6a352118002ce4640256455fe907b5329337e16b7d387ff64ea05a386646d"), looks := false }, kinds := [], alts := [], laidByText := true, laidKinds := [.data, .data, .widerDeep, .widerDeep], laidTests := true, laidLooks := .later }
def TidewrackPatchedCardSaid : Prop := Claim7.holds Tryz.pinned (.plain (OpenSpec.ofChange tidewrackPatchedSpec)) tidewrackPatchedCard

/-- THE SECOND FORM's CARD OF 'tidewracktop.TidewrackPatched'. -/
def tidewrackPatchedUptoCard : Claim7 := { stood := { row := tidewrackPatchedUptoRow, standIns := [], harness := (true, "4ca6a352118002ce4640256455fe907b5329337e16b7d387ff64ea05a386646d"), looks := false }, kinds := [], alts := [], laidByText := true, laidKinds := [.data, .data, .widerDeep, .widerDeep], laidTests := true, laidLooks := .later }
def TidewrackPatchedUptoCardSaid : Prop := Claim7.holds Tryz.pinned (.plain (OpenSpec.upto tidewrackPatchedSpec)) tidewrackPatchedUptoCard
end Rows
end Go.Proofs.YtjpeabeokdkkbaaGreatDoor

/-
  DERIVED. GIVEN WITH THE SEED: THE CARDS: each row of YtcdklfbklcmbkaaGreatDoorRows.lean that lists a variable, with what it lists TIED to the program's text (the seventh form; the later family's looks); each row that meets fmt, with fmt's text TOLD by the authors' own Lean function (tested against real Go, not proved from fmt's source: count such statements apart). THE CARD IS WHAT COUNTS. Prove the row's statement (the work); the ties are given (YtcdklfbklcmbkaaGreatDoorTie.lean); close each card by the builder's one call (the guide's Derived/Test/ToyasCard.lean, 'card_holds'). Laid BY PROGRAM, IN A SANDBOX (cutbox-door.mjs). By AI agents, Wed Nov 11 2026. No macro, syntax, notation, axiom, sorry.
-/
import Derived.Test.YtcdklfbklcmbkaaGreatDoorRows
import GoSem.ClaimSeven
namespace Go.Proofs.YtcdklfbklcmbkaaGreatDoor
namespace Rows

/-- THE TIED CARD OF 'tidewracklaw20.TakerPlays'. -/
def takerPlaysCard : Claim7 := { stood := { row := takerPlaysRow, standIns := [], harness := (true, "2c576348dd4d57065cc344f20b905c73dbad56587a71d4f1155f6a34bed55f0d"), looks := true }, kinds := [], alts := [], laidByText := true, laidKinds := [.data], laidTests := true, laidLooks := .later }
def TakerPlaysCardSaid : Prop := Claim7.holds Tryz.pinned (.plain (OpenSpec.ofChange takerPlaysSpec)) takerPlaysCard

/-- THE SECOND FORM's CARD OF 'tidewracklaw20.TakerPlays'. -/
def takerPlaysUptoCard : Claim7 := { stood := { row := takerPlaysUptoRow, standIns := [], harness := (true, "2c576348dd4d57065cc344f20b905c73dbad56587a71d4f1155f6a34bed55f0d"), looks := true }, kinds := [], alts := [], laidByText := true, laidKinds := [.data], laidTests := true, laidLooks := .later }
def TakerPlaysUptoCardSaid : Prop := Claim7.holds Tryz.pinned (.plain (OpenSpec.upto takerPlaysSpec)) takerPlaysUptoCard
end Rows
end Go.Proofs.YtcdklfbklcmbkaaGreatDoor

/-
  DERIVED. GIVEN WITH THE SEED: THE CARDS: each row of YtbjchngfnpgnfaaGreatDoorRows.lean that lists a variable, with what it lists TIED to the program's text (the seventh form; the later family's looks); each row that meets fmt, with fmt's text TOLD by the authors' own Lean function (tested against real Go, not proved from fmt's source: count such statements apart). THE CARD IS WHAT COUNTS. Prove the row's statement (the work); the ties are given (YtbjchngfnpgnfaaGreatDoorTie.lean); close each card by the builder's one call (the guide's Derived/Test/ToyasCard.lean, 'card_holds'). Laid BY PROGRAM, IN A SANDBOX (cutbox-door.mjs). By AI agents, Wed Nov 11 2026. No macro, syntax, notation, axiom, sorry.
-/
import Derived.Test.YtbjchngfnpgnfaaGreatDoorRows
import GoSem.ClaimSeven
namespace Go.Proofs.YtbjchngfnpgnfaaGreatDoor
namespace Rows

/-- THE TIED CARD OF 'tidewracklaw19.SenderClones'. -/
def senderClonesCard : Claim7 := { stood := { row := senderClonesRow, standIns := [], harness := (true, "ea08fdff37cb7c325762ed374f4beb843bd260f8a2397e8ddeed865b49fcac03"), looks := false }, kinds := [], alts := [], laidByText := true, laidKinds := [.data], laidTests := true, laidLooks := .later }
def SenderClonesCardSaid : Prop := Claim7.holds Tryz.pinned (.plain (OpenSpec.ofChange senderClonesSpec)) senderClonesCard

/-- THE SECOND FORM's CARD OF 'tidewracklaw19.SenderClones'. -/
def senderClonesUptoCard : Claim7 := { stood := { row := senderClonesUptoRow, standIns := [], harness := (true, "ea08fdff37cb7c325762ed374f4beb843bd260f8a2397e8ddeed865b49fcac03"), looks := false }, kinds := [], alts := [], laidByText := true, laidKinds := [.data], laidTests := true, laidLooks := .later }
def SenderClonesUptoCardSaid : Prop := Claim7.holds Tryz.pinned (.plain (OpenSpec.upto senderClonesSpec)) senderClonesUptoCard
end Rows
end Go.Proofs.YtbjchngfnpgnfaaGreatDoor

/-
  DERIVED. GIVEN WITH THE SEED: THE CARDS: each row of YtdhkangklnlnoaaGreatDoorRows.lean that lists a variable, with what it lists TIED to the program's text (the seventh form; the later family's looks); each row that meets fmt, with fmt's text TOLD by the authors' own Lean function (tested against real Go, not proved from fmt's source: count such statements apart). THE CARD IS WHAT COUNTS. Prove the row's statement (the work); the ties are given (YtdhkangklnlnoaaGreatDoorTie.lean); close each card by the builder's one call (the guide's Derived/Test/ToyasCard.lean, 'card_holds'). Laid BY PROGRAM, IN A SANDBOX (cutbox-door.mjs). By AI agents, Wed Nov 11 2026. No macro, syntax, notation, axiom, sorry.
-/
import Derived.Test.YtdhkangklnlnoaaGreatDoorRows
import GoSem.ClaimSeven
namespace Go.Proofs.YtdhkangklnlnoaaGreatDoor
namespace Rows

/-- THE TIED CARD OF 'tidewracklaw23.ClientSays'. -/
def clientSaysCard : Claim7 := { stood := { row := clientSaysRow, standIns := [], harness := (true, "428ac009d72a41dc6f7c7ad497bd3b086d1d9b1e361ebcba79507b688c420e36"), looks := true }, kinds := [], alts := [], laidByText := true, laidKinds := [.data], laidTests := true, laidLooks := .later }
def ClientSaysCardSaid : Prop := Claim7.holds Tryz.pinned (.plain (OpenSpec.ofChange clientSaysSpec)) clientSaysCard

/-- THE TIED CARD OF 'tidewracklaw23.ClientRises'. -/
def clientRisesCard : Claim7 := { stood := { row := clientRisesRow, standIns := [], harness := (true, "428ac009d72a41dc6f7c7ad497bd3b086d1d9b1e361ebcba79507b688c420e36"), looks := true }, kinds := [], alts := [], laidByText := true, laidKinds := [.data], laidTests := true, laidLooks := .later }
def ClientRisesCardSaid : Prop := Claim7.holds Tryz.pinned (.plain (OpenSpec.ofChange clientRisesSpec)) clientRisesCard

/-- THE TIED CARD OF 'tidewracklaw23.ClientPlays'. -/
def clientPlaysCard : Claim7 := { stood := { row := clientPlaysRow, standIns := [], harness := (true, "428ac009d72a41dc6f7c7ad497bd3b086d1d9b1e361ebcba79507b688c420e36"), looks := true }, kinds := [], alts := [], laidByText := true, laidKinds := [.data], laidTests := true, laidLooks := .later }
def ClientPlaysCardSaid : Prop := Claim7.holds Tryz.pinned (.plain (OpenSpec.ofChange clientPlaysSpec)) clientPlaysCard

/-- THE TIED CARD OF 'tidewracklaw23.ClientClones'. -/
def clientClonesCard : Claim7 := { stood := { row := clientClonesRow, standIns := [], harness := (true, "428ac009d72a41dc6f7c7ad497bd3b086d1d9b1e361ebcba79507b688c420e36"), looks := true }, kinds := [], alts := [], laidByText := true, laidKinds := [.data], laidTests := true, laidLooks := .later }
def ClientClonesCardSaid : Prop := Claim7.holds Tryz.pinned (.plain (OpenSpec.ofChange clientClonesSpec)) clientClonesCard

/-- THE TIED CARD OF 'tidewracklaw23.ClientMoves'. -/
def clientMovesCard : Claim7 := { stood := { row := clientMovesRow, standIns := [], harness := (true, "428ac009d72a41dc6f7c7ad497bd3b086d1d9b1e361ebcba79507b688c420e36"), looks := true }, kinds := [], alts := [], laidByText := true, laidKinds := [.data], laidTests := true, laidLooks := .later }
def ClientMovesCardSaid : Prop := Claim7.holds Tryz.pinned (.plain (OpenSpec.ofChange clientMovesSpec)) clientMovesCard

/-- THE SECOND FORM's CARD OF 'tidewracklaw23.ClientSays'. -/
def clientSaysUptoCard : Claim7 := { stood := { row := clientSaysUptoRow, standIns := [], harness := (true, "428ac009d72a41dc6f7c7ad497bd3b086d1d9b1e361ebcba79507b688c420e36"), looks := true }, kinds := [], alts := [], laidByText := true, laidKinds := [.data], laidTests := true, laidLooks := .later }
def ClientSaysUptoCardSaid : Prop := Claim7.holds Tryz.pinned (.plain (OpenSpec.upto clientSaysSpec)) clientSaysUptoCard

/-- THE SECOND FORM's CARD OF 'tidewracklaw23.ClientRises'. -/
def clientRisesUptoCard : Claim7 := { stood := { row := clientRisesUptoRow, standIns := [], harness := (true, "428ac009d72a41dc6f7c7ad497bd3b086d1d9b1e361ebcba79507b688c420e36"), looks := true }, kinds := [], alts := [], laidByText := true, laidKinds := [.data], laidTests := true, laidLooks := .later }
def ClientRisesUptoCardSaid : Prop := Claim7.holds Tryz.pinned (.plain (OpenSpec.upto clientRisesSpec)) clientRisesUptoCard

/-- THE SECOND FORM's CARD OF 'tidewracklaw23.ClientPlays'. -/
def clientPlaysUptoCard : Claim7 := { stood := { row := clientPlaysUptoRow, standIns := [], harness := (true, "428ac009d72a41dc6f7c7ad497bd3b086d1d9b1e361ebcba79507b688c420e36"), looks := true }, kinds := [], alts := [], laidByText := true, laidKinds := [.data], laidTests := true, laidLooks := .later }
def ClientPlaysUptoCardSaid : Prop := Claim7.holds Tryz.pinned (.plain (OpenSpec.upto clientPlaysSpec)) clientPlaysUptoCard

/-- THE SECOND FORM's CARD OF 'tidewracklaw23.ClientClones'. -/
def clientClonesUptoCard : Claim7 := { stood := { row := clientClonesUptoRow, standIns := [], harness := (true, "428ac009d72a41dc6f7c7ad497bd3b086d1d9b1e361ebcba79507b688c420e36"), looks := true }, kinds := [], alts := [], laidByText := true, laidKinds := [.data], laidTests := true, laidLooks := .later }
def ClientClonesUptoCardSaid : Prop := Claim7.holds Tryz.pinned (.plain (OpenSpec.upto clientClonesSpec)) clientClonesUptoCard

/-- THE SECOND FORM's CARD OF 'tidewracklaw23.ClientMoves'. -/
def clientMovesUptoCard : Claim7 := { stood := { row := clientMovesUptoRow, standIns := [], harness := (true, "428ac009d72a41dc6f7c7ad497bd3b086d1d9b1e361ebcba79507b688c420e36"), looks := true }, kinds := [], alts := [], laidByText := true, laidKinds := [.data], laidTests := true, laidLooks := .later }
def ClientMovesUptoCardSaid : Prop := Claim7.holds Tryz.pinned (.plain (OpenSpec.upto clientMovesSpec)) clientMovesUptoCard
end Rows
end Go.Proofs.YtdhkangklnlnoaaGreatDoor

/-
  DERIVED. GIVEN WITH THE SEED: THE CARDS: each row of YtmekokacemcfoaaGreatDoorRows.lean that lists a variable, with what it lists TIED to the program's text (the seventh form; the later family's looks); each row that meets fmt, with fmt's text TOLD by the authors' own Lean function (tested against real Go, not proved from fmt's source: count such statements apart). THE CARD IS WHAT COUNTS. Prove the row's statement (the work); the ties are given (YtmekokacemcfoaaGreatDoorTie.lean); close each card by the builder's one call (the guide's Derived/Test/ToyasCard.lean, 'card_holds'). Laid BY PROGRAM, IN A SANDBOX (cutbox-door.mjs). By AI agents, Wed Nov 11 2026. No macro, syntax, notation, axiom, sorry.
-/
import Derived.Test.YtmekokacemcfoaaGreatDoorRows
import GoSem.ClaimSeven
namespace Go.Proofs.YtmekokacemcfoaaGreatDoor
namespace Rows

/-- THE TIED CARD OF 'tidewracklaw18.ModelParts'. -/
def modelPartsCard : Claim7 := { stood := { row := modelPartsRow, standIns := [], harness := (true, "bcb75cdf82b91661714cbe269923d2070a2f0a015a46ddca487e0a4762a36403"), looks := false }, kinds := [], alts := [], laidByText := true, laidKinds := [.data, .data, .widerDeep, .widerDeep], laidTests := true, laidLooks := .later }
def ModelPartsCardSaid : Prop := Claim7.holds Tryz.pinned (.plain (OpenSpec.ofChange modelPartsSpec)) modelPartsCard

/-- THE TIED CARD OF 'tidewracklaw18.ModelPlays'. -/
def modelPlaysCard : Claim7 := { stood := { row := modelPlaysRow, standIns := [], harness := (true, "bcb75cdf82b91661714cbe269923d2070a2f0a015a46ddca487e0a4762a36403"), looks := false }, kinds := [], alts := [], laidByText := true, laidKinds := [.data, .data, .widerDeep, .widerDeep], laidTests := true, laidLooks := .later }
def ModelPlaysCardSaid : Prop := Claim7.holds Tryz.pinned (.plain (OpenSpec.ofChange modelPlaysSpec)) modelPlaysCard

/-- THE TIED CARD OF 'tidewracklaw18.ModelCounts'. -/
def modelCountsCard : Claim7 := { stood := { row := modelCountsRow, standIns := [], harness := (true, "bcb75cdf82b91661714cbe269923d2070a2f0a015a46ddca487e0a4762a36403"), looks := false }, kinds := [], alts := [], laidByText := true, laidKinds := [.data, .data, .widerDeep, .widerDeep], laidTests := true, laidLooks := .later }
def ModelCountsCardSaid : Prop := Claim7.holds Tryz.pinned (.plain (OpenSpec.ofChange modelCountsSpec)) modelCountsCard

/-- THE TIED CARD OF 'tidewracklaw18.ModelClones'. -/
def modelClonesCard : Claim7 := { stood := { row := modelClonesRow, standIns := [], harness := (true, "bcb75cdf82b91661714cbe269923d2070a2f0a015a46ddca487e0a4762a36403"), looks := false }, kinds := [], alts := [], laidByText := true, laidKinds := [.data, .data, .widerDeep, .widerDeep], laidTests := true, laidLooks := .later }
def ModelClonesCardSaid : Prop := Claim7.holds Tryz.pinned (.plain (OpenSpec.ofChange modelClonesSpec)) modelClonesCard

/-- THE SECOND FORM's CARD OF 'tidewracklaw18.ModelParts'. -/
def modelPartsUptoCard : Claim7 := { stood := { row := modelPartsUptoRow, standIns := [], harness := (true, "bcb75cdf82b91661714cbe269923d2070a2f0a015a46ddca487e0a4762a36403"), looks := false }, kinds := [], alts := [], laidByText := true, laidKinds := [.data, .data, .widerDeep, .widerDeep], laidTests := true, laidLooks := .later }
def ModelPartsUptoCardSaid : Prop := Claim7.holds Tryz.pinned (.plain (OpenSpec.upto modelPartsSpec)) modelPartsUptoCard

/-- THE SECOND FORM's CARD OF 'tidewracklaw18.ModelPlays'. -/
def modelPlaysUptoCard : Claim7 := { stood := { row := modelPlaysUptoRow, standIns := [], harness := (true, "bcb75cdf82b91661714cbe269923d2070a2f0a015a46ddca487e0a4762a36403"), looks := false }, kinds := [], alts := [], laidByText := true, laidKinds := [.data, .data, .widerDeep, .widerDeep], laidTests := true, laidLooks := .later }
def ModelPlaysUptoCardSaid : Prop := Claim7.holds Tryz.pinned (.plain (OpenSpec.upto modelPlaysSpec)) modelPlaysUptoCard

/-- THE SECOND FORM's CARD OF 'tidewracklaw18.ModelCounts'. -/
def modelCountsUptoCard : Claim7 := { stood := { row := modelCountsUptoRow, standIns := [], harness := (true, "bcb75cdf82b91661714cbe269923d2070a2f0a015a46ddca487e0a4762a36403"), looks := false }, kinds := [], alts := [], laidByText := true, laidKinds := [.data, .data, .widerDeep, .widerDeep], laidTests := true, laidLooks := .later }
def ModelCountsUptoCardSaid : Prop := Claim7.holds Tryz.pinned (.plain (OpenSpec.upto modelCountsSpec)) modelCountsUptoCard

/-- THE SECOND FORM's CARD OF 'tidewracklaw18.ModelClones'. -/
def modelClonesUptoCard : Claim7 := { stood := { row := modelClonesUptoRow, standIns := [], harness := (true, "bcb75cdf82b91661714cbe269923d2070a2f0a015a46ddca487e0a4762a36403"), looks := false }, kinds := [], alts := [], laidByText := true, laidKinds := [.data, .data, .widerDeep, .widerDeep], laidTests := true, laidLooks := .later }
def ModelClonesUptoCardSaid : Prop := Claim7.holds Tryz.pinned (.plain (OpenSpec.upto modelClonesSpec)) modelClonesUptoCard
end Rows
end Go.Proofs.YtmekokacemcfoaaGreatDoor

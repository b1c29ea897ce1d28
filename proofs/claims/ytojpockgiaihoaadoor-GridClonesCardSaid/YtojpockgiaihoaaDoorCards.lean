/-
  DERIVED. GIVEN WITH THE SEED: THE CARDS: each row of YtojpockgiaihoaaDoorRows.lean that lists a variable, with what it lists TIED to the program's text (the seventh form; the later family's looks); each row that meets fmt, with fmt's text TOLD by the authors' own Lean function (tested against real Go, not proved from fmt's source: count such statements apart). THE CARD IS WHAT COUNTS. Prove the row's statement (the work); the ties are given (YtojpockgiaihoaaDoorTie.lean); close each card by the builder's one call (the guide's Derived/Test/ToyasCard.lean, 'card_holds'). Laid BY PROGRAM, IN A SANDBOX (cutbox-door.mjs). By AI agents, Wed Nov 11 2026. No macro, syntax, notation, axiom, sorry.
-/
import Derived.Test.YtojpockgiaihoaaDoorRows
import GoSem.ClaimSeven
namespace Go.Proofs.YtojpockgiaihoaaDoor
namespace Rows

/-- THE TIED CARD OF 'tidewracklaw09.RowPlays'. -/
def rowPlaysCard : Claim7 := { stood := { row := rowPlaysRow, standIns := [], harness := (true, "bab0c284ac42d5a150b84b686be3421e1335a6907deb0d6e11ca02d00692ca74"), looks := false }, kinds := [], alts := [], laidByText := true, laidKinds := [.widerDeep, .widerDeep], laidTests := true, laidLooks := .later }
def RowPlaysCardSaid : Prop := Claim7.holds Tryd.pinned (.plain (OpenSpec.ofChange rowPlaysSpec)) rowPlaysCard

/-- THE TIED CARD OF 'tidewracklaw09.RowKeeps'. -/
def rowKeepsCard : Claim7 := { stood := { row := rowKeepsRow, standIns := [], harness := (true, "bab0c284ac42d5a150b84b686be3421e1335a6907deb0d6e11ca02d00692ca74"), looks := false }, kinds := [], alts := [], laidByText := true, laidKinds := [.widerDeep, .widerDeep], laidTests := true, laidLooks := .later }
def RowKeepsCardSaid : Prop := Claim7.holds Tryd.pinned (.plain (OpenSpec.ofChange rowKeepsSpec)) rowKeepsCard

/-- THE TIED CARD OF 'tidewracklaw09.RowColumns'. -/
def rowColumnsCard : Claim7 := { stood := { row := rowColumnsRow, standIns := [], harness := (true, "bab0c284ac42d5a150b84b686be3421e1335a6907deb0d6e11ca02d00692ca74"), looks := false }, kinds := [], alts := [], laidByText := true, laidKinds := [.widerDeep, .widerDeep], laidTests := true, laidLooks := .later }
def RowColumnsCardSaid : Prop := Claim7.holds Tryd.pinned (.plain (OpenSpec.ofChange rowColumnsSpec)) rowColumnsCard

/-- THE TIED CARD OF 'tidewracklaw09.RowLength'. -/
def rowLengthCard : Claim7 := { stood := { row := rowLengthRow, standIns := [], harness := (true, "bab0c284ac42d5a150b84b686be3421e1335a6907deb0d6e11ca02d00692ca74"), looks := false }, kinds := [], alts := [], laidByText := true, laidKinds := [.widerDeep, .widerDeep], laidTests := true, laidLooks := .later }
def RowLengthCardSaid : Prop := Claim7.holds Tryd.pinned (.plain (OpenSpec.ofChange rowLengthSpec)) rowLengthCard

/-- THE TIED CARD OF 'tidewracklaw10.GridPlays'. -/
def gridPlaysCard : Claim7 := { stood := { row := gridPlaysRow, standIns := [], harness := (true, "bab0c284ac42d5a150b84b686be3421e1335a6907deb0d6e11ca02d00692ca74"), looks := false }, kinds := [], alts := [], laidByText := true, laidKinds := [.widerDeep, .widerDeep], laidTests := true, laidLooks := .later }
def GridPlaysCardSaid : Prop := Claim7.holds Tryd.pinned (.plain (OpenSpec.ofChange gridPlaysSpec)) gridPlaysCard

/-- THE TIED CARD OF 'tidewracklaw10.GridRows'. -/
def gridRowsCard : Claim7 := { stood := { row := gridRowsRow, standIns := [], harness := (true, "bab0c284ac42d5a150b84b686be3421e1335a6907deb0d6e11ca02d00692ca74"), looks := false }, kinds := [], alts := [], laidByText := true, laidKinds := [.widerDeep, .widerDeep], laidTests := true, laidLooks := .later }
def GridRowsCardSaid : Prop := Claim7.holds Tryd.pinned (.plain (OpenSpec.ofChange gridRowsSpec)) gridRowsCard

/-- THE TIED CARD OF 'tidewracklaw10.GridRegions'. -/
def gridRegionsCard : Claim7 := { stood := { row := gridRegionsRow, standIns := [], harness := (true, "bab0c284ac42d5a150b84b686be3421e1335a6907deb0d6e11ca02d00692ca74"), looks := false }, kinds := [], alts := [], laidByText := true, laidKinds := [.widerDeep, .widerDeep], laidTests := true, laidLooks := .later }
def GridRegionsCardSaid : Prop := Claim7.holds Tryd.pinned (.plain (OpenSpec.ofChange gridRegionsSpec)) gridRegionsCard

/-- THE TIED CARD OF 'tidewracklaw10.GridSteps'. -/
def gridStepsCard : Claim7 := { stood := { row := gridStepsRow, standIns := [], harness := (true, "bab0c284ac42d5a150b84b686be3421e1335a6907deb0d6e11ca02d00692ca74"), looks := false }, kinds := [], alts := [], laidByText := true, laidKinds := [.widerDeep, .widerDeep], laidTests := true, laidLooks := .later }
def GridStepsCardSaid : Prop := Claim7.holds Tryd.pinned (.plain (OpenSpec.ofChange gridStepsSpec)) gridStepsCard

/-- THE TIED CARD OF 'tidewracklaw10.GridClones'. -/
def gridClonesCard : Claim7 := { stood := { row := gridClonesRow, standIns := [], harness := (true, "bab0c284ac42d5a150b84b686be3421e1335a6907deb0d6e11ca02d00692ca74"), looks := false }, kinds := [], alts := [], laidByText := true, laidKinds := [.widerDeep, .widerDeep], laidTests := true, laidLooks := .later }
def GridClonesCardSaid : Prop := Claim7.holds Tryd.pinned (.plain (OpenSpec.ofChange gridClonesSpec)) gridClonesCard

/-- THE SECOND FORM's CARD OF 'tidewracklaw09.RowPlays'. -/
def rowPlaysUptoCard : Claim7 := { stood := { row := rowPlaysUptoRow, standIns := [], harness := (true, "bab0c284ac42d5a150b84b686be3421e1335a6907deb0d6e11ca02d00692ca74"), looks := false }, kinds := [], alts := [], laidByText := true, laidKinds := [.widerDeep, .widerDeep], laidTests := true, laidLooks := .later }
def RowPlaysUptoCardSaid : Prop := Claim7.holds Tryd.pinned (.plain (OpenSpec.upto rowPlaysSpec)) rowPlaysUptoCard

/-- THE SECOND FORM's CARD OF 'tidewracklaw09.RowKeeps'. -/
def rowKeepsUptoCard : Claim7 := { stood := { row := rowKeepsUptoRow, standIns := [], harness := (true, "bab0c284ac42d5a150b84b686be3421e1335a6907deb0d6e11ca02d00692ca74"), looks := false }, kinds := [], alts := [], laidByText := true, laidKinds := [.widerDeep, .widerDeep], laidTests := true, laidLooks := .later }
def RowKeepsUptoCardSaid : Prop := Claim7.holds Tryd.pinned (.plain (OpenSpec.upto rowKeepsSpec)) rowKeepsUptoCard

/-- THE SECOND FORM's CARD OF 'tidewracklaw09.RowColumns'. -/
def rowColumnsUptoCard : Claim7 := { stood := { row := rowColumnsUptoRow, standIns := [], harness := (true, "bab0c284ac42d5a150b84b686be3421e1335a6907deb0d6e11ca02d00692ca74"), looks := false }, kinds := [], alts := [], laidByText := true, laidKinds := [.widerDeep, .widerDeep], laidTests := true, laidLooks := .later }
def RowColumnsUptoCardSaid : Prop := Claim7.holds Tryd.pinned (.plain (OpenSpec.upto rowColumnsSpec)) rowColumnsUptoCard

/-- THE SECOND FORM's CARD OF 'tidewracklaw09.RowLength'. -/
def rowLengthUptoCard : Claim7 := { stood := { row := rowLengthUptoRow, standIns := [], harness := (true, "bab0c284ac42d5a150b84b686be3421e1335a6907deb0d6e11ca02d00692ca74"), looks := false }, kinds := [], alts := [], laidByText := true, laidKinds := [.widerDeep, .widerDeep], laidTests := true, laidLooks := .later }
def RowLengthUptoCardSaid : Prop := Claim7.holds Tryd.pinned (.plain (OpenSpec.upto rowLengthSpec)) rowLengthUptoCard

/-- THE SECOND FORM's CARD OF 'tidewracklaw10.GridPlays'. -/
def gridPlaysUptoCard : Claim7 := { stood := { row := gridPlaysUptoRow, standIns := [], harness := (true, "bab0c284ac42d5a150b84b686be3421e1335a6907deb0d6e11ca02d00692ca74"), looks := false }, kinds := [], alts := [], laidByText := true, laidKinds := [.widerDeep, .widerDeep], laidTests := true, laidLooks := .later }
def GridPlaysUptoCardSaid : Prop := Claim7.holds Tryd.pinned (.plain (OpenSpec.upto gridPlaysSpec)) gridPlaysUptoCard

/-- THE SECOND FORM's CARD OF 'tidewracklaw10.GridRows'. -/
def gridRowsUptoCard : Claim7 := { stood := { row := gridRowsUptoRow, standIns := [], harness := (true, "bab0c284ac42d5a150b84b686be3421e1335a6907deb0d6e11ca02d00692ca74"), looks := false }, kinds := [], alts := [], laidByText := true, laidKinds := [.widerDeep, .widerDeep], laidTests := true, laidLooks := .later }
def GridRowsUptoCardSaid : Prop := Claim7.holds Tryd.pinned (.plain (OpenSpec.upto gridRowsSpec)) gridRowsUptoCard

/-- THE SECOND FORM's CARD OF 'tidewracklaw10.GridRegions'. -/
def gridRegionsUptoCard : Claim7 := { stood := { row := gridRegionsUptoRow, standIns := [], harness := (true, "bab0c284ac42d5a150b84b686be3421e1335a6907deb0d6e11ca02d00692ca74"), looks := false }, kinds := [], alts := [], laidByText := true, laidKinds := [.widerDeep, .widerDeep], laidTests := true, laidLooks := .later }
def GridRegionsUptoCardSaid : Prop := Claim7.holds Tryd.pinned (.plain (OpenSpec.upto gridRegionsSpec)) gridRegionsUptoCard

/-- THE SECOND FORM's CARD OF 'tidewracklaw10.GridSteps'. -/
def gridStepsUptoCard : Claim7 := { stood := { row := gridStepsUptoRow, standIns := [], harness := (true, "bab0c284ac42d5a150b84b686be3421e1335a6907deb0d6e11ca02d00692ca74"), looks := false }, kinds := [], alts := [], laidByText := true, laidKinds := [.widerDeep, .widerDeep], laidTests := true, laidLooks := .later }
def GridStepsUptoCardSaid : Prop := Claim7.holds Tryd.pinned (.plain (OpenSpec.upto gridStepsSpec)) gridStepsUptoCard

/-- THE SECOND FORM's CARD OF 'tidewracklaw10.GridClones'. -/
def gridClonesUptoCard : Claim7 := { stood := { row := gridClonesUptoRow, standIns := [], harness := (true, "bab0c284ac42d5a150b84b686be3421e1335a6907deb0d6e11ca02d00692ca74"), looks := false }, kinds := [], alts := [], laidByText := true, laidKinds := [.widerDeep, .widerDeep], laidTests := true, laidLooks := .later }
def GridClonesUptoCardSaid : Prop := Claim7.holds Tryd.pinned (.plain (OpenSpec.upto gridClonesSpec)) gridClonesUptoCard
end Rows
end Go.Proofs.YtojpockgiaihoaaDoor

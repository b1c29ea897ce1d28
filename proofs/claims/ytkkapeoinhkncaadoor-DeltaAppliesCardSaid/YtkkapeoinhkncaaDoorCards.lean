/-
  DERIVED. GIVEN WITH THE SEED: THE CARDS: each row of YtkkapeoinhkncaaDoorRows.lean that lists a variable, with what it lists TIED to the program's text (the seventh form; the later family's looks); each row that meets fmt, with fmt's text TOLD by the authors' own Lean function (tested against real Go, not proved from fmt's source: count such statements apart). THE CARD IS WHAT COUNTS. Prove the row's statement (the work); the ties are given (YtkkapeoinhkncaaDoorTie.lean); close each card by the builder's one call (the guide's Derived/Test/ToyasCard.lean, 'card_holds'). Laid BY PROGRAM, IN A SANDBOX (cutbox-door.mjs). By AI agents, Wed Nov 11 2026. No macro, syntax, notation, axiom, sorry.
-/
import Derived.Test.YtkkapeoinhkncaaDoorRows
import GoSem.ClaimSeven
namespace Go.Proofs.YtkkapeoinhkncaaDoor
namespace Rows

/-- THE TIED CARD OF 'tidewracklaw17.DeltaBack'. -/
def deltaBackCard : Claim7 := { stood := { row := deltaBackRow, standIns := [], harness := (true, "3ad3ad6ffb64a8cf415f9584dcdeeb4fc168780fcc24d7c34efc572ff030572a"), looks := false }, kinds := [], alts := [], laidByText := true, laidKinds := [.data], laidTests := true, laidLooks := .later }
def DeltaBackCardSaid : Prop := Claim7.holds Tryd.pinned (.plain (OpenSpec.ofChange deltaBackSpec)) deltaBackCard

/-- THE TIED CARD OF 'tidewracklaw17.DeltaApplies'. -/
def deltaAppliesCard : Claim7 := { stood := { row := deltaAppliesRow, standIns := [], harness := (true, "3ad3ad6ffb64a8cf415f9584dcdeeb4fc168780fcc24d7c34efc572ff030572a"), looks := false }, kinds := [], alts := [], laidByText := true, laidKinds := [.data], laidTests := true, laidLooks := .later }
def DeltaAppliesCardSaid : Prop := Claim7.holds Tryd.pinned (.plain (OpenSpec.ofChange deltaAppliesSpec)) deltaAppliesCard

/-- THE TIED CARD OF 'tidewracklaw17.DeltaBase'. -/
def deltaBaseCard : Claim7 := { stood := { row := deltaBaseRow, standIns := [], harness := (true, "3ad3ad6ffb64a8cf415f9584dcdeeb4fc168780fcc24d7c34efc572ff030572a"), looks := false }, kinds := [], alts := [], laidByText := true, laidKinds := [.data], laidTests := true, laidLooks := .later }
def DeltaBaseCardSaid : Prop := Claim7.holds Tryd.pinned (.plain (OpenSpec.ofChange deltaBaseSpec)) deltaBaseCard

/-- THE TIED CARD OF 'tidewracklaw17.DeltaSteps'. -/
def deltaStepsCard : Claim7 := { stood := { row := deltaStepsRow, standIns := [], harness := (true, "3ad3ad6ffb64a8cf415f9584dcdeeb4fc168780fcc24d7c34efc572ff030572a"), looks := false }, kinds := [], alts := [], laidByText := true, laidKinds := [.data], laidTests := true, laidLooks := .later }
def DeltaStepsCardSaid : Prop := Claim7.holds Tryd.pinned (.plain (OpenSpec.ofChange deltaStepsSpec)) deltaStepsCard

/-- THE SECOND FORM's CARD OF 'tidewracklaw17.DeltaBack'. -/
def deltaBackUptoCard : Claim7 := { stood := { row := deltaBackUptoRow, standIns := [], harness := (true, "3ad3ad6ffb64a8cf415f9584dcdeeb4fc168780fcc24d7c34efc572ff030572a"), looks := false }, kinds := [], alts := [], laidByText := true, laidKinds := [.data], laidTests := true, laidLooks := .later }
def DeltaBackUptoCardSaid : Prop := Claim7.holds Tryd.pinned (.plain (OpenSpec.upto deltaBackSpec)) deltaBackUptoCard

/-- THE SECOND FORM's CARD OF 'tidewracklaw17.DeltaApplies'. -/
def deltaAppliesUptoCard : Claim7 := { stood := { row := deltaAppliesUptoRow, standIns := [], harness := (true, "3ad3ad6ffb64a8cf415f9584dcdeeb4fc168780fcc24d7c34efc572ff030572a"), looks := false }, kinds := [], alts := [], laidByText := true, laidKinds := [.data], laidTests := true, laidLooks := .later }
def DeltaAppliesUptoCardSaid : Prop := Claim7.holds Tryd.pinned (.plain (OpenSpec.upto deltaAppliesSpec)) deltaAppliesUptoCard

/-- THE SECOND FORM's CARD OF 'tidewracklaw17.DeltaBase'. -/
def deltaBaseUptoCard : Claim7 := { stood := { row := deltaBaseUptoRow, standIns := [], harness := (true, "3ad3ad6ffb64a8cf415f9584dcdeeb4fc168780fcc24d7c34efc572ff030572a"), looks := false }, kinds := [], alts := [], laidByText := true, laidKinds := [.data], laidTests := true, laidLooks := .later }
def DeltaBaseUptoCardSaid : Prop := Claim7.holds Tryd.pinned (.plain (OpenSpec.upto deltaBaseSpec)) deltaBaseUptoCard

/-- THE SECOND FORM's CARD OF 'tidewracklaw17.DeltaSteps'. -/
def deltaStepsUptoCard : Claim7 := { stood := { row := deltaStepsUptoRow, standIns := [], harness := (true, "3ad3ad6ffb64a8cf415f9584dcdeeb4fc168780fcc24d7c34efc572ff030572a"), looks := false }, kinds := [], alts := [], laidByText := true, laidKinds := [.data], laidTests := true, laidLooks := .later }
def DeltaStepsUptoCardSaid : Prop := Claim7.holds Tryd.pinned (.plain (OpenSpec.upto deltaStepsSpec)) deltaStepsUptoCard
end Rows
end Go.Proofs.YtkkapeoinhkncaaDoor

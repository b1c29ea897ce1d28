/-
  DERIVED. GIVEN WITH THE SEED: THE CARDS: each row of YtncmjkhmhfmogaaGreatDoorRows.lean that lists a variable, with what it lists TIED to the program's text (the seventh form; the later family's looks); each row that meets fmt, with fmt's text TOLD by the authors' own Lean function (tested against real Go, not proved from fmt's source: count such statements apart). THE CARD IS WHAT COUNTS. Prove the row's statement (the work); the ties are given (YtncmjkhmhfmogaaGreatDoorTie.lean); close each card by the builder's one call (the guide's Derived/Test/ToyasCard.lean, 'card_holds'). Laid BY PROGRAM, IN A SANDBOX (cutbox-door.mjs). By AI agents, Wed Nov 11 2026. No macro, syntax, notation, axiom, sorry.
-/
import Derived.Test.YtncmjkhmhfmogaaGreatDoorRows
import GoSem.ClaimSeven
namespace Go.Proofs.YtncmjkhmhfmogaaGreatDoor
namespace Rows

/-- THE TIED CARD OF 'tidewracklaw11.ScreenOff'. -/
def screenOffCard : Claim7 := { stood := { row := screenOffRow, standIns := [], harness := (true, "ad23e19dc3e4d4e57b210451b5d4e2af07af76e8991a8a0b34bbaddc0e40e072"), looks := false }, kinds := [], alts := [], laidByText := true, laidKinds := [.widerDeep, .widerDeep], laidTests := true, laidLooks := .later }
def ScreenOffCardSaid : Prop := Claim7.holds Tryz.pinned (.plain (OpenSpec.ofChange screenOffSpec)) screenOffCard

/-- THE TIED CARD OF 'tidewracklaw11.ScreenSized'. -/
def screenSizedCard : Claim7 := { stood := { row := screenSizedRow, standIns := [], harness := (true, "ad23e19dc3e4d4e57b210451b5d4e2af07af76e8991a8a0b34bbaddc0e40e072"), looks := false }, kinds := [], alts := [], laidByText := true, laidKinds := [.widerDeep, .widerDeep], laidTests := true, laidLooks := .later }
def ScreenSizedCardSaid : Prop := Claim7.holds Tryz.pinned (.plain (OpenSpec.ofChange screenSizedSpec)) screenSizedCard

/-- THE TIED CARD OF 'tidewracklaw11.ScreenBounds'. -/
def screenBoundsCard : Claim7 := { stood := { row := screenBoundsRow, standIns := [], harness := (true, "ad23e19dc3e4d4e57b210451b5d4e2af07af76e8991a8a0b34bbaddc0e40e072"), looks := false }, kinds := [], alts := [], laidByText := true, laidKinds := [.widerDeep, .widerDeep], laidTests := true, laidLooks := .later }
def ScreenBoundsCardSaid : Prop := Claim7.holds Tryz.pinned (.plain (OpenSpec.ofChange screenBoundsSpec)) screenBoundsCard

/-- THE TIED CARD OF 'tidewracklaw11.ScreenAnew'. -/
def screenAnewCard : Claim7 := { stood := { row := screenAnewRow, standIns := [], harness := (true, "ad23e19dc3e4d4e57b210451b5d4e2af07af76e8991a8a0b34bbaddc0e40e072"), looks := false }, kinds := [], alts := [], laidByText := true, laidKinds := [.widerDeep, .widerDeep], laidTests := true, laidLooks := .later }
def ScreenAnewCardSaid : Prop := Claim7.holds Tryz.pinned (.plain (OpenSpec.ofChange screenAnewSpec)) screenAnewCard

/-- THE TIED CARD OF 'tidewracklaw11.ScreenClones'. -/
def screenClonesCard : Claim7 := { stood := { row := screenClonesRow, standIns := [], harness := (true, "ad23e19dc3e4d4e57b210451b5d4e2af07af76e8991a8a0b34bbaddc0e40e072"), looks := false }, kinds := [], alts := [], laidByText := true, laidKinds := [.widerDeep, .widerDeep], laidTests := true, laidLooks := .later }
def ScreenClonesCardSaid : Prop := Claim7.holds Tryz.pinned (.plain (OpenSpec.ofChange screenClonesSpec)) screenClonesCard

/-- THE SECOND FORM's CARD OF 'tidewracklaw11.ScreenOff'. -/
def screenOffUptoCard : Claim7 := { stood := { row := screenOffUptoRow, standIns := [], harness := (true, "ad23e19dc3e4d4e57b210451b5d4e2af07af76e8991a8a0b34bbaddc0e40e072"), looks := false }, kinds := [], alts := [], laidByText := true, laidKinds := [.widerDeep, .widerDeep], laidTests := true, laidLooks := .later }
def ScreenOffUptoCardSaid : Prop := Claim7.holds Tryz.pinned (.plain (OpenSpec.upto screenOffSpec)) screenOffUptoCard

/-- THE SECOND FORM's CARD OF 'tidewracklaw11.ScreenSized'. -/
def screenSizedUptoCard : Claim7 := { stood := { row := screenSizedUptoRow, standIns := [], harness := (true, "ad23e19dc3e4d4e57b210451b5d4e2af07af76e8991a8a0b34bbaddc0e40e072"), looks := false }, kinds := [], alts := [], laidByText := true, laidKinds := [.widerDeep, .widerDeep], laidTests := true, laidLooks := .later }
def ScreenSizedUptoCardSaid : Prop := Claim7.holds Tryz.pinned (.plain (OpenSpec.upto screenSizedSpec)) screenSizedUptoCard

/-- THE SECOND FORM's CARD OF 'tidewracklaw11.ScreenBounds'. -/
def screenBoundsUptoCard : Claim7 := { stood := { row := screenBoundsUptoRow, standIns := [], harness := (true, "ad23e19dc3e4d4e57b210451b5d4e2af07af76e8991a8a0b34bbaddc0e40e072"), looks := false }, kinds := [], alts := [], laidByText := true, laidKinds := [.widerDeep, .widerDeep], laidTests := true, laidLooks := .later }
def ScreenBoundsUptoCardSaid : Prop := Claim7.holds Tryz.pinned (.plain (OpenSpec.upto screenBoundsSpec)) screenBoundsUptoCard

/-- THE SECOND FORM's CARD OF 'tidewracklaw11.ScreenAnew'. -/
def screenAnewUptoCard : Claim7 := { stood := { row := screenAnewUptoRow, standIns := [], harness := (true, "ad23e19dc3e4d4e57b210451b5d4e2af07af76e8991a8a0b34bbaddc0e40e072"), looks := false }, kinds := [], alts := [], laidByText := true, laidKinds := [.widerDeep, .widerDeep], laidTests := true, laidLooks := .later }
def ScreenAnewUptoCardSaid : Prop := Claim7.holds Tryz.pinned (.plain (OpenSpec.upto screenAnewSpec)) screenAnewUptoCard

/-- THE SECOND FORM's CARD OF 'tidewracklaw11.ScreenClones'. -/
def screenClonesUptoCard : Claim7 := { stood := { row := screenClonesUptoRow, standIns := [], harness := (true, "ad23e19dc3e4d4e57b210451b5d4e2af07af76e8991a8a0b34bbaddc0e40e072"), looks := false }, kinds := [], alts := [], laidByText := true, laidKinds := [.widerDeep, .widerDeep], laidTests := true, laidLooks := .later }
def ScreenClonesUptoCardSaid : Prop := Claim7.holds Tryz.pinned (.plain (OpenSpec.upto screenClonesSpec)) screenClonesUptoCard
end Rows
end Go.Proofs.YtncmjkhmhfmogaaGreatDoor

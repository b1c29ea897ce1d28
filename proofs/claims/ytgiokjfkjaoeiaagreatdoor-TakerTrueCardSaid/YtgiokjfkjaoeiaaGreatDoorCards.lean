/-
  DERIVED. GIVEN WITH THE SEED: THE CARDS: each row of YtgiokjfkjaoeiaaGreatDoorRows.lean that lists a variable, with what it lists TIED to the program's text (the seventh form; the later family's looks); each row that meets fmt, with fmt's text TOLD by the authors' own Lean function (tested against real Go, not proved from fmt's source: count such statements apart). THE CARD IS WHAT COUNTS. Prove the row's statement (the work); the ties are given (YtgiokjfkjaoeiaaGreatDoorTie.lean); close each card by the builder's one call (the guide's Derived/Test/ToyasCard.lean, 'card_holds'). Laid BY PROGRAM, IN A SANDBOX (cutbox-door.mjs). By AI agents, Wed Nov 11 2026. No macro, syntax, notation, axiom, sorry.
-/
import Derived.Test.YtgiokjfkjaoeiaaGreatDoorRows
import GoSem.ClaimSeven
namespace Go.Proofs.YtgiokjfkjaoeiaaGreatDoor
namespace Rows

/-- THE TIED CARD OF 'tidewracktop.TidewrackFollows'. -/
def tidewrackFollowsCard : Claim7 := { stood := { row := tidewrackFollowsRow, standIns := [], harness := (true, "67997b986c217c33da92565bf4d49e64b5ec3148f09f727aef1d28b105231e93"), looks := false }, kinds := [], alts := [], laidByText := true, laidKinds := [.data, .data, .widerDeep, .widerDeep], laidTests := true, laidLooks := .later }
def TidewrackFollowsCardSaid : Prop := Claim7.holds Tryz.pinned (.plain (OpenSpec.ofChange tidewrackFollowsSpec)) tidewrackFollowsCard

/-- THE TIED CARD OF 'tidewracklaw20.TakerOrder'. -/
def takerOrderCard : Claim7 := { stood := { row := takerOrderRow, standIns := [], harness := (true, "67997b986c217c33da92565bf4d49e64b5ec3148f09f727aef1d28b105231e93"), looks := false }, kinds := [], alts := [], laidByText := true, laidKinds := [.data, .data, .widerDeep, .widerDeep], laidTests := true, laidLooks := .later }
def TakerOrderCardSaid : Prop := Claim7.holds Tryz.pinned (.plain (OpenSpec.ofChange takerOrderSpec)) takerOrderCard

/-- THE TIED CARD OF 'tidewracklaw20.TakerTrue'. -/
def takerTrueCard : Claim7 := { stood := { row := takerTrueRow, standIns := [], harness := (true, "67997b986c217c33da92565bf4d49e64b5ec3148f09f727aef1d28b105231e93"), looks := false }, kinds := [], alts := [], laidByText := true, laidKinds := [.data, .data, .widerDeep, .widerDeep], laidTests := true, laidLooks := .later }
def TakerTrueCardSaid : Prop := Claim7.holds Tryz.pinned (.plain (OpenSpec.ofChange takerTrueSpec)) takerTrueCard

/-- THE TIED CARD OF 'tidewracklaw20.TakerWhole'. -/
def takerWholeCard : Claim7 := { stood := { row := takerWholeRow, standIns := [], harness := (true, "67997b986c217c33da92565bf4d49e64b5ec3148f09f727aef1d28b105231e93"), looks := false }, kinds := [], alts := [], laidByText := true, laidKinds := [.data, .data, .widerDeep, .widerDeep], laidTests := true, laidLooks := .later }
def TakerWholeCardSaid : Prop := Claim7.holds Tryz.pinned (.plain (OpenSpec.ofChange takerWholeSpec)) takerWholeCard

/-- THE SECOND FORM's CARD OF 'tidewracktop.TidewrackFollows'. -/
def tidewrackFollowsUptoCard : Claim7 := { stood := { row := tidewrackFollowsUptoRow, standIns := [], harness := (true, "67997b986c217c33da92565bf4d49e64b5ec3148f09f727aef1d28b105231e93"), looks := false }, kinds := [], alts := [], laidByText := true, laidKinds := [.data, .data, .widerDeep, .widerDeep], laidTests := true, laidLooks := .later }
def TidewrackFollowsUptoCardSaid : Prop := Claim7.holds Tryz.pinned (.plain (OpenSpec.upto tidewrackFollowsSpec)) tidewrackFollowsUptoCard

/-- THE SECOND FORM's CARD OF 'tidewracklaw20.TakerOrder'. -/
def takerOrderUptoCard : Claim7 := { stood := { row := takerOrderUptoRow, standIns := [], harness := (true, "67997b986c217c33da92565bf4d49e64b5ec3148f09f727aef1d28b105231e93"), looks := false }, kinds := [], alts := [], laidByText := true, laidKinds := [.data, .data, .widerDeep, .widerDeep], laidTests := true, laidLooks := .later }
def TakerOrderUptoCardSaid : Prop := Claim7.holds Tryz.pinned (.plain (OpenSpec.upto takerOrderSpec)) takerOrderUptoCard

/-- THE SECOND FORM's CARD OF 'tidewracklaw20.TakerTrue'. -/
def takerTrueUptoCard : Claim7 := { stood := { row := takerTrueUptoRow, standIns := [], harness := (true, "67997b986c217c33da92565bf4d49e64b5ec3148f09f727aef1d28b105231e93"), looks := false }, kinds := [], alts := [], laidByText := true, laidKinds := [.data, .data, .widerDeep, .widerDeep], laidTests := true, laidLooks := .later }
def TakerTrueUptoCardSaid : Prop := Claim7.holds Tryz.pinned (.plain (OpenSpec.upto takerTrueSpec)) takerTrueUptoCard

/-- THE SECOND FORM's CARD OF 'tidewracklaw20.TakerWhole'. -/
def takerWholeUptoCard : Claim7 := { stood := { row := takerWholeUptoRow, standIns := [], harness := (true, "67997b986c217c33da92565bf4d49e64b5ec3148f09f727aef1d28b105231e93"), looks := false }, kinds := [], alts := [], laidByText := true, laidKinds := [.data, .data, .widerDeep, .widerDeep], laidTests := true, laidLooks := .later }
def TakerWholeUptoCardSaid : Prop := Claim7.holds Tryz.pinned (.plain (OpenSpec.upto takerWholeSpec)) takerWholeUptoCard
end Rows
end Go.Proofs.YtgiokjfkjaoeiaaGreatDoor

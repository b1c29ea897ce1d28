/-
  DERIVED. GIVEN WITH THE SEED: THE CARDS: each row of YthecomompebjaaaGreatDoorRows.lean that lists a variable, with what it lists TIED to the program's text (the seventh form; the later family's looks); each row that meets fmt, with fmt's text TOLD by the authors' own Lean function (tested against real Go, not proved from fmt's source: count such statements apart). THE CARD IS WHAT COUNTS. Prove the row's statement (the work); the ties are given (YthecomompebjaaaGreatDoorTie.lean); close each card by the builder's one call (the guide's Derived/Test/ToyasCard.lean, 'card_holds'). Laid BY PROGRAM, IN A SANDBOX (cutbox-door.mjs). By AI agents, Wed Nov 11 2026. No macro, syntax, notation, axiom, sorry.
-/
import Derived.Test.YthecomompebjaaaGreatDoorRows
import GoSem.ClaimSeven
namespace Go.Proofs.YthecomompebjaaaGreatDoor
namespace Rows

/-- THE TIED CARD OF 'tidewracklaw22.ServerSays'. -/
def serverSaysCard : Claim7 := { stood := { row := serverSaysRow, standIns := [], harness := (true, "8a7c0013904d724d09e38344fda806888941bc043eaa5183f9ad3415e09f0e9f"), looks := false }, kinds := [], alts := [], laidByText := true, laidKinds := [.data, .data, .widerDeep, .widerDeep], laidTests := true, laidLooks := .later }
def ServerSaysCardSaid : Prop := Claim7.holds Tryz.pinned (.plain (OpenSpec.ofChange serverSaysSpec)) serverSaysCard

/-- THE TIED CARD OF 'tidewracklaw22.ServerPlays'. -/
def serverPlaysCard : Claim7 := { stood := { row := serverPlaysRow, standIns := [], harness := (true, "8a7c0013904d724d09e38344fda806888941bc043eaa5183f9ad3415e09f0e9f"), looks := false }, kinds := [], alts := [], laidByText := true, laidKinds := [.data, .data, .widerDeep, .widerDeep], laidTests := true, laidLooks := .later }
def ServerPlaysCardSaid : Prop := Claim7.holds Tryz.pinned (.plain (OpenSpec.ofChange serverPlaysSpec)) serverPlaysCard

/-- THE TIED CARD OF 'tidewracklaw22.ServerClones'. -/
def serverClonesCard : Claim7 := { stood := { row := serverClonesRow, standIns := [], harness := (true, "8a7c0013904d724d09e38344fda806888941bc043eaa5183f9ad3415e09f0e9f"), looks := false }, kinds := [], alts := [], laidByText := true, laidKinds := [.data, .data, .widerDeep, .widerDeep], laidTests := true, laidLooks := .later }
def ServerClonesCardSaid : Prop := Claim7.holds Tryz.pinned (.plain (OpenSpec.ofChange serverClonesSpec)) serverClonesCard

/-- THE TIED CARD OF 'tidewracklaw22.ServerRefuses'. -/
def serverRefusesCard : Claim7 := { stood := { row := serverRefusesRow, standIns := [], harness := (true, "8a7c0013904d724d09e38344fda806888941bc043eaa5183f9ad3415e09f0e9f"), looks := false }, kinds := [], alts := [], laidByText := true, laidKinds := [.data, .data, .widerDeep, .widerDeep], laidTests := true, laidLooks := .later }
def ServerRefusesCardSaid : Prop := Claim7.holds Tryz.pinned (.plain (OpenSpec.ofChange serverRefusesSpec)) serverRefusesCard

/-- THE SECOND FORM's CARD OF 'tidewracklaw22.ServerSays'. -/
def serverSaysUptoCard : Claim7 := { stood := { row := serverSaysUptoRow, standIns := [], harness := (true, "8a7c0013904d724d09e38344fda806888941bc043eaa5183f9ad3415e09f0e9f"), looks := false }, kinds := [], alts := [], laidByText := true, laidKinds := [.data, .data, .widerDeep, .widerDeep], laidTests := true, laidLooks := .later }
def ServerSaysUptoCardSaid : Prop := Claim7.holds Tryz.pinned (.plain (OpenSpec.upto serverSaysSpec)) serverSaysUptoCard

/-- THE SECOND FORM's CARD OF 'tidewracklaw22.ServerPlays'. -/
def serverPlaysUptoCard : Claim7 := { stood := { row := serverPlaysUptoRow, standIns := [], harness := (true, "8a7c0013904d724d09e38344fda806888941bc043eaa5183f9ad3415e09f0e9f"), looks := false }, kinds := [], alts := [], laidByText := true, laidKinds := [.data, .data, .widerDeep, .widerDeep], laidTests := true, laidLooks := .later }
def ServerPlaysUptoCardSaid : Prop := Claim7.holds Tryz.pinned (.plain (OpenSpec.upto serverPlaysSpec)) serverPlaysUptoCard

/-- THE SECOND FORM's CARD OF 'tidewracklaw22.ServerClones'. -/
def serverClonesUptoCard : Claim7 := { stood := { row := serverClonesUptoRow, standIns := [], harness := (true, "8a7c0013904d724d09e38344fda806888941bc043eaa5183f9ad3415e09f0e9f"), looks := false }, kinds := [], alts := [], laidByText := true, laidKinds := [.data, .data, .widerDeep, .widerDeep], laidTests := true, laidLooks := .later }
def ServerClonesUptoCardSaid : Prop := Claim7.holds Tryz.pinned (.plain (OpenSpec.upto serverClonesSpec)) serverClonesUptoCard

/-- THE SECOND FORM's CARD OF 'tidewracklaw22.ServerRefuses'. -/
def serverRefusesUptoCard : Claim7 := { stood := { row := serverRefusesUptoRow, standIns := [], harness := (true, "8a7c0013904d724d09e38344fda806888941bc043eaa5183f9ad3415e09f0e9f"), looks := false }, kinds := [], alts := [], laidByText := true, laidKinds := [.data, .data, .widerDeep, .widerDeep], laidTests := true, laidLooks := .later }
def ServerRefusesUptoCardSaid : Prop := Claim7.holds Tryz.pinned (.plain (OpenSpec.upto serverRefusesSpec)) serverRefusesUptoCard
end Rows
end Go.Proofs.YthecomompebjaaaGreatDoor

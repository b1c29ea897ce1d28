/-
  DERIVED. GIVEN WITH THE SEED: THE CARDS: each row of YtpopkbmeefaicaaDoorRows.lean that lists a variable, with what it lists TIED to the program's text (the seventh form; the later family's looks); each row that meets fmt, with fmt's text TOLD by the authors' own Lean function (tested against real Go, not proved from fmt's source: count such statements apart). THE CARD IS WHAT COUNTS. Prove the row's statement (the work); the ties are given (YtpopkbmeefaicaaDoorTie.lean); close each card by the builder's one call (the guide's Derived/Test/ToyasCard.lean, 'card_holds'). Laid BY PROGRAM, IN A SANDBOX (cutbox-door.mjs). By AI agents, Wed Nov 11 2026. No macro, syntax, notation, axiom, sorry.
-/
import Derived.Test.YtpopkbmeefaicaaDoorRows
import GoSem.ClaimSeven
namespace Go.Proofs.YtpopkbmeefaicaaDoor
namespace Rows

/-- THE TIED CARD OF 'tidewracklaw19.SenderRests'. -/
def senderRestsCard : Claim7 := { stood := { row := senderRestsRow, standIns := [], harness := (true, "bd0b9645cd9554ec9a36105290c4c2b6b03ed82b36e7014cc09d3ad08018fe67"), looks := false }, kinds := [], alts := [], laidByText := true, laidKinds := [.data], laidTests := true, laidLooks := .later }
def SenderRestsCardSaid : Prop := Claim7.holds Tryd.pinned (.plain (OpenSpec.ofChange senderRestsSpec)) senderRestsCard

/-- THE TIED CARD OF 'tidewracklaw19.SenderPlays'. -/
def senderPlaysCard : Claim7 := { stood := { row := senderPlaysRow, standIns := [], harness := (true, "bd0b9645cd9554ec9a36105290c4c2b6b03ed82b36e7014cc09d3ad08018fe67"), looks := false }, kinds := [], alts := [], laidByText := true, laidKinds := [.data], laidTests := true, laidLooks := .later }
def SenderPlaysCardSaid : Prop := Claim7.holds Tryd.pinned (.plain (OpenSpec.ofChange senderPlaysSpec)) senderPlaysCard

/-- THE TIED CARD OF 'tidewracklaw19.SenderLost'. -/
def senderLostCard : Claim7 := { stood := { row := senderLostRow, standIns := [], harness := (true, "bd0b9645cd9554ec9a36105290c4c2b6b03ed82b36e7014cc09d3ad08018fe67"), looks := false }, kinds := [], alts := [], laidByText := true, laidKinds := [.data], laidTests := true, laidLooks := .later }
def SenderLostCardSaid : Prop := Claim7.holds Tryd.pinned (.plain (OpenSpec.ofChange senderLostSpec)) senderLostCard

/-- THE TIED CARD OF 'tidewracklaw19.SenderMakes'. -/
def senderMakesCard : Claim7 := { stood := { row := senderMakesRow, standIns := [], harness := (true, "bd0b9645cd9554ec9a36105290c4c2b6b03ed82b36e7014cc09d3ad08018fe67"), looks := false }, kinds := [], alts := [], laidByText := true, laidKinds := [.data], laidTests := true, laidLooks := .later }
def SenderMakesCardSaid : Prop := Claim7.holds Tryd.pinned (.plain (OpenSpec.ofChange senderMakesSpec)) senderMakesCard

/-- THE SECOND FORM's CARD OF 'tidewracklaw19.SenderRests'. -/
def senderRestsUptoCard : Claim7 := { stood := { row := senderRestsUptoRow, standIns := [], harness := (true, "bd0b9645cd9554ec9a36105290c4c2b6b03ed82b36e7014cc09d3ad08018fe67"), looks := false }, kinds := [], alts := [], laidByText := true, laidKinds := [.data], laidTests := true, laidLooks := .later }
def SenderRestsUptoCardSaid : Prop := Claim7.holds Tryd.pinned (.plain (OpenSpec.upto senderRestsSpec)) senderRestsUptoCard

/-- THE SECOND FORM's CARD OF 'tidewracklaw19.SenderPlays'. -/
def senderPlaysUptoCard : Claim7 := { stood := { row := senderPlaysUptoRow, standIns := [], harness := (true, "bd0b9645cd9554ec9a36105290c4c2b6b03ed82b36e7014cc09d3ad08018fe67"), looks := false }, kinds := [], alts := [], laidByText := true, laidKinds := [.data], laidTests := true, laidLooks := .later }
def SenderPlaysUptoCardSaid : Prop := Claim7.holds Tryd.pinned (.plain (OpenSpec.upto senderPlaysSpec)) senderPlaysUptoCard

/-- THE SECOND FORM's CARD OF 'tidewracklaw19.SenderLost'. -/
def senderLostUptoCard : Claim7 := { stood := { row := senderLostUptoRow, standIns := [], harness := (true, "bd0b9645cd9554ec9a36105290c4c2b6b03ed82b36e7014cc09d3ad08018fe67"), looks := false }, kinds := [], alts := [], laidByText := true, laidKinds := [.data], laidTests := true, laidLooks := .later }
def SenderLostUptoCardSaid : Prop := Claim7.holds Tryd.pinned (.plain (OpenSpec.upto senderLostSpec)) senderLostUptoCard

/-- THE SECOND FORM's CARD OF 'tidewracklaw19.SenderMakes'. -/
def senderMakesUptoCard : Claim7 := { stood := { row := senderMakesUptoRow, standIns := [], harness := (true, "bd0b9645cd9554ec9a36105290c4c2b6b03ed82b36e7014cc09d3ad08018fe67"), looks := false }, kinds := [], alts := [], laidByText := true, laidKinds := [.data], laidTests := true, laidLooks := .later }
def SenderMakesUptoCardSaid : Prop := Claim7.holds Tryd.pinned (.plain (OpenSpec.upto senderMakesSpec)) senderMakesUptoCard
end Rows
end Go.Proofs.YtpopkbmeefaicaaDoor

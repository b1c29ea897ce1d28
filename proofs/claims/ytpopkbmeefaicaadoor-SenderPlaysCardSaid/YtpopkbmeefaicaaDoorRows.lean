/-
  NARROWER THAN 'FOR EVERY INPUT', by the rows' own cells (each row's printed sentence says how): SenderRests: laid · SenderPlays: laid · SenderLost: laid · SenderMakes: laid.
  DERIVED. THE GIVEN ROWS OF THIS SEAT. 4 by the template 'for every input the law returns true; each argument reads behind the call as it read before'; 0 by the template 'total and deterministic' (their statements: YtpopkbmeefaicaaDoorTotals.lean).
  GIVEN WITH THE SEED: the statements are not yours to turn. If you find one false, say at which input.
  Laid BY PROGRAM, IN A SANDBOX (cutbox-rows.mjs): the forced cells as the released guide's own fill.sh prints them over the translation 3d07bf37b5594e4d… (all of the seat's roots in one cut). By AI agents, Wed Nov 11 2026. No macro, syntax, notation, axiom, sorry.
-/
import Derived.Test.YtpopkbmeefaicaaDoorChecked
import GoSem.Claim
import GoSem.ClaimJoined
import GoSem.ClaimMapViews
import Derived.JoinedTies
import Derived.KernelRfl
namespace Go.Proofs.YtpopkbmeefaicaaDoor
/- THE CELL 'sum', in the pinned program and in every row, IS THE sha256 OF THE DUMP (.gsa) THAT YtpopkbmeefaicaaDoorProg.lean LOADS. Nothing in Lean hashes anything: it is a label: what it is worth is what the hold of that sum in a sandbox is worth. -/
noncomputable def Tryd.pinned : Pinned := { name := "ytpopkbmeefaicaadoor", sum := "3d07bf37b5594e4dca7940c22ea15b24ebe65455ec85923c07f12583685fa14e", checked := Tryd.checked }
namespace Rows
def none {H : Type} : Left H := { results := [], args := [] }

/- WHAT THE LISTED PACKAGE-LEVEL VARIABLES READ AS WHEN THE CALL BEGINS. Each datum BY PROGRAM (the guide's laid-datum.mjs) off the statement by which the dump's own 'gosem.cut.vars' lays the variable. In a bare row this is a premise. The card (YtpopkbmeefaicaaDoorCards.lean) ties it to the program's text. -/
def laid_tidewrack_sum_half {H : Type} : DataW H := .agg [.lit (.int .u32 0), .lit (.int .u32 498536548), .lit (.int .u32 997073096), .lit (.int .u32 651767980), .lit (.int .u32 1994146192), .lit (.int .u32 1802195444), .lit (.int .u32 1303535960), .lit (.int .u32 1342533948), .lit (.int .u32 3988292384), .lit (.int .u32 4027552580), .lit (.int .u32 3604390888), .lit (.int .u32 3412177804), .lit (.int .u32 2607071920), .lit (.int .u32 2262029012), .lit (.int .u32 2685067896), .lit (.int .u32 3183342108)]

/-- 'tidewracklaw19.SenderRests': WHATEVER THE INPUT: true; the input reads as it did. -/
def senderRestsSpec : ChangeSpec := { name := "senderRests", fn := fun _ => fun
  | [d1, d2, d3] => { results := [.lit (.bool true)], args := [d1, d2, d3] }
  | _ => none }
def senderRestsRow : OpenClaim := { program := "ytpopkbmeefaicaadoor", sum := "3d07bf37b5594e4dca7940c22ea15b24ebe65455ec85923c07f12583685fa14e", func := "tidewrack/tidewracklaw19.SenderRests", spec := "senderRests", unfollowed := true, recurses := true, named := ["tidewrack/sum.half"], apart := false, laid := [("tidewrack/sum.half", laid_tidewrack_sum_half)] }
def SenderRestsSaid : Prop := senderRestsRow.holds Tryd.pinned (OpenSpec.ofChange senderRestsSpec)

/-- ITS FALSE NEIGHBOUR: 'it returns false'. Refute it at one input. -/
def senderRestsWrong : ChangeSpec := { name := "senderRests", fn := fun _ => fun
  | [d1, d2, d3] => { results := [.lit (.bool false)], args := [d1, d2, d3] }
  | _ => none }
def SenderRestsWrongFalsely : Prop := senderRestsRow.holds Tryd.pinned (OpenSpec.ofChange senderRestsWrong)

/-- 'tidewracklaw19.SenderPlays': WHATEVER THE INPUT: true; the input reads as it did. -/
def senderPlaysSpec : ChangeSpec := { name := "senderPlays", fn := fun _ => fun
  | [d1, d2] => { results := [.lit (.bool true)], args := [d1, d2] }
  | _ => none }
def senderPlaysRow : OpenClaim := { program := "ytpopkbmeefaicaadoor", sum := "3d07bf37b5594e4dca7940c22ea15b24ebe65455ec85923c07f12583685fa14e", func := "tidewrack/tidewracklaw19.SenderPlays", spec := "senderPlays", unfollowed := true, recurses := true, named := ["tidewrack/sum.half"], apart := false, laid := [("tidewrack/sum.half", laid_tidewrack_sum_half)] }
def SenderPlaysSaid : Prop := senderPlaysRow.holds Tryd.pinned (OpenSpec.ofChange senderPlaysSpec)

/-- ITS FALSE NEIGHBOUR: 'it returns false'. Refute it at one input. -/
def senderPlaysWrong : ChangeSpec := { name := "senderPlays", fn := fun _ => fun
  | [d1, d2] => { results := [.lit (.bool false)], args := [d1, d2] }
  | _ => none }
def SenderPlaysWrongFalsely : Prop := senderPlaysRow.holds Tryd.pinned (OpenSpec.ofChange senderPlaysWrong)

/-- 'tidewracklaw19.SenderLost': WHATEVER THE INPUT: true; the input reads as it did. -/
def senderLostSpec : ChangeSpec := { name := "senderLost", fn := fun _ => fun
  | [d1, d2] => { results := [.lit (.bool true)], args := [d1, d2] }
  | _ => none }
def senderLostRow : OpenClaim := { program := "ytpopkbmeefaicaadoor", sum := "3d07bf37b5594e4dca7940c22ea15b24ebe65455ec85923c07f12583685fa14e", func := "tidewrack/tidewracklaw19.SenderLost", spec := "senderLost", unfollowed := true, recurses := true, named := ["tidewrack/sum.half"], apart := false, laid := [("tidewrack/sum.half", laid_tidewrack_sum_half)] }
def SenderLostSaid : Prop := senderLostRow.holds Tryd.pinned (OpenSpec.ofChange senderLostSpec)

/-- ITS FALSE NEIGHBOUR: 'it returns false'. Refute it at one input. -/
def senderLostWrong : ChangeSpec := { name := "senderLost", fn := fun _ => fun
  | [d1, d2] => { results := [.lit (.bool false)], args := [d1, d2] }
  | _ => none }
def SenderLostWrongFalsely : Prop := senderLostRow.holds Tryd.pinned (OpenSpec.ofChange senderLostWrong)

/-- 'tidewracklaw19.SenderMakes': WHATEVER THE INPUT: true; the input reads as it did. -/
def senderMakesSpec : ChangeSpec := { name := "senderMakes", fn := fun _ => fun
  | [d1, d2, d3] => { results := [.lit (.bool true)], args := [d1, d2, d3] }
  | _ => none }
def senderMakesRow : OpenClaim := { program := "ytpopkbmeefaicaadoor", sum := "3d07bf37b5594e4dca7940c22ea15b24ebe65455ec85923c07f12583685fa14e", func := "tidewrack/tidewracklaw19.SenderMakes", spec := "senderMakes", unfollowed := true, recurses := true, named := ["tidewrack/sum.half"], apart := false, laid := [("tidewrack/sum.half", laid_tidewrack_sum_half)] }
def SenderMakesSaid : Prop := senderMakesRow.holds Tryd.pinned (OpenSpec.ofChange senderMakesSpec)

/-- ITS FALSE NEIGHBOUR: 'it returns false'. Refute it at one input. -/
def senderMakesWrong : ChangeSpec := { name := "senderMakes", fn := fun _ => fun
  | [d1, d2, d3] => { results := [.lit (.bool false)], args := [d1, d2, d3] }
  | _ => none }
def SenderMakesWrongFalsely : Prop := senderMakesRow.holds Tryd.pinned (OpenSpec.ofChange senderMakesWrong)

/- THE SECOND FORM. 'bulk': how many values and letters a reading holds, each counted each time it is reached (what is shared counts as often as it is met; a slice's spare places count too). A statement '..UptoSaid' is the law's where the arguments, and the package variables that the reading takes, are together of bulk at most 1048576: NARROWER than '..Said'. Prove '..Said' where nothing that the law and all that it calls make is longer than what came in: it says more and counts as full. Else prove '..UptoSaid'. A law counts once. -/
mutual
def uptoBulk {H : Type} : DataW H → Nat
  | .lit (.string bytes) => bytes.length + 1
  | .lit _ => 1
  | .nil => 1
  | .ptr d => uptoBulk d + 1
  | .slice elems spare => uptoBulkAll elems + uptoBulkAll spare + 1
  | .agg parts => uptoBulkAll parts + 1
  | .iface _ d => uptoBulk d + 1
  | .map entries => uptoBulkEntries entries + 1
  | .held _ => 1
def uptoBulkAll {H : Type} : List (DataW H) → Nat
  | [] => 0
  | d :: r => uptoBulk d + uptoBulkAll r
def uptoBulkEntries {H : Type} : List (Lit × DataW H) → Nat
  | [] => 0
  | x :: r => uptoBulkEntry x + uptoBulkEntries r
def uptoBulkEntry {H : Type} : Lit × DataW H → Nat
  | (.string bytes, d) => bytes.length + uptoBulk d + 1
  | (_, d) => uptoBulk d + 1
 end
def uptoSmall : (H : Type) → List (DataW H) → Bool := fun _ ds => decide (uptoBulkAll ds ≤ 1048576)
def OpenSpec.upto (s : _root_.Go.ChangeSpec) : _root_.Go.OpenSpec := { _root_.Go.OpenSpec.ofChange s with cond := some uptoSmall }

/-- 'tidewracklaw19.SenderRests', WHERE WHAT IT READS IS OF BULK AT MOST 1048576: true; the input reads as it did. -/
def senderRestsUptoRow : OpenClaim := { program := "ytpopkbmeefaicaadoor", sum := "3d07bf37b5594e4dca7940c22ea15b24ebe65455ec85923c07f12583685fa14e", func := "tidewrack/tidewracklaw19.SenderRests", spec := "senderRests", unfollowed := true, recurses := true, named := ["tidewrack/sum.half"], apart := false, laid := [("tidewrack/sum.half", laid_tidewrack_sum_half)], narrowed := true }
def SenderRestsUptoSaid : Prop := senderRestsUptoRow.holds Tryd.pinned (OpenSpec.upto senderRestsSpec)

/-- 'tidewracklaw19.SenderPlays', WHERE WHAT IT READS IS OF BULK AT MOST 1048576: true; the input reads as it did. -/
def senderPlaysUptoRow : OpenClaim := { program := "ytpopkbmeefaicaadoor", sum := "3d07bf37b5594e4dca7940c22ea15b24ebe65455ec85923c07f12583685fa14e", func := "tidewrack/tidewracklaw19.SenderPlays", spec := "senderPlays", unfollowed := true, recurses := true, named := ["tidewrack/sum.half"], apart := false, laid := [("tidewrack/sum.half", laid_tidewrack_sum_half)], narrowed := true }
def SenderPlaysUptoSaid : Prop := senderPlaysUptoRow.holds Tryd.pinned (OpenSpec.upto senderPlaysSpec)

/-- 'tidewracklaw19.SenderLost', WHERE WHAT IT READS IS OF BULK AT MOST 1048576: true; the input reads as it did. -/
def senderLostUptoRow : OpenClaim := { program := "ytpopkbmeefaicaadoor", sum := "3d07bf37b5594e4dca7940c22ea15b24ebe65455ec85923c07f12583685fa14e", func := "tidewrack/tidewracklaw19.SenderLost", spec := "senderLost", unfollowed := true, recurses := true, named := ["tidewrack/sum.half"], apart := false, laid := [("tidewrack/sum.half", laid_tidewrack_sum_half)], narrowed := true }
def SenderLostUptoSaid : Prop := senderLostUptoRow.holds Tryd.pinned (OpenSpec.upto senderLostSpec)

/-- 'tidewracklaw19.SenderMakes', WHERE WHAT IT READS IS OF BULK AT MOST 1048576: true; the input reads as it did. -/
def senderMakesUptoRow : OpenClaim := { program := "ytpopkbmeefaicaadoor", sum := "3d07bf37b5594e4dca7940c22ea15b24ebe65455ec85923c07f12583685fa14e", func := "tidewrack/tidewracklaw19.SenderMakes", spec := "senderMakes", unfollowed := true, recurses := true, named := ["tidewrack/sum.half"], apart := false, laid := [("tidewrack/sum.half", laid_tidewrack_sum_half)], narrowed := true }
def SenderMakesUptoSaid : Prop := senderMakesUptoRow.holds Tryd.pinned (OpenSpec.upto senderMakesSpec)

end Rows
end Go.Proofs.YtpopkbmeefaicaaDoor

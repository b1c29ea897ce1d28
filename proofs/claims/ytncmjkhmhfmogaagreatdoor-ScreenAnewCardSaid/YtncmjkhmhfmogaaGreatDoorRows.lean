/-
  NARROWER THAN 'FOR EVERY INPUT', by the rows' own cells (each row's printed sentence says how): ScreenOff: laid · ScreenSized: laid · ScreenBounds: laid · ScreenAnew: laid · ScreenClones: laid.
  DERIVED. THE GIVEN ROWS OF THIS SEAT. 5 by the template 'for every input the law returns true; each argument reads behind the call as it read before'; 0 by the template 'total and deterministic' (their statements: YtncmjkhmhfmogaaGreatDoorTotals.lean).
  GIVEN WITH THE SEED: the statements are not yours to turn. If you find one false, say at which input.
  Laid BY PROGRAM, IN A SANDBOX (cutbox-rows.mjs): the forced cells as the released guide's own fill.sh prints them over the translation 3f7b62203a636e0d… (all of the seat's roots in one cut). By AI agents, Wed Nov 11 2026. No macro, syntax, notation, axiom, sorry.
-/
import Derived.Test.YtncmjkhmhfmogaaGreatDoorChecked
import GoSem.Claim
import GoSem.ClaimJoined
import GoSem.ClaimMapViews
import Derived.JoinedTies
import Derived.KernelRfl
namespace Go.Proofs.YtncmjkhmhfmogaaGreatDoor
/- THE CELL 'sum', in the pinned program and in every row, IS THE sha256 OF THE DUMP (.gsa) THAT YtncmjkhmhfmogaaGreatDoorProg.lean LOADS. Nothing in Lean hashes anything: it is a label: what it is worth is what the hold of that sum in a sandbox is worth. -/
noncomputable def Tryz.pinned : Pinned := { name := "ytncmjkhmhfmogaagreatdoor", sum := "3f7b62203a636e0d18d1e76bde8df28f13ac84c376e20fd9d58f948414564532", checked := Tryz.checked }
namespace Rows
def none {H : Type} : Left H := { results := [], args := [] }

/- WHAT THE LISTED PACKAGE-LEVEL VARIABLES READ AS WHEN THE CALL BEGINS. Each datum BY PROGRAM (the guide's laid-datum.mjs) off the statement by which the dump's own 'gosem.cut.vars' lays the variable. In a bare row this is a premise. The card (YtncmjkhmhfmogaaGreatDoorCards.lean) ties it to the program's text. -/
def laid_tidewrack_wide_twos {H : Type} : DataW H := .agg [.agg [.lit (.int .i32 4352), .lit (.int .i32 4447)], .agg [.lit (.int .i32 11904), .lit (.int .i32 12350)], .agg [.lit (.int .i32 12353), .lit (.int .i32 13311)], .agg [.lit (.int .i32 13312), .lit (.int .i32 19903)], .agg [.lit (.int .i32 19968), .lit (.int .i32 40959)], .agg [.lit (.int .i32 40960), .lit (.int .i32 42191)], .agg [.lit (.int .i32 44032), .lit (.int .i32 55203)], .agg [.lit (.int .i32 63744), .lit (.int .i32 64255)], .agg [.lit (.int .i32 65072), .lit (.int .i32 65135)], .agg [.lit (.int .i32 65280), .lit (.int .i32 65376)], .agg [.lit (.int .i32 65504), .lit (.int .i32 65510)], .agg [.lit (.int .i32 127744), .lit (.int .i32 128591)], .agg [.lit (.int .i32 129280), .lit (.int .i32 129535)], .agg [.lit (.int .i32 131072), .lit (.int .i32 262141)]]
def laid_tidewrack_wide_nones {H : Type} : DataW H := .agg [.agg [.lit (.int .i32 (-2147483648)), .lit (.int .i32 31)], .agg [.lit (.int .i32 127), .lit (.int .i32 159)], .agg [.lit (.int .i32 768), .lit (.int .i32 879)], .agg [.lit (.int .i32 6832), .lit (.int .i32 6911)], .agg [.lit (.int .i32 7616), .lit (.int .i32 7679)], .agg [.lit (.int .i32 8203), .lit (.int .i32 8207)], .agg [.lit (.int .i32 8400), .lit (.int .i32 8447)], .agg [.lit (.int .i32 55296), .lit (.int .i32 57343)], .agg [.lit (.int .i32 65024), .lit (.int .i32 65039)], .agg [.lit (.int .i32 65056), .lit (.int .i32 65071)], .agg [.lit (.int .i32 65279), .lit (.int .i32 65279)], .agg [.lit (.int .i32 917760), .lit (.int .i32 917999)], .agg [.lit (.int .i32 1114112), .lit (.int .i32 2147483647)]]

/-- 'tidewracklaw11.ScreenOff': WHATEVER THE INPUT: true; the input reads as it did. -/
def screenOffSpec : ChangeSpec := { name := "screenOff", fn := fun _ => fun
  | [d1, d2] => { results := [.lit (.bool true)], args := [d1, d2] }
  | _ => none }
def screenOffRow : OpenClaim := { program := "ytncmjkhmhfmogaagreatdoor", sum := "3f7b62203a636e0d18d1e76bde8df28f13ac84c376e20fd9d58f948414564532", func := "tidewrack/tidewracklaw11.ScreenOff", spec := "screenOff", unfollowed := true, recurses := true, named := ["tidewrack/wide.nones", "tidewrack/wide.twos"], apart := false, laid := [("tidewrack/wide.twos", laid_tidewrack_wide_twos), ("tidewrack/wide.nones", laid_tidewrack_wide_nones)] }
def ScreenOffSaid : Prop := screenOffRow.holds Tryz.pinned (OpenSpec.ofChange screenOffSpec)

/-- ITS FALSE NEIGHBOUR: 'it returns false'. Refute it at one input. -/
def screenOffWrong : ChangeSpec := { name := "screenOff", fn := fun _ => fun
  | [d1, d2] => { results := [.lit (.bool false)], args := [d1, d2] }
  | _ => none }
def ScreenOffWrongFalsely : Prop := screenOffRow.holds Tryz.pinned (OpenSpec.ofChange screenOffWrong)

/-- 'tidewracklaw11.ScreenSized': WHATEVER THE INPUT: true; the input reads as it did. -/
def screenSizedSpec : ChangeSpec := { name := "screenSized", fn := fun _ => fun
  | [d1, d2, d3] => { results := [.lit (.bool true)], args := [d1, d2, d3] }
  | _ => none }
def screenSizedRow : OpenClaim := { program := "ytncmjkhmhfmogaagreatdoor", sum := "3f7b62203a636e0d18d1e76bde8df28f13ac84c376e20fd9d58f948414564532", func := "tidewrack/tidewracklaw11.ScreenSized", spec := "screenSized", unfollowed := true, recurses := true, named := ["tidewrack/wide.nones", "tidewrack/wide.twos"], apart := false, laid := [("tidewrack/wide.twos", laid_tidewrack_wide_twos), ("tidewrack/wide.nones", laid_tidewrack_wide_nones)] }
def ScreenSizedSaid : Prop := screenSizedRow.holds Tryz.pinned (OpenSpec.ofChange screenSizedSpec)

/-- ITS FALSE NEIGHBOUR: 'it returns false'. Refute it at one input. -/
def screenSizedWrong : ChangeSpec := { name := "screenSized", fn := fun _ => fun
  | [d1, d2, d3] => { results := [.lit (.bool false)], args := [d1, d2, d3] }
  | _ => none }
def ScreenSizedWrongFalsely : Prop := screenSizedRow.holds Tryz.pinned (OpenSpec.ofChange screenSizedWrong)

/-- 'tidewracklaw11.ScreenBounds': WHATEVER THE INPUT: true; the input reads as it did. -/
def screenBoundsSpec : ChangeSpec := { name := "screenBounds", fn := fun _ => fun
  | [d1, d2, d3] => { results := [.lit (.bool true)], args := [d1, d2, d3] }
  | _ => none }
def screenBoundsRow : OpenClaim := { program := "ytncmjkhmhfmogaagreatdoor", sum := "3f7b62203a636e0d18d1e76bde8df28f13ac84c376e20fd9d58f948414564532", func := "tidewrack/tidewracklaw11.ScreenBounds", spec := "screenBounds", unfollowed := true, recurses := true, named := ["tidewrack/wide.nones", "tidewrack/wide.twos"], apart := false, laid := [("tidewrack/wide.twos", laid_tidewrack_wide_twos), ("tidewrack/wide.nones", laid_tidewrack_wide_nones)] }
def ScreenBoundsSaid : Prop := screenBoundsRow.holds Tryz.pinned (OpenSpec.ofChange screenBoundsSpec)

/-- ITS FALSE NEIGHBOUR: 'it returns false'. Refute it at one input. -/
def screenBoundsWrong : ChangeSpec := { name := "screenBounds", fn := fun _ => fun
  | [d1, d2, d3] => { results := [.lit (.bool false)], args := [d1, d2, d3] }
  | _ => none }
def ScreenBoundsWrongFalsely : Prop := screenBoundsRow.holds Tryz.pinned (OpenSpec.ofChange screenBoundsWrong)

/-- 'tidewracklaw11.ScreenAnew': WHATEVER THE INPUT: true; the input reads as it did. -/
def screenAnewSpec : ChangeSpec := { name := "screenAnew", fn := fun _ => fun
  | [d1, d2, d3] => { results := [.lit (.bool true)], args := [d1, d2, d3] }
  | _ => none }
def screenAnewRow : OpenClaim := { program := "ytncmjkhmhfmogaagreatdoor", sum := "3f7b62203a636e0d18d1e76bde8df28f13ac84c376e20fd9d58f948414564532", func := "tidewrack/tidewracklaw11.ScreenAnew", spec := "screenAnew", unfollowed := true, recurses := true, named := ["tidewrack/wide.nones", "tidewrack/wide.twos"], apart := false, laid := [("tidewrack/wide.twos", laid_tidewrack_wide_twos), ("tidewrack/wide.nones", laid_tidewrack_wide_nones)] }
def ScreenAnewSaid : Prop := screenAnewRow.holds Tryz.pinned (OpenSpec.ofChange screenAnewSpec)

/-- ITS FALSE NEIGHBOUR: 'it returns false'. Refute it at one input. -/
def screenAnewWrong : ChangeSpec := { name := "screenAnew", fn := fun _ => fun
  | [d1, d2, d3] => { results := [.lit (.bool false)], args := [d1, d2, d3] }
  | _ => none }
def ScreenAnewWrongFalsely : Prop := screenAnewRow.holds Tryz.pinned (OpenSpec.ofChange screenAnewWrong)

/-- 'tidewracklaw11.ScreenClones': WHATEVER THE INPUT: true; the input reads as it did. -/
def screenClonesSpec : ChangeSpec := { name := "screenClones", fn := fun _ => fun
  | [d1, d2] => { results := [.lit (.bool true)], args := [d1, d2] }
  | _ => none }
def screenClonesRow : OpenClaim := { program := "ytncmjkhmhfmogaagreatdoor", sum := "3f7b62203a636e0d18d1e76bde8df28f13ac84c376e20fd9d58f948414564532", func := "tidewrack/tidewracklaw11.ScreenClones", spec := "screenClones", unfollowed := true, recurses := true, named := ["tidewrack/wide.nones", "tidewrack/wide.twos"], apart := false, laid := [("tidewrack/wide.twos", laid_tidewrack_wide_twos), ("tidewrack/wide.nones", laid_tidewrack_wide_nones)] }
def ScreenClonesSaid : Prop := screenClonesRow.holds Tryz.pinned (OpenSpec.ofChange screenClonesSpec)

/-- ITS FALSE NEIGHBOUR: 'it returns false'. Refute it at one input. -/
def screenClonesWrong : ChangeSpec := { name := "screenClones", fn := fun _ => fun
  | [d1, d2] => { results := [.lit (.bool false)], args := [d1, d2] }
  | _ => none }
def ScreenClonesWrongFalsely : Prop := screenClonesRow.holds Tryz.pinned (OpenSpec.ofChange screenClonesWrong)

/- THE SECOND FORM. 'bulk': how many values and letters a reading holds, each counted each time it is reached (what is shared counts as often as it is met; a slice's spare places count too). A statement '..UptoSaid' is the law's where the arguments, and the package variables that the reading takes, are together of bulk at most 1048576: NARROWER than '..Said'. Prove '..Said' where nothing that the law and all that it calls make is longer than what came in: it says more and counts as full. Else prove '..UptoSaid'. A law counts once. -/
mutual
def uptoBulk {H : Type} : DataW H → Nat
  | .lit (.string bytes) => bytes.length + 1
  | .lit _ => 1
  | .nil => 1
  | .ptr d => uptoBulk d + 1
  | .slice elems spare => uptoBulkAll elems + uptoBulkAll spare + 1
  | .agg parts => uptoBulkAll parts + 1
  | .iface _ d => uptoBulk d + 1
  | .map entries => uptoBulkEntries entries + 1
  | .held _ => 1
def uptoBulkAll {H : Type} : List (DataW H) → Nat
  | [] => 0
  | d :: r => uptoBulk d + uptoBulkAll r
def uptoBulkEntries {H : Type} : List (Lit × DataW H) → Nat
  | [] => 0
  | x :: r => uptoBulkEntry x + uptoBulkEntries r
def uptoBulkEntry {H : Type} : Lit × DataW H → Nat
  | (.string bytes, d) => bytes.length + uptoBulk d + 1
  | (_, d) => uptoBulk d + 1
 end
def uptoSmall : (H : Type) → List (DataW H) → Bool := fun _ ds => decide (uptoBulkAll ds ≤ 1048576)
def OpenSpec.upto (s : _root_.Go.ChangeSpec) : _root_.Go.OpenSpec := { _root_.Go.OpenSpec.ofChange s with cond := some uptoSmall }

/-- 'tidewracklaw11.ScreenOff', WHERE WHAT IT READS IS OF BULK AT MOST 1048576: true; the input reads as it did. -/
def screenOffUptoRow : OpenClaim := { program := "ytncmjkhmhfmogaagreatdoor", sum := "3f7b62203a636e0d18d1e76bde8df28f13ac84c376e20fd9d58f948414564532", func := "tidewrack/tidewracklaw11.ScreenOff", spec := "screenOff", unfollowed := true, recurses := true, named := ["tidewrack/wide.nones", "tidewrack/wide.twos"], apart := false, laid := [("tidewrack/wide.twos", laid_tidewrack_wide_twos), ("tidewrack/wide.nones", laid_tidewrack_wide_nones)], narrowed := true }
def ScreenOffUptoSaid : Prop := screenOffUptoRow.holds Tryz.pinned (OpenSpec.upto screenOffSpec)

/-- 'tidewracklaw11.ScreenSized', WHERE WHAT IT READS IS OF BULK AT MOST 1048576: true; the input reads as it did. -/
def screenSizedUptoRow : OpenClaim := { program := "ytncmjkhmhfmogaagreatdoor", sum := "3f7b62203a636e0d18d1e76bde8df28f13ac84c376e20fd9d58f948414564532", func := "tidewrack/tidewracklaw11.ScreenSized", spec := "screenSized", unfollowed := true, recurses := true, named := ["tidewrack/wide.nones", "tidewrack/wide.twos"], apart := false, laid := [("tidewrack/wide.twos", laid_tidewrack_wide_twos), ("tidewrack/wide.nones", laid_tidewrack_wide_nones)], narrowed := true }
def ScreenSizedUptoSaid : Prop := screenSizedUptoRow.holds Tryz.pinned (OpenSpec.upto screenSizedSpec)

/-- 'tidewracklaw11.ScreenBounds', WHERE WHAT IT READS IS OF BULK AT MOST 1048576: true; the input reads as it did. -/
def screenBoundsUptoRow : OpenClaim := { program := "ytncmjkhmhfmogaagreatdoor", sum := "3f7b62203a636e0d18d1e76bde8df28f13ac84c376e20fd9d58f948414564532", func := "tidewrack/tidewracklaw11.ScreenBounds", spec := "screenBounds", unfollowed := true, recurses := true, named := ["tidewrack/wide.nones", "tidewrack/wide.twos"], apart := false, laid := [("tidewrack/wide.twos", laid_tidewrack_wide_twos), ("tidewrack/wide.nones", laid_tidewrack_wide_nones)], narrowed := true }
def ScreenBoundsUptoSaid : Prop := screenBoundsUptoRow.holds Tryz.pinned (OpenSpec.upto screenBoundsSpec)

/-- 'tidewracklaw11.ScreenAnew', WHERE WHAT IT READS IS OF BULK AT MOST 1048576: true; the input reads as it did. -/
def screenAnewUptoRow : OpenClaim := { program := "ytncmjkhmhfmogaagreatdoor", sum := "3f7b62203a636e0d18d1e76bde8df28f13ac84c376e20fd9d58f948414564532", func := "tidewrack/tidewracklaw11.ScreenAnew", spec := "screenAnew", unfollowed := true, recurses := true, named := ["tidewrack/wide.nones", "tidewrack/wide.twos"], apart := false, laid := [("tidewrack/wide.twos", laid_tidewrack_wide_twos), ("tidewrack/wide.nones", laid_tidewrack_wide_nones)], narrowed := true }
def ScreenAnewUptoSaid : Prop := screenAnewUptoRow.holds Tryz.pinned (OpenSpec.upto screenAnewSpec)

/-- 'tidewracklaw11.ScreenClones', WHERE WHAT IT READS IS OF BULK AT MOST 1048576: true; the input reads as it did. -/
def screenClonesUptoRow : OpenClaim := { program := "ytncmjkhmhfmogaagreatdoor", sum := "3f7b62203a636e0d18d1e76bde8df28f13ac84c376e20fd9d58f948414564532", func := "tidewrack/tidewracklaw11.ScreenClones", spec := "screenClones", unfollowed := true, recurses := true, named := ["tidewrack/wide.nones", "tidewrack/wide.twos"], apart := false, laid := [("tidewrack/wide.twos", laid_tidewrack_wide_twos), ("tidewrack/wide.nones", laid_tidewrack_wide_nones)], narrowed := true }
def ScreenClonesUptoSaid : Prop := screenClonesUptoRow.holds Tryz.pinned (OpenSpec.upto screenClonesSpec)

end Rows
end Go.Proofs.YtncmjkhmhfmogaaGreatDoor

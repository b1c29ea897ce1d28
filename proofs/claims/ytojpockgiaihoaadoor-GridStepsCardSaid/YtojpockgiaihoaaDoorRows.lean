/-
  NARROWER THAN 'FOR EVERY INPUT', by the rows' own cells (each row's printed sentence says how): RowPlays: laid · RowKeeps: laid · RowColumns: laid · RowLength: laid · GridPlays: laid · GridRows: laid · GridRegions: laid · GridSteps: laid · GridClones: laid.
  DERIVED. THE GIVEN ROWS OF THIS SEAT. 9 by the template 'for every input the law returns true; each argument reads behind the call as it read before'; 0 by the template 'total and deterministic' (their statements: YtojpockgiaihoaaDoorTotals.lean).
  GIVEN WITH THE SEED: the statements are not yours to turn. If you find one false, say at which input.
  Laid BY PROGRAM, IN A SANDBOX (cutbox-rows.mjs): the forced cells as the released guide's own fill.sh prints them over the translation de6eb623f1f267fb… (all of the seat's roots in one cut). By AI agents, Wed Nov 11 2026. No macro, syntax, notation, axiom, sorry.
-/
import Derived.Test.YtojpockgiaihoaaDoorChecked
import GoSem.Claim
import GoSem.ClaimJoined
import GoSem.ClaimMapViews
import Derived.JoinedTies
import Derived.KernelRfl
namespace Go.Proofs.YtojpockgiaihoaaDoor
/- THE CELL 'sum', in the pinned program and in every row, IS THE sha256 OF THE DUMP (.gsa) THAT YtojpockgiaihoaaDoorProg.lean LOADS. Nothing in Lean hashes anything: it is a label: what it is worth is what the hold of that sum in a sandbox is worth. -/
noncomputable def Tryd.pinned : Pinned := { name := "ytojpockgiaihoaadoor", sum := "de6eb623f1f267fbdf9b755ed2cf9fff1d3410a3e773e6c592b3cc4dcfcccc22", checked := Tryd.checked }
namespace Rows
def none {H : Type} : Left H := { results := [], args := [] }

/- WHAT THE LISTED PACKAGE-LEVEL VARIABLES READ AS WHEN THE CALL BEGINS. Each datum BY PROGRAM (the guide's laid-datum.mjs) off the statement by which the dump's own 'gosem.cut.vars' lays the variable. In a bare row this is a premise. The card (YtojpockgiaihoaaDoorCards.lean) ties it to the program's text. -/
def laid_tidewrack_wide_twos {H : Type} : DataW H := .agg [.agg [.lit (.int .i32 4352), .lit (.int .i32 4447)], .agg [.lit (.int .i32 11904), .lit (.int .i32 12350)], .agg [.lit (.int .i32 12353), .lit (.int .i32 13311)], .agg [.lit (.int .i32 13312), .lit (.int .i32 19903)], .agg [.lit (.int .i32 19968), .lit (.int .i32 40959)], .agg [.lit (.int .i32 40960), .lit (.int .i32 42191)], .agg [.lit (.int .i32 44032), .lit (.int .i32 55203)], .agg [.lit (.int .i32 63744), .lit (.int .i32 64255)], .agg [.lit (.int .i32 65072), .lit (.int .i32 65135)], .agg [.lit (.int .i32 65280), .lit (.int .i32 65376)], .agg [.lit (.int .i32 65504), .lit (.int .i32 65510)], .agg [.lit (.int .i32 127744), .lit (.int .i32 128591)], .agg [.lit (.int .i32 129280), .lit (.int .i32 129535)], .agg [.lit (.int .i32 131072), .lit (.int .i32 262141)]]
def laid_tidewrack_wide_nones {H : Type} : DataW H := .agg [.agg [.lit (.int .i32 (-2147483648)), .lit (.int .i32 31)], .agg [.lit (.int .i32 127), .lit (.int .i32 159)], .agg [.lit (.int .i32 768), .lit (.int .i32 879)], .agg [.lit (.int .i32 6832), .lit (.int .i32 6911)], .agg [.lit (.int .i32 7616), .lit (.int .i32 7679)], .agg [.lit (.int .i32 8203), .lit (.int .i32 8207)], .agg [.lit (.int .i32 8400), .lit (.int .i32 8447)], .agg [.lit (.int .i32 55296), .lit (.int .i32 57343)], .agg [.lit (.int .i32 65024), .lit (.int .i32 65039)], .agg [.lit (.int .i32 65056), .lit (.int .i32 65071)], .agg [.lit (.int .i32 65279), .lit (.int .i32 65279)], .agg [.lit (.int .i32 917760), .lit (.int .i32 917999)], .agg [.lit (.int .i32 1114112), .lit (.int .i32 2147483647)]]

/-- 'tidewracklaw09.RowPlays': WHATEVER THE INPUT: true; the input reads as it did. -/
def rowPlaysSpec : ChangeSpec := { name := "rowPlays", fn := fun _ => fun
  | [d1, d2, d3] => { results := [.lit (.bool true)], args := [d1, d2, d3] }
  | _ => none }
def rowPlaysRow : OpenClaim := { program := "ytojpockgiaihoaadoor", sum := "de6eb623f1f267fbdf9b755ed2cf9fff1d3410a3e773e6c592b3cc4dcfcccc22", func := "tidewrack/tidewracklaw09.RowPlays", spec := "rowPlays", named := ["tidewrack/wide.nones", "tidewrack/wide.twos"], apart := false, laid := [("tidewrack/wide.twos", laid_tidewrack_wide_twos), ("tidewrack/wide.nones", laid_tidewrack_wide_nones)] }
def RowPlaysSaid : Prop := rowPlaysRow.holds Tryd.pinned (OpenSpec.ofChange rowPlaysSpec)

/-- ITS FALSE NEIGHBOUR: 'it returns false'. Refute it at one input. -/
def rowPlaysWrong : ChangeSpec := { name := "rowPlays", fn := fun _ => fun
  | [d1, d2, d3] => { results := [.lit (.bool false)], args := [d1, d2, d3] }
  | _ => none }
def RowPlaysWrongFalsely : Prop := rowPlaysRow.holds Tryd.pinned (OpenSpec.ofChange rowPlaysWrong)

/-- 'tidewracklaw09.RowKeeps': WHATEVER THE INPUT: true; the input reads as it did. -/
def rowKeepsSpec : ChangeSpec := { name := "rowKeeps", fn := fun _ => fun
  | [d1, d2, d3] => { results := [.lit (.bool true)], args := [d1, d2, d3] }
  | _ => none }
def rowKeepsRow : OpenClaim := { program := "ytojpockgiaihoaadoor", sum := "de6eb623f1f267fbdf9b755ed2cf9fff1d3410a3e773e6c592b3cc4dcfcccc22", func := "tidewrack/tidewracklaw09.RowKeeps", spec := "rowKeeps", named := ["tidewrack/wide.nones", "tidewrack/wide.twos"], apart := false, laid := [("tidewrack/wide.twos", laid_tidewrack_wide_twos), ("tidewrack/wide.nones", laid_tidewrack_wide_nones)] }
def RowKeepsSaid : Prop := rowKeepsRow.holds Tryd.pinned (OpenSpec.ofChange rowKeepsSpec)

/-- ITS FALSE NEIGHBOUR: 'it returns false'. Refute it at one input. -/
def rowKeepsWrong : ChangeSpec := { name := "rowKeeps", fn := fun _ => fun
  | [d1, d2, d3] => { results := [.lit (.bool false)], args := [d1, d2, d3] }
  | _ => none }
def RowKeepsWrongFalsely : Prop := rowKeepsRow.holds Tryd.pinned (OpenSpec.ofChange rowKeepsWrong)

/-- 'tidewracklaw09.RowColumns': WHATEVER THE INPUT: true; the input reads as it did. -/
def rowColumnsSpec : ChangeSpec := { name := "rowColumns", fn := fun _ => fun
  | [d1, d2] => { results := [.lit (.bool true)], args := [d1, d2] }
  | _ => none }
def rowColumnsRow : OpenClaim := { program := "ytojpockgiaihoaadoor", sum := "de6eb623f1f267fbdf9b755ed2cf9fff1d3410a3e773e6c592b3cc4dcfcccc22", func := "tidewrack/tidewracklaw09.RowColumns", spec := "rowColumns", named := ["tidewrack/wide.nones", "tidewrack/wide.twos"], apart := false, laid := [("tidewrack/wide.twos", laid_tidewrack_wide_twos), ("tidewrack/wide.nones", laid_tidewrack_wide_nones)] }
def RowColumnsSaid : Prop := rowColumnsRow.holds Tryd.pinned (OpenSpec.ofChange rowColumnsSpec)

/-- ITS FALSE NEIGHBOUR: 'it returns false'. Refute it at one input. -/
def rowColumnsWrong : ChangeSpec := { name := "rowColumns", fn := fun _ => fun
  | [d1, d2] => { results := [.lit (.bool false)], args := [d1, d2] }
  | _ => none }
def RowColumnsWrongFalsely : Prop := rowColumnsRow.holds Tryd.pinned (OpenSpec.ofChange rowColumnsWrong)

/-- 'tidewracklaw09.RowLength': WHATEVER THE INPUT: true; the input reads as it did. -/
def rowLengthSpec : ChangeSpec := { name := "rowLength", fn := fun _ => fun
  | [d1, d2, d3] => { results := [.lit (.bool true)], args := [d1, d2, d3] }
  | _ => none }
def rowLengthRow : OpenClaim := { program := "ytojpockgiaihoaadoor", sum := "de6eb623f1f267fbdf9b755ed2cf9fff1d3410a3e773e6c592b3cc4dcfcccc22", func := "tidewrack/tidewracklaw09.RowLength", spec := "rowLength", named := ["tidewrack/wide.nones", "tidewrack/wide.twos"], apart := false, laid := [("tidewrack/wide.twos", laid_tidewrack_wide_twos), ("tidewrack/wide.nones", laid_tidewrack_wide_nones)] }
def RowLengthSaid : Prop := rowLengthRow.holds Tryd.pinned (OpenSpec.ofChange rowLengthSpec)

/-- ITS FALSE NEIGHBOUR: 'it returns false'. Refute it at one input. -/
def rowLengthWrong : ChangeSpec := { name := "rowLength", fn := fun _ => fun
  | [d1, d2, d3] => { results := [.lit (.bool false)], args := [d1, d2, d3] }
  | _ => none }
def RowLengthWrongFalsely : Prop := rowLengthRow.holds Tryd.pinned (OpenSpec.ofChange rowLengthWrong)

/-- 'tidewracklaw10.GridPlays': WHATEVER THE INPUT: true; the input reads as it did. -/
def gridPlaysSpec : ChangeSpec := { name := "gridPlays", fn := fun _ => fun
  | [d1, d2, d3] => { results := [.lit (.bool true)], args := [d1, d2, d3] }
  | _ => none }
def gridPlaysRow : OpenClaim := { program := "ytojpockgiaihoaadoor", sum := "de6eb623f1f267fbdf9b755ed2cf9fff1d3410a3e773e6c592b3cc4dcfcccc22", func := "tidewrack/tidewracklaw10.GridPlays", spec := "gridPlays", unfollowed := true, recurses := true, named := ["tidewrack/wide.nones", "tidewrack/wide.twos"], apart := false, laid := [("tidewrack/wide.twos", laid_tidewrack_wide_twos), ("tidewrack/wide.nones", laid_tidewrack_wide_nones)] }
def GridPlaysSaid : Prop := gridPlaysRow.holds Tryd.pinned (OpenSpec.ofChange gridPlaysSpec)

/-- ITS FALSE NEIGHBOUR: 'it returns false'. Refute it at one input. -/
def gridPlaysWrong : ChangeSpec := { name := "gridPlays", fn := fun _ => fun
  | [d1, d2, d3] => { results := [.lit (.bool false)], args := [d1, d2, d3] }
  | _ => none }
def GridPlaysWrongFalsely : Prop := gridPlaysRow.holds Tryd.pinned (OpenSpec.ofChange gridPlaysWrong)

/-- 'tidewracklaw10.GridRows': WHATEVER THE INPUT: true; the input reads as it did. -/
def gridRowsSpec : ChangeSpec := { name := "gridRows", fn := fun _ => fun
  | [d1, d2, d3] => { results := [.lit (.bool true)], args := [d1, d2, d3] }
  | _ => none }
def gridRowsRow : OpenClaim := { program := "ytojpockgiaihoaadoor", sum := "de6eb623f1f267fbdf9b755ed2cf9fff1d3410a3e773e6c592b3cc4dcfcccc22", func := "tidewrack/tidewracklaw10.GridRows", spec := "gridRows", unfollowed := true, recurses := true, named := ["tidewrack/wide.nones", "tidewrack/wide.twos"], apart := false, laid := [("tidewrack/wide.twos", laid_tidewrack_wide_twos), ("tidewrack/wide.nones", laid_tidewrack_wide_nones)] }
def GridRowsSaid : Prop := gridRowsRow.holds Tryd.pinned (OpenSpec.ofChange gridRowsSpec)

/-- ITS FALSE NEIGHBOUR: 'it returns false'. Refute it at one input. -/
def gridRowsWrong : ChangeSpec := { name := "gridRows", fn := fun _ => fun
  | [d1, d2, d3] => { results := [.lit (.bool false)], args := [d1, d2, d3] }
  | _ => none }
def GridRowsWrongFalsely : Prop := gridRowsRow.holds Tryd.pinned (OpenSpec.ofChange gridRowsWrong)

/-- 'tidewracklaw10.GridRegions': WHATEVER THE INPUT: true; the input reads as it did. -/
def gridRegionsSpec : ChangeSpec := { name := "gridRegions", fn := fun _ => fun
  | [d1, d2] => { results := [.lit (.bool true)], args := [d1, d2] }
  | _ => none }
def gridRegionsRow : OpenClaim := { program := "ytojpockgiaihoaadoor", sum := "de6eb623f1f267fbdf9b755ed2cf9fff1d3410a3e773e6c592b3cc4dcfcccc22", func := "tidewrack/tidewracklaw10.GridRegions", spec := "gridRegions", unfollowed := true, recurses := true, named := ["tidewrack/wide.nones", "tidewrack/wide.twos"], apart := false, laid := [("tidewrack/wide.twos", laid_tidewrack_wide_twos), ("tidewrack/wide.nones", laid_tidewrack_wide_nones)] }
def GridRegionsSaid : Prop := gridRegionsRow.holds Tryd.pinned (OpenSpec.ofChange gridRegionsSpec)

/-- ITS FALSE NEIGHBOUR: 'it returns false'. Refute it at one input. -/
def gridRegionsWrong : ChangeSpec := { name := "gridRegions", fn := fun _ => fun
  | [d1, d2] => { results := [.lit (.bool false)], args := [d1, d2] }
  | _ => none }
def GridRegionsWrongFalsely : Prop := gridRegionsRow.holds Tryd.pinned (OpenSpec.ofChange gridRegionsWrong)

/-- 'tidewracklaw10.GridSteps': WHATEVER THE INPUT: true; the input reads as it did. -/
def gridStepsSpec : ChangeSpec := { name := "gridSteps", fn := fun _ => fun
  | [d1, d2, d3] => { results := [.lit (.bool true)], args := [d1, d2, d3] }
  | _ => none }
def gridStepsRow : OpenClaim := { program := "ytojpockgiaihoaadoor", sum := "de6eb623f1f267fbdf9b755ed2cf9fff1d3410a3e773e6c592b3cc4dcfcccc22", func := "tidewrack/tidewracklaw10.GridSteps", spec := "gridSteps", unfollowed := true, recurses := true, named := ["tidewrack/wide.nones", "tidewrack/wide.twos"], apart := false, laid := [("tidewrack/wide.twos", laid_tidewrack_wide_twos), ("tidewrack/wide.nones", laid_tidewrack_wide_nones)] }
def GridStepsSaid : Prop := gridStepsRow.holds Tryd.pinned (OpenSpec.ofChange gridStepsSpec)

/-- ITS FALSE NEIGHBOUR: 'it returns false'. Refute it at one input. -/
def gridStepsWrong : ChangeSpec := { name := "gridSteps", fn := fun _ => fun
  | [d1, d2, d3] => { results := [.lit (.bool false)], args := [d1, d2, d3] }
  | _ => none }
def GridStepsWrongFalsely : Prop := gridStepsRow.holds Tryd.pinned (OpenSpec.ofChange gridStepsWrong)

/-- 'tidewracklaw10.GridClones': WHATEVER THE INPUT: true; the input reads as it did. -/
def gridClonesSpec : ChangeSpec := { name := "gridClones", fn := fun _ => fun
  | [d1, d2] => { results := [.lit (.bool true)], args := [d1, d2] }
  | _ => none }
def gridClonesRow : OpenClaim := { program := "ytojpockgiaihoaadoor", sum := "de6eb623f1f267fbdf9b755ed2cf9fff1d3410a3e773e6c592b3cc4dcfcccc22", func := "tidewrack/tidewracklaw10.GridClones", spec := "gridClones", unfollowed := true, recurses := true, named := ["tidewrack/wide.nones", "tidewrack/wide.twos"], apart := false, laid := [("tidewrack/wide.twos", laid_tidewrack_wide_twos), ("tidewrack/wide.nones", laid_tidewrack_wide_nones)] }
def GridClonesSaid : Prop := gridClonesRow.holds Tryd.pinned (OpenSpec.ofChange gridClonesSpec)

/-- ITS FALSE NEIGHBOUR: 'it returns false'. Refute it at one input. -/
def gridClonesWrong : ChangeSpec := { name := "gridClones", fn := fun _ => fun
  | [d1, d2] => { results := [.lit (.bool false)], args := [d1, d2] }
  | _ => none }
def GridClonesWrongFalsely : Prop := gridClonesRow.holds Tryd.pinned (OpenSpec.ofChange gridClonesWrong)

/- THE SECOND FORM. 'bulk': how many values and letters a reading holds, each counted each time it is reached (what is shared counts as often as it is met; a slice's spare places count too). A statement '..UptoSaid' is the law's where the arguments, and the package variables that the reading takes, are together of bulk at most 1048576: NARROWER than '..Said'. Prove '..Said' where nothing that the law and all that it calls make is longer than what came in: it says more and counts as full. Else prove '..UptoSaid'. A law counts once. -/
mutual
def uptoBulk {H : Type} : DataW H → Nat
  | .lit (.string bytes) => bytes.length + 1
  | .lit _ => 1
  | .nil => 1
  | .ptr d => uptoBulk d + 1
  | .slice elems spare => uptoBulkAll elems + uptoBulkAll spare + 1
  | .agg parts => uptoBulkAll parts + 1
  | .iface _ d => uptoBulk d + 1
  | .map entries => uptoBulkEntries entries + 1
  | .held _ => 1
def uptoBulkAll {H : Type} : List (DataW H) → Nat
  | [] => 0
  | d :: r => uptoBulk d + uptoBulkAll r
def uptoBulkEntries {H : Type} : List (Lit × DataW H) → Nat
  | [] => 0
  | x :: r => uptoBulkEntry x + uptoBulkEntries r
def uptoBulkEntry {H : Type} : Lit × DataW H → Nat
  | (.string bytes, d) => bytes.length + uptoBulk d + 1
  | (_, d) => uptoBulk d + 1
 end
def uptoSmall : (H : Type) → List (DataW H) → Bool := fun _ ds => decide (uptoBulkAll ds ≤ 1048576)
def OpenSpec.upto (s : _root_.Go.ChangeSpec) : _root_.Go.OpenSpec := { _root_.Go.OpenSpec.ofChange s with cond := some uptoSmall }

/-- 'tidewracklaw09.RowPlays', WHERE WHAT IT READS IS OF BULK AT MOST 1048576: true; the input reads as it did. -/
def rowPlaysUptoRow : OpenClaim := { program := "ytojpockgiaihoaadoor", sum := "de6eb623f1f267fbdf9b755ed2cf9fff1d3410a3e773e6c592b3cc4dcfcccc22", func := "tidewrack/tidewracklaw09.RowPlays", spec := "rowPlays", named := ["tidewrack/wide.nones", "tidewrack/wide.twos"], apart := false, laid := [("tidewrack/wide.twos", laid_tidewrack_wide_twos), ("tidewrack/wide.nones", laid_tidewrack_wide_nones)], narrowed := true }
def RowPlaysUptoSaid : Prop := rowPlaysUptoRow.holds Tryd.pinned (OpenSpec.upto rowPlaysSpec)

/-- 'tidewracklaw09.RowKeeps', WHERE WHAT IT READS IS OF BULK AT MOST 1048576: true; the input reads as it did. -/
def rowKeepsUptoRow : OpenClaim := { program := "ytojpockgiaihoaadoor", sum := "de6eb623f1f267fbdf9b755ed2cf9fff1d3410a3e773e6c592b3cc4dcfcccc22", func := "tidewrack/tidewracklaw09.RowKeeps", spec := "rowKeeps", named := ["tidewrack/wide.nones", "tidewrack/wide.twos"], apart := false, laid := [("tidewrack/wide.twos", laid_tidewrack_wide_twos), ("tidewrack/wide.nones", laid_tidewrack_wide_nones)], narrowed := true }
def RowKeepsUptoSaid : Prop := rowKeepsUptoRow.holds Tryd.pinned (OpenSpec.upto rowKeepsSpec)

/-- 'tidewracklaw09.RowColumns', WHERE WHAT IT READS IS OF BULK AT MOST 1048576: true; the input reads as it did. -/
def rowColumnsUptoRow : OpenClaim := { program := "ytojpockgiaihoaadoor", sum := "de6eb623f1f267fbdf9b755ed2cf9fff1d3410a3e773e6c592b3cc4dcfcccc22", func := "tidewrack/tidewracklaw09.RowColumns", spec := "rowColumns", named := ["tidewrack/wide.nones", "tidewrack/wide.twos"], apart := false, laid := [("tidewrack/wide.twos", laid_tidewrack_wide_twos), ("tidewrack/wide.nones", laid_tidewrack_wide_nones)], narrowed := true }
def RowColumnsUptoSaid : Prop := rowColumnsUptoRow.holds Tryd.pinned (OpenSpec.upto rowColumnsSpec)

/-- 'tidewracklaw09.RowLength', WHERE WHAT IT READS IS OF BULK AT MOST 1048576: true; the input reads as it did. -/
def rowLengthUptoRow : OpenClaim := { program := "ytojpockgiaihoaadoor", sum := "de6eb623f1f267fbdf9b755ed2cf9fff1d3410a3e773e6c592b3cc4dcfcccc22", func := "tidewrack/tidewracklaw09.RowLength", spec := "rowLength", named := ["tidewrack/wide.nones", "tidewrack/wide.twos"], apart := false, laid := [("tidewrack/wide.twos", laid_tidewrack_wide_twos), ("tidewrack/wide.nones", laid_tidewrack_wide_nones)], narrowed := true }
def RowLengthUptoSaid : Prop := rowLengthUptoRow.holds Tryd.pinned (OpenSpec.upto rowLengthSpec)

/-- 'tidewracklaw10.GridPlays', WHERE WHAT IT READS IS OF BULK AT MOST 1048576: true; the input reads as it did. -/
def gridPlaysUptoRow : OpenClaim := { program := "ytojpockgiaihoaadoor", sum := "de6eb623f1f267fbdf9b755ed2cf9fff1d3410a3e773e6c592b3cc4dcfcccc22", func := "tidewrack/tidewracklaw10.GridPlays", spec := "gridPlays", unfollowed := true, recurses := true, named := ["tidewrack/wide.nones", "tidewrack/wide.twos"], apart := false, laid := [("tidewrack/wide.twos", laid_tidewrack_wide_twos), ("tidewrack/wide.nones", laid_tidewrack_wide_nones)], narrowed := true }
def GridPlaysUptoSaid : Prop := gridPlaysUptoRow.holds Tryd.pinned (OpenSpec.upto gridPlaysSpec)

/-- 'tidewracklaw10.GridRows', WHERE WHAT IT READS IS OF BULK AT MOST 1048576: true; the input reads as it did. -/
def gridRowsUptoRow : OpenClaim := { program := "ytojpockgiaihoaadoor", sum := "de6eb623f1f267fbdf9b755ed2cf9fff1d3410a3e773e6c592b3cc4dcfcccc22", func := "tidewrack/tidewracklaw10.GridRows", spec := "gridRows", unfollowed := true, recurses := true, named := ["tidewrack/wide.nones", "tidewrack/wide.twos"], apart := false, laid := [("tidewrack/wide.twos", laid_tidewrack_wide_twos), ("tidewrack/wide.nones", laid_tidewrack_wide_nones)], narrowed := true }
def GridRowsUptoSaid : Prop := gridRowsUptoRow.holds Tryd.pinned (OpenSpec.upto gridRowsSpec)

/-- 'tidewracklaw10.GridRegions', WHERE WHAT IT READS IS OF BULK AT MOST 1048576: true; the input reads as it did. -/
def gridRegionsUptoRow : OpenClaim := { program := "ytojpockgiaihoaadoor", sum := "de6eb623f1f267fbdf9b755ed2cf9fff1d3410a3e773e6c592b3cc4dcfcccc22", func := "tidewrack/tidewracklaw10.GridRegions", spec := "gridRegions", unfollowed := true, recurses := true, named := ["tidewrack/wide.nones", "tidewrack/wide.twos"], apart := false, laid := [("tidewrack/wide.twos", laid_tidewrack_wide_twos), ("tidewrack/wide.nones", laid_tidewrack_wide_nones)], narrowed := true }
def GridRegionsUptoSaid : Prop := gridRegionsUptoRow.holds Tryd.pinned (OpenSpec.upto gridRegionsSpec)

/-- 'tidewracklaw10.GridSteps', WHERE WHAT IT READS IS OF BULK AT MOST 1048576: true; the input reads as it did. -/
def gridStepsUptoRow : OpenClaim := { program := "ytojpockgiaihoaadoor", sum := "de6eb623f1f267fbdf9b755ed2cf9fff1d3410a3e773e6c592b3cc4dcfcccc22", func := "tidewrack/tidewracklaw10.GridSteps", spec := "gridSteps", unfollowed := true, recurses := true, named := ["tidewrack/wide.nones", "tidewrack/wide.twos"], apart := false, laid := [("tidewrack/wide.twos", laid_tidewrack_wide_twos), ("tidewrack/wide.nones", laid_tidewrack_wide_nones)], narrowed := true }
def GridStepsUptoSaid : Prop := gridStepsUptoRow.holds Tryd.pinned (OpenSpec.upto gridStepsSpec)

/-- 'tidewracklaw10.GridClones', WHERE WHAT IT READS IS OF BULK AT MOST 1048576: true; the input reads as it did. -/
def gridClonesUptoRow : OpenClaim := { program := "ytojpockgiaihoaadoor", sum := "de6eb623f1f267fbdf9b755ed2cf9fff1d3410a3e773e6c592b3cc4dcfcccc22", func := "tidewrack/tidewracklaw10.GridClones", spec := "gridClones", unfollowed := true, recurses := true, named := ["tidewrack/wide.nones", "tidewrack/wide.twos"], apart := false, laid := [("tidewrack/wide.twos", laid_tidewrack_wide_twos), ("tidewrack/wide.nones", laid_tidewrack_wide_nones)], narrowed := true }
def GridClonesUptoSaid : Prop := gridClonesUptoRow.holds Tryd.pinned (OpenSpec.upto gridClonesSpec)

end Rows
end Go.Proofs.YtojpockgiaihoaaDoor

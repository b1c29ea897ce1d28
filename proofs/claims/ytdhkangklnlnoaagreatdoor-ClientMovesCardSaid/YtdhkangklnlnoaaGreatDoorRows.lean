/-
  NARROWER THAN 'FOR EVERY INPUT', by the rows' own cells (each row's printed sentence says how): ClientSays: laid · ClientRises: laid · ClientPlays: laid · ClientClones: laid · ClientMoves: laid.
  DERIVED. THE GIVEN ROWS OF THIS SEAT. 5 by the template 'for every input the law returns true; each argument reads behind the call as it read before'; 0 by the template 'total and deterministic' (their statements: YtdhkangklnlnoaaGreatDoorTotals.lean).
  GIVEN WITH THE SEED: the statements are not yours to turn. If you find one false, say at which input.
  Laid BY PROGRAM, IN A SANDBOX (cutbox-rows.mjs): the forced cells as the released guide's own fill.sh prints them over the translation e065bc789437e93d… (all of the seat's roots in one cut). By AI agents, Wed Nov 11 2026. No macro, syntax, notation, axiom, sorry.
-/
import Derived.Test.YtdhkangklnlnoaaGreatDoorChecked
import GoSem.Claim
import GoSem.ClaimJoined
import GoSem.ClaimMapViews
import Derived.JoinedTies
import Derived.KernelRfl
namespace Go.Proofs.YtdhkangklnlnoaaGreatDoor
/- THE CELL 'sum', in the pinned program and in every row, IS THE sha256 OF THE DUMP (.gsa) THAT YtdhkangklnlnoaaGreatDoorProg.lean LOADS. Nothing in Lean hashes anything: it is a label: what it is worth is what the hold of that sum in a sandbox is worth. -/
noncomputable def Tryz.pinned : Pinned := { name := "ytdhkangklnlnoaagreatdoor", sum := "e065bc789437e93dfe04040876dcb78e7ff9b3235e35ad47c75eb0574759b0d6", checked := Tryz.checked }
namespace Rows
def none {H : Type} : Left H := { results := [], args := [] }

/- WHAT THE LISTED PACKAGE-LEVEL VARIABLES READ AS WHEN THE CALL BEGINS. Each datum BY PROGRAM (the guide's laid-datum.mjs) off the statement by which the dump's own 'gosem.cut.vars' lays the variable. In a bare row this is a premise. The card (YtdhkangklnlnoaaGreatDoorCards.lean) ties it to the program's text. -/
def laid_tidewrack_sum_half {H : Type} : DataW H := .agg [.lit (.int .u32 0), .lit (.int .u32 498536548), .lit (.int .u32 997073096), .lit (.int .u32 651767980), .lit (.int .u32 1994146192), .lit (.int .u32 1802195444), .lit (.int .u32 1303535960), .lit (.int .u32 1342533948), .lit (.int .u32 3988292384), .lit (.int .u32 4027552580), .lit (.int .u32 3604390888), .lit (.int .u32 3412177804), .lit (.int .u32 2607071920), .lit (.int .u32 2262029012), .lit (.int .u32 2685067896), .lit (.int .u32 3183342108)]

/-- 'tidewracklaw23.ClientSays': WHATEVER THE INPUT: true; the input reads as it did. -/
def clientSaysSpec : ChangeSpec := { name := "clientSays", fn := fun _ => fun
  | [d1, d2] => { results := [.lit (.bool true)], args := [d1, d2] }
  | _ => none }
def clientSaysRow : OpenClaim := { program := "ytdhkangklnlnoaagreatdoor", sum := "e065bc789437e93dfe04040876dcb78e7ff9b3235e35ad47c75eb0574759b0d6", func := "tidewrack/tidewracklaw23.ClientSays", spec := "clientSays", inPlace := ["internal/abi.NoEscape"], unfollowed := true, recurses := true, named := ["tidewrack/sum.half"], apart := false, laid := [("tidewrack/sum.half", laid_tidewrack_sum_half)] }
def ClientSaysSaid : Prop := clientSaysRow.holds Tryz.pinned (OpenSpec.ofChange clientSaysSpec)

/-- ITS FALSE NEIGHBOUR: 'it returns false'. Refute it at one input. -/
def clientSaysWrong : ChangeSpec := { name := "clientSays", fn := fun _ => fun
  | [d1, d2] => { results := [.lit (.bool false)], args := [d1, d2] }
  | _ => none }
def ClientSaysWrongFalsely : Prop := clientSaysRow.holds Tryz.pinned (OpenSpec.ofChange clientSaysWrong)

/-- 'tidewracklaw23.ClientRises': WHATEVER THE INPUT: true; the input reads as it did. -/
def clientRisesSpec : ChangeSpec := { name := "clientRises", fn := fun _ => fun
  | [d] => { results := [.lit (.bool true)], args := [d] }
  | _ => none }
def clientRisesRow : OpenClaim := { program := "ytdhkangklnlnoaagreatdoor", sum := "e065bc789437e93dfe04040876dcb78e7ff9b3235e35ad47c75eb0574759b0d6", func := "tidewrack/tidewracklaw23.ClientRises", spec := "clientRises", inPlace := ["internal/abi.NoEscape"], unfollowed := true, recurses := true, named := ["tidewrack/sum.half"], apart := false, laid := [("tidewrack/sum.half", laid_tidewrack_sum_half)] }
def ClientRisesSaid : Prop := clientRisesRow.holds Tryz.pinned (OpenSpec.ofChange clientRisesSpec)

/-- ITS FALSE NEIGHBOUR: 'it returns false'. Refute it at one input. -/
def clientRisesWrong : ChangeSpec := { name := "clientRises", fn := fun _ => fun
  | [d] => { results := [.lit (.bool false)], args := [d] }
  | _ => none }
def ClientRisesWrongFalsely : Prop := clientRisesRow.holds Tryz.pinned (OpenSpec.ofChange clientRisesWrong)

/-- 'tidewracklaw23.ClientPlays': WHATEVER THE INPUT: true; the input reads as it did. -/
def clientPlaysSpec : ChangeSpec := { name := "clientPlays", fn := fun _ => fun
  | [d1, d2] => { results := [.lit (.bool true)], args := [d1, d2] }
  | _ => none }
def clientPlaysRow : OpenClaim := { program := "ytdhkangklnlnoaagreatdoor", sum := "e065bc789437e93dfe04040876dcb78e7ff9b3235e35ad47c75eb0574759b0d6", func := "tidewrack/tidewracklaw23.ClientPlays", spec := "clientPlays", inPlace := ["internal/abi.NoEscape"], unfollowed := true, recurses := true, named := ["tidewrack/sum.half"], apart := false, laid := [("tidewrack/sum.half", laid_tidewrack_sum_half)] }
def ClientPlaysSaid : Prop := clientPlaysRow.holds Tryz.pinned (OpenSpec.ofChange clientPlaysSpec)

/-- ITS FALSE NEIGHBOUR: 'it returns false'. Refute it at one input. -/
def clientPlaysWrong : ChangeSpec := { name := "clientPlays", fn := fun _ => fun
  | [d1, d2] => { results := [.lit (.bool false)], args := [d1, d2] }
  | _ => none }
def ClientPlaysWrongFalsely : Prop := clientPlaysRow.holds Tryz.pinned (OpenSpec.ofChange clientPlaysWrong)

/-- 'tidewracklaw23.ClientClones': WHATEVER THE INPUT: true; the input reads as it did. -/
def clientClonesSpec : ChangeSpec := { name := "clientClones", fn := fun _ => fun
  | [d1, d2] => { results := [.lit (.bool true)], args := [d1, d2] }
  | _ => none }
def clientClonesRow : OpenClaim := { program := "ytdhkangklnlnoaagreatdoor", sum := "e065bc789437e93dfe04040876dcb78e7ff9b3235e35ad47c75eb0574759b0d6", func := "tidewrack/tidewracklaw23.ClientClones", spec := "clientClones", inPlace := ["internal/abi.NoEscape", "maps.clone"], unfollowed := true, recurses := true, named := ["tidewrack/sum.half"], apart := false, laid := [("tidewrack/sum.half", laid_tidewrack_sum_half)] }
def ClientClonesSaid : Prop := clientClonesRow.holds Tryz.pinned (OpenSpec.ofChange clientClonesSpec)

/-- ITS FALSE NEIGHBOUR: 'it returns false'. Refute it at one input. -/
def clientClonesWrong : ChangeSpec := { name := "clientClones", fn := fun _ => fun
  | [d1, d2] => { results := [.lit (.bool false)], args := [d1, d2] }
  | _ => none }
def ClientClonesWrongFalsely : Prop := clientClonesRow.holds Tryz.pinned (OpenSpec.ofChange clientClonesWrong)

/-- 'tidewracklaw23.ClientMoves': WHATEVER THE INPUT: true; the input reads as it did. -/
def clientMovesSpec : ChangeSpec := { name := "clientMoves", fn := fun _ => fun
  | [d1, d2] => { results := [.lit (.bool true)], args := [d1, d2] }
  | _ => none }
def clientMovesRow : OpenClaim := { program := "ytdhkangklnlnoaagreatdoor", sum := "e065bc789437e93dfe04040876dcb78e7ff9b3235e35ad47c75eb0574759b0d6", func := "tidewrack/tidewracklaw23.ClientMoves", spec := "clientMoves", inPlace := ["internal/abi.NoEscape", "maps.clone"], unfollowed := true, recurses := true, named := ["tidewrack/sum.half"], apart := false, laid := [("tidewrack/sum.half", laid_tidewrack_sum_half)] }
def ClientMovesSaid : Prop := clientMovesRow.holds Tryz.pinned (OpenSpec.ofChange clientMovesSpec)

/-- ITS FALSE NEIGHBOUR: 'it returns false'. Refute it at one input. -/
def clientMovesWrong : ChangeSpec := { name := "clientMoves", fn := fun _ => fun
  | [d1, d2] => { results := [.lit (.bool false)], args := [d1, d2] }
  | _ => none }
def ClientMovesWrongFalsely : Prop := clientMovesRow.holds Tryz.pinned (OpenSpec.ofChange clientMovesWrong)

/- THE SECOND FORM. 'bulk': how many values and letters a reading holds, each counted each time it is reached (what is shared counts as often as it is met; a slice's spare places count too). A statement '..UptoSaid' is the law's where the arguments, and the package variables that the reading takes, are together of bulk at most 1048576: NARROWER than '..Said'. Prove '..Said' where nothing that the law and all that it calls make is longer than what came in: it says more and counts as full. Else prove '..UptoSaid'. A law counts once. -/
mutual
def uptoBulk {H : Type} : DataW H → Nat
  | .lit (.string bytes) => bytes.length + 1
  | .lit _ => 1
  | .nil => 1
  | .ptr d => uptoBulk d + 1
  | .slice elems spare => uptoBulkAll elems + uptoBulkAll spare + 1
  | .agg parts => uptoBulkAll parts + 1
  | .iface _ d => uptoBulk d + 1
  | .map entries => uptoBulkEntries entries + 1
  | .held _ => 1
def uptoBulkAll {H : Type} : List (DataW H) → Nat
  | [] => 0
  | d :: r => uptoBulk d + uptoBulkAll r
def uptoBulkEntries {H : Type} : List (Lit × DataW H) → Nat
  | [] => 0
  | x :: r => uptoBulkEntry x + uptoBulkEntries r
def uptoBulkEntry {H : Type} : Lit × DataW H → Nat
  | (.string bytes, d) => bytes.length + uptoBulk d + 1
  | (_, d) => uptoBulk d + 1
 end
def uptoSmall : (H : Type) → List (DataW H) → Bool := fun _ ds => decide (uptoBulkAll ds ≤ 1048576)
def OpenSpec.upto (s : _root_.Go.ChangeSpec) : _root_.Go.OpenSpec := { _root_.Go.OpenSpec.ofChange s with cond := some uptoSmall }

/-- 'tidewracklaw23.ClientSays', WHERE WHAT IT READS IS OF BULK AT MOST 1048576: true; the input reads as it did. -/
def clientSaysUptoRow : OpenClaim := { program := "ytdhkangklnlnoaagreatdoor", sum := "e065bc789437e93dfe04040876dcb78e7ff9b3235e35ad47c75eb0574759b0d6", func := "tidewrack/tidewracklaw23.ClientSays", spec := "clientSays", inPlace := ["internal/abi.NoEscape"], unfollowed := true, recurses := true, named := ["tidewrack/sum.half"], apart := false, laid := [("tidewrack/sum.half", laid_tidewrack_sum_half)], narrowed := true }
def ClientSaysUptoSaid : Prop := clientSaysUptoRow.holds Tryz.pinned (OpenSpec.upto clientSaysSpec)

/-- 'tidewracklaw23.ClientRises', WHERE WHAT IT READS IS OF BULK AT MOST 1048576: true; the input reads as it did. -/
def clientRisesUptoRow : OpenClaim := { program := "ytdhkangklnlnoaagreatdoor", sum := "e065bc789437e93dfe04040876dcb78e7ff9b3235e35ad47c75eb0574759b0d6", func := "tidewrack/tidewracklaw23.ClientRises", spec := "clientRises", inPlace := ["internal/abi.NoEscape"], unfollowed := true, recurses := true, named := ["tidewrack/sum.half"], apart := false, laid := [("tidewrack/sum.half", laid_tidewrack_sum_half)], narrowed := true }
def ClientRisesUptoSaid : Prop := clientRisesUptoRow.holds Tryz.pinned (OpenSpec.upto clientRisesSpec)

/-- 'tidewracklaw23.ClientPlays', WHERE WHAT IT READS IS OF BULK AT MOST 1048576: true; the input reads as it did. -/
def clientPlaysUptoRow : OpenClaim := { program := "ytdhkangklnlnoaagreatdoor", sum := "e065bc789437e93dfe04040876dcb78e7ff9b3235e35ad47c75eb0574759b0d6", func := "tidewrack/tidewracklaw23.ClientPlays", spec := "clientPlays", inPlace := ["internal/abi.NoEscape"], unfollowed := true, recurses := true, named := ["tidewrack/sum.half"], apart := false, laid := [("tidewrack/sum.half", laid_tidewrack_sum_half)], narrowed := true }
def ClientPlaysUptoSaid : Prop := clientPlaysUptoRow.holds Tryz.pinned (OpenSpec.upto clientPlaysSpec)

/-- 'tidewracklaw23.ClientClones', WHERE WHAT IT READS IS OF BULK AT MOST 1048576: true; the input reads as it did. -/
def clientClonesUptoRow : OpenClaim := { program := "ytdhkangklnlnoaagreatdoor", sum := "e065bc789437e93dfe04040876dcb78e7ff9b3235e35ad47c75eb0574759b0d6", func := "tidewrack/tidewracklaw23.ClientClones", spec := "clientClones", inPlace := ["internal/abi.NoEscape", "maps.clone"], unfollowed := true, recurses := true, named := ["tidewrack/sum.half"], apart := false, laid := [("tidewrack/sum.half", laid_tidewrack_sum_half)], narrowed := true }
def ClientClonesUptoSaid : Prop := clientClonesUptoRow.holds Tryz.pinned (OpenSpec.upto clientClonesSpec)

/-- 'tidewracklaw23.ClientMoves', WHERE WHAT IT READS IS OF BULK AT MOST 1048576: true; the input reads as it did. -/
def clientMovesUptoRow : OpenClaim := { program := "ytdhkangklnlnoaagreatdoor", sum := "e065bc789437e93dfe04040876dcb78e7ff9b3235e35ad47c75eb0574759b0d6", func := "tidewrack/tidewracklaw23.ClientMoves", spec := "clientMoves", inPlace := ["internal/abi.NoEscape", "maps.clone"], unfollowed := true, recurses := true, named := ["tidewrack/sum.half"], apart := false, laid := [("tidewrack/sum.half", laid_tidewrack_sum_half)], narrowed := true }
def ClientMovesUptoSaid : Prop := clientMovesUptoRow.holds Tryz.pinned (OpenSpec.upto clientMovesSpec)

end Rows
end Go.Proofs.YtdhkangklnlnoaaGreatDoor

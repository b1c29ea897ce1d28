/-
  No cell of these rows narrows 'for every input' (looked for: loops, veiled, ifaces, maps, wideKeys, modest, calm, conditions, laid).
  DERIVED. THE GIVEN ROWS OF THIS SEAT. 4 by the template 'for every input the law returns true; each argument reads behind the call as it read before'; 0 by the template 'total and deterministic' (their statements: YtkkapeoinhkncaaTotals.lean).
  GIVEN WITH THE SEED: the statements are not yours to turn. If you find one false, say at which input.
  Laid BY PROGRAM, IN A SANDBOX (cutbox-rows.mjs): the forced cells as the released guide's own fill.sh prints them over the translation 80f5a38a0ee0b848… (all of the seat's roots in one cut). By AI agents, Wed Nov 11 2026. No macro, syntax, notation, axiom, sorry.
-/
import Derived.Test.YtkkapeoinhkncaaChecked
import GoSem.Claim
import GoSem.ClaimJoined
import GoSem.ClaimMapViews
import Derived.JoinedTies
import Derived.KernelRfl
namespace Go.Proofs.Ytkkapeoinhkncaa
/- THE CELL 'sum', in the pinned program and in every row, IS THE sha256 OF THE DUMP (.gsa) THAT YtkkapeoinhkncaaProg.lean LOADS. Nothing in Lean hashes anything: it is a label: what it is worth is what the hold of that sum in a sandbox is worth. -/
noncomputable def Try.pinned : Pinned := { name := "ytkkapeoinhkncaa", sum := "80f5a38a0ee0b8482f0f9b5d1f32520b52817ad1545ea77c3695510b09e1d813", checked := Try.checked }
namespace Rows
def none {H : Type} : Left H := { results := [], args := [] }

/-- 'tidewracklaw16.SnapParses': WHATEVER THE INPUT: true; the input reads as it did. -/
def snapParsesSpec : ChangeSpec := { name := "snapParses", fn := fun _ => fun
  | [d] => { results := [.lit (.bool true)], args := [d] }
  | _ => none }
def snapParsesRow : OpenClaim := { program := "ytkkapeoinhkncaa", sum := "80f5a38a0ee0b8482f0f9b5d1f32520b52817ad1545ea77c3695510b09e1d813", func := "tidewrack/tidewracklaw16.SnapParses", spec := "snapParses", unfollowed := true, recurses := true, apart := false }
def SnapParsesSaid : Prop := snapParsesRow.holds Try.pinned (OpenSpec.ofChange snapParsesSpec)

/-- ITS FALSE NEIGHBOUR: 'it returns false'. Refute it at one input. -/
def snapParsesWrong : ChangeSpec := { name := "snapParses", fn := fun _ => fun
  | [d] => { results := [.lit (.bool false)], args := [d] }
  | _ => none }
def SnapParsesWrongFalsely : Prop := snapParsesRow.holds Try.pinned (OpenSpec.ofChange snapParsesWrong)

/-- 'tidewracklaw16.SnapApart': WHATEVER THE INPUT: true; the input reads as it did. -/
def snapApartSpec : ChangeSpec := { name := "snapApart", fn := fun _ => fun
  | [d1, d2] => { results := [.lit (.bool true)], args := [d1, d2] }
  | _ => none }
def snapApartRow : OpenClaim := { program := "ytkkapeoinhkncaa", sum := "80f5a38a0ee0b8482f0f9b5d1f32520b52817ad1545ea77c3695510b09e1d813", func := "tidewrack/tidewracklaw16.SnapApart", spec := "snapApart", unfollowed := true, recurses := true, apart := false }
def SnapApartSaid : Prop := snapApartRow.holds Try.pinned (OpenSpec.ofChange snapApartSpec)

/-- ITS FALSE NEIGHBOUR: 'it returns false'. Refute it at one input. -/
def snapApartWrong : ChangeSpec := { name := "snapApart", fn := fun _ => fun
  | [d1, d2] => { results := [.lit (.bool false)], args := [d1, d2] }
  | _ => none }
def SnapApartWrongFalsely : Prop := snapApartRow.holds Try.pinned (OpenSpec.ofChange snapApartWrong)

/-- 'tidewracklaw16.SnapClones': WHATEVER THE INPUT: true; the input reads as it did. -/
def snapClonesSpec : ChangeSpec := { name := "snapClones", fn := fun _ => fun
  | [d1, d2] => { results := [.lit (.bool true)], args := [d1, d2] }
  | _ => none }
def snapClonesRow : OpenClaim := { program := "ytkkapeoinhkncaa", sum := "80f5a38a0ee0b8482f0f9b5d1f32520b52817ad1545ea77c3695510b09e1d813", func := "tidewrack/tidewracklaw16.SnapClones", spec := "snapClones", unfollowed := true, recurses := true, apart := false }
def SnapClonesSaid : Prop := snapClonesRow.holds Try.pinned (OpenSpec.ofChange snapClonesSpec)

/-- ITS FALSE NEIGHBOUR: 'it returns false'. Refute it at one input. -/
def snapClonesWrong : ChangeSpec := { name := "snapClones", fn := fun _ => fun
  | [d1, d2] => { results := [.lit (.bool false)], args := [d1, d2] }
  | _ => none }
def SnapClonesWrongFalsely : Prop := snapClonesRow.holds Try.pinned (OpenSpec.ofChange snapClonesWrong)

/-- 'tidewracklaw16.SnapRows': WHATEVER THE INPUT: true; the input reads as it did. -/
def snapRowsSpec : ChangeSpec := { name := "snapRows", fn := fun _ => fun
  | [d1, d2] => { results := [.lit (.bool true)], args := [d1, d2] }
  | _ => none }
def snapRowsRow : OpenClaim := { program := "ytkkapeoinhkncaa", sum := "80f5a38a0ee0b8482f0f9b5d1f32520b52817ad1545ea77c3695510b09e1d813", func := "tidewrack/tidewracklaw16.SnapRows", spec := "snapRows", unfollowed := true, recurses := true, apart := false }
def SnapRowsSaid : Prop := snapRowsRow.holds Try.pinned (OpenSpec.ofChange snapRowsSpec)

/-- ITS FALSE NEIGHBOUR: 'it returns false'. Refute it at one input. -/
def snapRowsWrong : ChangeSpec := { name := "snapRows", fn := fun _ => fun
  | [d1, d2] => { results := [.lit (.bool false)], args := [d1, d2] }
  | _ => none }
def SnapRowsWrongFalsely : Prop := snapRowsRow.holds Try.pinned (OpenSpec.ofChange snapRowsWrong)

/- THE SECOND FORM. 'bulk': how many values and letters a reading holds, each counted each time it is reached (what is shared counts as often as it is met; a slice's spare places count too). A statement '..UptoSaid' is the law's where the arguments, and the package variables that the reading takes, are together of bulk at most 1048576: NARROWER than '..Said'. Prove '..Said' where nothing that the law and all that it calls make is longer than what came in: it says more and counts as full. Else prove '..UptoSaid'. A law counts once. -/
mutual
def uptoBulk {H : Type} : DataW H → Nat
  | .lit (.string bytes) => bytes.length + 1
  | .lit _ => 1
  | .nil => 1
  | .ptr d => uptoBulk d + 1
  | .slice elems spare => uptoBulkAll elems + uptoBulkAll spare + 1
  | .agg parts => uptoBulkAll parts + 1
  | .iface _ d => uptoBulk d + 1
  | .map entries => uptoBulkEntries entries + 1
  | .held _ => 1
def uptoBulkAll {H : Type} : List (DataW H) → Nat
  | [] => 0
  | d :: r => uptoBulk d + uptoBulkAll r
def uptoBulkEntries {H : Type} : List (Lit × DataW H) → Nat
  | [] => 0
  | x :: r => uptoBulkEntry x + uptoBulkEntries r
def uptoBulkEntry {H : Type} : Lit × DataW H → Nat
  | (.string bytes, d) => bytes.length + uptoBulk d + 1
  | (_, d) => uptoBulk d + 1
 end
def uptoSmall : (H : Type) → List (DataW H) → Bool := fun _ ds => decide (uptoBulkAll ds ≤ 1048576)
def OpenSpec.upto (s : _root_.Go.ChangeSpec) : _root_.Go.OpenSpec := { _root_.Go.OpenSpec.ofChange s with cond := some uptoSmall }

/-- 'tidewracklaw16.SnapParses', WHERE WHAT IT READS IS OF BULK AT MOST 1048576: true; the input reads as it did. -/
def snapParsesUptoRow : OpenClaim := { program := "ytkkapeoinhkncaa", sum := "80f5a38a0ee0b8482f0f9b5d1f32520b52817ad1545ea77c3695510b09e1d813", func := "tidewrack/tidewracklaw16.SnapParses", spec := "snapParses", unfollowed := true, recurses := true, apart := false, narrowed := true }
def SnapParsesUptoSaid : Prop := snapParsesUptoRow.holds Try.pinned (OpenSpec.upto snapParsesSpec)

/-- 'tidewracklaw16.SnapApart', WHERE WHAT IT READS IS OF BULK AT MOST 1048576: true; the input reads as it did. -/
def snapApartUptoRow : OpenClaim := { program := "ytkkapeoinhkncaa", sum := "80f5a38a0ee0b8482f0f9b5d1f32520b52817ad1545ea77c3695510b09e1d813", func := "tidewrack/tidewracklaw16.SnapApart", spec := "snapApart", unfollowed := true, recurses := true, apart := false, narrowed := true }
def SnapApartUptoSaid : Prop := snapApartUptoRow.holds Try.pinned (OpenSpec.upto snapApartSpec)

/-- 'tidewracklaw16.SnapClones', WHERE WHAT IT READS IS OF BULK AT MOST 1048576: true; the input reads as it did. -/
def snapClonesUptoRow : OpenClaim := { program := "ytkkapeoinhkncaa", sum := "80f5a38a0ee0b8482f0f9b5d1f32520b52817ad1545ea77c3695510b09e1d813", func := "tidewrack/tidewracklaw16.SnapClones", spec := "snapClones", unfollowed := true, recurses := true, apart := false, narrowed := true }
def SnapClonesUptoSaid : Prop := snapClonesUptoRow.holds Try.pinned (OpenSpec.upto snapClonesSpec)

/-- 'tidewracklaw16.SnapRows', WHERE WHAT IT READS IS OF BULK AT MOST 1048576: true; the input reads as it did. -/
def snapRowsUptoRow : OpenClaim := { program := "ytkkapeoinhkncaa", sum := "80f5a38a0ee0b8482f0f9b5d1f32520b52817ad1545ea77c3695510b09e1d813", func := "tidewrack/tidewracklaw16.SnapRows", spec := "snapRows", unfollowed := true, recurses := true, apart := false, narrowed := true }
def SnapRowsUptoSaid : Prop := snapRowsUptoRow.holds Try.pinned (OpenSpec.upto snapRowsSpec)

end Rows
end Go.Proofs.Ytkkapeoinhkncaa

/-
  NARROWER THAN 'FOR EVERY INPUT', by the rows' own cells (each row's printed sentence says how): ServerSays: laid · ServerPlays: laid · ServerClones: laid · ServerRefuses: laid.
  DERIVED. THE GIVEN ROWS OF THIS SEAT. 4 by the template 'for every input the law returns true; each argument reads behind the call as it read before'; 0 by the template 'total and deterministic' (their statements: YthecomompebjaaaGreatDoorTotals.lean).
  GIVEN WITH THE SEED: the statements are not yours to turn. If you find one false, say at which input.
  Laid BY PROGRAM, IN A SANDBOX (cutbox-rows.mjs): the forced cells as the released guide's own fill.sh prints them over the translation daa5fe414420dcd3… (all of the seat's roots in one cut). By AI agents, Wed Nov 11 2026. No macro, syntax, notation, axiom, sorry.
-/
import Derived.Test.YthecomompebjaaaGreatDoorChecked
import GoSem.Claim
import GoSem.ClaimJoined
import GoSem.ClaimMapViews
import Derived.JoinedTies
import Derived.KernelRfl
namespace Go.Proofs.YthecomompebjaaaGreatDoor
/- THE CELL 'sum', in the pinned program and in every row, IS THE sha256 OF THE DUMP (.gsa) THAT YthecomompebjaaaGreatDoorProg.lean LOADS. Nothing in Lean hashes anything: it is a label: what it is worth is what the hold of that sum in a sandbox is worth. -/
noncomputable def Tryz.pinned : Pinned := { name := "ythecomompebjaaagreatdoor", sum := "daa5fe414420dcd3531c5a21d654c5fd960e685485fb56c3bd5c8078ca97489a", checked := Tryz.checked }
namespace Rows
def none {H : Type} : Left H := { results := [], args := [] }

/- WHAT THE LISTED PACKAGE-LEVEL VARIABLES READ AS WHEN THE CALL BEGINS. Each datum BY PROGRAM (the guide's laid-datum.mjs) off the statement by which the dump's own 'gosem.cut.vars' lays the variable. In a bare row this is a premise. The card (YthecomompebjaaaGreatDoorCards.lean) ties it to the program's text. -/
def laid_tidewrack_glyph_leads {H : Type} : DataW H := .agg [.agg [.lit (.int .u8 194), .lit (.int .u8 223), .lit (.int .i64 1), .lit (.int .u8 128), .lit (.int .u8 191)], .agg [.lit (.int .u8 224), .lit (.int .u8 224), .lit (.int .i64 2), .lit (.int .u8 160), .lit (.int .u8 191)], .agg [.lit (.int .u8 225), .lit (.int .u8 236), .lit (.int .i64 2), .lit (.int .u8 128), .lit (.int .u8 191)], .agg [.lit (.int .u8 237), .lit (.int .u8 237), .lit (.int .i64 2), .lit (.int .u8 128), .lit (.int .u8 159)], .agg [.lit (.int .u8 238), .lit (.int .u8 239), .lit (.int .i64 2), .lit (.int .u8 128), .lit (.int .u8 191)], .agg [.lit (.int .u8 240), .lit (.int .u8 240), .lit (.int .i64 3), .lit (.int .u8 144), .lit (.int .u8 191)], .agg [.lit (.int .u8 241), .lit (.int .u8 243), .lit (.int .i64 3), .lit (.int .u8 128), .lit (.int .u8 191)], .agg [.lit (.int .u8 244), .lit (.int .u8 244), .lit (.int .i64 3), .lit (.int .u8 128), .lit (.int .u8 143)]]
def laid_tidewrack_sum_half {H : Type} : DataW H := .agg [.lit (.int .u32 0), .lit (.int .u32 498536548), .lit (.int .u32 997073096), .lit (.int .u32 651767980), .lit (.int .u32 1994146192), .lit (.int .u32 1802195444), .lit (.int .u32 1303535960), .lit (.int .u32 1342533948), .lit (.int .u32 3988292384), .lit (.int .u32 4027552580), .lit (.int .u32 3604390888), .lit (.int .u32 3412177804), .lit (.int .u32 2607071920), .lit (.int .u32 2262029012), .lit (.int .u32 2685067896), .lit (.int .u32 3183342108)]
def laid_tidewrack_wide_twos {H : Type} : DataW H := .agg [.agg [.lit (.int .i32 4352), .lit (.int .i32 4447)], .agg [.lit (.int .i32 11904), .lit (.int .i32 12350)], .agg [.lit (.int .i32 12353), .lit (.int .i32 13311)], .agg [.lit (.int .i32 13312), .lit (.int .i32 19903)], .agg [.lit (.int .i32 19968), .lit (.int .i32 40959)], .agg [.lit (.int .i32 40960), .lit (.int .i32 42191)], .agg [.lit (.int .i32 44032), .lit (.int .i32 55203)], .agg [.lit (.int .i32 63744), .lit (.int .i32 64255)], .agg [.lit (.int .i32 65072), .lit (.int .i32 65135)], .agg [.lit (.int .i32 65280), .lit (.int .i32 65376)], .agg [.lit (.int .i32 65504), .lit (.int .i32 65510)], .agg [.lit (.int .i32 127744), .lit (.int .i32 128591)], .agg [.lit (.int .i32 129280), .lit (.int .i32 129535)], .agg [.lit (.int .i32 131072), .lit (.int .i32 262141)]]
def laid_tidewrack_wide_nones {H : Type} : DataW H := .agg [.agg [.lit (.int .i32 (-2147483648)), .lit (.int .i32 31)], .agg [.lit (.int .i32 127), .lit (.int .i32 159)], .agg [.lit (.int .i32 768), .lit (.int .i32 879)], .agg [.lit (.int .i32 6832), .lit (.int .i32 6911)], .agg [.lit (.int .i32 7616), .lit (.int .i32 7679)], .agg [.lit (.int .i32 8203), .lit (.int .i32 8207)], .agg [.lit (.int .i32 8400), .lit (.int .i32 8447)], .agg [.lit (.int .i32 55296), .lit (.int .i32 57343)], .agg [.lit (.int .i32 65024), .lit (.int .i32 65039)], .agg [.lit (.int .i32 65056), .lit (.int .i32 65071)], .agg [.lit (.int .i32 65279), .lit (.int .i32 65279)], .agg [.lit (.int .i32 917760), .lit (.int .i32 917999)], .agg [.lit (.int .i32 1114112), .lit (.int .i32 2147483647)]]

/-- 'tidewracklaw22.ServerSays': WHATEVER THE INPUT: true; the input reads as it did. -/
def serverSaysSpec : ChangeSpec := { name := "serverSays", fn := fun _ => fun
  | [d1, d2] => { results := [.lit (.bool true)], args := [d1, d2] }
  | _ => none }
def serverSaysRow : OpenClaim := { program := "ythecomompebjaaagreatdoor", sum := "daa5fe414420dcd3531c5a21d654c5fd960e685485fb56c3bd5c8078ca97489a", func := "tidewrack/tidewracklaw22.ServerSays", spec := "serverSays", unfollowed := true, recurses := true, named := ["tidewrack/sum.half", "tidewrack/glyph.leads", "tidewrack/wide.nones", "tidewrack/wide.twos"], apart := false, laid := [("tidewrack/glyph.leads", laid_tidewrack_glyph_leads), ("tidewrack/sum.half", laid_tidewrack_sum_half), ("tidewrack/wide.twos", laid_tidewrack_wide_twos), ("tidewrack/wide.nones", laid_tidewrack_wide_nones)] }
def ServerSaysSaid : Prop := serverSaysRow.holds Tryz.pinned (OpenSpec.ofChange serverSaysSpec)

/-- ITS FALSE NEIGHBOUR: 'it returns false'. Refute it at one input. -/
def serverSaysWrong : ChangeSpec := { name := "serverSays", fn := fun _ => fun
  | [d1, d2] => { results := [.lit (.bool false)], args := [d1, d2] }
  | _ => none }
def ServerSaysWrongFalsely : Prop := serverSaysRow.holds Tryz.pinned (OpenSpec.ofChange serverSaysWrong)

/-- 'tidewracklaw22.ServerPlays': WHATEVER THE INPUT: true; the input reads as it did. -/
def serverPlaysSpec : ChangeSpec := { name := "serverPlays", fn := fun _ => fun
  | [d1, d2] => { results := [.lit (.bool true)], args := [d1, d2] }
  | _ => none }
def serverPlaysRow : OpenClaim := { program := "ythecomompebjaaagreatdoor", sum := "daa5fe414420dcd3531c5a21d654c5fd960e685485fb56c3bd5c8078ca97489a", func := "tidewrack/tidewracklaw22.ServerPlays", spec := "serverPlays", unfollowed := true, recurses := true, named := ["tidewrack/sum.half", "tidewrack/glyph.leads", "tidewrack/wide.nones", "tidewrack/wide.twos"], apart := false, laid := [("tidewrack/glyph.leads", laid_tidewrack_glyph_leads), ("tidewrack/sum.half", laid_tidewrack_sum_half), ("tidewrack/wide.twos", laid_tidewrack_wide_twos), ("tidewrack/wide.nones", laid_tidewrack_wide_nones)] }
def ServerPlaysSaid : Prop := serverPlaysRow.holds Tryz.pinned (OpenSpec.ofChange serverPlaysSpec)

/-- ITS FALSE NEIGHBOUR: 'it returns false'. Refute it at one input. -/
def serverPlaysWrong : ChangeSpec := { name := "serverPlays", fn := fun _ => fun
  | [d1, d2] => { results := [.lit (.bool false)], args := [d1, d2] }
  | _ => none }
def ServerPlaysWrongFalsely : Prop := serverPlaysRow.holds Tryz.pinned (OpenSpec.ofChange serverPlaysWrong)

/-- 'tidewracklaw22.ServerClones': WHATEVER THE INPUT: true; the input reads as it did. -/
def serverClonesSpec : ChangeSpec := { name := "serverClones", fn := fun _ => fun
  | [d1, d2] => { results := [.lit (.bool true)], args := [d1, d2] }
  | _ => none }
def serverClonesRow : OpenClaim := { program := "ythecomompebjaaagreatdoor", sum := "daa5fe414420dcd3531c5a21d654c5fd960e685485fb56c3bd5c8078ca97489a", func := "tidewrack/tidewracklaw22.ServerClones", spec := "serverClones", unfollowed := true, recurses := true, named := ["tidewrack/sum.half", "tidewrack/glyph.leads", "tidewrack/wide.nones", "tidewrack/wide.twos"], apart := false, laid := [("tidewrack/glyph.leads", laid_tidewrack_glyph_leads), ("tidewrack/sum.half", laid_tidewrack_sum_half), ("tidewrack/wide.twos", laid_tidewrack_wide_twos), ("tidewrack/wide.nones", laid_tidewrack_wide_nones)] }
def ServerClonesSaid : Prop := serverClonesRow.holds Tryz.pinned (OpenSpec.ofChange serverClonesSpec)

/-- ITS FALSE NEIGHBOUR: 'it returns false'. Refute it at one input. -/
def serverClonesWrong : ChangeSpec := { name := "serverClones", fn := fun _ => fun
  | [d1, d2] => { results := [.lit (.bool false)], args := [d1, d2] }
  | _ => none }
def ServerClonesWrongFalsely : Prop := serverClonesRow.holds Tryz.pinned (OpenSpec.ofChange serverClonesWrong)

/-- 'tidewracklaw22.ServerRefuses': WHATEVER THE INPUT: true; the input reads as it did. -/
def serverRefusesSpec : ChangeSpec := { name := "serverRefuses", fn := fun _ => fun
  | [d1, d2, d3] => { results := [.lit (.bool true)], args := [d1, d2, d3] }
  | _ => none }
def serverRefusesRow : OpenClaim := { program := "ythecomompebjaaagreatdoor", sum := "daa5fe414420dcd3531c5a21d654c5fd960e685485fb56c3bd5c8078ca97489a", func := "tidewrack/tidewracklaw22.ServerRefuses", spec := "serverRefuses", unfollowed := true, recurses := true, named := ["tidewrack/sum.half", "tidewrack/glyph.leads", "tidewrack/wide.nones", "tidewrack/wide.twos"], apart := false, laid := [("tidewrack/glyph.leads", laid_tidewrack_glyph_leads), ("tidewrack/sum.half", laid_tidewrack_sum_half), ("tidewrack/wide.twos", laid_tidewrack_wide_twos), ("tidewrack/wide.nones", laid_tidewrack_wide_nones)] }
def ServerRefusesSaid : Prop := serverRefusesRow.holds Tryz.pinned (OpenSpec.ofChange serverRefusesSpec)

/-- ITS FALSE NEIGHBOUR: 'it returns false'. Refute it at one input. -/
def serverRefusesWrong : ChangeSpec := { name := "serverRefuses", fn := fun _ => fun
  | [d1, d2, d3] => { results := [.lit (.bool false)], args := [d1, d2, d3] }
  | _ => none }
def ServerRefusesWrongFalsely : Prop := serverRefusesRow.holds Tryz.pinned (OpenSpec.ofChange serverRefusesWrong)

/- THE SECOND FORM. 'bulk': how many values and letters a reading holds, each counted each time it is reached (what is shared counts as often as it is met; a slice's spare places count too). A statement '..UptoSaid' is the law's where the arguments, and the package variables that the reading takes, are together of bulk at most 1048576: NARROWER than '..Said'. Prove '..Said' where nothing that the law and all that it calls make is longer than what came in: it says more and counts as full. Else prove '..UptoSaid'. A law counts once. -/
mutual
def uptoBulk {H : Type} : DataW H → Nat
  | .lit (.string bytes) => bytes.length + 1
  | .lit _ => 1
  | .nil => 1
  | .ptr d => uptoBulk d + 1
  | .slice elems spare => uptoBulkAll elems + uptoBulkAll spare + 1
  | .agg parts => uptoBulkAll parts + 1
  | .iface _ d => uptoBulk d + 1
  | .map entries => uptoBulkEntries entries + 1
  | .held _ => 1
def uptoBulkAll {H : Type} : List (DataW H) → Nat
  | [] => 0
  | d :: r => uptoBulk d + uptoBulkAll r
def uptoBulkEntries {H : Type} : List (Lit × DataW H) → Nat
  | [] => 0
  | x :: r => uptoBulkEntry x + uptoBulkEntries r
def uptoBulkEntry {H : Type} : Lit × DataW H → Nat
  | (.string bytes, d) => bytes.length + uptoBulk d + 1
  | (_, d) => uptoBulk d + 1
 end
def uptoSmall : (H : Type) → List (DataW H) → Bool := fun _ ds => decide (uptoBulkAll ds ≤ 1048576)
def OpenSpec.upto (s : _root_.Go.ChangeSpec) : _root_.Go.OpenSpec := { _root_.Go.OpenSpec.ofChange s with cond := some uptoSmall }

/-- 'tidewracklaw22.ServerSays', WHERE WHAT IT READS IS OF BULK AT MOST 1048576: true; the input reads as it did. -/
def serverSaysUptoRow : OpenClaim := { program := "ythecomompebjaaagreatdoor", sum := "daa5fe414420dcd3531c5a21d654c5fd960e685485fb56c3bd5c8078ca97489a", func := "tidewrack/tidewracklaw22.ServerSays", spec := "serverSays", unfollowed := true, recurses := true, named := ["tidewrack/sum.half", "tidewrack/glyph.leads", "tidewrack/wide.nones", "tidewrack/wide.twos"], apart := false, laid := [("tidewrack/glyph.leads", laid_tidewrack_glyph_leads), ("tidewrack/sum.half", laid_tidewrack_sum_half), ("tidewrack/wide.twos", laid_tidewrack_wide_twos), ("tidewrack/wide.nones", laid_tidewrack_wide_nones)], narrowed := true }
def ServerSaysUptoSaid : Prop := serverSaysUptoRow.holds Tryz.pinned (OpenSpec.upto serverSaysSpec)

/-- 'tidewracklaw22.ServerPlays', WHERE WHAT IT READS IS OF BULK AT MOST 1048576: true; the input reads as it did. -/
def serverPlaysUptoRow : OpenClaim := { program := "ythecomompebjaaagreatdoor", sum := "daa5fe414420dcd3531c5a21d654c5fd960e685485fb56c3bd5c8078ca97489a", func := "tidewrack/tidewracklaw22.ServerPlays", spec := "serverPlays", unfollowed := true, recurses := true, named := ["tidewrack/sum.half", "tidewrack/glyph.leads", "tidewrack/wide.nones", "tidewrack/wide.twos"], apart := false, laid := [("tidewrack/glyph.leads", laid_tidewrack_glyph_leads), ("tidewrack/sum.half", laid_tidewrack_sum_half), ("tidewrack/wide.twos", laid_tidewrack_wide_twos), ("tidewrack/wide.nones", laid_tidewrack_wide_nones)], narrowed := true }
def ServerPlaysUptoSaid : Prop := serverPlaysUptoRow.holds Tryz.pinned (OpenSpec.upto serverPlaysSpec)

/-- 'tidewracklaw22.ServerClones', WHERE WHAT IT READS IS OF BULK AT MOST 1048576: true; the input reads as it did. -/
def serverClonesUptoRow : OpenClaim := { program := "ythecomompebjaaagreatdoor", sum := "daa5fe414420dcd3531c5a21d654c5fd960e685485fb56c3bd5c8078ca97489a", func := "tidewrack/tidewracklaw22.ServerClones", spec := "serverClones", unfollowed := true, recurses := true, named := ["tidewrack/sum.half", "tidewrack/glyph.leads", "tidewrack/wide.nones", "tidewrack/wide.twos"], apart := false, laid := [("tidewrack/glyph.leads", laid_tidewrack_glyph_leads), ("tidewrack/sum.half", laid_tidewrack_sum_half), ("tidewrack/wide.twos", laid_tidewrack_wide_twos), ("tidewrack/wide.nones", laid_tidewrack_wide_nones)], narrowed := true }
def ServerClonesUptoSaid : Prop := serverClonesUptoRow.holds Tryz.pinned (OpenSpec.upto serverClonesSpec)

/-- 'tidewracklaw22.ServerRefuses', WHERE WHAT IT READS IS OF BULK AT MOST 1048576: true; the input reads as it did. -/
def serverRefusesUptoRow : OpenClaim := { program := "ythecomompebjaaagreatdoor", sum := "daa5fe414420dcd3531c5a21d654c5fd960e685485fb56c3bd5c8078ca97489a", func := "tidewrack/tidewracklaw22.ServerRefuses", spec := "serverRefuses", unfollowed := true, recurses := true, named := ["tidewrack/sum.half", "tidewrack/glyph.leads", "tidewrack/wide.nones", "tidewrack/wide.twos"], apart := false, laid := [("tidewrack/glyph.leads", laid_tidewrack_glyph_leads), ("tidewrack/sum.half", laid_tidewrack_sum_half), ("tidewrack/wide.twos", laid_tidewrack_wide_twos), ("tidewrack/wide.nones", laid_tidewrack_wide_nones)], narrowed := true }
def ServerRefusesUptoSaid : Prop := serverRefusesUptoRow.holds Tryz.pinned (OpenSpec.upto serverRefusesSpec)

end Rows
end Go.Proofs.YthecomompebjaaaGreatDoor

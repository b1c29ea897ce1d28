import Derived.Test.YtojpockgiaihoaaDoorFwA
import Derived.Test.YtojpockgiaihoaaDoorProg
import Derived.Test.YtojpockgiaihoaaDoorRwPure
set_option linter.unusedVariables false
set_option linter.unusedSimpArgs false
set_option maxRecDepth 10000
namespace Go.Tw.Rw
open Go Go.Tw
def tyLaw09Act : Ty Law09Act := ⟨5, Unit, fun x h => [.int .i64 x.kind, .int .i64 x.at_, .int .i64 x.n, .int .i64 x.style, .int .i32 x.rune], fun x h => [], fun _ _ => rfl, by simp [Value.oneCell']⟩
def tyRowCell : Ty RowCell := ⟨3, Unit, fun x h => [.int .i32 x.rune, .int .i64 x.style, .int .i64 x.part], fun x h => [], fun _ _ => rfl, by simp [Value.oneCell']⟩
def tyRowRow : Ty RowRow := ⟨2, (Option Addr × Nat), fun x h => [.slice h.1 x.cells.length h.2, .bool x.wrapped], fun x h => [Im.sl tyRowCell h.1 h.2 x.cells], fun _ _ => rfl, by simp [Value.oneCell']⟩
def tyRef09Cell : Ty Ref09Cell := ⟨3, Unit, fun x h => [.int .i64 x.rune, .int .i64 x.style, .int .i64 x.part], fun x h => [], fun _ _ => rfl, by simp [Value.oneCell']⟩
def tyRef09Row : Ty Ref09Row := ⟨2, (Option Addr × Nat), fun x h => [.slice h.1 x.l.length h.2, .bool x.wrapped], fun x h => [Im.sl tyRef09Cell h.1 h.2 x.l], fun _ _ => rfl, by simp [Value.oneCell']⟩
def tyRowGlyph : Ty RowGlyph := ⟨2, Unit, fun x h => [.int .i32 x.rune, .int .i64 x.style], fun x h => [], fun _ _ => rfl, by simp [Value.oneCell']⟩
def tyWideSpan : Ty WideSpan := ⟨2, Unit, fun x h => [.int .i32 x.from_, .int .i32 x.to], fun x h => [], fun _ _ => rfl, by simp [Value.oneCell']⟩
def tyArr2Int : Ty Arr2Int := ⟨2, Unit, fun x h => [.int .i64 x.e0, .int .i64 x.e1], fun x h => [], fun _ _ => rfl, by simp [Value.oneCell']⟩
def tab : Tab := [(3, ⟨.int .i64, 1, 8, [.int .i64 0], false, false⟩),
  (4, ⟨.bool, 1, 1, [.bool false], false, false⟩),
  (21, ⟨.int .i32, 1, 4, [.int .i32 0], false, false⟩),
  (22, ⟨.slice 35, 1, 24, [.slice none 0 0], false, false⟩),
  (24, ⟨.slice 80, 1, 24, [.slice none 0 0], false, false⟩),
  (26, ⟨.struct [(24, 0), (4, 1)], 2, 32, [.slice none 0 0, .bool false], true, false⟩),
  (28, ⟨.slice 84, 1, 24, [.slice none 0 0], false, false⟩),
  (30, ⟨.struct [(28, 0), (4, 1)], 2, 32, [.slice none 0 0, .bool false], true, false⟩),
  (35, ⟨.struct [(3, 0), (3, 1), (3, 2), (3, 3), (21, 4)], 5, 40, [.int .i64 0, .int .i64 0, .int .i64 0, .int .i64 0, .int .i32 0], true, false⟩),
  (42, ⟨.slice 45, 1, 24, [.slice none 0 0], false, false⟩),
  (45, ⟨.struct [(21, 0), (3, 1)], 2, 16, [.int .i32 0, .int .i64 0], true, false⟩),
  (80, ⟨.struct [(21, 0), (3, 1), (3, 2)], 3, 24, [.int .i32 0, .int .i64 0, .int .i64 0], true, true⟩),
  (84, ⟨.struct [(3, 0), (3, 1), (3, 2)], 3, 24, [.int .i64 0, .int .i64 0, .int .i64 0], true, true⟩),
  (90, ⟨.slice 92, 1, 24, [.slice none 0 0], false, false⟩),
  (92, ⟨.struct [(21, 0), (21, 1)], 2, 8, [.int .i32 0, .int .i32 0], true, false⟩),
  (93, ⟨.array 13 92, 26, 104, [.int .i32 0, .int .i32 0, .int .i32 0, .int .i32 0, .int .i32 0, .int .i32 0, .int .i32 0, .int .i32 0, .int .i32 0, .int .i32 0, .int .i32 0, .int .i32 0, .int .i32 0, .int .i32 0, .int .i32 0, .int .i32 0, .int .i32 0, .int .i32 0, .int .i32 0, .int .i32 0, .int .i32 0, .int .i32 0, .int .i32 0, .int .i32 0, .int .i32 0, .int .i32 0], true, false⟩),
  (94, ⟨.array 14 92, 28, 112, [.int .i32 0, .int .i32 0, .int .i32 0, .int .i32 0, .int .i32 0, .int .i32 0, .int .i32 0, .int .i32 0, .int .i32 0, .int .i32 0, .int .i32 0, .int .i32 0, .int .i32 0, .int .i32 0, .int .i32 0, .int .i32 0, .int .i32 0, .int .i32 0, .int .i32 0, .int .i32 0, .int .i32 0, .int .i32 0, .int .i32 0, .int .i32 0, .int .i32 0, .int .i32 0, .int .i32 0, .int .i32 0], true, false⟩),
  (121, ⟨.slice 24, 1, 24, [.slice none 0 0], false, false⟩),
  (130, ⟨.int .u64, 1, 8, [.int .u64 0], false, false⟩),
  (133, ⟨.array 2 3, 2, 16, [.int .i64 0, .int .i64 0], true, false⟩),
  (134, ⟨.slice 133, 1, 24, [.slice none 0 0], false, false⟩),
  (136, ⟨.int .u32, 1, 4, [.int .u32 0], false, false⟩),
  (139, ⟨.int .u64, 1, 8, [.int .u64 0], false, false⟩)]
theorem tab_ok : TabOk Go.Proofs.Tryd.prog tab := tabb_ok (by kernel_rfl)
noncomputable def G : Pg := ⟨Go.Proofs.Tryd.prog, tab, tab_ok⟩
theorem mo : G.P.follows .mixedOrders = true := by kernel_rfl
end Go.Tw.Rw

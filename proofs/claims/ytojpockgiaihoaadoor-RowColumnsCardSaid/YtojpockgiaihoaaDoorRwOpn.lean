import Derived.Test.YtojpockgiaihoaaDoorFwL
import Derived.Test.YtojpockgiaihoaaDoorRwBase
set_option linter.unusedVariables false
set_option linter.unusedSimpArgs false
set_option maxRecDepth 10000
namespace Go.Tw.Rw
open Go Go.Tw
theorem opn3 : Opn Go.Proofs.Tryd.prog 3 (Ty.int .i64) (inK .i64) := Opn.int (by kernel_rfl)
theorem opn21 : Opn Go.Proofs.Tryd.prog 21 (Ty.int .i32) (inK .i32) := Opn.int (by kernel_rfl)
theorem opn35 : Opn Go.Proofs.Tryd.prog 35 tyLaw09Act wfLaw09Act := Opn.to (fun y => ⟨y.1, y.2.1, y.2.2.1, y.2.2.2.1, y.2.2.2.2.1⟩) (fun h => ()) (Opn.struct (fs := [(3, 0), (3, 1), (3, 2), (3, 3), (21, 4)]) (by kernel_rfl) (by kernel_rfl) (.cons opn3 (by kernel_rfl) (.cons opn3 (by kernel_rfl) (.cons opn3 (by kernel_rfl) (.cons opn3 (by kernel_rfl) (.cons opn21 (by kernel_rfl) .nil)))))) (fun _ _ => rfl) (fun _ _ => rfl) (fun y h => h)
theorem opn22 : Opn Go.Proofs.Tryd.prog 22 (Ty.slice tyLaw09Act) (fun xs : List Law09Act => ∀ x ∈ xs, wfLaw09Act x) := Opn.slice (by kernel_rfl) opn35 (by kernel_rfl) (by decide)
theorem opn80 : Opn Go.Proofs.Tryd.prog 80 tyRowCell wfRowCell := Opn.to (fun y => ⟨y.1, y.2.1, y.2.2.1⟩) (fun h => ()) (Opn.struct (fs := [(21, 0), (3, 1), (3, 2)]) (by kernel_rfl) (by kernel_rfl) (.cons opn21 (by kernel_rfl) (.cons opn3 (by kernel_rfl) (.cons opn3 (by kernel_rfl) .nil)))) (fun _ _ => rfl) (fun _ _ => rfl) (fun y h => h)
theorem opn24 : Opn Go.Proofs.Tryd.prog 24 (Ty.slice tyRowCell) (fun xs : List RowCell => ∀ x ∈ xs, wfRowCell x) := Opn.slice (by kernel_rfl) opn80 (by kernel_rfl) (by decide)
theorem opn4 : Opn Go.Proofs.Tryd.prog 4 Ty.bool (fun _ => True) := Opn.bool (by kernel_rfl)
end Go.Tw.Rw

import Derived.Test.YtojpockgiaihoaaDoorFwA
set_option linter.unusedVariables false
set_option linter.unusedSimpArgs false
namespace Go.Tw
open Go
/-! ### words for the plain laws -/
theorem w64 {x : Int} (h1 : -9223372036854775808 ≤ x) (h2 : x ≤ 9223372036854775807) : IntKind.i64.wrap x = x := by rw [IntKind.wrap_i64]; omega
theorem idx_nat {α : Type} (xs : List α) (n : Nat) : idx xs (n : Int) = xs[n]? := by simp [idx]
theorem idx_zero {α : Type} (xs : List α) : idx xs 0 = xs[0]? := idx_nat xs 0
theorem idx_mid {α : Type} (l r : List α) (x : α) : idx (l ++ x :: r) (l.length : Int) = some x := by rw [idx_nat]; simp
theorem idx_neg {α : Type} (xs : List α) {i : Int} (h : i < 0) : idx xs i = none := by
  unfold idx
  rw [show decide (0 ≤ i) = false by simp; omega]
  rfl
theorem chk_true {p : Prop} [Decidable p] (h : p) : chk (decide p) = some () := by simp [chk, h]
theorem apok_true {n m b : Nat} (h : (n + m) * b ≤ 140737488355328) : chk (apok n m b) = some () := chk_true h
theorem cutok_true {lo hi n : Int} (h0 : 0 ≤ lo) (h1 : lo ≤ hi) (h2 : hi ≤ n) : chk (cutok lo hi n) = some () := chk_true ⟨h0, h1, h2⟩
theorem mkok_true {k : Int} {b : Nat} (h0 : 0 ≤ k) (h1 : k * b ≤ 140737488355328) (h2 : k ≤ 140737488355328) : chk (mkok k b) = some () := chk_true ⟨h0, h1, h2⟩
theorem gzok_true {k : Int} {b : Nat} (h0 : 0 < k) (h1 : k * b ≤ 140737488355328) (h2 : k ≤ 140737488355328) : chk (gzok k b) = some () := chk_true ⟨h0, h1, h2⟩
theorem bnd_some {α β : Type _} (x : α) (f : α → Option β) : Option.bind (some x) f = f x := rfl
/-- what stands last -/
def lastD {α : Type} (d : α) : List α → α
  | [] => d
  | [x] => x
  | _ :: y :: l => lastD d (y :: l)
theorem lastD_snoc {α : Type} (d x : α) : ∀ l : List α, lastD d (l ++ [x]) = x
  | [] => rfl
  | [y] => rfl
  | a :: b :: l => by
    show lastD d (b :: (l ++ [x])) = x
    exact lastD_snoc d x (b :: l)
theorem idx_last {α : Type} (l r : List α) (d x : α) (h : 0 < l.length) : idx (l ++ x :: r) ((l.length : Int) - 1) = some (lastD d l) := by
  have e : ((l.length : Int) - 1) = ((l.length - 1 : Nat) : Int) := by omega
  rw [e, idx_nat]
  have hl : l = l.take (l.length - 1) ++ [lastD d l] := by
    clear e
    induction l with
    | nil => simp at h
    | cons a t ih =>
      cases t with
      | nil => rfl
      | cons b t =>
        have := ih (by simp)
        simp only [List.length_cons, Nat.add_sub_cancel] at this ⊢
        rw [List.take_succ_cons, List.cons_append]
        congr 1
  rw [List.getElem?_append_left (by omega)]
  have h2 : (l.take (l.length - 1)).length = l.length - 1 := by rw [List.length_take]; omega
  conv => lhs; rw [hl]
  rw [List.getElem?_append_right (by simp)]
  simp
theorem idx_next {α : Type} (l r : List α) (x : α) : idx (l ++ x :: r) ((l.length : Int) + 1) = r[0]? := by
  have e : ((l.length : Int) + 1) = ((l.length + 1 : Nat) : Int) := by omega
  rw [e, idx_nat, List.getElem?_append_right (by omega)]
  have : l.length + 1 - l.length = 1 := by omega
  rw [this]
  simp
end Go.Tw

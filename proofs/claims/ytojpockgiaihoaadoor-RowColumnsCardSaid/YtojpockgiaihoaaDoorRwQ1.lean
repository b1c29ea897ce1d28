import Derived.Test.YtojpockgiaihoaaDoorRwPure
import Derived.Test.YtojpockgiaihoaaDoorFwP
set_option linter.unusedVariables false
set_option linter.unusedSimpArgs false
namespace Go.Tw.Rw
open Go Go.Tw
def tc (c : RowCell) : Ref09Cell := ⟨c.rune, c.style, c.part⟩
def told (r : RowRow) : Ref09Row := ⟨r.cells.map tc, r.wrapped⟩
def nextD (r : List RowCell) : Int := match r with
  | [] => 0
  | d :: _ => d.part
def badS (p : Int) (c : RowCell) (r : List RowCell) : Bool :=
  bif c.part == 1 then (nextD r != 2) else bif c.part == 2 then (p != 1) else bif c.part == 3 then !r.isEmpty else false
def fixS (p : Int) (c : RowCell) (r : List RowCell) : RowCell := bif badS p c r then ⟨32, c.style, 0⟩ else c
def mendS : Int → List RowCell → List RowCell
  | _, [] => []
  | p, c :: r => fixS p c r :: mendS (fixS p c r).part r
theorem mendS_length : ∀ (l : List RowCell) (p : Int), (mendS p l).length = l.length
  | [], _ => rfl
  | c :: r, p => by simp [mendS, mendS_length r]
def lastP (l : List RowCell) : Int := lastD 0 (l.map (·.part))
theorem lastP_snoc (l : List RowCell) (c : RowCell) : lastP (l ++ [c]) = c.part := by simp [lastP, lastD_snoc]
theorem lastD_map {α β : Type} (f : α → β) (d : α) : ∀ l : List α, lastD (f d) (l.map f) = f (lastD d l)
  | [] => rfl
  | [x] => rfl
  | _ :: y :: l => lastD_map f d (y :: l)
theorem blank_eq (s : Int) : p_row_blank s = some ⟨32, s, 0⟩ := rfl
theorem broken_eq (l r : List RowCell) (c : RowCell) (h : (l ++ c :: r).length ≤ 1000000) : p_row_broken (l ++ c :: r) (l.length : Int) = some (badS (lastP l) c r) := by
  have hl : (l ++ c :: r).length = l.length + r.length + 1 := by simp; omega
  unfold p_row_broken
  rw [idx_mid, bnd_some]
  rw [w64 (x := (l.length : Int) + 1) (by omega) (by omega), w64 (x := (l.length : Int) - 1) (by omega) (by omega), w64 (x := ((l ++ c :: r).length : Int) - 1) (by omega) (by omega), idx_next, hl]
  unfold badS
  cases h1 : (c.part == 1) with
  | true =>
    simp only [cond_true]
    cases r with
    | nil => simp [nextD]
    | cons d r =>
      have hd : decide ((l.length : Int) + 1 ≥ ((l.length + (d :: r).length + 1 : Nat) : Int)) = false := decide_eq_false (by simp only [List.length_cons]; omega)
      rw [hd]
      simp [nextD]
  | false =>
    simp only [cond_false]
    cases h2 : (c.part == 2) with
    | true =>
      simp only [cond_true]
      cases hl0 : l with
      | nil => simp [lastP, lastD]
      | cons a t =>
        have hne : (((a :: t).length : Int) == 0) = false := by simp; omega
        rw [hne, cond_false, idx_last (a :: t) r ⟨0, 0, 0⟩ c (by simp)]
        simp only [bnd_some]
        rw [lastP, ← lastD_map (fun c : RowCell => c.part) ⟨0, 0, 0⟩]
    | false =>
      simp only [cond_false]
      cases h3 : (c.part == 3) with
      | true =>
        simp only [cond_true]
        cases r with
        | nil => simp
        | cons d r => simp; omega
      | false => rfl
theorem mend_eq (l : List RowCell) (h : l.length ≤ 1000000) : p_row_mend l = some ⟨mendS 0 l, false⟩ := by
  unfold p_row_mend
  have key : ∀ (r d : List RowCell), (d ++ r).length = l.length → iter (σ := (List RowCell) × Int) (ρ := (List RowCell)) (fun s => (bif (decide (s.2 < (l.length : Int))) then (Option.bind ((Option.bind (p_row_broken s.1 s.2) fun r1 => (bif r1 then (Option.bind (idx s.1 s.2) fun x => (Option.bind (p_row_blank x.style) fun r2 => (Option.bind (idx s.1 s.2) fun _ => some (s.1.set s.2.toNat r2)))) else some s.1)) : Option (List RowCell)) fun e => some (.inl (e, (IntKind.i64.wrap (s.2 + 1))))) else some (.inr s.1))) (d ++ r, (d.length : Int)) = some (d ++ mendS (lastP d) r) := by
    intro r
    induction r with
    | nil =>
      intro d hd
      simp at hd
      rw [iter_inr (r := d)]
      · simp [mendS]
      · simp [hd]
    | cons c r ih =>
      intro d hd
      have hdl : d.length < l.length := by rw [← hd]; simp
      have hlen : (d ++ fixS (lastP d) c r :: r).length = l.length := by rw [← hd]; simp
      rw [iter_inl (s' := ((d ++ [fixS (lastP d) c r]) ++ r, ((d ++ [fixS (lastP d) c r]).length : Int)))]
      · rw [ih (d ++ [fixS (lastP d) c r]) (by simpa using hlen), lastP_snoc]
        simp [mendS]
      · have hc : decide ((d.length : Int) < (l.length : Int)) = true := by simp; omega
        simp only [hc, cond_true]
        rw [broken_eq d r c (by rw [hd]; exact h), idx_mid]
        simp only [bnd_some, blank_eq]
        rw [w64 (by omega) (by omega)]
        unfold fixS
        cases badS (lastP d) c r with
        | true => simp
        | false => simp
  have := key l [] (by simp)
  simp only [List.nil_append, List.length_nil, Int.ofNat_zero] at this
  rw [this]
  rfl
end Go.Tw.Rw

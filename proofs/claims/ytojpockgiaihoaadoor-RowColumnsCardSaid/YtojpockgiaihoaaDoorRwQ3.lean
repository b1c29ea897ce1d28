import Derived.Test.YtojpockgiaihoaaDoorRwQ2
set_option linter.unusedVariables false
set_option linter.unusedSimpArgs false
namespace Go.Tw.Rw
open Go Go.Tw
/-- where the first one lies whose end isn't below r -/
def cntS (r : Int) : List WideSpan → Nat
  | [] => 0
  | s :: l => if s.to < r then cntS r l + 1 else 0
def inS (l : List WideSpan) (r : Int) : Bool := l.any fun s => decide (s.from_ ≤ r ∧ r ≤ s.to)
/-- rising, and apart -/
def rising : List WideSpan → Bool
  | [] => true
  | [s] => true
  | s :: t :: l => decide (s.to < t.from_ ∧ t.from_ ≤ t.to) && rising (t :: l)
theorem cntS_le (r : Int) : ∀ l : List WideSpan, cntS r l ≤ l.length
  | [] => Nat.le_refl _
  | s :: l => by
    unfold cntS
    have := cntS_le r l
    split <;> simp <;> omega
theorem rising_tail {s : WideSpan} {l : List WideSpan} (h : rising (s :: l) = true) : rising l = true := by
  cases l with
  | nil => rfl
  | cons t l => simp only [rising, Bool.and_eq_true] at h; exact h.2
theorem rising_all {s : WideSpan} : ∀ {l : List WideSpan}, rising (s :: l) = true → ∀ t ∈ l, s.to < t.from_ ∧ t.from_ ≤ t.to
  | [], _, t, ht => by cases ht
  | u :: l, h, t, ht => by
    simp only [rising, Bool.and_eq_true, decide_eq_true_eq] at h
    rcases List.mem_cons.1 ht with rfl | ht
    · exact h.1
    · have := rising_all h.2 t ht
      have := h.1
      omega
theorem cntS_at (r : Int) : ∀ {l : List WideSpan}, rising l = true → ∀ (i : Nat) (s : WideSpan), l[i]? = some s → (s.to < r ↔ i < cntS r l)
  | [], _, i, s, h => by simp at h
  | u :: l, hr, i, s, h => by
    cases i with
    | zero =>
      simp at h
      subst h
      unfold cntS
      split <;> simp [*]
    | succ i =>
      simp at h
      have ih := cntS_at r (rising_tail hr) i s h
      unfold cntS
      split
      · rw [ih]; omega
      · have := rising_all hr s (List.mem_of_getElem? h)
        constructor
        · intro; omega
        · intro; omega
theorem inS_cnt (r : Int) : ∀ {l : List WideSpan}, rising l = true → inS l r = (match l[cntS r l]? with | some s => decide (s.from_ ≤ r) | none => false)
  | [], _ => rfl
  | u :: l, hr => by
    have ih := inS_cnt r (rising_tail hr)
    unfold inS at ih ⊢
    unfold cntS
    by_cases hu : u.to < r
    · rw [if_pos hu, List.any_cons, ih]
      have : decide (u.from_ ≤ r ∧ r ≤ u.to) = false := by simp; omega
      simp [this]
    · rw [if_neg hu, List.any_cons]
      simp only [List.getElem?_cons_zero]
      by_cases hf : u.from_ ≤ r
      · have : decide (u.from_ ≤ r ∧ r ≤ u.to) = true := by simp; omega
        rw [this, Bool.true_or]
        simp [hf]
      · have h1 : decide (u.from_ ≤ r ∧ r ≤ u.to) = false := by simp; omega
        have h2 : (l.any fun s => decide (s.from_ ≤ r ∧ r ≤ s.to)) = false := by
          rw [List.any_eq_false]
          intro t ht
          have := rising_all hr t ht
          simp
          omega
        rw [h1, h2]
        simp [hf]
theorem in_eq (l : List WideSpan) (r : Int) (hr : rising l = true) (hl : l.length ≤ 1000000) : p_wide_in l r = some (inS l r) := by
  unfold p_wide_in
  have key : ∀ m lo hi, hi - lo = m → lo ≤ cntS r l → cntS r l ≤ hi → hi ≤ l.length → iter (σ := Int × Int) (ρ := Int) (fun s39 => (bif (decide (s39.1 < s39.2)) then (Option.bind (idx l (IntKind.i64.wrap ((IntKind.i64.wrap (s39.1 + s39.2)).tdiv 2))) fun x64 => (bif (decide (x64.to < r)) then some (.inl ((IntKind.i64.wrap ((IntKind.i64.wrap ((IntKind.i64.wrap (s39.1 + s39.2)).tdiv 2)) + 1)), s39.2)) else some (.inl (s39.1, (IntKind.i64.wrap ((IntKind.i64.wrap (s39.1 + s39.2)).tdiv 2)))))) else some (.inr s39.1))) ((lo : Int), (hi : Int)) = some ((cntS r l : Nat) : Int) := by
    intro m
    induction m using Nat.strongRecOn with
    | _ m ih =>
      intro lo hi hm h1 h2 h3
      by_cases hlt : lo < hi
      · have e : (IntKind.i64.wrap ((IntKind.i64.wrap ((lo : Int) + (hi : Int))).tdiv 2)) = (((lo + hi) / 2 : Nat) : Int) := by
          rw [w64 (x := (lo : Int) + (hi : Int)) (by omega) (by omega)]
          have e1 : ((lo : Int) + (hi : Int)).tdiv 2 = (((lo + hi) / 2 : Nat) : Int) := by
            rw [Int.tdiv_eq_ediv_of_nonneg (by omega)]
            omega
          rw [e1, w64 (by omega) (by omega)]
        have hmid : (lo + hi) / 2 < l.length := by omega
        have hc : decide ((lo : Int) < (hi : Int)) = true := by simp; omega
        have hx : idx l (((lo + hi) / 2 : Nat) : Int) = some l[(lo + hi) / 2] := by rw [idx_nat]; simp [hmid]
        have hat := cntS_at r hr ((lo + hi) / 2) l[(lo + hi) / 2] (by simp [hmid])
        by_cases hto : (l[(lo + hi) / 2]).to < r
        · rw [iter_inl (s' := ((((lo + hi) / 2 + 1 : Nat) : Int), (hi : Int)))]
          · have := hat.1 hto
            exact ih (hi - ((lo + hi) / 2 + 1)) (by omega) _ _ rfl (by omega) h2 h3
          · simp only [hc, cond_true, e, hx, bnd_some, hto, decide_true]
            rw [w64 (by omega) (by omega)]
            rfl
        · rw [iter_inl (s' := ((lo : Int), (((lo + hi) / 2 : Nat) : Int)))]
          · have : ¬ (lo + hi) / 2 < cntS r l := fun h => hto (hat.2 h)
            exact ih ((lo + hi) / 2 - lo) (by omega) _ _ rfl h1 (by omega) (by omega)
          · simp only [hc, cond_true, e, hx, bnd_some, hto, decide_false, cond_false]
      · have : lo = cntS r l := by omega
        rw [iter_inr (r := (lo : Int)), this]
        have hc : decide ((lo : Int) < (hi : Int)) = false := by simp; omega
        simp only [hc, cond_false]
  have h0 := key (l.length - 0) 0 l.length rfl (Nat.zero_le _) (cntS_le r l) (Nat.le_refl _)
  have e0 : ((0 : Nat) : Int) = 0 := rfl
  rw [e0] at h0
  rw [h0, bnd_some, inS_cnt r hr]
  have hle := cntS_le r l
  by_cases hlt : cntS r l < l.length
  · have hc : decide (((cntS r l : Nat) : Int) < (l.length : Int)) = true := by simp; omega
    rw [hc, cond_true, idx_nat, List.getElem?_eq_getElem hlt]
    rfl
  · have hc : decide (((cntS r l : Nat) : Int) < (l.length : Int)) = false := by simp; omega
    rw [hc, cond_false, List.getElem?_eq_none (by omega)]
    rfl
/-- how many columns -/
def ofS (r : Int) : Int := if inS nones r then 0 else if inS twos r then 2 else 1
theorem of_eq (r : Int) : p_wide_Of r = some (ofS r) := by
  unfold p_wide_Of
  rw [in_eq nones r (by decide) (by decide), in_eq twos r (by decide) (by decide)]
  simp only [bnd_some, ofS]
  cases inS nones r <;> cases inS twos r <;> rfl
theorem ofS_cases (r : Int) : ofS r = 0 ∨ ofS r = 1 ∨ ofS r = 2 := by
  unfold ofS
  split
  · exact .inl rfl
  · split
    · exact .inr (.inr rfl)
    · exact .inr (.inl rfl)
end Go.Tw.Rw

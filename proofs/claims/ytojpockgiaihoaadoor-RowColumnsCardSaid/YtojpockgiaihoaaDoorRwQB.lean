import Derived.Test.YtojpockgiaihoaaDoorRwQA
set_option linter.unusedVariables false
set_option linter.unusedSimpArgs false
namespace Go.Tw.Rw
open Go Go.Tw
/-- a loop by its invariant, its measure and what holds at its end -/
theorem iter_inv {σ ρ : Type} {f : σ → Option (σ ⊕ ρ)} (Inv : σ → Prop) (m : σ → Nat) (Post : ρ → Prop)
    (hs : ∀ s, Inv s → (∃ s', f s = some (.inl s') ∧ Inv s' ∧ m s' < m s) ∨ (∃ r, f s = some (.inr r) ∧ Post r)) : ∀ s, Inv s → ∃ r, iter f s = some r ∧ Post r := by
  have key : ∀ (n : Nat) s, m s ≤ n → Inv s → ∃ r, iter f s = some r ∧ Post r := by
    intro n
    induction n with
    | zero =>
      intro s hm hi
      rcases hs s hi with ⟨s', hf, hi', hlt⟩ | ⟨r, hf, hp⟩
      · omega
      · exact ⟨r, iter_inr hf, hp⟩
    | succ n ih =>
      intro s hm hi
      rcases hs s hi with ⟨s', hf, hi', hlt⟩ | ⟨r, hf, hp⟩
      · rw [iter_inl hf]
        exact ih s' (by omega) hi'
      · exact ⟨r, iter_inr hf, hp⟩
  intro s hi
  exact key (m s) s (Nat.le_refl _) hi
theorem idx_in {α : Type} (l : List α) {i : Int} (h0 : 0 ≤ i) (h1 : i < l.length) : ∃ a, idx l i = some a ∧ a ∈ l := by
  obtain ⟨n, rfl⟩ := Int.eq_ofNat_of_zero_le h0
  rw [idx_nat]
  have hn : n < l.length := by omega
  rw [List.getElem?_eq_getElem hn]
  exact ⟨_, rfl, List.getElem_mem hn⟩
theorem and2 (p q : Prop) [Decidable p] [Decidable q] : ((bif decide p then some (decide q) else some false) : Option Bool) = some (decide (p ∧ q)) := by
  by_cases a1 : p <;> by_cases a2 : q <;> simp [a1, a2]
theorem blanks_mend (s : Int) : ∀ n : Nat, mendS 0 (List.replicate n (blk s)) = List.replicate n (blk s)
  | 0 => rfl
  | n + 1 => by
    rw [List.replicate_succ, mendS]
    have : fixS 0 (blk s) (List.replicate n (blk s)) = blk s := by simp [fixS, badS, blk]
    rw [this, show (blk s).part = 0 from rfl, blanks_mend s n]
theorem pure_RowPlays {w style : Int} {acts : List Law09Act} (h0 : inK .i64 w) (h1 : inK .i64 style) (h2 : ∀ a ∈ acts, wfLaw09Act a) : p_law09_RowPlays w style acts = some true := by
  unfold p_law09_RowPlays
  have e1 : ((bif (decide (w > 60)) then some (decide (w < 1000)) else some false) : Option Bool) = some (decide (w > 60 ∧ w < 1000)) := and2 _ _
  have e2 : ((bif decide (w > 60 ∧ w < 1000) then some 60 else some w) : Option Int) = some (if w > 60 ∧ w < 1000 then 60 else w) := by
    by_cases a1 : w > 60 ∧ w < 1000
    · rw [decide_eq_true a1, if_pos a1]; rfl
    · rw [decide_eq_false a1, if_neg a1]; rfl
  rw [awake_eq, bnd_some, Bool.not_true, cond_false, e1, bnd_some, e2, bnd_some]
  generalize (if w > 60 ∧ w < 1000 then (60 : Int) else w) = n
  rw [blank_row_eq, bnd_some, rblank_eq, bnd_some]
  have key := iter_inv (σ := RowRow × Ref09Row × Int) (ρ := (Ref09Row × RowRow) ⊕ Bool)
    (f := fun s439 => (Option.bind ((bif (decide (s439.2.2 < (acts.length : Int))) then some (decide (s439.2.2 < 30)) else some false) : Option Bool) fun e648 => (bif e648 then (Option.bind (idx acts s439.2.2) fun x792 => (Option.bind (p_law09_Do s439.1 s439.2.1 x792) fun r799 => (Option.bind ((Option.bind (p_law09_Is r799.1 r799.2) fun r826 => (bif (!r826) then some true else (Option.bind (p_ref09_Whole r799.2) fun r830 => some (!r830)))) : Option Bool) fun e823 => (bif e823 then (inrr (some false)) else some (.inl (r799.1, r799.2, (IntKind.i64.wrap (s439.2.2 + 1)))))))) else some (.inr (.inl (s439.2.1, s439.1))))))
    (fun s => s.2.1 = told s.1 ∧ s.1.cells.length ≤ 1000 ∧ okR s.1.cells ∧ mendS 0 s.1.cells = s.1.cells ∧ 0 ≤ s.2.2 ∧ s.2.2 ≤ 30)
    (fun s => (30 - s.2.2).toNat) (fun r => ∃ q, r = .inl (told q, q) ∧ q.cells.length ≤ 1000 ∧ okR q.cells) (by
      rintro ⟨r, t, i⟩ ⟨ht, hl, ho, hm, hi0, hi1⟩
      simp only at ht hl ho hm hi0 hi1
      subst ht
      by_cases c1 : i < (acts.length : Int) ∧ i < 30
      · obtain ⟨c1, c2⟩ := c1
        obtain ⟨a, ha, hmem⟩ := idx_in acts hi0 c1
        refine .inl ⟨(doS r a, told (doS r a), i + 1), ?_, ⟨rfl, do_length r a hl, do_ok r a ho (h2 a hmem), do_whole r a hm, by simp only; omega, by simp only; omega⟩, by simp only; omega⟩
        have hl' := do_length r a hl
        simp only [decide_eq_true c1, decide_eq_true c2, cond_true, bnd_some, ha, do_eq r a hl (h2 a hmem)]
        rw [is_eq _ (by omega) (do_ok r a ho (h2 a hmem)), bnd_some, Bool.not_true, cond_false]
        rw [show told (doS r a) = ⟨(doS r a).cells.map tc, (doS r a).wrapped⟩ from rfl, whole_eq _ _ (by omega) (do_whole r a hm), bnd_some, Bool.not_true, bnd_some, cond_false, w64 (by omega) (by omega)]
      · refine .inr ⟨.inl (told r, r), ?_, r, rfl, hl, ho⟩
        have e3 : ((bif (decide (i < (acts.length : Int))) then some (decide (i < 30)) else some false) : Option Bool) = some false := by
          rw [and2, decide_eq_false c1]
        simp only [e3, bnd_some, cond_false])
    (⟨List.replicate (max 0 (min n 1000)).toNat (blk style), false⟩, ⟨(List.replicate (max 0 (min n 1000)).toNat (blk style)).map tc, false⟩, 0)
    ⟨rfl, by simp; omega, okR_rep _ _, blanks_mend _ _, by simp, by simp⟩
  obtain ⟨x, hx, q, rfl, hl, ho⟩ := key
  rw [hx, bnd_some]
  simp only
  rw [is_eq q (by omega) ho, bnd_some]
end Go.Tw.Rw

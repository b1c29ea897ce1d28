import Derived.Test.YtojpockgiaihoaaDoorRwQB
set_option linter.unusedVariables false
set_option linter.unusedSimpArgs false
namespace Go.Tw.Rw
open Go Go.Tw
theorem told_eq (r : RowRow) (h : r.cells.length ≤ 1000000) (hr : okR r.cells) : p_law09_Told r = some (told r) := by
  unfold p_law09_Told told
  have key : ∀ (b d : List RowCell), d ++ b = r.cells → iter (σ := Ref09Row × Int) (ρ := Ref09Row) (fun s89 => (bif (decide (s89.2 < (r.cells.length : Int))) then (Option.bind (idx r.cells s89.2) fun x153 => (Option.bind (chk (apok s89.1.l.length [(Ref09Cell.mk (IntKind.i64.wrap x153.rune) x153.style x153.part)].length 24)) fun _ => some (.inl ((Ref09Row.mk (s89.1.l ++ [(Ref09Cell.mk (IntKind.i64.wrap x153.rune) x153.style x153.part)]) s89.1.wrapped), (IntKind.i64.wrap (s89.2 + 1)))))) else some (.inr s89.1))) (⟨d.map tc, r.wrapped⟩, (d.length : Int)) = some ⟨r.cells.map tc, r.wrapped⟩ := by
    intro b
    induction b with
    | nil =>
      intro d hd
      simp at hd
      subst hd
      rw [iter_inr (r := ⟨r.cells.map tc, r.wrapped⟩)]
      simp
    | cons c b ih =>
      intro d hd
      have hl : r.cells.length = d.length + b.length + 1 := by rw [← hd]; simp; omega
      have hc : decide ((d.length : Int) < (r.cells.length : Int)) = true := by simp; omega
      have hx : idx r.cells (d.length : Int) = some c := by rw [← hd]; exact idx_mid d b c
      have hcr : rok c.rune := hr c (by rw [← hd]; simp)
      rw [iter_inl (s' := (⟨(d ++ [c]).map tc, r.wrapped⟩, ((d ++ [c]).length : Int)))]
      · exact ih (d ++ [c]) (by simpa using hd)
      · simp only [hc, cond_true, hx, bnd_some]
        rw [apok_true (by simp; omega), bnd_some, w32 hcr, w64 (by omega) (by omega)]
        simp [tc]
  have h0 := key r.cells [] rfl
  have e0 : ((([] : List RowCell).length : Nat) : Int) = 0 := rfl
  rw [e0] at h0
  rw [show (⟨[], r.wrapped⟩ : Ref09Row) = ⟨([] : List RowCell).map tc, r.wrapped⟩ from rfl, h0, bnd_some]
theorem okR_wf {l : List RowCell} (h : ∀ x ∈ l, wfRowCell x) : okR l := by
  intro c hc
  obtain ⟨hx, _⟩ := h c hc
  exact ⟨by have := hx.1; simpa [IntKind.min, IntKind.signed, IntKind.bits] using this, by have := hx.2; simpa [IntKind.max, IntKind.signed, IntKind.bits] using this⟩
theorem pure_RowKeeps {l : List RowCell} {b : Bool} {acts : List Law09Act} (h0 : ∀ x ∈ l, wfRowCell x) (h1 : True) (h2 : ∀ a ∈ acts, wfLaw09Act a) : p_law09_RowKeeps l b acts = some true := by
  unfold p_law09_RowKeeps
  have ho : okR (l.take 40) := okR_take (okR_wf h0) 40
  have hl : (l.take 40).length ≤ 40 := by rw [List.length_take]; omega
  rw [awake_eq, bnd_some, Bool.not_true, cond_false, any_eq, bnd_some]
  generalize l.take 40 = c at hl ho
  rw [told_eq _ (by simp only; omega) ho, bnd_some]
  have key := iter_inv (σ := Int) (ρ := Unit ⊕ Bool)
    (f := fun s3473 => (Option.bind ((bif (decide (s3473 < (acts.length : Int))) then some (decide (s3473 < 10)) else some false) : Option Bool) fun e5210 => (bif e5210 then (Option.bind ((Option.bind (idx acts s3473) fun x6517 => (Option.bind (p_law09_Do ⟨c, b⟩ (told ⟨c, b⟩) x6517) fun r6524 => some (r6524.1, r6524.2))) : Option (RowRow × Ref09Row)) fun e6428 => (Option.bind (iter (σ := Int) (ρ := Unit) (fun s6752 => (Option.bind ((bif (decide (s6752 < (acts.length : Int))) then some (decide (s6752 < (IntKind.i64.wrap (s3473 + 3)))) else some false) : Option Bool) fun e6836 => (bif e6836 then (Option.bind (idx acts s6752) fun x6890 => (Option.bind (p_law09_Do e6428.1 e6428.2 x6890) fun r6897 => some (.inl (IntKind.i64.wrap (s6752 + 1))))) else some (.inr ())))) (IntKind.i64.wrap (s3473 + 1))) fun e6826 => (Option.bind ((Option.bind (p_law09_Is ⟨c, b⟩ (told ⟨c, b⟩)) fun r6924 => (bif (!r6924) then some true else (Option.bind (p_law09_Is e6428.1 e6428.2) fun r6928 => some (!r6928)))) : Option Bool) fun e6921 => (bif e6921 then (inrr (some false)) else some (.inl (IntKind.i64.wrap (s3473 + 1))))))) else some (.inr (.inl ())))))
    (fun i => 0 ≤ i ∧ i ≤ 10) (fun i => (10 - i).toNat) (fun r => r = .inl ()) (by
      rintro i ⟨hi0, hi1⟩
      by_cases c1 : i < (acts.length : Int) ∧ i < 10
      · refine .inl ⟨i + 1, ?_, ⟨by omega, by omega⟩, by omega⟩
        rw [and2, decide_eq_true c1, bnd_some, cond_true]
        obtain ⟨c1, c2⟩ := c1
        obtain ⟨a, ha, hmem⟩ := idx_in acts hi0 c1
        have hlr : (RowRow.mk c b).cells.length ≤ 1000 := by simp only; omega
        have hl' := do_length ⟨c, b⟩ a hlr
        have ho' := do_ok ⟨c, b⟩ a ho (h2 a hmem)
        rw [ha, bnd_some, do_eq _ a hlr (h2 a hmem), bnd_some, bnd_some]
        simp only
        generalize doS ⟨c, b⟩ a = q at hl' ho'
        rw [w64 (x := i + 1) (by omega) (by omega), w64 (x := i + 3) (by omega) (by omega)]
        have k2 := iter_inv (σ := Int) (ρ := Unit) (f := fun s6752 => (Option.bind ((bif (decide (s6752 < (acts.length : Int))) then some (decide (s6752 < (i + 3))) else some false) : Option Bool) fun e6836 => (bif e6836 then (Option.bind (idx acts s6752) fun x6890 => (Option.bind (p_law09_Do q (told q) x6890) fun r6897 => some (.inl (IntKind.i64.wrap (s6752 + 1))))) else some (.inr ()))))
          (fun j => 0 ≤ j ∧ j ≤ i + 3) (fun j => (i + 3 - j).toNat) (fun _ => True) (by
            rintro j ⟨hj0, hj1⟩
            by_cases d1 : j < (acts.length : Int) ∧ j < i + 3
            · refine .inl ⟨j + 1, ?_, ⟨by omega, by omega⟩, by omega⟩
              rw [and2, decide_eq_true d1, bnd_some, cond_true]
              obtain ⟨d1, d2⟩ := d1
              obtain ⟨a2, ha2, hmem2⟩ := idx_in acts hj0 d1
              rw [ha2, bnd_some, do_eq _ a2 hl' (h2 a2 hmem2), bnd_some, w64 (by omega) (by omega)]
            · refine .inr ⟨(), ?_, trivial⟩
              rw [and2, decide_eq_false d1, bnd_some, cond_false]) (i + 1) ⟨by omega, by omega⟩
        obtain ⟨u, hu, _⟩ := k2
        rw [hu, bnd_some, is_eq ⟨c, b⟩ (by simp only; omega) ho, bnd_some, Bool.not_true, cond_false, is_eq q (by omega) ho', bnd_some, Bool.not_true, bnd_some, cond_false]
      · refine .inr ⟨.inl (), ?_, rfl⟩
        rw [and2, decide_eq_false c1, bnd_some, cond_false]) 0 ⟨by omega, by omega⟩
  obtain ⟨x, hx, rfl⟩ := key
  rw [hx, bnd_some]
end Go.Tw.Rw

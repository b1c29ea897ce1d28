import Derived.Test.YtojpockgiaihoaaDoorRwQD
set_option linter.unusedVariables false
set_option linter.unusedSimpArgs false
namespace Go.Tw.Rw
open Go Go.Tw
theorem and31 (w : Int) : 0 ≤ Go.bits .and .i64 w 31 ∧ Go.bits .and .i64 w 31 ≤ 31 := by
  have h : (BitVec.ofInt 64 w &&& BitVec.ofInt 64 31).toNat ≤ 31 := by
    rw [BitVec.toNat_and]
    exact Nat.and_le_right
  have e : Go.bits .and .i64 w 31 = IntKind.i64.wrap ((BitVec.ofInt 64 w &&& BitVec.ofInt 64 31).toNat : Int) := rfl
  rw [e, w64 (by omega) (by omega)]
  omega
theorem do_eq2 (r q : RowRow) (a : Law09Act) (h : r.cells.length ≤ 1000) (hq : q.cells.length ≤ 1000) (ha : wfLaw09Act a) (h0 : 0 ≤ a.kind) (h4 : a.kind < 4) : ∃ t, p_law09_Do r (told q) a = some (doS r a, t) := by
  obtain ⟨_, hat, hn, hs, hx, _⟩ := ha
  have ha1 : -9223372036854775808 ≤ a.at_ := by have := hat.1; simpa [IntKind.min, IntKind.signed, IntKind.bits] using this
  have ha2 : a.at_ ≤ 9223372036854775807 := by have := hat.2; simpa [IntKind.max, IntKind.signed, IntKind.bits] using this
  have hx1 : -2147483648 ≤ a.rune := by have := hx.1; simpa [IntKind.min, IntKind.signed, IntKind.bits] using this
  have hx2 : a.rune ≤ 2147483647 := by have := hx.2; simpa [IntKind.max, IntKind.signed, IntKind.bits] using this
  unfold p_law09_Do doS told
  by_cases k0 : a.kind = 0
  · rw [if_pos k0, show (a.kind == 0) = true by simp [k0], cond_true, put_eq r _ _ _ (by omega) ha1 ha2, bnd_some, w32 ⟨hx1, hx2⟩, rput_eq _ _ _ _ _ (by omega) ha1 ha2 hx1 hx2, bnd_some]
    exact ⟨_, rfl⟩
  · rw [if_neg k0, show (a.kind == 0) = false by simp [k0], cond_false]
    by_cases k1 : a.kind = 1
    · rw [if_pos k1, show (a.kind == 1) = true by simp [k1], cond_true, erase_eq r _ _ _ (by omega), bnd_some, rerase_eq _ _ _ _ _ (by omega), bnd_some]
      exact ⟨_, rfl⟩
    · rw [if_neg k1, show (a.kind == 1) = false by simp [k1], cond_false]
      by_cases k2 : a.kind = 2
      · rw [if_pos k2, show (a.kind == 2) = true by simp [k2], cond_true, insert_eq r _ _ _ h ha1 ha2, bnd_some, rinsert_eq _ _ _ _ _ hq ha1 ha2, bnd_some]
        exact ⟨_, rfl⟩
      · rw [if_neg k2, show (a.kind == 2) = false by simp [k2], cond_false]
        have k3 : a.kind = 3 := by omega
        rw [if_pos k3, show (a.kind == 3) = true by simp [k3], cond_true, delete_eq r _ _ _ h ha1 ha2, bnd_some, rdelete_eq _ _ _ _ _ hq ha1 ha2, bnd_some]
        exact ⟨_, rfl⟩
/-- how wide glyphs are -/
def gw : List RowGlyph → Int
  | [] => 0
  | g :: r => ofS g.rune + gw r
theorem gw_gly : ∀ l : List RowCell, gw (glyS l) = sumW l
  | [] => rfl
  | c :: r => by
    have ih := gw_gly r
    unfold glyS at ih ⊢
    rw [List.filter_cons]
    cases h : isG c with
    | true => simp [gw, sumW, h, ih]
    | false => simp [sumW, h, ih]
theorem gw_bnd : ∀ l : List RowGlyph, 0 ≤ gw l ∧ gw l ≤ 2 * l.length
  | [] => ⟨by simp [gw], by simp [gw]⟩
  | g :: r => by
    have := gw_bnd r
    have := ofS_cases g.rune
    simp only [gw, List.length_cons]
    omega
theorem gw_app : ∀ a b : List RowGlyph, gw (a ++ b) = gw a + gw b
  | [], b => by simp [gw]
  | g :: a, b => by simp [gw, gw_app a b]; omega
theorem sum_loop (l : List RowGlyph) (h : l.length ≤ 1000000) : iter (σ := Int × Int) (ρ := Int) (fun s468 => (bif (decide (s468.1 < (l.length : Int))) then (Option.bind (idx l s468.1) fun x508 => (Option.bind (p_wide_Of x508.rune) fun r514 => some (.inl ((IntKind.i64.wrap (s468.1 + 1)), (IntKind.i64.wrap (s468.2 + r514)))))) else some (.inr s468.2))) (0, 0) = some (gw l) := by
  have key : ∀ (b d : List RowGlyph), d ++ b = l → iter (σ := Int × Int) (ρ := Int) (fun s468 => (bif (decide (s468.1 < (l.length : Int))) then (Option.bind (idx l s468.1) fun x508 => (Option.bind (p_wide_Of x508.rune) fun r514 => some (.inl ((IntKind.i64.wrap (s468.1 + 1)), (IntKind.i64.wrap (s468.2 + r514)))))) else some (.inr s468.2))) ((d.length : Int), gw d) = some (gw l) := by
    intro b
    induction b with
    | nil =>
      intro d hd
      simp at hd
      subst hd
      rw [iter_inr (r := gw d)]
      simp
    | cons c b ih =>
      intro d hd
      have hl : l.length = d.length + b.length + 1 := by rw [← hd]; simp; omega
      have hc : decide ((d.length : Int) < (l.length : Int)) = true := by simp; omega
      have hx : idx l (d.length : Int) = some c := by rw [← hd]; exact idx_mid d b c
      have h1 := gw_bnd d
      have h2 := ofS_cases c.rune
      rw [iter_inl (s' := (((d ++ [c]).length : Int), gw (d ++ [c])))]
      · exact ih (d ++ [c]) (by simpa using hd)
      · simp only [hc, cond_true, hx, bnd_some, of_eq]
        rw [w64 (by omega) (by omega), w64 (by omega) (by omega), gw_app]
        simp [gw]
  have h0 := key l [] rfl
  exact h0
theorem pure_RowColumns {w : Int} {acts : List Law09Act} (h0 : inK .i64 w) (h2 : ∀ a ∈ acts, wfLaw09Act a) : p_law09_RowColumns w acts = some true := by
  unfold p_law09_RowColumns
  rw [awake_eq, bnd_some, Bool.not_true, cond_false]
  have hk := and31 w
  generalize Go.bits .and .i64 w 31 = k at hk
  rw [blank_row_eq, bnd_some]
  have ek : (((max 0 (min k 1000)).toNat : Nat) : Int) = k := by omega
  have key := iter_inv (σ := RowRow × Int) (ρ := RowRow)
    (f := fun s216 => (Option.bind ((bif (decide (s216.2 < (acts.length : Int))) then some (decide (s216.2 < 20)) else some false) : Option Bool) fun e325 => (bif e325 then (Option.bind ((Option.bind (idx acts s216.2) fun x390 => (Option.bind ((bif (decide (x390.kind ≥ 0)) then some (decide (x390.kind < 4)) else some false) : Option Bool) fun e401 => (bif e401 then (Option.bind (p_law09_Do s216.1 (Ref09Row.mk [] false) x390) fun r407 => some r407.1) else some s216.1))) : Option RowRow) fun e387 => some (.inl (e387, (IntKind.i64.wrap (s216.2 + 1))))) else some (.inr s216.1))))
    (fun s => (s.1.cells.length : Int) = k ∧ mendS 0 s.1.cells = s.1.cells ∧ (∀ c ∈ s.1.cells, V c) ∧ 0 ≤ s.2 ∧ s.2 ≤ 20)
    (fun s => (20 - s.2).toNat) (fun r => (r.cells.length : Int) = k ∧ mendS 0 r.cells = r.cells ∧ (∀ c ∈ r.cells, V c)) (by
      rintro ⟨r, i⟩ ⟨hl, hm, hv, hi0, hi1⟩
      simp only at hl hm hv hi0 hi1
      by_cases c1 : i < (acts.length : Int) ∧ i < 20
      · obtain ⟨a, ha, hmem⟩ := idx_in acts hi0 c1.1
        by_cases c2 : a.kind ≥ 0 ∧ a.kind < 4
        · obtain ⟨t, ht⟩ := do_eq2 r ⟨[], false⟩ a (by omega) (by simp) (h2 a hmem) c2.1 c2.2
          refine .inl ⟨(doS r a, i + 1), ?_, ⟨by simp only [do_len r a c2.1 c2.2]; exact hl, do_whole r a hm, do_V r a hv c2.1 c2.2, by simp only; omega, by simp only; omega⟩, by simp only; omega⟩
          simp only [and2, decide_eq_true c1, bnd_some, cond_true, ha, decide_eq_true c2]
          rw [show (Ref09Row.mk [] false) = told ⟨[], false⟩ from rfl, ht, bnd_some, bnd_some, w64 (by omega) (by omega)]
        · refine .inl ⟨(r, i + 1), ?_, ⟨hl, hm, hv, by simp only; omega, by simp only; omega⟩, by simp only; omega⟩
          simp only [and2, decide_eq_true c1, bnd_some, cond_true, ha, decide_eq_false c2, cond_false]
          rw [w64 (by omega) (by omega)]
      · refine .inr ⟨r, ?_, hl, hm, hv⟩
        simp only [and2, decide_eq_false c1, bnd_some, cond_false])
    (⟨List.replicate (max 0 (min k 1000)).toNat (blk 0), false⟩, 0) ⟨by simp only [List.length_replicate]; exact ek, blanks_mend _ _, V_rep _ _, by simp, by simp⟩
  obtain ⟨q, hq, hl, hm, hv⟩ := key
  rw [hq, bnd_some, glyphs_eq _ (by simp only; omega), bnd_some]
  have g1 : glyR ⟨q.cells, true⟩ = glyS q.cells := rfl
  have s1 := sum_len q.cells 0 (fun c hc => .inl (hv c hc)) hm (by intro h; cases h)
  rw [cnt3_V _ hv] at s1
  simp only [show ¬((0 : Int) = 1) by decide, if_false] at s1
  rw [g1, sum_loop _ (by have := glyS_length q.cells; omega), bnd_some, gw_gly]
  rw [show (sumW q.cells != k) = false by simp; omega, cond_false]
  have hlen : (mendS 0 (fillL q.cells 0)).length = q.cells.length := by rw [mendS_length]; simp [fillL]
  rw [fill_eq _ _ (by simp only; omega), bnd_some, glyphs_eq _ (by simp only; omega), bnd_some]
  have g2 : glyR ⟨mendS 0 (fillL q.cells 0), true⟩ = glyS (mendS 0 (fillL q.cells 0)) := rfl
  rw [g2, sum_loop _ (by have := glyS_length (mendS 0 (fillL q.cells 0)); omega), bnd_some, gw_gly, w64 (by omega) (by omega)]
  have hv3 : ∀ c ∈ fillL q.cells 0, V3 c := V_set (fun c hc => .inl (hv c hc)) _ (.inr rfl)
  have s2 := sum_len (mendS 0 (fillL q.cells 0)) 0 (V_mend (fun s => .inl (V_blk s)) _ _ hv3) (mend_mend _ _) (by intro h; cases h)
  simp only [show ¬((0 : Int) = 1) by decide, if_false, hlen] at s2
  have s3 : cnt3 (mendS 0 (fillL q.cells 0)) = if 0 < q.cells.length then 1 else 0 := by
    by_cases hp : 0 < q.cells.length
    · rw [if_pos hp]
      have : fillL q.cells 0 = q.cells.dropLast ++ [⟨32, 0, 3⟩] := by
        unfold fillL
        have hne : q.cells ≠ [] := by intro h; rw [h] at hp; simp at hp
        conv => lhs; rw [← List.dropLast_concat_getLast hne]
        rw [List.set_append_right _ _ (by simp)]
        simp
      rw [this]
      exact cnt3_end 0 _ 0 (fun c hc => hv c (List.dropLast_subset _ hc))
    · rw [if_neg hp]
      have : q.cells = [] := List.eq_nil_of_length_eq_zero (by omega)
      rw [this]
      rfl
  rw [s3] at s2
  congr 1
  rw [beq_iff_eq]
  split at s2 <;> split <;> omega
end Go.Tw.Rw

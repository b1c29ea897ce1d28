import Derived.Test.YtojpockgiaihoaaDoorRwQ1
import Derived.Laws.BitsLemmas
set_option linter.unusedVariables false
set_option linter.unusedSimpArgs false
namespace Go.Tw.Rw
open Go Go.Tw
theorem wrapu (n : Int) : IntKind.u64.wrap n = n % 18446744073709551616 := by simp [IntKind.wrap, IntKind.bits, IntKind.signed]
theorem wraps63 (n : Int) (h0 : 0 ≤ n) (h1 : n < 2 ^ 63) : IntKind.u64.wrap n = n := by rw [wrapu]; omega
theorem mask32 (y : Int) (h0 : 0 ≤ y) (h1 : y < 4294967296) : Go.bits .and .u64 y 4294967295 = y := by
  have h := bits_mask .u64 63 (by decide) wraps63 32 (by decide) y h0 (by omega)
  have e : ((2 : Int) ^ 32 - 1) = 4294967295 := by decide
  have e2 : ((2 : Int) ^ 32) = 4294967296 := by decide
  rw [e, e2] at h
  rw [h]
  omega
theorem u64id {x : Int} (h0 : 0 ≤ x) (h1 : x < 18446744073709551616) : IntKind.u64.wrap x = x := by rw [wrapu]; omega
theorem mul_one_eq (n : Int) (h0 : 0 ≤ n) (h1 : n ≤ 1000000) : p_bits_Mul 1 n = some (0, n) := by
  have e32 : (2 : Int) ^ (min 32 64) = 4294967296 := by decide
  have f1 : Int.fdiv 1 4294967296 = 0 := by decide
  have f2 : Int.fdiv n 4294967296 = 0 := by rw [Int.fdiv_eq_ediv_of_nonneg _ (by decide)]; omega
  have f0 : Int.fdiv 0 4294967296 = 0 := by decide
  have z0 : IntKind.u64.wrap 0 = 0 := by rw [wrapu]; rfl
  have m0 : Go.bits .and .u64 0 4294967295 = 0 := mask32 0 (by omega) (by omega)
  have m1 : Go.bits .and .u64 1 4294967295 = 1 := mask32 1 (by omega) (by omega)
  have mn := mask32 n h0 (by omega)
  have un : IntKind.u64.wrap n = n := u64id h0 (by omega)
  unfold p_bits_Mul p_bits_Mul64
  simp only [e32, f1, f2, m1, mn, Int.zero_mul, Int.mul_zero, Int.one_mul, z0, un, f0, Int.add_zero, Int.zero_add, m0, bnd_some]
theorem repeat_eq (c : RowCell) (n : Int) (h0 : 0 ≤ n) (h1 : n ≤ 1000000) : p_slices_Repeat_row_Cell [c] n = some (List.replicate n.toNat c) := by
  unfold p_slices_Repeat_row_Cell
  have hn : decide (n < 0) = false := decide_eq_false (by omega)
  have u1 : IntKind.u64.wrap (([c].length : Nat) : Int) = 1 := u64id (by simp) (by simp)
  rw [hn, cond_false, u1, u64id h0 (by omega), mul_one_eq n h0 h1]
  simp only [bnd_some]
  have g1 : decide ((0 : Int) > 0) = false := by decide
  have g2 : decide (n > 9223372036854775807) = false := decide_eq_false (by omega)
  rw [g1, cond_false, bnd_some, g2, cond_false, w64 (by omega) (by omega), mkok_true h0 (by omega) (by omega), bnd_some]
  obtain ⟨k, rfl⟩ : ∃ k : Nat, n = k := ⟨n.toNat, by omega⟩
  simp only [Int.toNat_natCast, List.length_cons, List.length_nil, List.length_replicate]
  have key : ∀ m j, k - j = m → j ≤ k → (1 ≤ j ∨ k = 0) → iter (σ := (List RowCell) × Int) (ρ := (List RowCell)) (fun s67 => (bif (decide (s67.2 < (s67.1.length : Int))) then (Option.bind (chk (cutok s67.2 (s67.1.length : Int) s67.1.length)) fun _ => (Option.bind (chk (cutok 0 s67.2 s67.1.length)) fun _ => some (.inl ((cpys s67.1 s67.2.toNat), (IntKind.i64.wrap (s67.2 + ((Nat.min s67.2.toNat (s67.1.length - s67.2.toNat) : Nat) : Int))))))) else some (.inr s67.1))) (List.replicate j c ++ List.replicate (k - j) (RowCell.mk 0 0 0), (j : Int)) = some (List.replicate k c) := by
    intro m
    induction m using Nat.strongRecOn with
    | _ m ih =>
      intro j hm hj h1j
      have hlen : (List.replicate j c ++ List.replicate (k - j) (RowCell.mk 0 0 0)).length = k := by simp; omega
      by_cases hjk : j < k
      · have hmin : Nat.min j (k - j) = min j (k - j) := rfl
        rw [iter_inl (s' := (List.replicate (j + min j (k - j)) c ++ List.replicate (k - (j + min j (k - j))) (RowCell.mk 0 0 0), ((j + min j (k - j) : Nat) : Int)))]
        · exact ih (k - (j + min j (k - j))) (by omega) _ rfl (by omega) (by omega)
        · have hc : decide ((j : Int) < ((List.replicate j c ++ List.replicate (k - j) (RowCell.mk 0 0 0)).length : Int)) = true := by rw [hlen]; simp; omega
          simp only [hc, cond_true]
          rw [hlen, cutok_true (by omega) (by omega) (by omega), bnd_some, cutok_true (by omega) (by omega) (by omega), bnd_some, Int.toNat_natCast, hmin, w64 (by omega) (by omega)]
          congr 2
          refine Prod.ext ?_ ?_
          · show cpys _ _ = _
            unfold cpys
            rw [hlen]
            have t1 : (List.replicate j c ++ List.replicate (k - j) (RowCell.mk 0 0 0)).take j = List.replicate j c := by rw [List.take_left']; simp
            rw [t1, List.take_replicate, List.drop_append, List.drop_of_length_le (by simp), List.nil_append, List.length_replicate, List.drop_replicate, List.replicate_append_replicate, Nat.min_comm (k - j) j]
            congr 2
            omega
          · show ((j : Int) + ((min j (k - j) : Nat) : Int)) = _
            omega
      · have hjk' : j = k := by omega
        subst hjk'
        rw [iter_inr (r := List.replicate j c)]
        simp
  have hs : cpy (List.replicate k (RowCell.mk 0 0 0)) [c] = List.replicate (min 1 k) c ++ List.replicate (k - min 1 k) (RowCell.mk 0 0 0) := by
    unfold cpy
    cases k with
    | zero => simp
    | succ k => simp [Nat.min_eq_left]
  have hmin : Nat.min (0 + 1) k = min 1 k := rfl
  rw [hs, hmin, key _ (min 1 k) rfl (by omega) (by omega), bnd_some]
theorem blanks_eq (n s : Int) (h : n ≤ 1000000) : p_row_blanks n s = some (List.replicate n.toNat ⟨32, s, 0⟩) := by
  unfold p_row_blanks
  rw [blank_eq, bnd_some]
  by_cases h0 : n > 0
  · rw [if_pos h0, repeat_eq _ n (by omega) h, bnd_some]
  · rw [if_neg h0, repeat_eq _ 0 (by omega) (by omega), bnd_some]
    have : n.toNat = 0 := by omega
    simp [this]
theorem clip_eq (n lo hi : Int) : p_row_clip n lo hi = some (max lo (min n hi)) := by
  unfold p_row_clip
  congr 1
  by_cases h1 : hi < n
  · rw [if_pos h1]; split <;> omega
  · rw [if_neg h1]; split <;> omega
theorem clone_eq (l : List RowCell) (h : l.length ≤ 1000000) : p_slices_Clone_row_Cell l = some l := by
  unfold p_slices_Clone_row_Cell
  rw [apok_true (by simp; omega), bnd_some]
  rfl
theorem cells_eq (r : RowRow) (h : r.cells.length ≤ 1000000) : p_row_Row_cells r = some r.cells := by
  unfold p_row_Row_cells
  rw [clone_eq _ h, bnd_some]
def withinS (l : List RowCell) (at_ n : Int) : Int := if at_ < 0 ∨ at_ ≥ l.length then 0 else max 0 (min n (l.length - at_))
theorem within_eq (r : RowRow) (at_ n : Int) (h : r.cells.length ≤ 1000000) (ha : -9223372036854775808 ≤ at_) (hb : at_ ≤ 9223372036854775807) : p_row_Row_within r at_ n = some (withinS r.cells at_ n) := by
  unfold p_row_Row_within withinS
  by_cases h1 : at_ < 0
  · rw [if_pos (.inl h1)]
    simp [h1]
  · by_cases h2 : at_ ≥ r.cells.length
    · rw [if_pos (.inr h2)]
      simp [h1, h2]
    · rw [if_neg (by omega)]
      have e1 : decide (at_ < 0) = false := decide_eq_false h1
      have e2 : decide (at_ ≥ (r.cells.length : Int)) = false := decide_eq_false h2
      rw [e1, cond_false, e2, bnd_some, cond_false, w64 (by omega) (by omega), clip_eq, bnd_some]
end Go.Tw.Rw

import Derived.Test.YtojpockgiaihoaaDoorRwQ4
set_option linter.unusedVariables false
set_option linter.unusedSimpArgs false
namespace Go.Tw.Rw
open Go Go.Tw
/-- blanks from one to another, the first one being number i -/
def eraseL (a b s : Int) : Int → List RowCell → List RowCell
  | _, [] => []
  | i, c :: r => (if a ≤ i ∧ i < b then blk s else c) :: eraseL a b s (i + 1) r
theorem eraseL_length (a b s : Int) : ∀ (l : List RowCell) (i : Int), (eraseL a b s i l).length = l.length
  | [], _ => rfl
  | c :: r, i => by simp [eraseL, eraseL_length a b s r]
theorem eraseL_none (a b s : Int) : ∀ (l : List RowCell) (i : Int), b ≤ i → eraseL a b s i l = l
  | [], _, _ => rfl
  | c :: r, i, h => by
    unfold eraseL
    rw [if_neg (by omega), eraseL_none a b s r (i + 1) (by omega)]
theorem eraseL_get (a b s : Int) : ∀ (l : List RowCell) (i : Int) (j : Nat), (eraseL a b s i l)[j]? = (l[j]?).map fun c => if a ≤ i + j ∧ i + j < b then blk s else c
  | [], _, _ => by simp [eraseL]
  | c :: r, i, 0 => by simp [eraseL]
  | c :: r, i, j + 1 => by
    have := eraseL_get a b s r (i + 1) j
    simp only [eraseL, List.getElem?_cons_succ, this]
    have e : i + 1 + (j : Int) = i + ((j + 1 : Nat) : Int) := by omega
    rw [e]
theorem erase_eq (r : RowRow) (a b s : Int) (h : r.cells.length ≤ 1000000) : p_row_Row_Erase r a b s = some ⟨mendS 0 (eraseL a b s 0 r.cells), false⟩ := by
  unfold p_row_Row_Erase
  rw [cells_eq r h, bnd_some, clip_eq, bnd_some]
  generalize hA : max 0 (min a (r.cells.length : Int)) = A
  generalize hB : max 0 (min b (r.cells.length : Int)) = B
  have key : ∀ m (i : Nat) (l : List RowCell), B.toNat - i = m → l.length = r.cells.length → iter (σ := Int × (List RowCell)) (ρ := (List RowCell)) (fun s73 => (Option.bind (p_row_clip b 0 (s73.2.length : Int)) fun r108 => (bif (decide (s73.1 < r108)) then (Option.bind (p_row_blank s) fun r122 => (Option.bind (idx s73.2 s73.1) fun x125 => some (.inl ((IntKind.i64.wrap (s73.1 + 1)), (s73.2.set s73.1.toNat r122))))) else some (.inr s73.2)))) ((i : Int), l) = some (eraseL i B s 0 l) := by
    intro m
    induction m with
    | zero =>
      intro i l hm hl
      rw [iter_inr (r := l)]
      · congr 1
        apply List.ext_getElem?
        intro j
        rw [eraseL_get]
        cases hj : l[j]? with
        | none => rfl
        | some c =>
          simp
          intro h1 h2
          omega
      · simp only [clip_eq, bnd_some, hl, hB]
        have : decide ((i : Int) < B) = false := decide_eq_false (by omega)
        rw [this, cond_false]
    | succ m ih =>
      intro i l hm hl
      have hi : i < l.length := by omega
      rw [iter_inl (s' := (((i + 1 : Nat) : Int), l.set i (blk s)))]
      · rw [ih (i + 1) (l.set i (blk s)) (by omega) (by simpa using hl)]
        congr 1
        apply List.ext_getElem?
        intro j
        rw [eraseL_get, eraseL_get, List.getElem?_set]
        by_cases hij : i = j
        · subst hij
          rw [if_pos rfl, if_pos hi, List.getElem?_eq_getElem hi]
          simp
          omega
        · rw [if_neg hij]
          cases hj : l[j]? with
          | none => rfl
          | some c =>
            simp only [Option.map_some, Option.some.injEq]
            by_cases h1 : (i : Int) ≤ 0 + (j : Int) ∧ 0 + (j : Int) < B
            · rw [if_pos h1, if_pos (by omega)]
            · rw [if_neg h1, if_neg (by omega)]
      · simp only [clip_eq, bnd_some, hl, hB]
        have : decide ((i : Int) < B) = true := decide_eq_true (by omega)
        rw [this, cond_true, idx_nat, List.getElem?_eq_getElem hi, w64 (by omega) (by omega)]
        rfl
  obtain ⟨k, hk⟩ : ∃ k : Nat, A = k := ⟨A.toNat, by omega⟩
  rw [hk, key _ k r.cells rfl rfl, bnd_some, mend_eq _ (by rw [eraseL_length]; exact h), bnd_some]
  congr 2
  congr 1
  apply List.ext_getElem?
  intro j
  rw [eraseL_get, eraseL_get]
  cases hj : r.cells[j]? with
  | none => rfl
  | some c =>
    have hjl := (List.getElem?_eq_some_iff.1 hj).1
    simp only [Option.map_some, Option.some.injEq]
    by_cases h1 : a ≤ 0 + (j : Int) ∧ 0 + (j : Int) < b
    · rw [if_pos h1, if_pos (by omega)]
    · rw [if_neg h1, if_neg (by omega)]
def insertL (l : List RowCell) (k n : Nat) (s : Int) : List RowCell := (l.take k ++ List.replicate n (blk s) ++ l.drop k).take l.length
def deleteL (l : List RowCell) (k n : Nat) (s : Int) : List RowCell := l.take k ++ l.drop (k + n) ++ List.replicate n (blk s)
def fillL (l : List RowCell) (s : Int) : List RowCell := l.set (l.length - 1) ⟨32, s, 3⟩
theorem insert_eq (r : RowRow) (at_ n s : Int) (h : r.cells.length ≤ 1000) (ha : -9223372036854775808 ≤ at_) (hb : at_ ≤ 9223372036854775807) : p_row_Row_Insert r at_ n s = some ⟨mendS 0 (if withinS r.cells at_ n = 0 then r.cells else insertL r.cells at_.toNat (withinS r.cells at_ n).toNat s), false⟩ := by
  unfold p_row_Row_Insert
  rw [within_eq r at_ n (by omega) ha hb, bnd_some]
  by_cases h0 : withinS r.cells at_ n = 0
  · have e : (withinS r.cells at_ n == 0) = true := by simp [h0]
    rw [e, cond_true, cells_eq r (by omega), bnd_some, mend_eq _ (by omega), bnd_some, if_pos h0]
  · have e : (withinS r.cells at_ n == 0) = false := by simp [h0]
    rw [e, cond_false, if_neg h0]
    have hw : withinS r.cells at_ n = max 0 (min n (r.cells.length - at_)) ∧ 0 ≤ at_ ∧ at_ < r.cells.length := by
      unfold withinS at h0 ⊢
      by_cases hc : at_ < 0 ∨ at_ ≥ r.cells.length
      · rw [if_pos hc] at h0; exact absurd rfl h0
      · rw [if_neg hc]; exact ⟨rfl, by omega, by omega⟩
    obtain ⟨hw, h1, h2⟩ := hw
    generalize withinS r.cells at_ n = w at hw h0
    obtain ⟨k, rfl⟩ : ∃ k : Nat, at_ = k := ⟨at_.toNat, by omega⟩
    obtain ⟨m, rfl⟩ : ∃ m : Nat, w = m := ⟨w.toNat, by omega⟩
    have c1 : cut r.cells 0 (k : Int) = r.cells.take k := by simp [cut]
    have c2 : cut r.cells (k : Int) (r.cells.length : Int) = r.cells.drop k := by simp [cut]
    rw [cutok_true (by omega) (by omega) (by omega), bnd_some, cutok_true (by omega) (by omega) (by omega), bnd_some, blanks_eq _ _ (by omega), bnd_some, c1, c2, concat_eq _ (by simp [total]; omega) (by simp), bnd_some]
    have hl : ([r.cells.take k, List.replicate (m : Int).toNat (blk s), r.cells.drop k].flatten).length = r.cells.length + m := by simp; omega
    change (Option.bind (chk (cutok 0 (r.cells.length : Int) (([r.cells.take k, List.replicate (m : Int).toNat (blk s), r.cells.drop k].flatten).length : Int))) _) = _
    rw [hl, cutok_true (by omega) (by omega) (by omega), bnd_some]
    have c3 : cut ([r.cells.take k, List.replicate (m : Int).toNat (blk s), r.cells.drop k].flatten) 0 (r.cells.length : Int) = insertL r.cells (k : Int).toNat (m : Int).toNat s := by
      unfold cut insertL
      simp
    change (Option.bind (p_row_mend (cut ([r.cells.take k, List.replicate (m : Int).toNat (blk s), r.cells.drop k].flatten) 0 (r.cells.length : Int))) _) = _
    rw [c3, mend_eq _ (by unfold insertL; simp; omega), bnd_some]
theorem delete_eq (r : RowRow) (at_ n s : Int) (h : r.cells.length ≤ 1000) (ha : -9223372036854775808 ≤ at_) (hb : at_ ≤ 9223372036854775807) : p_row_Row_Delete r at_ n s = some ⟨mendS 0 (if withinS r.cells at_ n = 0 then r.cells else deleteL r.cells at_.toNat (withinS r.cells at_ n).toNat s), false⟩ := by
  unfold p_row_Row_Delete
  rw [within_eq r at_ n (by omega) ha hb, bnd_some]
  by_cases h0 : withinS r.cells at_ n = 0
  · have e : (withinS r.cells at_ n == 0) = true := by simp [h0]
    rw [e, cond_true, cells_eq r (by omega), bnd_some, mend_eq _ (by omega), bnd_some, if_pos h0]
  · have e : (withinS r.cells at_ n == 0) = false := by simp [h0]
    rw [e, cond_false, if_neg h0]
    have hw : withinS r.cells at_ n = max 0 (min n (r.cells.length - at_)) ∧ 0 ≤ at_ ∧ at_ < r.cells.length := by
      unfold withinS at h0 ⊢
      by_cases hc : at_ < 0 ∨ at_ ≥ r.cells.length
      · rw [if_pos hc] at h0; exact absurd rfl h0
      · rw [if_neg hc]; exact ⟨rfl, by omega, by omega⟩
    obtain ⟨hw, h1, h2⟩ := hw
    generalize withinS r.cells at_ n = w at hw h0
    obtain ⟨k, rfl⟩ : ∃ k : Nat, at_ = k := ⟨at_.toNat, by omega⟩
    obtain ⟨m, rfl⟩ : ∃ m : Nat, w = m := ⟨w.toNat, by omega⟩
    have c1 : cut r.cells 0 (k : Int) = r.cells.take k := by simp [cut]
    have c2 : cut r.cells ((k + m : Nat) : Int) (r.cells.length : Int) = r.cells.drop (k + m) := by
      unfold cut
      rw [Int.toNat_natCast, Int.toNat_natCast, List.take_length]
    have ek : ((k : Int) + (m : Int)) = ((k + m : Nat) : Int) := by omega
    have hkm : k + m ≤ r.cells.length := by omega
    rw [w64 (by omega) (by omega), ek, cutok_true (by omega) (by omega) (by omega), bnd_some, cutok_true (by omega) (by omega) (by omega), bnd_some, blanks_eq _ _ (by omega), bnd_some, c1, c2, concat_eq _ (by simp [total]; omega) (by simp), bnd_some]
    have c3 : [r.cells.take k, r.cells.drop (k + m), List.replicate (m : Int).toNat (blk s)].flatten = deleteL r.cells (k : Int).toNat (m : Int).toNat s := by
      unfold deleteL
      simp
    change (Option.bind (p_row_mend [r.cells.take k, r.cells.drop (k + m), List.replicate (m : Int).toNat (blk s)].flatten) _) = _
    rw [c3, mend_eq _ (by unfold deleteL; simp; omega), bnd_some]
theorem fill_eq (r : RowRow) (s : Int) (h : r.cells.length ≤ 1000000) : p_row_Row_Fill r s = some ⟨mendS 0 (fillL r.cells s), true⟩ := by
  unfold p_row_Row_Fill
  rw [cells_eq r h, bnd_some]
  by_cases h0 : (r.cells.length : Int) > 0
  · have e : decide ((r.cells.length : Int) > 0) = true := decide_eq_true h0
    have ew : IntKind.i64.wrap ((r.cells.length : Int) - 1) = ((r.cells.length - 1 : Nat) : Int) := by rw [w64 (by omega) (by omega)]; omega
    rw [e, cond_true, ew, idx_nat, List.getElem?_eq_getElem (by omega), bnd_some, bnd_some, Int.toNat_natCast]
    change (Option.bind (p_row_mend (fillL r.cells s)) _) = _
    rw [mend_eq _ (by simp [fillL]; exact h), bnd_some]
  · have e : decide ((r.cells.length : Int) > 0) = false := decide_eq_false h0
    have hn : r.cells = [] := List.eq_nil_of_length_eq_zero (by omega)
    rw [e, cond_false, bnd_some, mend_eq _ h, bnd_some]
    simp [fillL, hn]
def resizeL (l : List RowCell) (w : Nat) : List RowCell := l.take w ++ List.replicate (w - l.length) (blk 0)
theorem resize_eq (r : RowRow) (w : Int) (h : r.cells.length ≤ 1000000) : p_row_Row_Resize r w = some (if (max 0 (min w 1000)).toNat = r.cells.length then r else ⟨mendS 0 (resizeL r.cells (max 0 (min w 1000)).toNat), false⟩) := by
  unfold p_row_Row_Resize
  rw [clip_eq, bnd_some, cells_eq r h, bnd_some]
  generalize hv : max 0 (min w 1000) = v
  obtain ⟨k, rfl⟩ : ∃ k : Nat, v = k := ⟨v.toNat, by omega⟩
  rw [Int.toNat_natCast]
  by_cases h0 : k = r.cells.length
  · have e : ((k : Int) == (r.cells.length : Int)) = true := by simp [h0]
    rw [e, cond_true, if_pos h0]
  · have e : ((k : Int) == (r.cells.length : Int)) = false := by simp; omega
    have ec : (if (r.cells.length : Int) < (k : Int) then (r.cells.length : Int) else (k : Int)) = ((min k r.cells.length : Nat) : Int) := by split <;> omega
    have c1 : cut r.cells 0 ((min k r.cells.length : Nat) : Int) = r.cells.take k := by
      simp only [cut, Int.toNat_natCast, Int.toNat_zero, List.drop_zero]
      rw [← List.take_take, List.take_length]
    rw [e, cond_false, if_neg h0, ec, cutok_true (by omega) (by omega) (by omega), bnd_some, w64 (by omega) (by omega), blanks_eq _ _ (by omega), bnd_some, c1, apok_true (by simp; omega), bnd_some]
    have c2 : r.cells.take k ++ List.replicate ((k : Int) - (r.cells.length : Int)).toNat (blk 0) = resizeL r.cells k := by
      unfold resizeL
      congr 2
      omega
    change (Option.bind (Option.bind (p_row_mend (r.cells.take k ++ List.replicate ((k : Int) - (r.cells.length : Int)).toNat (blk 0))) _) _) = _
    rw [c2, mend_eq _ (by unfold resizeL; simp; omega), bnd_some, bnd_some]
end Go.Tw.Rw

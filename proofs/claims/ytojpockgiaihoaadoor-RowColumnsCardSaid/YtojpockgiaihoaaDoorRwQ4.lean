import Derived.Test.YtojpockgiaihoaaDoorRwQ3
set_option linter.unusedVariables false
set_option linter.unusedSimpArgs false
namespace Go.Tw.Rw
open Go Go.Tw
theorem grow_eq (n : Int) (h0 : 0 ≤ n) (h1 : n ≤ 1000000) : p_slices_Grow_row_Cell n = some [] := by
  unfold p_slices_Grow_row_Cell
  have hn : decide (n < 0) = false := decide_eq_false (by omega)
  have z : IntKind.i64.wrap (0 - 0) = 0 := by decide
  rw [hn, cond_false, z, w64 (by omega) (by omega), Int.sub_zero]
  by_cases hp : n > 0
  · have : decide (n > 0) = true := decide_eq_true hp
    rw [this, cond_true, gzok_true hp (by omega) (by omega), bnd_some, cutok_true (by omega) (by omega) (by omega), bnd_some]
    rfl
  · have : decide (n > 0) = false := decide_eq_false hp
    rw [this, cond_false]
    rfl
def total : List (List RowCell) → Nat
  | [] => 0
  | x :: r => x.length + total r
theorem total_append (a b : List (List RowCell)) : total (a ++ b) = total a + total b := by
  induction a with
  | nil => simp [total]
  | cons x a ih => simp only [List.cons_append, total, ih]; omega
theorem flatten_length (a : List (List RowCell)) : a.flatten.length = total a := by
  induction a with
  | nil => rfl
  | cons x a ih => simp only [List.flatten_cons, List.length_append, total, ih]
theorem concat_eq (ls : List (List RowCell)) (h : total ls ≤ 1000000) (h2 : ls.length ≤ 1000000) : p_slices_Concat_row_Cell ls = some ls.flatten := by
  unfold p_slices_Concat_row_Cell
  have k1 : ∀ (r d : List (List RowCell)), d ++ r = ls → iter (σ := Int × Int) (ρ := Int) (fun s55 => (bif (decide (s55.1 < (ls.length : Int))) then (Option.bind (idx ls s55.1) fun x101 => (bif (decide ((IntKind.i64.wrap (s55.2 + (x101.length : Int))) < 0)) then none else some (.inl ((IntKind.i64.wrap (s55.1 + 1)), (IntKind.i64.wrap (s55.2 + (x101.length : Int))))))) else some (.inr s55.2))) ((d.length : Int), (total d : Int)) = some (total ls : Int) := by
    intro r
    induction r with
    | nil =>
      intro d hd
      simp at hd
      subst hd
      rw [iter_inr (r := (total d : Int))]
      simp
    | cons x r ih =>
      intro d hd
      have hl : ls.length = d.length + r.length + 1 := by rw [← hd]; simp; omega
      have ht : total ls = total d + (x.length + total r) := by rw [← hd, total_append]; rfl
      rw [iter_inl (s' := (((d ++ [x]).length : Int), (total (d ++ [x]) : Int)))]
      · exact ih (d ++ [x]) (by simpa using hd)
      · have hc : decide ((d.length : Int) < (ls.length : Int)) = true := by simp; omega
        have hx : idx ls (d.length : Int) = some x := by rw [← hd]; exact idx_mid d r x
        simp only [hc, cond_true, hx, bnd_some]
        rw [w64 (by omega) (by omega), w64 (by omega) (by omega)]
        have hp : decide ((total d : Int) + (x.length : Int) < 0) = false := decide_eq_false (by omega)
        rw [hp, cond_false, total_append]
        simp [total]
  have k2 : ∀ (r d : List (List RowCell)), d ++ r = ls → iter (σ := Int × (List RowCell)) (ρ := (List RowCell)) (fun s197 => (bif (decide (s197.1 < (ls.length : Int))) then (Option.bind (idx ls s197.1) fun x258 => (Option.bind (chk (apok s197.2.length x258.length 24)) fun _ => some (.inl ((IntKind.i64.wrap (s197.1 + 1)), (s197.2 ++ x258))))) else some (.inr s197.2))) ((d.length : Int), d.flatten) = some ls.flatten := by
    intro r
    induction r with
    | nil =>
      intro d hd
      simp at hd
      subst hd
      rw [iter_inr (r := d.flatten)]
      simp
    | cons x r ih =>
      intro d hd
      have hl : ls.length = d.length + r.length + 1 := by rw [← hd]; simp; omega
      have ht : total ls = total d + (x.length + total r) := by rw [← hd, total_append]; rfl
      rw [iter_inl (s' := (((d ++ [x]).length : Int), (d ++ [x]).flatten))]
      · exact ih (d ++ [x]) (by simpa using hd)
      · have hc : decide ((d.length : Int) < (ls.length : Int)) = true := by simp; omega
        have hx : idx ls (d.length : Int) = some x := by rw [← hd]; exact idx_mid d r x
        simp only [hc, cond_true, hx, bnd_some]
        rw [w64 (by omega) (by omega), apok_true (by rw [flatten_length]; omega), bnd_some]
        simp
  have h0 := k1 ls [] rfl
  have h3 := k2 ls [] rfl
  have e0 : ((([] : List (List RowCell)).length : Nat) : Int) = 0 := rfl
  have e1 : ((total [] : Nat) : Int) = 0 := rfl
  rw [e0, e1] at h0
  rw [e0, List.flatten_nil] at h3
  rw [h0, bnd_some, grow_eq _ (by omega) (by omega), bnd_some, h3, bnd_some]
def blk (s : Int) : RowCell := ⟨32, s, 0⟩
/-- a half that lost its other one, ahead of a rune's cells -/
def putR (l1 : List RowCell) (at_ : Int) : List RowCell :=
  match (if at_ > 0 then l1[at_.toNat - 1]? else none) with
    | some c => if c.part = 1 then l1.set (at_.toNat - 1) (blk c.style) else l1
    | none => l1
theorem putR_length (l : List RowCell) (at_ : Int) : (putR l at_).length = l.length := by
  unfold putR
  split
  · split <;> simp
  · rfl
/-- a rune's cells -/
def putL (l : List RowCell) (at_ x s : Int) : List RowCell :=
  if ofS x = 0 ∨ at_ < 0 ∨ at_ > l.length - ofS x then l
  else if ofS x = 1 then l.set at_.toNat ⟨x, s, 0⟩
  else putR ((l.set at_.toNat ⟨x, s, 1⟩).set (at_.toNat + 1) ⟨x, s, 2⟩) at_
theorem putL_length (l : List RowCell) (at_ x s : Int) : (putL l at_ x s).length = l.length := by
  unfold putL
  split
  · rfl
  · split
    · simp
    · simp [putR_length]
theorem put_eq (r : RowRow) (at_ x s : Int) (h : r.cells.length ≤ 1000000) (ha : -9223372036854775808 ≤ at_) (hb : at_ ≤ 9223372036854775807) : p_row_Row_Put r at_ x s = some ⟨mendS 0 (putL r.cells at_ x s), false⟩ := by
  unfold p_row_Row_Put
  rw [cells_eq r h, bnd_some, of_eq, bnd_some]
  have h3 := ofS_cases x
  have fin : ∀ l : List RowCell, l.length = r.cells.length → (Option.bind (p_row_mend l) fun r184 => some r184) = some ⟨mendS 0 l, false⟩ := fun l hl => by rw [mend_eq l (by omega), bnd_some]
  rw [w64 (x := (r.cells.length : Int) - ofS x) (by omega) (by omega)]
  by_cases hc : ofS x = 0 ∨ at_ < 0 ∨ at_ > r.cells.length - ofS x
  · have hb2 : ((bif (ofS x == 0) then some true else (bif (decide (at_ < 0)) then some true else some (decide (at_ > ((r.cells.length : Int) - ofS x))))) : Option Bool) = some true := by
      rcases hc with hc | hc | hc
      · simp [hc]
      · cases h0 : (ofS x == 0) <;> simp [hc]
      · cases h0 : (ofS x == 0) <;> cases h1 : decide (at_ < 0) <;> simp [hc]
    rw [hb2, bnd_some, cond_true, bnd_some]
    unfold putL
    rw [if_pos hc]
    exact fin _ rfl
  · have hb2 : ((bif (ofS x == 0) then some true else (bif (decide (at_ < 0)) then some true else some (decide (at_ > ((r.cells.length : Int) - ofS x))))) : Option Bool) = some false := by
      have e0 : (ofS x == 0) = false := by simp; omega
      have e1 : decide (at_ < 0) = false := decide_eq_false (by omega)
      rw [e0, cond_false, e1, cond_false]
      simp
      omega
    rw [hb2, bnd_some, cond_false]
    obtain ⟨k, rfl⟩ : ∃ k : Nat, at_ = k := ⟨at_.toNat, by omega⟩
    unfold putL
    rw [if_neg hc]
    by_cases h1 : ofS x = 1
    · have e1 : (ofS x == 1) = true := by simp [h1]
      have hk : k < r.cells.length := by omega
      rw [e1, cond_true, idx_nat, List.getElem?_eq_getElem hk, bnd_some, bnd_some, if_pos h1, Int.toNat_natCast]
      exact fin _ (by simp)
    · have e1 : (ofS x == 1) = false := by simp [h1]
      have h2 : ofS x = 2 := by omega
      have hk : k + 1 < r.cells.length := by omega
      have ew : IntKind.i64.wrap ((k : Int) + 1) = ((k + 1 : Nat) : Int) := by rw [w64 (by omega) (by omega)]; omega
      rw [e1, cond_false, idx_nat, List.getElem?_eq_getElem (by omega : k < r.cells.length), bnd_some, ew, idx_nat, if_neg h1, Int.toNat_natCast, Int.toNat_natCast, List.getElem?_eq_getElem (by simp; omega), bnd_some]
      generalize hl1 : (r.cells.set k ⟨x, s, 1⟩).set (k + 1) ⟨x, s, 2⟩ = l1
      have hlen : l1.length = r.cells.length := by rw [← hl1]; simp
      unfold putR
      rw [show ((k : Int)).toNat = k from Int.toNat_natCast k]
      by_cases h0 : (k : Int) > 0
      · have e2 : decide ((k : Int) > 0) = true := decide_eq_true h0
        have em : IntKind.i64.wrap ((k : Int) - 1) = ((k - 1 : Nat) : Int) := by rw [w64 (by omega) (by omega)]; omega
        have hk1 : k - 1 < l1.length := by omega
        rw [e2, cond_true, em, idx_nat, Int.toNat_natCast, if_pos h0, List.getElem?_eq_getElem hk1, bnd_some, bnd_some]
        by_cases hp : (l1[k - 1]).part = 1
        · have e3 : ((l1[k - 1]).part == 1) = true := by simp [hp]
          rw [e3, cond_true]
          simp only [bnd_some, blank_eq, if_pos hp, Int.toNat_natCast]
          exact fin _ (by simpa using hlen)
        · have e3 : ((l1[k - 1]).part == 1) = false := by simp [hp]
          rw [e3, cond_false, bnd_some]
          simp only [if_neg hp]
          exact fin _ hlen
      · have e2 : decide ((k : Int) > 0) = false := decide_eq_false h0
        rw [e2, cond_false, if_neg h0, bnd_some, cond_false, bnd_some]
        exact fin _ hlen
end Go.Tw.Rw

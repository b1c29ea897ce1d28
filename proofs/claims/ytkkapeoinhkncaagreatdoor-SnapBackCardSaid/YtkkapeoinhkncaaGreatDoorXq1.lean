import Derived.Test.YtkkapeoinhkncaaGreatDoorXp1
import Derived.Test.YtkkapeoinhkncaaGreatDoorFw2
import Derived.Laws.BitsLemmas
import Derived.Laws.Strings
set_option linter.unusedVariables false
set_option linter.unusedSimpArgs false
namespace Go.Tw.X
open Go Go.Tw
def tc (c : RowCell) : Ref09Cell := ⟨c.rune, c.style, c.part⟩
def told (r : RowRow) : Ref09Row := ⟨r.cells.map tc, r.wrapped⟩
def nextD (r : List RowCell) : Int := match r with
  | [] => 0
  | d :: _ => d.part
def badS (p : Int) (c : RowCell) (r : List RowCell) : Bool :=
  bif c.part == 1 then (nextD r != 2) else bif c.part == 2 then (p != 1) else bif c.part == 3 then !r.isEmpty else false
def fixS (p : Int) (c : RowCell) (r : List RowCell) : RowCell := bif badS p c r then ⟨32, c.style, 0⟩ else c
def mendS : Int → List RowCell → List RowCell
  | _, [] => []
  | p, c :: r => fixS p c r :: mendS (fixS p c r).part r
theorem mendS_length : ∀ (l : List RowCell) (p : Int), (mendS p l).length = l.length
  | [], _ => rfl
  | c :: r, p => by simp [mendS, mendS_length r]
def lastP (l : List RowCell) : Int := lastD 0 (l.map (·.part))
theorem lastP_snoc (l : List RowCell) (c : RowCell) : lastP (l ++ [c]) = c.part := by simp [lastP, lastD_snoc]
theorem lastD_map {α β : Type} (f : α → β) (d : α) : ∀ l : List α, lastD (f d) (l.map f) = f (lastD d l)
  | [] => rfl
  | [x] => rfl
  | _ :: y :: l => lastD_map f d (y :: l)
theorem blank_eq (s : Int) : p_row_blank s = some ⟨32, s, 0⟩ := rfl
theorem broken_eq (l r : List RowCell) (c : RowCell) (h : (l ++ c :: r).length ≤ 1000000) : p_row_broken (l ++ c :: r) (l.length : Int) = some (badS (lastP l) c r) := by
  have hl : (l ++ c :: r).length = l.length + r.length + 1 := by simp; omega
  unfold p_row_broken
  rw [idx_mid, bnd_some]
  rw [w64 (x := (l.length : Int) + 1) (by omega) (by omega), w64 (x := (l.length : Int) - 1) (by omega) (by omega), w64 (x := ((l ++ c :: r).length : Int) - 1) (by omega) (by omega), idx_next, hl]
  unfold badS
  cases h1 : (c.part == 1) with
  | true =>
    simp only [cond_true]
    cases r with
    | nil => simp [nextD]
    | cons d r =>
      have hd : decide ((l.length : Int) + 1 ≥ ((l.length + (d :: r).length + 1 : Nat) : Int)) = false := decide_eq_false (by simp only [List.length_cons]; omega)
      rw [hd]
      simp [nextD]
  | false =>
    simp only [cond_false]
    cases h2 : (c.part == 2) with
    | true =>
      simp only [cond_true]
      cases hl0 : l with
      | nil => simp [lastP, lastD]
      | cons a t =>
        have hne : (((a :: t).length : Int) == 0) = false := by simp; omega
        rw [hne, cond_false, idx_last (a :: t) r ⟨0, 0, 0⟩ c (by simp)]
        simp only [bnd_some]
        rw [lastP, ← lastD_map (fun c : RowCell => c.part) ⟨0, 0, 0⟩]
    | false =>
      simp only [cond_false]
      cases h3 : (c.part == 3) with
      | true =>
        simp only [cond_true]
        cases r with
        | nil => simp
        | cons d r => simp; omega
      | false => rfl
theorem mend_eq (l : List RowCell) (h : l.length ≤ 1000000) : p_row_mend l = some ⟨mendS 0 l, false⟩ := by
  unfold p_row_mend
  have key : ∀ (r d : List RowCell), (d ++ r).length = l.length → iter (σ := (List RowCell) × Int) (ρ := (List RowCell)) (fun s => (bif (decide (s.2 < (l.length : Int))) then (Option.bind ((Option.bind (p_row_broken s.1 s.2) fun r1 => (bif r1 then (Option.bind (idx s.1 s.2) fun x => (Option.bind (p_row_blank x.style) fun r2 => (Option.bind (idx s.1 s.2) fun _ => some (s.1.set s.2.toNat r2)))) else some s.1)) : Option (List RowCell)) fun e => some (.inl (e, (IntKind.i64.wrap (s.2 + 1))))) else some (.inr s.1))) (d ++ r, (d.length : Int)) = some (d ++ mendS (lastP d) r) := by
    intro r
    induction r with
    | nil =>
      intro d hd
      simp at hd
      rw [iter_inr (r := d)]
      · simp [mendS]
      · simp [hd]
    | cons c r ih =>
      intro d hd
      have hdl : d.length < l.length := by rw [← hd]; simp
      have hlen : (d ++ fixS (lastP d) c r :: r).length = l.length := by rw [← hd]; simp
      rw [iter_inl (s' := ((d ++ [fixS (lastP d) c r]) ++ r, ((d ++ [fixS (lastP d) c r]).length : Int)))]
      · rw [ih (d ++ [fixS (lastP d) c r]) (by simpa using hlen), lastP_snoc]
        simp [mendS]
      · have hc : decide ((d.length : Int) < (l.length : Int)) = true := by simp; omega
        simp only [hc, cond_true]
        rw [broken_eq d r c (by rw [hd]; exact h), idx_mid]
        simp only [bnd_some, blank_eq]
        rw [w64 (by omega) (by omega)]
        unfold fixS
        cases badS (lastP d) c r with
        | true => simp
        | false => simp
  have := key l [] (by simp)
  simp only [List.nil_append, List.length_nil, Int.ofNat_zero] at this
  rw [this]
  rfl
end Go.Tw.X

set_option linter.unusedVariables false
set_option linter.unusedSimpArgs false
namespace Go.Tw.X
open Go Go.Tw
theorem wrapu (n : Int) : IntKind.u64.wrap n = n % 18446744073709551616 := by simp [IntKind.wrap, IntKind.bits, IntKind.signed]
theorem wraps63 (n : Int) (h0 : 0 ≤ n) (h1 : n < 2 ^ 63) : IntKind.u64.wrap n = n := by rw [wrapu]; omega
theorem mask32 (y : Int) (h0 : 0 ≤ y) (h1 : y < 4294967296) : Go.bits .and .u64 y 4294967295 = y := by
  have h := bits_mask .u64 63 (by decide) wraps63 32 (by decide) y h0 (by omega)
  have e : ((2 : Int) ^ 32 - 1) = 4294967295 := by decide
  have e2 : ((2 : Int) ^ 32) = 4294967296 := by decide
  rw [e, e2] at h
  rw [h]
  omega
theorem u64id {x : Int} (h0 : 0 ≤ x) (h1 : x < 18446744073709551616) : IntKind.u64.wrap x = x := by rw [wrapu]; omega
theorem mul_one_eq (n : Int) (h0 : 0 ≤ n) (h1 : n ≤ 1000000) : p_bits_Mul 1 n = some (0, n) := by
  have e32 : (2 : Int) ^ (min 32 64) = 4294967296 := by decide
  have f1 : Int.fdiv 1 4294967296 = 0 := by decide
  have f2 : Int.fdiv n 4294967296 = 0 := by rw [Int.fdiv_eq_ediv_of_nonneg _ (by decide)]; omega
  have f0 : Int.fdiv 0 4294967296 = 0 := by decide
  have z0 : IntKind.u64.wrap 0 = 0 := by rw [wrapu]; rfl
  have m0 : Go.bits .and .u64 0 4294967295 = 0 := mask32 0 (by omega) (by omega)
  have m1 : Go.bits .and .u64 1 4294967295 = 1 := mask32 1 (by omega) (by omega)
  have mn := mask32 n h0 (by omega)
  have un : IntKind.u64.wrap n = n := u64id h0 (by omega)
  unfold p_bits_Mul p_bits_Mul64
  simp only [e32, f1, f2, m1, mn, Int.zero_mul, Int.mul_zero, Int.one_mul, z0, un, f0, Int.add_zero, Int.zero_add, m0, bnd_some]
theorem repeat_eq (c : RowCell) (n : Int) (h0 : 0 ≤ n) (h1 : n ≤ 1000000) : p_slices_Repeat_row_Cell [c] n = some (List.replicate n.toNat c) := by
  unfold p_slices_Repeat_row_Cell
  have hn : decide (n < 0) = false := decide_eq_false (by omega)
  have u1 : IntKind.u64.wrap (([c].length : Nat) : Int) = 1 := u64id (by simp) (by simp)
  rw [hn, cond_false, u1, u64id h0 (by omega), mul_one_eq n h0 h1]
  simp only [bnd_some]
  have g1 : decide ((0 : Int) > 0) = false := by decide
  have g2 : decide (n > 9223372036854775807) = false := decide_eq_false (by omega)
  rw [g1, cond_false, bnd_some, g2, cond_false, w64 (by omega) (by omega), mkok_true h0 (by omega) (by omega), bnd_some]
  obtain ⟨k, rfl⟩ : ∃ k : Nat, n = k := ⟨n.toNat, by omega⟩
  simp only [Int.toNat_natCast, List.length_cons, List.length_nil, List.length_replicate]
  have key : ∀ m j, k - j = m → j ≤ k → (1 ≤ j ∨ k = 0) → iter (σ := (List RowCell) × Int) (ρ := (List RowCell)) (fun s67 => (bif (decide (s67.2 < (s67.1.length : Int))) then (Option.bind (chk (cutok s67.2 (s67.1.length : Int) s67.1.length)) fun _ => (Option.bind (chk (cutok 0 s67.2 s67.1.length)) fun _ => some (.inl ((cpys s67.1 s67.2.toNat), (IntKind.i64.wrap (s67.2 + ((Nat.min s67.2.toNat (s67.1.length - s67.2.toNat) : Nat) : Int))))))) else some (.inr s67.1))) (List.replicate j c ++ List.replicate (k - j) (RowCell.mk 0 0 0), (j : Int)) = some (List.replicate k c) := by
    intro m
    induction m using Nat.strongRecOn with
    | _ m ih =>
      intro j hm hj h1j
      have hlen : (List.replicate j c ++ List.replicate (k - j) (RowCell.mk 0 0 0)).length = k := by simp; omega
      by_cases hjk : j < k
      · have hmin : Nat.min j (k - j) = min j (k - j) := rfl
        rw [iter_inl (s' := (List.replicate (j + min j (k - j)) c ++ List.replicate (k - (j + min j (k - j))) (RowCell.mk 0 0 0), ((j + min j (k - j) : Nat) : Int)))]
        · exact ih (k - (j + min j (k - j))) (by omega) _ rfl (by omega) (by omega)
        · have hc : decide ((j : Int) < ((List.replicate j c ++ List.replicate (k - j) (RowCell.mk 0 0 0)).length : Int)) = true := by rw [hlen]; simp; omega
          simp only [hc, cond_true]
          rw [hlen, cutok_true (by omega) (by omega) (by omega), bnd_some, cutok_true (by omega) (by omega) (by omega), bnd_some, Int.toNat_natCast, hmin, w64 (by omega) (by omega)]
          congr 2
          refine Prod.ext ?_ ?_
          · show cpys _ _ = _
            unfold cpys
            rw [hlen]
            have t1 : (List.replicate j c ++ List.replicate (k - j) (RowCell.mk 0 0 0)).take j = List.replicate j c := by rw [List.take_left']; simp
            rw [t1, List.take_replicate, List.drop_append, List.drop_of_length_le (by simp), List.nil_append, List.length_replicate, List.drop_replicate, List.replicate_append_replicate, Nat.min_comm (k - j) j]
            congr 2
            omega
          · show ((j : Int) + ((min j (k - j) : Nat) : Int)) = _
            omega
      · have hjk' : j = k := by omega
        subst hjk'
        rw [iter_inr (r := List.replicate j c)]
        simp
  have hs : cpy (List.replicate k (RowCell.mk 0 0 0)) [c] = List.replicate (min 1 k) c ++ List.replicate (k - min 1 k) (RowCell.mk 0 0 0) := by
    unfold cpy
    cases k with
    | zero => simp
    | succ k => simp [Nat.min_eq_left]
  have hmin : Nat.min (0 + 1) k = min 1 k := rfl
  rw [hs, hmin, key _ (min 1 k) rfl (by omega) (by omega), bnd_some]
theorem blanks_eq (n s : Int) (h : n ≤ 1000000) : p_row_blanks n s = some (List.replicate n.toNat ⟨32, s, 0⟩) := by
  unfold p_row_blanks
  rw [blank_eq, bnd_some]
  rw [imax_eq, repeat_eq _ (max 0 n) (by omega) (by omega), bnd_some]
  have : (max 0 n).toNat = n.toNat := by omega
  rw [this]
theorem clip_eq (n lo hi : Int) : p_row_clip n lo hi = some (max lo (min n hi)) := by
  unfold p_row_clip
  rw [imax_eq, imin_eq]
theorem clone_eq (l : List RowCell) (h : l.length ≤ 1000000) : p_slices_Clone_row_Cell l = some l := by
  unfold p_slices_Clone_row_Cell
  rw [apok_true (by simp; omega), bnd_some]
  rfl
theorem cells_eq (r : RowRow) (h : r.cells.length ≤ 1000000) : p_row_Row_cells r = some r.cells := by
  unfold p_row_Row_cells
  rw [clone_eq _ h, bnd_some]
def withinS (l : List RowCell) (at_ n : Int) : Int := if at_ < 0 ∨ at_ ≥ l.length then 0 else max 0 (min n (l.length - at_))
theorem within_eq (r : RowRow) (at_ n : Int) (h : r.cells.length ≤ 1000000) (ha : -9223372036854775808 ≤ at_) (hb : at_ ≤ 9223372036854775807) : p_row_Row_within r at_ n = some (withinS r.cells at_ n) := by
  unfold p_row_Row_within withinS
  by_cases h1 : at_ < 0
  · rw [if_pos (.inl h1)]
    simp [h1]
  · by_cases h2 : at_ ≥ r.cells.length
    · rw [if_pos (.inr h2)]
      simp [h1, h2]
    · rw [if_neg (by omega)]
      have e1 : decide (at_ < 0) = false := decide_eq_false h1
      have e2 : decide (at_ ≥ (r.cells.length : Int)) = false := decide_eq_false h2
      rw [e1, cond_false, e2, bnd_some, cond_false, w64 (by omega) (by omega), clip_eq, bnd_some]
end Go.Tw.X

set_option linter.unusedVariables false
set_option linter.unusedSimpArgs false
namespace Go.Tw.X
open Go Go.Tw
/-- where the first one lies whose end isn't below r -/
def cntS (r : Int) : List WideSpan → Nat
  | [] => 0
  | s :: l => if s.to < r then cntS r l + 1 else 0
def inS (l : List WideSpan) (r : Int) : Bool := l.any fun s => decide (s.from_ ≤ r ∧ r ≤ s.to)
/-- rising, and apart -/
def rising : List WideSpan → Bool
  | [] => true
  | [s] => true
  | s :: t :: l => decide (s.to < t.from_ ∧ t.from_ ≤ t.to) && rising (t :: l)
theorem cntS_le (r : Int) : ∀ l : List WideSpan, cntS r l ≤ l.length
  | [] => Nat.le_refl _
  | s :: l => by
    unfold cntS
    have := cntS_le r l
    split <;> simp <;> omega
theorem rising_tail {s : WideSpan} {l : List WideSpan} (h : rising (s :: l) = true) : rising l = true := by
  cases l with
  | nil => rfl
  | cons t l => simp only [rising, Bool.and_eq_true] at h; exact h.2
theorem rising_all {s : WideSpan} : ∀ {l : List WideSpan}, rising (s :: l) = true → ∀ t ∈ l, s.to < t.from_ ∧ t.from_ ≤ t.to
  | [], _, t, ht => by cases ht
  | u :: l, h, t, ht => by
    simp only [rising, Bool.and_eq_true, decide_eq_true_eq] at h
    rcases List.mem_cons.1 ht with rfl | ht
    · exact h.1
    · have := rising_all h.2 t ht
      have := h.1
      omega
theorem cntS_at (r : Int) : ∀ {l : List WideSpan}, rising l = true → ∀ (i : Nat) (s : WideSpan), l[i]? = some s → (s.to < r ↔ i < cntS r l)
  | [], _, i, s, h => by simp at h
  | u :: l, hr, i, s, h => by
    cases i with
    | zero =>
      simp at h
      subst h
      unfold cntS
      split <;> simp [*]
    | succ i =>
      simp at h
      have ih := cntS_at r (rising_tail hr) i s h
      unfold cntS
      split
      · rw [ih]; omega
      · have := rising_all hr s (List.mem_of_getElem? h)
        constructor
        · intro; omega
        · intro; omega
theorem inS_cnt (r : Int) : ∀ {l : List WideSpan}, rising l = true → inS l r = (match l[cntS r l]? with | some s => decide (s.from_ ≤ r) | none => false)
  | [], _ => rfl
  | u :: l, hr => by
    have ih := inS_cnt r (rising_tail hr)
    unfold inS at ih ⊢
    unfold cntS
    by_cases hu : u.to < r
    · rw [if_pos hu, List.any_cons, ih]
      have : decide (u.from_ ≤ r ∧ r ≤ u.to) = false := by simp; omega
      simp [this]
    · rw [if_neg hu, List.any_cons]
      simp only [List.getElem?_cons_zero]
      by_cases hf : u.from_ ≤ r
      · have : decide (u.from_ ≤ r ∧ r ≤ u.to) = true := by simp; omega
        rw [this, Bool.true_or]
        simp [hf]
      · have h1 : decide (u.from_ ≤ r ∧ r ≤ u.to) = false := by simp; omega
        have h2 : (l.any fun s => decide (s.from_ ≤ r ∧ r ≤ s.to)) = false := by
          rw [List.any_eq_false]
          intro t ht
          have := rising_all hr t ht
          simp
          omega
        rw [h1, h2]
        simp [hf]
theorem in_eq (l : List WideSpan) (r : Int) (hr : rising l = true) (hl : l.length ≤ 1000000) : p_wide_in l r = some (inS l r) := by
  unfold p_wide_in
  have key : ∀ m lo hi, hi - lo = m → lo ≤ cntS r l → cntS r l ≤ hi → hi ≤ l.length → iter (σ := Int × Int) (ρ := Int) (fun s39 => (bif (decide (s39.1 < s39.2)) then (Option.bind (idx l (IntKind.i64.wrap ((IntKind.i64.wrap (s39.1 + s39.2)).tdiv 2))) fun x64 => (bif (decide (x64.to < r)) then some (.inl ((IntKind.i64.wrap ((IntKind.i64.wrap ((IntKind.i64.wrap (s39.1 + s39.2)).tdiv 2)) + 1)), s39.2)) else some (.inl (s39.1, (IntKind.i64.wrap ((IntKind.i64.wrap (s39.1 + s39.2)).tdiv 2)))))) else some (.inr s39.1))) ((lo : Int), (hi : Int)) = some ((cntS r l : Nat) : Int) := by
    intro m
    induction m using Nat.strongRecOn with
    | _ m ih =>
      intro lo hi hm h1 h2 h3
      by_cases hlt : lo < hi
      · have e : (IntKind.i64.wrap ((IntKind.i64.wrap ((lo : Int) + (hi : Int))).tdiv 2)) = (((lo + hi) / 2 : Nat) : Int) := by
          rw [w64 (x := (lo : Int) + (hi : Int)) (by omega) (by omega)]
          have e1 : ((lo : Int) + (hi : Int)).tdiv 2 = (((lo + hi) / 2 : Nat) : Int) := by
            rw [Int.tdiv_eq_ediv_of_nonneg (by omega)]
            omega
          rw [e1, w64 (by omega) (by omega)]
        have hmid : (lo + hi) / 2 < l.length := by omega
        have hc : decide ((lo : Int) < (hi : Int)) = true := by simp; omega
        have hx : idx l (((lo + hi) / 2 : Nat) : Int) = some l[(lo + hi) / 2] := by rw [idx_nat]; simp [hmid]
        have hat := cntS_at r hr ((lo + hi) / 2) l[(lo + hi) / 2] (by simp [hmid])
        by_cases hto : (l[(lo + hi) / 2]).to < r
        · rw [iter_inl (s' := ((((lo + hi) / 2 + 1 : Nat) : Int), (hi : Int)))]
          · have := hat.1 hto
            exact ih (hi - ((lo + hi) / 2 + 1)) (by omega) _ _ rfl (by omega) h2 h3
          · simp only [hc, cond_true, e, hx, bnd_some, hto, decide_true]
            rw [w64 (by omega) (by omega)]
            rfl
        · rw [iter_inl (s' := ((lo : Int), (((lo + hi) / 2 : Nat) : Int)))]
          · have : ¬ (lo + hi) / 2 < cntS r l := fun h => hto (hat.2 h)
            exact ih ((lo + hi) / 2 - lo) (by omega) _ _ rfl h1 (by omega) (by omega)
          · simp only [hc, cond_true, e, hx, bnd_some, hto, decide_false, cond_false]
      · have : lo = cntS r l := by omega
        rw [iter_inr (r := (lo : Int)), this]
        have hc : decide ((lo : Int) < (hi : Int)) = false := by simp; omega
        simp only [hc, cond_false]
  have h0 := key (l.length - 0) 0 l.length rfl (Nat.zero_le _) (cntS_le r l) (Nat.le_refl _)
  have e0 : ((0 : Nat) : Int) = 0 := rfl
  rw [e0] at h0
  rw [h0, bnd_some, inS_cnt r hr]
  have hle := cntS_le r l
  by_cases hlt : cntS r l < l.length
  · have hc : decide (((cntS r l : Nat) : Int) < (l.length : Int)) = true := by simp; omega
    rw [hc, cond_true, idx_nat, List.getElem?_eq_getElem hlt]
    rfl
  · have hc : decide (((cntS r l : Nat) : Int) < (l.length : Int)) = false := by simp; omega
    rw [hc, cond_false, List.getElem?_eq_none (by omega)]
    rfl
/-- how many columns -/
def ofS (r : Int) : Int := if inS t_wide_nones r then 0 else if inS t_wide_twos r then 2 else 1
theorem of_eq (r : Int) : p_wide_Of r = some (ofS r) := by
  unfold p_wide_Of
  rw [in_eq t_wide_nones r (by decide) (by decide), in_eq t_wide_twos r (by decide) (by decide)]
  simp only [bnd_some, ofS]
  cases inS t_wide_nones r <;> cases inS t_wide_twos r <;> rfl
theorem ofS_cases (r : Int) : ofS r = 0 ∨ ofS r = 1 ∨ ofS r = 2 := by
  unfold ofS
  split
  · exact .inl rfl
  · split
    · exact .inr (.inr rfl)
    · exact .inr (.inl rfl)
end Go.Tw.X

set_option linter.unusedVariables false
set_option linter.unusedSimpArgs false
namespace Go.Tw.X
open Go Go.Tw
theorem grow_eq (n : Int) (h0 : 0 ≤ n) (h1 : n ≤ 1000000) : p_slices_Grow_row_Cell n = some [] := by
  unfold p_slices_Grow_row_Cell
  have hn : decide (n < 0) = false := decide_eq_false (by omega)
  have z : IntKind.i64.wrap (0 - 0) = 0 := by decide
  rw [hn, cond_false, z, w64 (by omega) (by omega), Int.sub_zero]
  by_cases hp : n > 0
  · have : decide (n > 0) = true := decide_eq_true hp
    rw [this, cond_true, gzok_true hp (by omega) (by omega), bnd_some, cutok_true (by omega) (by omega) (by omega), bnd_some]
    rfl
  · have : decide (n > 0) = false := decide_eq_false hp
    rw [this, cond_false]
    rfl
def total : List (List RowCell) → Nat
  | [] => 0
  | x :: r => x.length + total r
theorem total_append (a b : List (List RowCell)) : total (a ++ b) = total a + total b := by
  induction a with
  | nil => simp [total]
  | cons x a ih => simp only [List.cons_append, total, ih]; omega
theorem flatten_length (a : List (List RowCell)) : a.flatten.length = total a := by
  induction a with
  | nil => rfl
  | cons x a ih => simp only [List.flatten_cons, List.length_append, total, ih]
theorem concat_eq (ls : List (List RowCell)) (h : total ls ≤ 1000000) (h2 : ls.length ≤ 1000000) : p_slices_Concat_row_Cell ls = some ls.flatten := by
  unfold p_slices_Concat_row_Cell
  have k1 : ∀ (r d : List (List RowCell)), d ++ r = ls → iter (σ := Int × Int) (ρ := Int) (fun s55 => (bif (decide (s55.1 < (ls.length : Int))) then (Option.bind (idx ls s55.1) fun x101 => (bif (decide ((IntKind.i64.wrap (s55.2 + (x101.length : Int))) < 0)) then none else some (.inl ((IntKind.i64.wrap (s55.1 + 1)), (IntKind.i64.wrap (s55.2 + (x101.length : Int))))))) else some (.inr s55.2))) ((d.length : Int), (total d : Int)) = some (total ls : Int) := by
    intro r
    induction r with
    | nil =>
      intro d hd
      simp at hd
      subst hd
      rw [iter_inr (r := (total d : Int))]
      simp
    | cons x r ih =>
      intro d hd
      have hl : ls.length = d.length + r.length + 1 := by rw [← hd]; simp; omega
      have ht : total ls = total d + (x.length + total r) := by rw [← hd, total_append]; rfl
      rw [iter_inl (s' := (((d ++ [x]).length : Int), (total (d ++ [x]) : Int)))]
      · exact ih (d ++ [x]) (by simpa using hd)
      · have hc : decide ((d.length : Int) < (ls.length : Int)) = true := by simp; omega
        have hx : idx ls (d.length : Int) = some x := by rw [← hd]; exact idx_mid d r x
        simp only [hc, cond_true, hx, bnd_some]
        rw [w64 (by omega) (by omega), w64 (by omega) (by omega)]
        have hp : decide ((total d : Int) + (x.length : Int) < 0) = false := decide_eq_false (by omega)
        rw [hp, cond_false, total_append]
        simp [total]
  have k2 : ∀ (r d : List (List RowCell)), d ++ r = ls → iter (σ := Int × (List RowCell)) (ρ := (List RowCell)) (fun s197 => (bif (decide (s197.1 < (ls.length : Int))) then (Option.bind (idx ls s197.1) fun x258 => (Option.bind (chk (apok s197.2.length x258.length 24)) fun _ => some (.inl ((IntKind.i64.wrap (s197.1 + 1)), (s197.2 ++ x258))))) else some (.inr s197.2))) ((d.length : Int), d.flatten) = some ls.flatten := by
    intro r
    induction r with
    | nil =>
      intro d hd
      simp at hd
      subst hd
      rw [iter_inr (r := d.flatten)]
      simp
    | cons x r ih =>
      intro d hd
      have hl : ls.length = d.length + r.length + 1 := by rw [← hd]; simp; omega
      have ht : total ls = total d + (x.length + total r) := by rw [← hd, total_append]; rfl
      rw [iter_inl (s' := (((d ++ [x]).length : Int), (d ++ [x]).flatten))]
      · exact ih (d ++ [x]) (by simpa using hd)
      · have hc : decide ((d.length : Int) < (ls.length : Int)) = true := by simp; omega
        have hx : idx ls (d.length : Int) = some x := by rw [← hd]; exact idx_mid d r x
        simp only [hc, cond_true, hx, bnd_some]
        rw [w64 (by omega) (by omega), apok_true (by rw [flatten_length]; omega), bnd_some]
        simp
  have h0 := k1 ls [] rfl
  have h3 := k2 ls [] rfl
  have e0 : ((([] : List (List RowCell)).length : Nat) : Int) = 0 := rfl
  have e1 : ((total [] : Nat) : Int) = 0 := rfl
  rw [e0, e1] at h0
  rw [e0, List.flatten_nil] at h3
  rw [h0, bnd_some, grow_eq _ (by omega) (by omega), bnd_some, h3, bnd_some]
def blk (s : Int) : RowCell := ⟨32, s, 0⟩
/-- a half that lost its other one, ahead of a rune's cells -/
def putR (l1 : List RowCell) (at_ : Int) : List RowCell :=
  match (if at_ > 0 then l1[at_.toNat - 1]? else none) with
    | some c => if c.part = 1 then l1.set (at_.toNat - 1) (blk c.style) else l1
    | none => l1
theorem putR_length (l : List RowCell) (at_ : Int) : (putR l at_).length = l.length := by
  unfold putR
  split
  · split <;> simp
  · rfl
/-- a rune's cells -/
def putL (l : List RowCell) (at_ x s : Int) : List RowCell :=
  if ofS x = 0 ∨ at_ < 0 ∨ at_ > l.length - ofS x then l
  else if ofS x = 1 then l.set at_.toNat ⟨x, s, 0⟩
  else putR ((l.set at_.toNat ⟨x, s, 1⟩).set (at_.toNat + 1) ⟨x, s, 2⟩) at_
theorem putL_length (l : List RowCell) (at_ x s : Int) : (putL l at_ x s).length = l.length := by
  unfold putL
  split
  · rfl
  · split
    · simp
    · simp [putR_length]
theorem put_eq (r : RowRow) (at_ x s : Int) (h : r.cells.length ≤ 1000000) (ha : -9223372036854775808 ≤ at_) (hb : at_ ≤ 9223372036854775807) : p_row_Row_Put r at_ x s = some ⟨mendS 0 (putL r.cells at_ x s), false⟩ := by
  unfold p_row_Row_Put
  rw [cells_eq r h, bnd_some, of_eq, bnd_some]
  have h3 := ofS_cases x
  have fin : ∀ l : List RowCell, l.length = r.cells.length → (Option.bind (p_row_mend l) fun r184 => some r184) = some ⟨mendS 0 l, false⟩ := fun l hl => by rw [mend_eq l (by omega), bnd_some]
  rw [w64 (x := (r.cells.length : Int) - ofS x) (by omega) (by omega)]
  by_cases hc : ofS x = 0 ∨ at_ < 0 ∨ at_ > r.cells.length - ofS x
  · have hb2 : ((bif (ofS x == 0) then some true else (bif (decide (at_ < 0)) then some true else some (decide (at_ > ((r.cells.length : Int) - ofS x))))) : Option Bool) = some true := by
      rcases hc with hc | hc | hc
      · simp [hc]
      · cases h0 : (ofS x == 0) <;> simp [hc]
      · cases h0 : (ofS x == 0) <;> cases h1 : decide (at_ < 0) <;> simp [hc]
    rw [hb2, bnd_some, cond_true, bnd_some]
    unfold putL
    rw [if_pos hc]
    exact fin _ rfl
  · have hb2 : ((bif (ofS x == 0) then some true else (bif (decide (at_ < 0)) then some true else some (decide (at_ > ((r.cells.length : Int) - ofS x))))) : Option Bool) = some false := by
      have e0 : (ofS x == 0) = false := by simp; omega
      have e1 : decide (at_ < 0) = false := decide_eq_false (by omega)
      rw [e0, cond_false, e1, cond_false]
      simp
      omega
    rw [hb2, bnd_some, cond_false]
    obtain ⟨k, rfl⟩ : ∃ k : Nat, at_ = k := ⟨at_.toNat, by omega⟩
    unfold putL
    rw [if_neg hc]
    by_cases h1 : ofS x = 1
    · have e1 : (ofS x == 1) = true := by simp [h1]
      have hk : k < r.cells.length := by omega
      rw [e1, cond_true, idx_nat, List.getElem?_eq_getElem hk, bnd_some, bnd_some, if_pos h1, Int.toNat_natCast]
      exact fin _ (by simp)
    · have e1 : (ofS x == 1) = false := by simp [h1]
      have h2 : ofS x = 2 := by omega
      have hk : k + 1 < r.cells.length := by omega
      have ew : IntKind.i64.wrap ((k : Int) + 1) = ((k + 1 : Nat) : Int) := by rw [w64 (by omega) (by omega)]; omega
      rw [e1, cond_false, idx_nat, List.getElem?_eq_getElem (by omega : k < r.cells.length), bnd_some, ew, idx_nat, if_neg h1, Int.toNat_natCast, Int.toNat_natCast, List.getElem?_eq_getElem (by simp; omega), bnd_some]
      generalize hl1 : (r.cells.set k ⟨x, s, 1⟩).set (k + 1) ⟨x, s, 2⟩ = l1
      have hlen : l1.length = r.cells.length := by rw [← hl1]; simp
      unfold putR
      rw [show ((k : Int)).toNat = k from Int.toNat_natCast k]
      by_cases h0 : (k : Int) > 0
      · have e2 : decide ((k : Int) > 0) = true := decide_eq_true h0
        have em : IntKind.i64.wrap ((k : Int) - 1) = ((k - 1 : Nat) : Int) := by rw [w64 (by omega) (by omega)]; omega
        have hk1 : k - 1 < l1.length := by omega
        rw [e2, cond_true, em, idx_nat, Int.toNat_natCast, if_pos h0, List.getElem?_eq_getElem hk1, bnd_some, bnd_some]
        by_cases hp : (l1[k - 1]).part = 1
        · have e3 : ((l1[k - 1]).part == 1) = true := by simp [hp]
          rw [e3, cond_true]
          simp only [bnd_some, blank_eq, if_pos hp, Int.toNat_natCast]
          exact fin _ (by simpa using hlen)
        · have e3 : ((l1[k - 1]).part == 1) = false := by simp [hp]
          rw [e3, cond_false, bnd_some]
          simp only [if_neg hp]
          exact fin _ hlen
      · have e2 : decide ((k : Int) > 0) = false := decide_eq_false h0
        rw [e2, cond_false, if_neg h0, bnd_some, cond_false, bnd_some]
        exact fin _ hlen
end Go.Tw.X

set_option linter.unusedVariables false
set_option linter.unusedSimpArgs false
namespace Go.Tw.X
open Go Go.Tw
/-- blanks from one to another, the first one being number i -/
def eraseL (a b s : Int) : Int → List RowCell → List RowCell
  | _, [] => []
  | i, c :: r => (if a ≤ i ∧ i < b then blk s else c) :: eraseL a b s (i + 1) r
theorem eraseL_length (a b s : Int) : ∀ (l : List RowCell) (i : Int), (eraseL a b s i l).length = l.length
  | [], _ => rfl
  | c :: r, i => by simp [eraseL, eraseL_length a b s r]
theorem eraseL_none (a b s : Int) : ∀ (l : List RowCell) (i : Int), b ≤ i → eraseL a b s i l = l
  | [], _, _ => rfl
  | c :: r, i, h => by
    unfold eraseL
    rw [if_neg (by omega), eraseL_none a b s r (i + 1) (by omega)]
theorem eraseL_get (a b s : Int) : ∀ (l : List RowCell) (i : Int) (j : Nat), (eraseL a b s i l)[j]? = (l[j]?).map fun c => if a ≤ i + j ∧ i + j < b then blk s else c
  | [], _, _ => by simp [eraseL]
  | c :: r, i, 0 => by simp [eraseL]
  | c :: r, i, j + 1 => by
    have := eraseL_get a b s r (i + 1) j
    simp only [eraseL, List.getElem?_cons_succ, this]
    have e : i + 1 + (j : Int) = i + ((j + 1 : Nat) : Int) := by omega
    rw [e]
theorem erase_eq (r : RowRow) (a b s : Int) (h : r.cells.length ≤ 1000000) : p_row_Row_Erase r a b s = some ⟨mendS 0 (eraseL a b s 0 r.cells), false⟩ := by
  unfold p_row_Row_Erase
  rw [cells_eq r h, bnd_some, clip_eq, bnd_some]
  generalize hA : max 0 (min a (r.cells.length : Int)) = A
  generalize hB : max 0 (min b (r.cells.length : Int)) = B
  have key : ∀ m (i : Nat) (l : List RowCell), B.toNat - i = m → l.length = r.cells.length → iter (σ := Int × (List RowCell)) (ρ := (List RowCell)) (fun s73 => (Option.bind (p_row_clip b 0 (s73.2.length : Int)) fun r108 => (bif (decide (s73.1 < r108)) then (Option.bind (p_row_blank s) fun r122 => (Option.bind (idx s73.2 s73.1) fun x125 => some (.inl ((IntKind.i64.wrap (s73.1 + 1)), (s73.2.set s73.1.toNat r122))))) else some (.inr s73.2)))) ((i : Int), l) = some (eraseL i B s 0 l) := by
    intro m
    induction m with
    | zero =>
      intro i l hm hl
      rw [iter_inr (r := l)]
      · congr 1
        apply List.ext_getElem?
        intro j
        rw [eraseL_get]
        cases hj : l[j]? with
        | none => rfl
        | some c =>
          simp
          intro h1 h2
          omega
      · simp only [clip_eq, bnd_some, hl, hB]
        have : decide ((i : Int) < B) = false := decide_eq_false (by omega)
        rw [this, cond_false]
    | succ m ih =>
      intro i l hm hl
      have hi : i < l.length := by omega
      rw [iter_inl (s' := (((i + 1 : Nat) : Int), l.set i (blk s)))]
      · rw [ih (i + 1) (l.set i (blk s)) (by omega) (by simpa using hl)]
        congr 1
        apply List.ext_getElem?
        intro j
        rw [eraseL_get, eraseL_get, List.getElem?_set]
        by_cases hij : i = j
        · subst hij
          rw [if_pos rfl, if_pos hi, List.getElem?_eq_getElem hi]
          simp
          omega
        · rw [if_neg hij]
          cases hj : l[j]? with
          | none => rfl
          | some c =>
            simp only [Option.map_some, Option.some.injEq]
            by_cases h1 : (i : Int) ≤ 0 + (j : Int) ∧ 0 + (j : Int) < B
            · rw [if_pos h1, if_pos (by omega)]
            · rw [if_neg h1, if_neg (by omega)]
      · simp only [clip_eq, bnd_some, hl, hB]
        have : decide ((i : Int) < B) = true := decide_eq_true (by omega)
        rw [this, cond_true, idx_nat, List.getElem?_eq_getElem hi, w64 (by omega) (by omega)]
        rfl
  obtain ⟨k, hk⟩ : ∃ k : Nat, A = k := ⟨A.toNat, by omega⟩
  rw [hk, key _ k r.cells rfl rfl, bnd_some, mend_eq _ (by rw [eraseL_length]; exact h), bnd_some]
  congr 2
  congr 1
  apply List.ext_getElem?
  intro j
  rw [eraseL_get, eraseL_get]
  cases hj : r.cells[j]? with
  | none => rfl
  | some c =>
    have hjl := (List.getElem?_eq_some_iff.1 hj).1
    simp only [Option.map_some, Option.some.injEq]
    by_cases h1 : a ≤ 0 + (j : Int) ∧ 0 + (j : Int) < b
    · rw [if_pos h1, if_pos (by omega)]
    · rw [if_neg h1, if_neg (by omega)]
def insertL (l : List RowCell) (k n : Nat) (s : Int) : List RowCell := (l.take k ++ List.replicate n (blk s) ++ l.drop k).take l.length
def deleteL (l : List RowCell) (k n : Nat) (s : Int) : List RowCell := l.take k ++ l.drop (k + n) ++ List.replicate n (blk s)
def fillL (l : List RowCell) (s : Int) : List RowCell := l.set (l.length - 1) ⟨32, s, 3⟩
theorem insert_eq (r : RowRow) (at_ n s : Int) (h : r.cells.length ≤ 1000) (ha : -9223372036854775808 ≤ at_) (hb : at_ ≤ 9223372036854775807) : p_row_Row_Insert r at_ n s = some ⟨mendS 0 (if withinS r.cells at_ n = 0 then r.cells else insertL r.cells at_.toNat (withinS r.cells at_ n).toNat s), false⟩ := by
  unfold p_row_Row_Insert
  rw [within_eq r at_ n (by omega) ha hb, bnd_some]
  by_cases h0 : withinS r.cells at_ n = 0
  · have e : (withinS r.cells at_ n == 0) = true := by simp [h0]
    rw [e, cond_true, cells_eq r (by omega), bnd_some, mend_eq _ (by omega), bnd_some, if_pos h0]
  · have e : (withinS r.cells at_ n == 0) = false := by simp [h0]
    rw [e, cond_false, if_neg h0]
    have hw : withinS r.cells at_ n = max 0 (min n (r.cells.length - at_)) ∧ 0 ≤ at_ ∧ at_ < r.cells.length := by
      unfold withinS at h0 ⊢
      by_cases hc : at_ < 0 ∨ at_ ≥ r.cells.length
      · rw [if_pos hc] at h0; exact absurd rfl h0
      · rw [if_neg hc]; exact ⟨rfl, by omega, by omega⟩
    obtain ⟨hw, h1, h2⟩ := hw
    generalize withinS r.cells at_ n = w at hw h0
    obtain ⟨k, rfl⟩ : ∃ k : Nat, at_ = k := ⟨at_.toNat, by omega⟩
    obtain ⟨m, rfl⟩ : ∃ m : Nat, w = m := ⟨w.toNat, by omega⟩
    have c1 : cut r.cells 0 (k : Int) = r.cells.take k := by simp [cut]
    have c2 : cut r.cells (k : Int) (r.cells.length : Int) = r.cells.drop k := by simp [cut]
    rw [cutok_true (by omega) (by omega) (by omega), bnd_some, cutok_true (by omega) (by omega) (by omega), bnd_some, blanks_eq _ _ (by omega), bnd_some, c1, c2, concat_eq _ (by simp [total]; omega) (by simp), bnd_some]
    have hl : ([r.cells.take k, List.replicate (m : Int).toNat (blk s), r.cells.drop k].flatten).length = r.cells.length + m := by simp; omega
    change (Option.bind (chk (cutok 0 (r.cells.length : Int) (([r.cells.take k, List.replicate (m : Int).toNat (blk s), r.cells.drop k].flatten).length : Int))) _) = _
    rw [hl, cutok_true (by omega) (by omega) (by omega), bnd_some]
    have c3 : cut ([r.cells.take k, List.replicate (m : Int).toNat (blk s), r.cells.drop k].flatten) 0 (r.cells.length : Int) = insertL r.cells (k : Int).toNat (m : Int).toNat s := by
      unfold cut insertL
      simp
    change (Option.bind (p_row_mend (cut ([r.cells.take k, List.replicate (m : Int).toNat (blk s), r.cells.drop k].flatten) 0 (r.cells.length : Int))) _) = _
    rw [c3, mend_eq _ (by unfold insertL; simp; omega), bnd_some]
theorem delete_eq (r : RowRow) (at_ n s : Int) (h : r.cells.length ≤ 1000) (ha : -9223372036854775808 ≤ at_) (hb : at_ ≤ 9223372036854775807) : p_row_Row_Delete r at_ n s = some ⟨mendS 0 (if withinS r.cells at_ n = 0 then r.cells else deleteL r.cells at_.toNat (withinS r.cells at_ n).toNat s), false⟩ := by
  unfold p_row_Row_Delete
  rw [within_eq r at_ n (by omega) ha hb, bnd_some]
  by_cases h0 : withinS r.cells at_ n = 0
  · have e : (withinS r.cells at_ n == 0) = true := by simp [h0]
    rw [e, cond_true, cells_eq r (by omega), bnd_some, mend_eq _ (by omega), bnd_some, if_pos h0]
  · have e : (withinS r.cells at_ n == 0) = false := by simp [h0]
    rw [e, cond_false, if_neg h0]
    have hw : withinS r.cells at_ n = max 0 (min n (r.cells.length - at_)) ∧ 0 ≤ at_ ∧ at_ < r.cells.length := by
      unfold withinS at h0 ⊢
      by_cases hc : at_ < 0 ∨ at_ ≥ r.cells.length
      · rw [if_pos hc] at h0; exact absurd rfl h0
      · rw [if_neg hc]; exact ⟨rfl, by omega, by omega⟩
    obtain ⟨hw, h1, h2⟩ := hw
    generalize withinS r.cells at_ n = w at hw h0
    obtain ⟨k, rfl⟩ : ∃ k : Nat, at_ = k := ⟨at_.toNat, by omega⟩
    obtain ⟨m, rfl⟩ : ∃ m : Nat, w = m := ⟨w.toNat, by omega⟩
    have c1 : cut r.cells 0 (k : Int) = r.cells.take k := by simp [cut]
    have c2 : cut r.cells ((k + m : Nat) : Int) (r.cells.length : Int) = r.cells.drop (k + m) := by
      unfold cut
      rw [Int.toNat_natCast, Int.toNat_natCast, List.take_length]
    have ek : ((k : Int) + (m : Int)) = ((k + m : Nat) : Int) := by omega
    have hkm : k + m ≤ r.cells.length := by omega
    rw [w64 (by omega) (by omega), ek, cutok_true (by omega) (by omega) (by omega), bnd_some, cutok_true (by omega) (by omega) (by omega), bnd_some, blanks_eq _ _ (by omega), bnd_some, c1, c2, concat_eq _ (by simp [total]; omega) (by simp), bnd_some]
    have c3 : [r.cells.take k, r.cells.drop (k + m), List.replicate (m : Int).toNat (blk s)].flatten = deleteL r.cells (k : Int).toNat (m : Int).toNat s := by
      unfold deleteL
      simp
    change (Option.bind (p_row_mend [r.cells.take k, r.cells.drop (k + m), List.replicate (m : Int).toNat (blk s)].flatten) _) = _
    rw [c3, mend_eq _ (by unfold deleteL; simp; omega), bnd_some]
theorem fill_eq (r : RowRow) (s : Int) (h : r.cells.length ≤ 1000000) : p_row_Row_Fill r s = some ⟨mendS 0 (fillL r.cells s), true⟩ := by
  unfold p_row_Row_Fill
  rw [cells_eq r h, bnd_some]
  by_cases h0 : (r.cells.length : Int) > 0
  · have e : decide ((r.cells.length : Int) > 0) = true := decide_eq_true h0
    have ew : IntKind.i64.wrap ((r.cells.length : Int) - 1) = ((r.cells.length - 1 : Nat) : Int) := by rw [w64 (by omega) (by omega)]; omega
    rw [e, cond_true, ew, idx_nat, List.getElem?_eq_getElem (by omega), bnd_some, bnd_some, Int.toNat_natCast]
    change (Option.bind (p_row_mend (fillL r.cells s)) _) = _
    rw [mend_eq _ (by simp [fillL]; exact h), bnd_some]
  · have e : decide ((r.cells.length : Int) > 0) = false := decide_eq_false h0
    have hn : r.cells = [] := List.eq_nil_of_length_eq_zero (by omega)
    rw [e, cond_false, bnd_some, mend_eq _ h, bnd_some]
    simp [fillL, hn]
def resizeL (l : List RowCell) (w : Nat) : List RowCell := l.take w ++ List.replicate (w - l.length) (blk 0)
theorem resize_eq (r : RowRow) (w : Int) (h : r.cells.length ≤ 1000000) : p_row_Row_Resize r w = some (if (max 0 (min w 1000)).toNat = r.cells.length then r else ⟨mendS 0 (resizeL r.cells (max 0 (min w 1000)).toNat), false⟩) := by
  unfold p_row_Row_Resize
  rw [clip_eq, bnd_some, cells_eq r h, bnd_some]
  generalize hv : max 0 (min w 1000) = v
  obtain ⟨k, rfl⟩ : ∃ k : Nat, v = k := ⟨v.toNat, by omega⟩
  rw [Int.toNat_natCast]
  by_cases h0 : k = r.cells.length
  · have e : ((k : Int) == (r.cells.length : Int)) = true := by simp [h0]
    rw [e, cond_true, if_pos h0]
  · have e : ((k : Int) == (r.cells.length : Int)) = false := by simp; omega
    have ec : imin (k : Int) (r.cells.length : Int) = ((min k r.cells.length : Nat) : Int) := by rw [imin_eq]; omega
    have c1 : cut r.cells 0 ((min k r.cells.length : Nat) : Int) = r.cells.take k := by
      simp only [cut, Int.toNat_natCast, Int.toNat_zero, List.drop_zero]
      rw [← List.take_take, List.take_length]
    rw [e, cond_false, if_neg h0, ec, cutok_true (by omega) (by omega) (by omega), bnd_some, w64 (by omega) (by omega), blanks_eq _ _ (by omega), bnd_some, c1, apok_true (by simp; omega), bnd_some]
    have c2 : r.cells.take k ++ List.replicate ((k : Int) - (r.cells.length : Int)).toNat (blk 0) = resizeL r.cells k := by
      unfold resizeL
      congr 2
      omega
    change (Option.bind (Option.bind (p_row_mend (r.cells.take k ++ List.replicate ((k : Int) - (r.cells.length : Int)).toNat (blk 0))) _) _) = _
    rw [c2, mend_eq _ (by unfold resizeL; simp; omega), bnd_some, bnd_some]
end Go.Tw.X

set_option linter.unusedVariables false
set_option linter.unusedSimpArgs false
namespace Go.Tw.X
open Go Go.Tw
theorem blank_row_eq (w s : Int) : p_row_Blank w s = some ⟨List.replicate (max 0 (min w 1000)).toNat (blk s), false⟩ := by
  unfold p_row_Blank
  rw [clip_eq, bnd_some, blanks_eq _ _ (by omega), bnd_some]
  rfl
/-- without the blanks at the end -/
def trimN : Nat → List RowCell → List RowCell
  | 0, l => l
  | n + 1, l => if l.getLast? = some (blk 0) then trimN n l.dropLast else l
def trimS (l : List RowCell) : List RowCell := trimN l.length l
def isG (c : RowCell) : Bool := c.part == 0 || c.part == 1
def glyS (l : List RowCell) : List RowGlyph := (l.filter isG).map fun c => ⟨c.rune, c.style⟩
def glyR (r : RowRow) : List RowGlyph := glyS (if r.wrapped then r.cells else trimS r.cells)
theorem glyS_length (l : List RowCell) : (glyS l).length ≤ l.length := by
  unfold glyS
  rw [List.length_map]
  exact List.length_filter_le _ _
theorem trimN_length : ∀ (n : Nat) (l : List RowCell), (trimN n l).length ≤ l.length
  | 0, l => Nat.le_refl _
  | n + 1, l => by
    unfold trimN
    split
    · have := trimN_length n l.dropLast
      rw [List.length_dropLast] at this
      omega
    · exact Nat.le_refl _
theorem cell_eqb (x y : RowCell) : ((x.rune == y.rune) && ((x.style == y.style) && ((x.part == y.part) && true))) = decide (x = y) := by
  obtain ⟨a, b, c⟩ := x
  obtain ⟨d, e, f⟩ := y
  by_cases h1 : a = d <;> by_cases h2 : b = e <;> by_cases h3 : c = f <;> simp [h1, h2, h3]
theorem glyphs_eq (r : RowRow) (h : r.cells.length ≤ 1000000) : p_row_Row_Glyphs r = some (glyR r) := by
  unfold p_row_Row_Glyphs
  have k1 : ∀ (n : Nat) (l : List RowCell), l.length = n → n ≤ 1000000 → iter (σ := (List RowCell)) (ρ := (List RowCell)) (fun s180 => (Option.bind ((bif (!r.wrapped) then (bif (decide ((s180.length : Int) > 0)) then (Option.bind (idx s180 (IntKind.i64.wrap ((s180.length : Int) - 1))) fun x341 => (Option.bind (p_row_blank 0) fun r348 => some ((x341.rune == r348.rune) && ((x341.style == r348.style) && ((x341.part == r348.part) && true))))) else some false) else some false) : Option Bool) fun e324 => (bif e324 then (Option.bind (chk (cutok 0 (IntKind.i64.wrap ((s180.length : Int) - 1)) s180.length)) fun _ => some (.inl (cut s180 0 (IntKind.i64.wrap ((s180.length : Int) - 1))))) else some (.inr s180)))) l = some (if r.wrapped then l else trimN n l) := by
    intro n
    induction n with
    | zero =>
      intro l hl hn
      rw [iter_inr (r := l)]
      · simp [trimN]
      · cases r.wrapped <;> simp [hl]
    | succ n ih =>
      intro l hl hn
      cases hw : r.wrapped with
      | true =>
        rw [iter_inr (r := l)]
        · simp
        · simp [hw]
      | false =>
        have hp : decide ((l.length : Int) > 0) = true := decide_eq_true (by omega)
        have ew : IntKind.i64.wrap ((l.length : Int) - 1) = ((l.length - 1 : Nat) : Int) := by rw [w64 (by omega) (by omega)]; omega
        have hlt : l.length - 1 < l.length := by omega
        have hlast : l.getLast? = some l[l.length - 1] := by rw [List.getLast?_eq_getElem?, List.getElem?_eq_getElem hlt]
        unfold trimN
        rw [hlast]
        by_cases hb : l[l.length - 1] = blk 0
        · rw [iter_inl (s' := l.dropLast)]
          · have := ih l.dropLast (by rw [List.length_dropLast]; omega) (by omega)
            rw [hw] at this
            simp only [hw, Bool.not_false, cond_true] at this ⊢
            rw [this, if_neg (by simp), if_neg (by simp), if_pos (by rw [hb])]
          · simp only [hw, Bool.not_false, cond_true, hp, ew, idx_nat, List.getElem?_eq_getElem hlt, bnd_some, blank_eq, cell_eqb]
            have : decide (l[l.length - 1] = ⟨32, 0, 0⟩) = true := decide_eq_true hb
            rw [this, cond_true, cutok_true (by omega) (by omega) (by omega), bnd_some]
            congr 2
            simp [cut, List.dropLast_eq_take]
        · rw [iter_inr (r := l)]
          · rw [if_neg (by simp), if_neg (by simpa using hb)]
          · simp only [hw, Bool.not_false, cond_true, hp, ew, idx_nat, List.getElem?_eq_getElem hlt, bnd_some, blank_eq, cell_eqb]
            have : decide (l[l.length - 1] = ⟨32, 0, 0⟩) = false := decide_eq_false hb
            rw [this, cond_false]
  rw [k1 r.cells.length r.cells rfl h, bnd_some]
  have hE : (if r.wrapped then r.cells else trimN r.cells.length r.cells).length ≤ 1000000 := by
    split
    · exact h
    · exact Nat.le_trans (trimN_length _ _) h
  change (Option.bind _ _) = some (glyS (if r.wrapped then r.cells else trimN r.cells.length r.cells))
  generalize (if r.wrapped then r.cells else trimN r.cells.length r.cells) = E at hE
  have k2 : ∀ (b d : List RowCell), d ++ b = E → iter (σ := Int × (List RowGlyph)) (ρ := (List RowGlyph)) (fun s539 => (bif (decide (s539.1 < (E.length : Int))) then (Option.bind ((Option.bind (idx E s539.1) fun x689 => (Option.bind ((bif (x689.part == 0) then some true else some (x689.part == 1)) : Option Bool) fun e700 => (bif e700 then (Option.bind (chk (apok s539.2.length [(RowGlyph.mk x689.rune x689.style)].length 16)) fun _ => some (s539.2 ++ [(RowGlyph.mk x689.rune x689.style)])) else some s539.2))) : Option (List RowGlyph)) fun e686 => some (.inl ((IntKind.i64.wrap (s539.1 + 1)), e686))) else some (.inr s539.2))) ((d.length : Int), glyS d) = some (glyS E) := by
    intro b
    induction b with
    | nil =>
      intro d hd
      simp at hd
      subst hd
      rw [iter_inr (r := glyS d)]
      simp
    | cons c b ih =>
      intro d hd
      have hl : E.length = d.length + b.length + 1 := by rw [← hd]; simp; omega
      have hg : glyS (d ++ [c]) = bif isG c then glyS d ++ [⟨c.rune, c.style⟩] else glyS d := by
        unfold glyS
        rw [List.filter_append]
        cases hc : isG c <;> simp [hc]
      rw [iter_inl (s' := (((d ++ [c]).length : Int), glyS (d ++ [c])))]
      · exact ih (d ++ [c]) (by simpa using hd)
      · have hc : decide ((d.length : Int) < (E.length : Int)) = true := by simp; omega
        have hx : idx E (d.length : Int) = some c := by rw [← hd]; exact idx_mid d b c
        have hi : ((bif (c.part == 0) then some true else some (c.part == 1)) : Option Bool) = some (isG c) := by unfold isG; cases c.part == 0 <;> rfl
        have hgl := glyS_length d
        simp only [hc, cond_true, hx, bnd_some, hi]
        rw [hg, w64 (by omega) (by omega)]
        cases hc2 : isG c with
        | true => rw [cond_true, apok_true (by simp; omega), bnd_some, bnd_some]; simp
        | false => simp
  have h0 := k2 E [] rfl
  have e0 : ((([] : List RowCell).length : Nat) : Int) = 0 := rfl
  have e1 : glyS [] = [] := rfl
  rw [e0, e1] at h0
  rw [h0, bnd_some]
theorem equal_eq (a b : List RowCell) (h : a.length ≤ 1000000) : p_slices_Equal_row_Cell a b = some (decide (a = b)) := by
  unfold p_slices_Equal_row_Cell
  by_cases hl : a.length = b.length
  · have e : ((a.length : Int) != (b.length : Int)) = false := by simp [hl]
    rw [e, cond_false]
    have key : ∀ (x y d d2 : List RowCell), d ++ x = a → d2 ++ y = b → d = d2 → x.length = y.length → iter (σ := Int) (ρ := Unit ⊕ Bool) (fun s238 => (bif (decide (s238 < (a.length : Int))) then (Option.bind (idx a s238) fun x464 => (Option.bind (idx b s238) fun x471 => (bif (!((x464.rune == x471.rune) && ((x464.style == x471.style) && ((x464.part == x471.part) && true)))) then (inrr (some false)) else some (.inl (IntKind.i64.wrap (s238 + 1)))))) else some (.inr (.inl ())))) (d.length : Int) = some (if x = y then .inl () else .inr false) := by
      intro x
      induction x with
      | nil =>
        intro y d d2 hd hd2 hdd hxy
        have : y = [] := List.eq_nil_of_length_eq_zero hxy.symm
        subst this
        simp at hd
        subst hd
        rw [iter_inr (r := .inl ())]
        · simp
        · simp
      | cons c x ih =>
        intro y d d2 hd hd2 hdd hxy
        cases y with
        | nil => simp at hxy
        | cons c2 y =>
          subst hdd
          have hal : a.length = d.length + x.length + 1 := by rw [← hd]; simp; omega
          have hc : decide ((d.length : Int) < (a.length : Int)) = true := by simp; omega
          have hx : idx a (d.length : Int) = some c := by rw [← hd]; exact idx_mid d x c
          have hx2 : idx b (d.length : Int) = some c2 := by rw [← hd2]; exact idx_mid d y c2
          by_cases hcc : c = c2
          · subst hcc
            rw [iter_inl (s' := ((d ++ [c]).length : Int))]
            · rw [ih y (d ++ [c]) (d ++ [c]) (by simpa using hd) (by simpa using hd2) rfl (by simpa using hxy)]
              simp
            · simp only [hc, cond_true, hx, hx2, bnd_some, cell_eqb]
              rw [w64 (by omega) (by omega)]
              simp
          · rw [iter_inr (r := .inr false)]
            · simp [hcc]
            · simp only [hc, cond_true, hx, hx2, bnd_some, cell_eqb]
              have : decide (c = c2) = false := decide_eq_false hcc
              rw [this]
              rfl
    have h0 := key a b [] [] rfl rfl rfl hl
    have e0 : ((([] : List RowCell).length : Nat) : Int) = 0 := rfl
    rw [e0] at h0
    rw [h0, bnd_some]
    by_cases hab : a = b
    · rw [if_pos hab]; simp [hab]
    · rw [if_neg hab]; simp [hab]
  · have e : ((a.length : Int) != (b.length : Int)) = true := by simp; omega
    rw [e, cond_true]
    have : a ≠ b := fun h => hl (by rw [h])
    simp [this]
theorem same_eq (r q : RowRow) (h : r.cells.length ≤ 1000000) : p_row_Row_Same r q = some (decide (r = q)) := by
  unfold p_row_Row_Same
  obtain ⟨a, x⟩ := r
  obtain ⟨b, y⟩ := q
  rw [equal_eq a b h]
  cases x <;> cases y <;> simp
theorem any_eq (l : List RowCell) (w : Bool) : p_law09_Any l w = some ⟨l.take 40, w⟩ := by
  unfold p_law09_Any
  have e : imin (l.length : Int) 40 = ((min 40 l.length : Nat) : Int) := by rw [imin_eq]; omega
  have c : cut l 0 ((min 40 l.length : Nat) : Int) = l.take 40 := by
    simp only [cut, Int.toNat_natCast, Int.toNat_zero, List.drop_zero]
    rw [← List.take_take, List.take_length]
  rw [e, cutok_true (by omega) (by omega) (by omega), bnd_some, c, apok_true (by simp; omega), bnd_some]
  rfl
theorem awake_eq : p_law09_awake = some true := by
  unfold p_law09_awake
  rw [blank_row_eq, bnd_some]
  have e1 : (List.replicate (max 0 (min (3 : Int) 1000)).toNat (blk 0)) = [blk 0, blk 0, blk 0] := by decide
  rw [e1, put_eq _ _ _ _ (by simp) (by omega) (by omega), bnd_some]
  have e2 : mendS 0 (putL [blk 0, blk 0, blk 0] 0 20013 0) = [⟨20013, 0, 1⟩, ⟨20013, 0, 2⟩, blk 0] := by decide
  rw [show (RowRow.mk [blk 0, blk 0, blk 0] false).cells = [blk 0, blk 0, blk 0] from rfl, e2, put_eq _ _ _ _ (by simp) (by omega) (by omega), bnd_some]
  have e3 : mendS 0 (putL [⟨20013, 0, 1⟩, ⟨20013, 0, 2⟩, blk 0] 1 97 0) = [⟨32, 0, 0⟩, ⟨97, 0, 0⟩, blk 0] := by decide
  rw [show (RowRow.mk [⟨20013, 0, 1⟩, ⟨20013, 0, 2⟩, blk 0] false).cells = [⟨20013, 0, 1⟩, ⟨20013, 0, 2⟩, blk 0] from rfl, e3, glyphs_eq _ (by simp)]
  decide
theorem pure_RowLength {l : List RowCell} {b : Bool} {a : Law09Act} (h0 : ∀ x ∈ l, wfRowCell x) (h1 : True) (h2 : wfLaw09Act a) : p_law09_RowLength l b a = some true := by
  obtain ⟨_, hat, hn, hs, _, _⟩ := h2
  simp only [inK, IntKind.min, IntKind.max, IntKind.signed, IntKind.bits] at hat hn
  have ha1 : -9223372036854775808 ≤ a.at_ := by have := hat.1; simpa using this
  have ha2 : a.at_ ≤ 9223372036854775807 := by have := hat.2; simpa using this
  have hl : (l.take 40).length ≤ 40 := by rw [List.length_take]; omega
  unfold p_law09_RowLength
  rw [awake_eq, bnd_some, any_eq, bnd_some]
  generalize l.take 40 = c at hl
  rw [erase_eq _ _ _ _ (by simpa using (by omega : c.length ≤ 1000000)), bnd_some, put_eq _ _ _ _ (by simpa using (by omega : c.length ≤ 1000000)) ha1 ha2]
  rw [erase_eq _ _ _ _ (by simpa using (by omega : c.length ≤ 1000000)), insert_eq _ _ _ _ (by simpa using (by omega : c.length ≤ 1000)) ha1 ha2, delete_eq _ _ _ _ (by simpa using (by omega : c.length ≤ 1000)) ha1 ha2, fill_eq _ _ (by simpa using (by omega : c.length ≤ 1000000)), blank_row_eq]
  have p1 : (mendS 0 (putL c a.at_ a.rune a.style)).length = c.length := by rw [mendS_length, putL_length]
  have p2 : (mendS 0 (eraseL a.at_ a.n a.style 0 c)).length = c.length := by rw [mendS_length, eraseL_length]
  have hwi : withinS c a.at_ a.n = 0 ∨ (0 < withinS c a.at_ a.n ∧ 0 ≤ a.at_ ∧ a.at_ + withinS c a.at_ a.n ≤ c.length) := by
    unfold withinS
    split
    · exact .inl rfl
    · omega
  have p3 : (mendS 0 (if withinS c a.at_ a.n = 0 then c else insertL c a.at_.toNat (withinS c a.at_ a.n).toNat a.style)).length = c.length := by
    rw [mendS_length]
    split
    · rfl
    · unfold insertL; simp; omega
  have p4 : (mendS 0 (if withinS c a.at_ a.n = 0 then c else deleteL c a.at_.toNat (withinS c a.at_ a.n).toNat a.style)).length = c.length := by
    rw [mendS_length]
    split
    · rfl
    · rename_i hne
      have := hwi.resolve_left hne
      unfold deleteL
      simp
      omega
  have p5 : (mendS 0 (fillL c a.style)).length = c.length := by rw [mendS_length]; simp [fillL]
  have em : ∀ n, mendS 0 (List.replicate n (blk a.style)) = List.replicate n (blk a.style) := by
    intro n
    induction n with
    | zero => rfl
    | succ n ih =>
      rw [List.replicate_succ, mendS]
      have : fixS 0 (blk a.style) (List.replicate n (blk a.style)) = blk a.style := by simp [fixS, badS, blk]
      rw [this, show (blk a.style).part = 0 from rfl, ih]
  have ee : eraseL 0 (c.length : Int) a.style 0 c = List.replicate c.length (blk a.style) := by
    apply List.ext_getElem?
    intro j
    rw [eraseL_get, List.getElem?_replicate]
    by_cases hj : j < c.length
    · rw [List.getElem?_eq_getElem hj, if_pos hj, Option.map_some, if_pos (by omega)]
    · rw [List.getElem?_eq_none (by omega), if_neg hj]
      rfl
  have ek : (max 0 (min ((c.length : Nat) : Int) 1000)).toNat = c.length := by omega
  have bq : ∀ n : Nat, n = c.length → (((n : Nat) : Int) == (c.length : Int)) = true := fun n h => by simp [h]
  simp only [Bool.not_true, cond_false, bnd_some, p1, p2, p3, p4, p5, beq_self_eq_true, cond_true, ee, em, ek]
  rw [same_eq _ _ (by simp; omega), bnd_some, bnd_some]
  simp
end Go.Tw.X

set_option linter.unusedVariables false
set_option linter.unusedSimpArgs false
namespace Go.Tw.X
open Go Go.Tw
theorem rmend_eq (l : List RowCell) (h : l.length ≤ 1000000) : p_ref09_mend (l.map tc) = some ⟨(mendS 0 l).map tc, false⟩ := by
  unfold p_ref09_mend
  have hml : (l.map tc).length = l.length := List.length_map _
  rw [hml]
  have key : ∀ (r d o : List RowCell), d ++ r = l → o.length = d.length → iter (σ := Int × (List Ref09Cell)) (ρ := (List Ref09Cell)) (fun s287 => (bif (decide (s287.1 < (l.length : Int))) then (Option.bind (idx (l.map tc) s287.1) fun x510 => (Option.bind ((bif (x510.part == 1) then (bif ((IntKind.i64.wrap (s287.1 + 1)) == (l.length : Int)) then some true else (Option.bind (idx (l.map tc) (IntKind.i64.wrap (s287.1 + 1))) fun x552 => some (x552.part != 2))) else (bif (x510.part == 2) then (bif (s287.1 == 0) then some true else (Option.bind (idx s287.2 (IntKind.i64.wrap (s287.1 - 1))) fun x558 => some (x558.part != 1))) else (bif (x510.part == 3) then some (decide (s287.1 < (IntKind.i64.wrap ((l.length : Int) - 1)))) else some false))) : Option Bool) fun e547 => (Option.bind ((bif e547 then some (Ref09Cell.mk 32 x510.style 0) else some x510) : Option Ref09Cell) fun e567 => (Option.bind (chk (apok s287.2.length [e567].length 24)) fun _ => some (.inl ((IntKind.i64.wrap (s287.1 + 1)), (s287.2 ++ [e567]))))))) else some (.inr s287.2))) ((d.length : Int), o.map tc) = some ((o ++ mendS (lastP o) r).map tc) := by
    intro r
    induction r with
    | nil =>
      intro d o hd ho
      simp at hd
      subst hd
      rw [iter_inr (r := o.map tc)]
      · simp [mendS]
      · simp
    | cons c r ih =>
      intro d o hd ho
      have hl : l.length = d.length + r.length + 1 := by rw [← hd]; simp; omega
      rw [iter_inl (s' := (((d ++ [c]).length : Int), (o ++ [fixS (lastP o) c r]).map tc))]
      · rw [ih (d ++ [c]) (o ++ [fixS (lastP o) c r]) (by simpa using hd) (by simp [ho]), lastP_snoc]
        simp [mendS]
      · have hc : decide ((d.length : Int) < (l.length : Int)) = true := by simp; omega
        have em : l.map tc = d.map tc ++ tc c :: r.map tc := by rw [← hd]; simp
        have hdl : (d.map tc).length = d.length := List.length_map _
        have hx : idx (l.map tc) (d.length : Int) = some (tc c) := by rw [em, ← hdl]; exact idx_mid _ _ _
        have hx2 : idx (l.map tc) ((d.length : Int) + 1) = (r.map tc)[0]? := by rw [em, ← hdl]; exact idx_next _ _ _
        simp only [hc, cond_true, hx, bnd_some]
        rw [w64 (x := (d.length : Int) + 1) (by omega) (by omega), w64 (x := (d.length : Int) - 1) (by omega) (by omega), w64 (x := (l.length : Int) - 1) (by omega) (by omega), hx2]
        have hbad : ((bif ((tc c).part == 1) then (bif (((d.length : Int) + 1) == (l.length : Int)) then some true else (Option.bind ((r.map tc)[0]?) fun x552 => some (x552.part != 2))) else (bif ((tc c).part == 2) then (bif ((d.length : Int) == 0) then some true else (Option.bind (idx (o.map tc) ((d.length : Int) - 1)) fun x558 => some (x558.part != 1))) else (bif ((tc c).part == 3) then some (decide ((d.length : Int) < (l.length : Int) - 1)) else some false))) : Option Bool) = some (badS (lastP o) c r) := by
          have htc : (tc c).part = c.part := rfl
          rw [htc]
          unfold badS
          cases h1 : (c.part == 1) with
          | true =>
            simp only [cond_true]
            cases r with
            | nil =>
              have : (((d.length : Int) + 1) == (l.length : Int)) = true := by simp at hl ⊢; omega
              rw [this]
              rfl
            | cons e r =>
              have : (((d.length : Int) + 1) == (l.length : Int)) = false := by simp at hl ⊢; omega
              rw [this]
              rfl
          | false =>
            simp only [cond_false]
            cases h2 : (c.part == 2) with
            | true =>
              simp only [cond_true]
              cases ho0 : o with
              | nil =>
                have : d.length = 0 := by rw [← ho, ho0]; rfl
                have : ((d.length : Int) == 0) = true := by simp [this]
                rw [this]
                rfl
              | cons a t =>
                have hpos : 0 < d.length := by rw [← ho, ho0]; simp
                have hne : ((d.length : Int) == 0) = false := by rw [beq_eq_false_iff_ne]; omega
                have hol : ((a :: t).map tc).length = d.length := by rw [List.length_map, ← ho0, ho]
                have hi := idx_last ((a :: t).map tc) [] ⟨0, 0, 0⟩ ⟨0, 0, 0⟩ (by rw [hol]; exact hpos)
                have hlt : d.length - 1 < ((a :: t).map tc).length := by rw [hol]; omega
                have e1 : ((d.length : Int) - 1) = ((d.length - 1 : Nat) : Int) := by omega
                rw [hol, e1, idx_nat, List.getElem?_append_left hlt] at hi
                rw [hne, cond_false, e1, idx_nat, hi, bnd_some]
                have e2 : lastP (a :: t) = (lastD (⟨0, 0, 0⟩ : Ref09Cell) ((a :: t).map tc)).part := by
                  unfold lastP
                  rw [← lastD_map (fun c : Ref09Cell => c.part) ⟨0, 0, 0⟩ ((a :: t).map tc), List.map_map]
                  rfl
                rw [e2]
            | false =>
              simp only [cond_false]
              cases h3 : (c.part == 3) with
              | true =>
                simp only [cond_true]
                cases r with
                | nil =>
                  have : decide ((d.length : Int) < (l.length : Int) - 1) = false := decide_eq_false (by simp at hl; omega)
                  rw [this]
                  rfl
                | cons e r =>
                  have : decide ((d.length : Int) < (l.length : Int) - 1) = true := decide_eq_true (by simp at hl; omega)
                  rw [this]
                  rfl
              | false => rfl
        rw [hbad, bnd_some]
        have hfix : ((bif badS (lastP o) c r then some (Ref09Cell.mk 32 (tc c).style 0) else some (tc c)) : Option Ref09Cell) = some (tc (fixS (lastP o) c r)) := by
          unfold fixS
          cases badS (lastP o) c r <;> rfl
        rw [hfix, bnd_some, apok_true (by simp; omega), bnd_some]
        simp
  have h0 := key l [] [] rfl rfl
  have e0 : ((([] : List RowCell).length : Nat) : Int) = 0 := rfl
  rw [e0] at h0
  simp only [List.map_nil, List.nil_append] at h0
  rw [h0, bnd_some]
  rfl
theorem near_eq (n lo hi : Int) (h : lo ≤ hi) : p_ref09_near n lo hi = some (max lo (min n hi)) := by
  unfold p_ref09_near
  by_cases h1 : n < lo
  · rw [decide_eq_true h1, cond_true]; congr 1; omega
  · rw [decide_eq_false h1, cond_false]
    by_cases h2 : n > hi
    · rw [decide_eq_true h2, cond_true]; congr 1; omega
    · rw [decide_eq_false h2, cond_false]; congr 1; omega
theorem rblank_eq (w s : Int) : p_ref09_Blank w s = some ⟨(List.replicate (max 0 (min w 1000)).toNat (blk s)).map tc, false⟩ := by
  unfold p_ref09_Blank
  generalize hv : max 0 (min w 1000) = v
  obtain ⟨k, rfl⟩ : ∃ k : Nat, v = k := ⟨v.toNat, by omega⟩
  have hk : k ≤ 1000 := by omega
  have key : ∀ m j, k - j = m → j ≤ k → iter (σ := (List Ref09Cell) × Int) (ρ := (List Ref09Cell)) (fun s61 => (Option.bind (p_ref09_near w 0 1000) fun r94 => (bif (decide (s61.2 < r94)) then (Option.bind (chk (apok s61.1.length [(Ref09Cell.mk 32 s 0)].length 24)) fun _ => some (.inl ((s61.1 ++ [(Ref09Cell.mk 32 s 0)]), (IntKind.i64.wrap (s61.2 + 1))))) else some (.inr s61.1)))) (List.replicate j (tc (blk s)), (j : Int)) = some (List.replicate k (tc (blk s))) := by
    intro m
    induction m with
    | zero =>
      intro j hm hj
      have : j = k := by omega
      subst this
      rw [iter_inr (r := List.replicate j (tc (blk s)))]
      simp only [near_eq w 0 1000 (by omega), hv, bnd_some]
      simp
    | succ m ih =>
      intro j hm hj
      rw [iter_inl (s' := (List.replicate (j + 1) (tc (blk s)), ((j + 1 : Nat) : Int)))]
      · exact ih (j + 1) (by omega) (by omega)
      · simp only [near_eq w 0 1000 (by omega), hv, bnd_some]
        have : decide ((j : Int) < (k : Int)) = true := decide_eq_true (by omega)
        rw [this, cond_true, apok_true (by simp; omega), bnd_some, w64 (by omega) (by omega), List.replicate_succ']
        rfl
  have h0 := key (k - 0) 0 rfl (Nat.zero_le _)
  have e0 : ((0 : Nat) : Int) = 0 := rfl
  rw [e0, List.replicate_zero] at h0
  rw [h0, bnd_some, Int.toNat_natCast, List.map_replicate]
end Go.Tw.X

set_option linter.unusedVariables false
set_option linter.unusedSimpArgs false
namespace Go.Tw.X
open Go Go.Tw
theorem apnil (n : Nat) (h : n ≤ 1000000) : chk (apok ([] : List Ref09Cell).length n 24) = some () := apok_true (by simp; omega)
theorem told_len (l : List RowCell) : (l.map tc).length = l.length := List.length_map _
theorem tc_blk (s : Int) : tc (blk s) = ⟨32, s, 0⟩ := rfl
theorem rerase_eq (l : List RowCell) (w : Bool) (a b s : Int) (h : l.length ≤ 1000000) : p_ref09_Erase ⟨l.map tc, w⟩ a b s = some ⟨(mendS 0 (eraseL a b s 0 l)).map tc, false⟩ := by
  unfold p_ref09_Erase
  simp only [told_len, List.nil_append]
  rw [apnil _ h, bnd_some]
  have key : ∀ (r d o : List RowCell), d ++ r = l → o.length = d.length → iter (σ := Int × (List Ref09Cell)) (ρ := (List Ref09Cell)) (fun s127 => (bif (decide (s127.1 < (l.length : Int))) then (Option.bind ((Option.bind ((bif (decide (s127.1 ≥ a)) then some (decide (s127.1 < b)) else some false) : Option Bool) fun e230 => (bif e230 then (Option.bind (idx s127.2 s127.1) fun x235 => some (s127.2.set s127.1.toNat (Ref09Cell.mk 32 s 0))) else some s127.2)) : Option (List Ref09Cell)) fun e224 => some (.inl ((IntKind.i64.wrap (s127.1 + 1)), e224))) else some (.inr s127.2))) ((d.length : Int), (o ++ r).map tc) = some ((o ++ eraseL a b s (d.length : Int) r).map tc) := by
    intro r
    induction r with
    | nil =>
      intro d o hd ho
      simp at hd
      subst hd
      rw [iter_inr (r := (o ++ []).map tc)]
      · simp [eraseL]
      · simp
    | cons c r ih =>
      intro d o hd ho
      have hl : l.length = d.length + r.length + 1 := by rw [← hd]; simp; omega
      have hc : decide ((d.length : Int) < (l.length : Int)) = true := by simp; omega
      generalize hc' : (if a ≤ (d.length : Int) ∧ (d.length : Int) < b then blk s else c) = c'
      rw [iter_inl (s' := (((d ++ [c]).length : Int), ((o ++ [c']) ++ r).map tc))]
      · rw [ih (d ++ [c]) (o ++ [c']) (by simpa using hd) (by simp [ho])]
        simp [eraseL, hc']
      · simp only [hc, cond_true]
        rw [w64 (by omega) (by omega)]
        have hx : idx ((o ++ c :: r).map tc) (d.length : Int) = some (tc c) := by
          rw [← ho, List.map_append, List.map_cons, ← told_len o]
          exact idx_mid _ _ _
        by_cases h1 : a ≤ (d.length : Int)
        · by_cases h2 : (d.length : Int) < b
          · rw [decide_eq_true (show (d.length : Int) ≥ a from h1), cond_true, decide_eq_true h2, bnd_some, cond_true, hx, bnd_some, bnd_some]
            rw [if_pos ⟨h1, h2⟩] at hc'
            subst hc'
            congr 2
            refine Prod.ext (by simp) ?_
            show ((o ++ c :: r).map tc).set ((d.length : Int).toNat) _ = _
            rw [Int.toNat_natCast, ← ho, List.map_append, List.map_cons]
            simp [tc_blk]
          · rw [decide_eq_true (show (d.length : Int) ≥ a from h1), cond_true, decide_eq_false h2, bnd_some, cond_false, bnd_some]
            rw [if_neg (by omega)] at hc'
            subst hc'
            simp
        · rw [decide_eq_false (show ¬ (d.length : Int) ≥ a from h1), cond_false, bnd_some, cond_false, bnd_some]
          rw [if_neg (by omega)] at hc'
          subst hc'
          simp
  have h0 := key l [] [] rfl rfl
  have e0 : ((([] : List RowCell).length : Nat) : Int) = 0 := rfl
  rw [e0] at h0
  simp only [List.nil_append] at h0
  rw [h0, bnd_some, rmend_eq _ (by rw [eraseL_length]; exact h), bnd_some]
theorem rfill_eq (l : List RowCell) (w : Bool) (s : Int) (h : l.length ≤ 1000000) : p_ref09_Fill ⟨l.map tc, w⟩ s = some ⟨(mendS 0 (fillL l s)).map tc, true⟩ := by
  unfold p_ref09_Fill
  simp only [told_len, List.nil_append]
  rw [apnil _ h, bnd_some]
  by_cases h0 : (l.length : Int) > 0
  · have ew : IntKind.i64.wrap ((l.length : Int) - 1) = ((l.length - 1 : Nat) : Int) := by rw [w64 (by omega) (by omega)]; omega
    rw [decide_eq_true h0, cond_true, ew, idx_nat, List.getElem?_eq_getElem (by rw [told_len]; omega), bnd_some, bnd_some, Int.toNat_natCast]
    have e : (l.map tc).set (l.length - 1) ⟨32, s, 3⟩ = (fillL l s).map tc := by
      unfold fillL
      rw [List.map_set]
      rfl
    rw [e, rmend_eq _ (by simp [fillL]; exact h), bnd_some]
  · have hn : l = [] := List.eq_nil_of_length_eq_zero (by omega)
    rw [decide_eq_false h0, cond_false, bnd_some, rmend_eq _ h, bnd_some]
    simp [fillL, hn]
theorem rmin (x y : Int) : (if x < y then x else y) = min y x := by split <;> omega
theorem rinsert_eq (l : List RowCell) (w : Bool) (at_ n s : Int) (h : l.length ≤ 1000) (ha : -9223372036854775808 ≤ at_) (hb : at_ ≤ 9223372036854775807) : p_ref09_Insert ⟨l.map tc, w⟩ at_ n s = some ⟨(mendS 0 (if withinS l at_ n = 0 then l else insertL l at_.toNat (withinS l at_ n).toNat s)).map tc, false⟩ := by
  unfold p_ref09_Insert
  simp only [told_len, List.nil_append, rmin]
  by_cases h0 : at_ < 0 ∨ at_ ≥ l.length ∨ n ≤ 0
  · have e : ((bif (decide (at_ < 0)) then some true else (bif (decide (at_ ≥ (l.length : Int))) then some true else some (decide (n ≤ 0)))) : Option Bool) = some true := by
      rcases h0 with h0 | h0 | h0
      · simp [h0]
      · cases h1 : decide (at_ < 0) <;> simp [h0]
      · cases h1 : decide (at_ < 0) <;> cases h2 : decide (at_ ≥ (l.length : Int)) <;> simp [h0]
    have hw : withinS l at_ n = 0 := by unfold withinS; split <;> omega
    rw [e, bnd_some, cond_true, rmend_eq _ (by omega), bnd_some, if_pos hw]
  · have e : ((bif (decide (at_ < 0)) then some true else (bif (decide (at_ ≥ (l.length : Int))) then some true else some (decide (n ≤ 0)))) : Option Bool) = some false := by
      rw [decide_eq_false (by omega : ¬ at_ < 0), decide_eq_false (by omega : ¬ at_ ≥ (l.length : Int)), decide_eq_false (by omega : ¬ n ≤ 0)]
      rfl
    have hw : withinS l at_ n = min n (l.length - at_) := by unfold withinS; rw [if_neg (by omega)]; omega
    rw [e, bnd_some, cond_false, w64 (x := (l.length : Int) - at_) (by omega) (by omega), imin_eq, ← hw]
    have hb2 : 0 < withinS l at_ n ∧ at_ + withinS l at_ n ≤ l.length := by omega
    rw [if_neg (by omega)]
    generalize withinS l at_ n = v at hb2
    clear hw e
    obtain ⟨k, rfl⟩ : ∃ k : Nat, at_ = k := ⟨at_.toNat, by omega⟩
    obtain ⟨m, rfl⟩ : ∃ m : Nat, v = m := ⟨v.toNat, by omega⟩
    have c1 : cut (l.map tc) 0 (k : Int) = (l.take k).map tc := by simp [cut, List.map_take]
    have c2 : cut (l.map tc) (k : Int) ((l.length : Int) - (m : Int)) = ((l.take (l.length - m)).drop k).map tc := by
      have e : ((l.length : Int) - (m : Int)).toNat = l.length - m := by omega
      unfold cut
      rw [e, Int.toNat_natCast, List.map_drop, List.map_take]
    rw [cutok_true (by omega) (by omega) (by omega), bnd_some, c1, apok_true (by simp; omega), bnd_some, rblank_eq, bnd_some, w64 (x := (l.length : Int) - (m : Int)) (by omega) (by omega), apok_true (by simp; omega), bnd_some, cutok_true (by omega) (by omega) (by omega), bnd_some, c2, apok_true (by simp; omega), bnd_some]
    have em : (max 0 (min (m : Int) 1000)).toNat = m := by omega
    rw [em, ← List.map_append, ← List.map_append, Int.toNat_natCast, Int.toNat_natCast]
    have ei : l.take k ++ List.replicate m (blk s) ++ (l.take (l.length - m)).drop k = insertL l k m s := by
      unfold insertL
      have hkm : k + m ≤ l.length := by omega
      have hA : (l.take k ++ List.replicate m (blk s)).length = k + m := by rw [List.length_append, List.length_take, List.length_replicate]; omega
      have hT := List.take_of_length_le (l := l.take k ++ List.replicate m (blk s)) (i := l.length) (by rw [hA]; exact hkm)
      rw [List.take_append, hA, hT, List.drop_take, Nat.sub_sub, Nat.add_comm m k]
    rw [ei, rmend_eq _ (by unfold insertL; simp; omega), bnd_some]
theorem rdelete_eq (l : List RowCell) (w : Bool) (at_ n s : Int) (h : l.length ≤ 1000) (ha : -9223372036854775808 ≤ at_) (hb : at_ ≤ 9223372036854775807) : p_ref09_Delete ⟨l.map tc, w⟩ at_ n s = some ⟨(mendS 0 (if withinS l at_ n = 0 then l else deleteL l at_.toNat (withinS l at_ n).toNat s)).map tc, false⟩ := by
  unfold p_ref09_Delete
  simp only [told_len, List.nil_append, rmin]
  by_cases h0 : at_ < 0 ∨ at_ ≥ l.length ∨ n ≤ 0
  · have e : ((bif (decide (at_ < 0)) then some true else (bif (decide (at_ ≥ (l.length : Int))) then some true else some (decide (n ≤ 0)))) : Option Bool) = some true := by
      rcases h0 with h0 | h0 | h0
      · simp [h0]
      · cases h1 : decide (at_ < 0) <;> simp [h0]
      · cases h1 : decide (at_ < 0) <;> cases h2 : decide (at_ ≥ (l.length : Int)) <;> simp [h0]
    have hw : withinS l at_ n = 0 := by unfold withinS; split <;> omega
    rw [e, bnd_some, cond_true, rmend_eq _ (by omega), bnd_some, if_pos hw]
  · have e : ((bif (decide (at_ < 0)) then some true else (bif (decide (at_ ≥ (l.length : Int))) then some true else some (decide (n ≤ 0)))) : Option Bool) = some false := by
      rw [decide_eq_false (by omega : ¬ at_ < 0), decide_eq_false (by omega : ¬ at_ ≥ (l.length : Int)), decide_eq_false (by omega : ¬ n ≤ 0)]
      rfl
    have hw : withinS l at_ n = min n (l.length - at_) := by unfold withinS; rw [if_neg (by omega)]; omega
    rw [e, bnd_some, cond_false, w64 (x := (l.length : Int) - at_) (by omega) (by omega), imin_eq, ← hw]
    have hb2 : 0 < withinS l at_ n ∧ at_ + withinS l at_ n ≤ l.length := by omega
    rw [if_neg (by omega)]
    generalize withinS l at_ n = v at hb2
    clear hw e
    obtain ⟨k, rfl⟩ : ∃ k : Nat, at_ = k := ⟨at_.toNat, by omega⟩
    obtain ⟨m, rfl⟩ : ∃ m : Nat, v = m := ⟨v.toNat, by omega⟩
    have c1 : cut (l.map tc) 0 (k : Int) = (l.take k).map tc := by simp [cut, List.map_take]
    have ek : (k : Int) + (m : Int) = ((k + m : Nat) : Int) := by omega
    have c2 : cut (l.map tc) ((k + m : Nat) : Int) (l.length : Int) = (l.drop (k + m)).map tc := by
      unfold cut
      rw [Int.toNat_natCast, Int.toNat_natCast, List.take_of_length_le (by rw [told_len]; exact Nat.le_refl _), List.map_drop]
    rw [cutok_true (by omega) (by omega) (by omega), bnd_some, c1, apok_true (by simp; omega), bnd_some, w64 (x := (k : Int) + (m : Int)) (by omega) (by omega), ek, cutok_true (by omega) (by omega) (by omega), bnd_some, c2, apok_true (by simp; omega), bnd_some, rblank_eq, bnd_some, apok_true (by simp; omega), bnd_some]
    have em : (max 0 (min (m : Int) 1000)).toNat = m := by omega
    rw [em, ← List.map_append, ← List.map_append, Int.toNat_natCast, Int.toNat_natCast]
    change (Option.bind (p_ref09_mend ((deleteL l k m s).map tc)) _) = _
    rw [rmend_eq _ (by unfold deleteL; simp; omega), bnd_some]
theorem rresize_eq (l : List RowCell) (w : Bool) (v : Int) (h : l.length ≤ 1000000) : p_ref09_Resize ⟨l.map tc, w⟩ v = some (if (max 0 (min v 1000)).toNat = l.length then ⟨l.map tc, w⟩ else ⟨(mendS 0 (resizeL l (max 0 (min v 1000)).toNat)).map tc, false⟩) := by
  unfold p_ref09_Resize
  rw [near_eq _ _ _ (by omega), bnd_some]
  simp only [told_len, List.nil_append]
  generalize hv : max 0 (min v 1000) = u
  obtain ⟨k, rfl⟩ : ∃ k : Nat, u = k := ⟨u.toNat, by omega⟩
  rw [Int.toNat_natCast]
  by_cases h0 : k = l.length
  · have e : ((k : Int) == (l.length : Int)) = true := by simp [h0]
    rw [e, cond_true, if_pos h0]
  · have e : ((k : Int) == (l.length : Int)) = false := by rw [beq_eq_false_iff_ne]; omega
    have ec : imin (k : Int) (l.length : Int) = ((min k l.length : Nat) : Int) := by rw [imin_eq]; omega
    have c1 : cut (l.map tc) 0 ((min k l.length : Nat) : Int) = (l.take k).map tc := by
      simp only [cut, Int.toNat_natCast, Int.toNat_zero, List.drop_zero]
      rw [← List.take_take, ← told_len l, List.take_length, List.map_take]
    rw [e, cond_false, if_neg h0, ec, cutok_true (by omega) (by omega) (by omega), bnd_some, c1, apok_true (by simp; omega), bnd_some]
    have e3 : (((l.take k).map tc).length : Int) = ((min k l.length : Nat) : Int) := by simp
    rw [e3, w64 (by omega) (by omega), rblank_eq, bnd_some, apok_true (by simp; omega), bnd_some, ← List.map_append]
    have c2 : l.take k ++ List.replicate (max 0 (min ((k : Int) - ((min k l.length : Nat) : Int)) 1000)).toNat (blk 0) = resizeL l k := by
      unfold resizeL
      congr 2
      omega
    rw [c2, rmend_eq _ (by unfold resizeL; simp; omega), bnd_some]
end Go.Tw.X

set_option linter.unusedVariables false
set_option linter.unusedSimpArgs false
namespace Go.Tw.X
open Go Go.Tw
def hasR (Z : List Arr2Int) (r : Int) : Bool := Z.any fun x => decide (x.e0 ≤ r ∧ r ≤ x.e1)
theorem scan_eq (Z : List Arr2Int) (r v : Int) (h : Z.length ≤ 1000) : iter (σ := Int) (ρ := Unit ⊕ Int) (fun s69 => (bif (decide (s69 < (Z.length : Int))) then (Option.bind (idx Z s69) fun x118 => (Option.bind ((bif (decide (r ≥ x118.e0)) then some (decide (r ≤ x118.e1)) else some false) : Option Bool) fun e125 => (bif e125 then (inrr (some v)) else some (.inl (IntKind.i64.wrap (s69 + 1)))))) else some (.inr (.inl ())))) 0 = some (if hasR Z r then .inr v else .inl ()) := by
  have key : ∀ (b d : List Arr2Int), d ++ b = Z → iter (σ := Int) (ρ := Unit ⊕ Int) (fun s69 => (bif (decide (s69 < (Z.length : Int))) then (Option.bind (idx Z s69) fun x118 => (Option.bind ((bif (decide (r ≥ x118.e0)) then some (decide (r ≤ x118.e1)) else some false) : Option Bool) fun e125 => (bif e125 then (inrr (some v)) else some (.inl (IntKind.i64.wrap (s69 + 1)))))) else some (.inr (.inl ())))) (d.length : Int) = some (if hasR b r then .inr v else .inl ()) := by
    intro b
    induction b with
    | nil =>
      intro d hd
      simp at hd
      subst hd
      rw [iter_inr (r := .inl ())]
      · rfl
      · simp
    | cons c b ih =>
      intro d hd
      have hl : Z.length = d.length + b.length + 1 := by rw [← hd]; simp; omega
      have hc : decide ((d.length : Int) < (Z.length : Int)) = true := by simp; omega
      have hx : idx Z (d.length : Int) = some c := by rw [← hd]; exact idx_mid d b c
      have hin : ((bif (decide (r ≥ c.e0)) then some (decide (r ≤ c.e1)) else some false) : Option Bool) = some (decide (c.e0 ≤ r ∧ r ≤ c.e1)) := by
        by_cases h1 : c.e0 ≤ r <;> by_cases h2 : r ≤ c.e1 <;> simp [h1, h2]
      by_cases hh : c.e0 ≤ r ∧ r ≤ c.e1
      · rw [iter_inr (r := .inr v)]
        · have : hasR (c :: b) r = true := by unfold hasR; rw [List.any_cons, decide_eq_true hh, Bool.true_or]
          rw [this]
          rfl
        · simp only [hc, cond_true, hx, bnd_some, hin]
          rw [decide_eq_true hh]
          rfl
      · rw [iter_inl (s' := ((d ++ [c]).length : Int))]
        · rw [ih (d ++ [c]) (by simpa using hd)]
          have : hasR (c :: b) r = hasR b r := by unfold hasR; rw [List.any_cons, decide_eq_false hh, Bool.false_or]
          rw [this]
        · simp only [hc, cond_true, hx, bnd_some, hin]
          rw [decide_eq_false hh, cond_false, w64 (by omega) (by omega)]
          simp
  exact key Z [] rfl
theorem rof_eq (x : Int) (h0 : -2147483648 ≤ x) (h1 : x ≤ 2147483647) : p_ref06_Of x = some (ofS x) := by
  unfold p_ref06_Of
  rw [scan_eq _ x 0 (by decide), scan_eq _ x 2 (by decide)]
  have e8 : ((bif (decide (x < 32)) then some true else some (decide (x > 1114111))) : Option Bool) = some (decide (x < 32 ∨ x > 1114111)) := by
    by_cases h2 : x < 32 <;> by_cases h3 : x > 1114111 <;> simp [h2, h3]
  rw [e8, bnd_some]
  have en : inS t_wide_nones x = (decide (x < 32 ∨ x > 1114111) || hasR [⟨127, 159⟩, ⟨768, 879⟩, ⟨6832, 6911⟩, ⟨7616, 7679⟩, ⟨8203, 8207⟩, ⟨8400, 8447⟩, ⟨55296, 57343⟩, ⟨65024, 65039⟩, ⟨65056, 65071⟩, ⟨65279, 65279⟩, ⟨917760, 917999⟩] x) := by
    rw [Bool.eq_iff_iff]
    simp only [inS, t_wide_nones, hasR, List.any_cons, List.any_nil, Bool.or_eq_true, decide_eq_true_eq, Bool.false_eq_true, or_false]
    constructor
    · rintro (h | h | h | h | h | h | h | h | h | h | h | h | h) <;> omega
    · omega
  have et : inS t_wide_twos x = hasR [⟨4352, 4447⟩, ⟨11904, 12350⟩, ⟨12353, 13311⟩, ⟨13312, 19903⟩, ⟨19968, 40959⟩, ⟨40960, 42191⟩, ⟨44032, 55203⟩, ⟨63744, 64255⟩, ⟨65072, 65135⟩, ⟨65280, 65376⟩, ⟨65504, 65510⟩, ⟨127744, 128591⟩, ⟨129280, 129535⟩, ⟨131072, 262141⟩] x := by
    simp only [inS, t_wide_twos, hasR, List.any_cons, List.any_nil]
  unfold ofS
  rw [en, et]
  cases decide (x < 32 ∨ x > 1114111) with
  | true => rfl
  | false =>
    rw [cond_false, Bool.false_or]
    cases hasR [⟨127, 159⟩, ⟨768, 879⟩, ⟨6832, 6911⟩, ⟨7616, 7679⟩, ⟨8203, 8207⟩, ⟨8400, 8447⟩, ⟨55296, 57343⟩, ⟨65024, 65039⟩, ⟨65056, 65071⟩, ⟨65279, 65279⟩, ⟨917760, 917999⟩] x with
    | true => rfl
    | false =>
      cases hasR [⟨4352, 4447⟩, ⟨11904, 12350⟩, ⟨12353, 13311⟩, ⟨13312, 19903⟩, ⟨19968, 40959⟩, ⟨40960, 42191⟩, ⟨44032, 55203⟩, ⟨63744, 64255⟩, ⟨65072, 65135⟩, ⟨65280, 65376⟩, ⟨65504, 65510⟩, ⟨127744, 128591⟩, ⟨129280, 129535⟩, ⟨131072, 262141⟩] x <;> rfl
theorem rput_eq (l : List RowCell) (w : Bool) (at_ x s : Int) (h : l.length ≤ 1000000) (ha : -9223372036854775808 ≤ at_) (hb : at_ ≤ 9223372036854775807) (h0 : -2147483648 ≤ x) (h1 : x ≤ 2147483647) : p_ref09_Put ⟨l.map tc, w⟩ at_ x s = some ⟨(mendS 0 (putL l at_ x s)).map tc, false⟩ := by
  unfold p_ref09_Put
  simp only [told_len, List.nil_append]
  rw [rof_eq x h0 h1, bnd_some]
  have h3 := ofS_cases x
  have fin : ∀ (q : List RowCell), q.length = l.length → (Option.bind (p_ref09_mend (q.map tc)) fun r24 => some r24) = some ⟨(mendS 0 q).map tc, false⟩ := fun q hq => by rw [rmend_eq q (by omega), bnd_some]
  rw [w64 (x := (l.length : Int) - ofS x) (by omega) (by omega)]
  by_cases hc : ofS x = 0 ∨ at_ < 0 ∨ at_ > l.length - ofS x
  · have hb2 : ((bif (ofS x == 0) then some true else (bif (decide (at_ < 0)) then some true else some (decide (at_ > ((l.length : Int) - ofS x))))) : Option Bool) = some true := by
      rcases hc with hc | hc | hc
      · simp [hc]
      · cases h0 : (ofS x == 0) <;> simp [hc]
      · cases h0 : (ofS x == 0) <;> cases h1 : decide (at_ < 0) <;> simp [hc]
    rw [hb2, bnd_some, cond_true]
    unfold putL
    rw [if_pos hc]
    exact fin _ rfl
  · have hb2 : ((bif (ofS x == 0) then some true else (bif (decide (at_ < 0)) then some true else some (decide (at_ > ((l.length : Int) - ofS x))))) : Option Bool) = some false := by
      have e0 : (ofS x == 0) = false := by simp; omega
      have e1 : decide (at_ < 0) = false := decide_eq_false (by omega)
      rw [e0, cond_false, e1, cond_false]
      simp
      omega
    rw [hb2, bnd_some, cond_false, apnil _ h, bnd_some]
    obtain ⟨k, rfl⟩ : ∃ k : Nat, at_ = k := ⟨at_.toNat, by omega⟩
    unfold putL
    rw [if_neg hc]
    have hk : k < (l.map tc).length := by rw [told_len]; omega
    rw [idx_nat, List.getElem?_eq_getElem hk, bnd_some, Int.toNat_natCast]
    by_cases h1 : ofS x = 1
    · have e1 : (ofS x == 2) = false := by simp [h1]
      have em : (l.map tc).set k ⟨x, s, 0⟩ = (l.set k ⟨x, s, 0⟩).map tc := by rw [List.map_set]; rfl
      rw [e1, cond_false, bnd_some, if_pos h1, em]
      exact fin _ (by simp)
    · have h2 : ofS x = 2 := by omega
      have e1 : (ofS x == 2) = true := by simp [h2]
      have hk2 : k + 1 < l.length := by omega
      have ew : IntKind.i64.wrap ((k : Int) + 1) = ((k + 1 : Nat) : Int) := by rw [w64 (by omega) (by omega)]; omega
      rw [e1, cond_true, ew, idx_nat, List.getElem?_eq_getElem (by simpa using hk), bnd_some, idx_nat, List.getElem?_eq_getElem (by simp; omega), bnd_some, if_neg h1, Int.toNat_natCast]
      have em : (((l.map tc).set k ⟨x, s, 0⟩).set k ⟨x, s, 1⟩).set (k + 1) ⟨x, s, 2⟩ = ((l.set k ⟨x, s, 1⟩).set (k + 1) ⟨x, s, 2⟩).map tc := by
        rw [List.set_set, List.map_set, List.map_set]
        rfl
      rw [em]
      generalize hl1 : (l.set k ⟨x, s, 1⟩).set (k + 1) ⟨x, s, 2⟩ = l1
      have hlen : l1.length = l.length := by rw [← hl1]; simp
      unfold putR
      rw [show ((k : Int)).toNat = k from Int.toNat_natCast k]
      by_cases h0 : (k : Int) > 0
      · have em1 : IntKind.i64.wrap ((k : Int) - 1) = ((k - 1 : Nat) : Int) := by rw [w64 (by omega) (by omega)]; omega
        have hk1 : k - 1 < l1.length := by omega
        have hg : idx (l1.map tc) ((k - 1 : Nat) : Int) = some (tc l1[k - 1]) := by rw [idx_nat, List.getElem?_map, List.getElem?_eq_getElem hk1]; rfl
        rw [decide_eq_true h0, cond_true, em1, hg, if_pos h0, List.getElem?_eq_getElem hk1]
        simp only [bnd_some]
        by_cases hp : (l1[k - 1]).part = 1
        · have e3 : ((tc l1[k - 1]).part == 1) = true := by simp [tc, hp]
          have es : (l1.map tc).set (k - 1) ⟨32, (tc l1[k - 1]).style, 0⟩ = (l1.set (k - 1) (blk (l1[k - 1]).style)).map tc := by rw [List.map_set]; rfl
          rw [e3, cond_true, if_pos hp]
          simp only [bnd_some, Int.toNat_natCast, es]
          exact fin _ (by simpa using hlen)
        · have e3 : ((tc l1[k - 1]).part == 1) = false := by simp [tc, hp]
          rw [e3, cond_false, if_neg hp]
          simp only [bnd_some]
          exact fin _ hlen
      · rw [decide_eq_false h0, cond_false, if_neg h0]
        simp only [bnd_some]
        rw [cond_false, bnd_some]
        exact fin _ hlen
end Go.Tw.X

set_option linter.unusedVariables false
set_option linter.unusedSimpArgs false
namespace Go.Tw.X
open Go Go.Tw
def rok (x : Int) : Prop := -2147483648 ≤ x ∧ x ≤ 2147483647
/-- runes are such -/
def okR (l : List RowCell) : Prop := ∀ c ∈ l, rok c.rune
theorem okR_blk (s : Int) : rok (blk s).rune := by unfold rok blk; simp
theorem okR_mend : ∀ (l : List RowCell) (p : Int), okR l → okR (mendS p l)
  | [], _, _ => fun c hc => by cases hc
  | c :: r, p, h => by
    intro d hd
    simp only [mendS, List.mem_cons] at hd
    rcases hd with rfl | hd
    · unfold fixS
      cases badS p c r with
      | true => exact okR_blk c.style
      | false => exact h c (by simp)
    · exact okR_mend r _ (fun e he => h e (by simp [he])) d hd
theorem okR_set {l : List RowCell} (h : okR l) (i : Nat) {c : RowCell} (hc : rok c.rune) : okR (l.set i c) := by
  intro d hd
  rcases List.mem_or_eq_of_mem_set hd with hd | rfl
  · exact h d hd
  · exact hc
theorem okR_put {l : List RowCell} (h : okR l) (at_ s : Int) {x : Int} (hx : rok x) : okR (putL l at_ x s) := by
  unfold putL
  split
  · exact h
  · split
    · exact okR_set h _ hx
    · unfold putR
      have h1 := okR_set (okR_set h at_.toNat (c := ⟨x, s, 1⟩) hx) (at_.toNat + 1) (c := ⟨x, s, 2⟩) hx
      split
      · split
        · exact okR_set h1 _ (okR_blk _)
        · exact h1
      · exact h1
theorem okR_rep (n : Nat) (s : Int) : okR (List.replicate n (blk s)) := fun c hc => by rw [List.eq_of_mem_replicate hc]; exact okR_blk s
theorem okR_app {a b : List RowCell} (ha : okR a) (hb : okR b) : okR (a ++ b) := fun c hc => (List.mem_append.1 hc).elim (ha c) (hb c)
theorem okR_take {a : List RowCell} (ha : okR a) (n : Nat) : okR (a.take n) := fun c hc => ha c (List.mem_of_mem_take hc)
theorem okR_drop {a : List RowCell} (ha : okR a) (n : Nat) : okR (a.drop n) := fun c hc => ha c (List.mem_of_mem_drop hc)
theorem okR_erase (a b s : Int) : ∀ {l : List RowCell} (i : Int), okR l → okR (eraseL a b s i l)
  | [], _, _ => fun c hc => by cases hc
  | c :: r, i, h => by
    intro d hd
    simp only [eraseL, List.mem_cons] at hd
    rcases hd with rfl | hd
    · split
      · exact okR_blk s
      · exact h c (by simp)
    · exact okR_erase a b s (i + 1) (fun e he => h e (by simp [he])) d hd
theorem nextD_mend (p : Int) : ∀ (r : List RowCell), p = 1 → nextD r = 2 → nextD (mendS p r) = 2
  | [], _, h => by simp [nextD] at h
  | d :: r, hp, h => by
    have hd : d.part = 2 := h
    have : fixS p d r = d := by
      unfold fixS badS
      rw [hd, hp]
      rfl
    simp only [mendS, this]
    exact hd
theorem mend_mend : ∀ (l : List RowCell) (p : Int), mendS p (mendS p l) = mendS p l
  | [], _ => rfl
  | c :: r, p => by
    simp only [mendS]
    have key : fixS p (fixS p c r) (mendS (fixS p c r).part r) = fixS p c r := by
      cases hb : badS p c r with
      | true =>
        have e : fixS p c r = ⟨32, c.style, 0⟩ := by unfold fixS; rw [hb]; rfl
        rw [e]
        rfl
      | false =>
        have e : fixS p c r = c := by unfold fixS; rw [hb]; rfl
        rw [e]
        have : badS p c (mendS c.part r) = false := by
          unfold badS at hb ⊢
          cases h1 : (c.part == 1) with
          | true =>
            rw [h1, cond_true] at hb
            rw [cond_true]
            have hn : nextD r = 2 := by simpa using hb
            rw [nextD_mend c.part r (by simpa using h1) hn]
            rfl
          | false =>
            rw [h1, cond_false] at hb
            rw [cond_false]
            cases h2 : (c.part == 2) with
            | true => rw [h2] at hb; exact hb
            | false =>
              rw [h2, cond_false] at hb
              rw [cond_false]
              cases h3 : (c.part == 3) with
              | true =>
                rw [h3, cond_true] at hb
                rw [cond_true]
                cases r with
                | nil => rfl
                | cons d r => simp at hb
              | false => rfl
        unfold fixS
        rw [this]
        rfl
    rw [key, mend_mend r]
theorem w32 {x : Int} (h : rok x) : IntKind.i64.wrap x = x := by obtain ⟨h1, h2⟩ := h; exact w64 (by omega) (by omega)
theorem is_eq (r : RowRow) (h : r.cells.length ≤ 1000000) (hr : okR r.cells) : p_law09_Is r (told r) = some true := by
  unfold p_law09_Is told
  simp only [told_len]
  have e6 : ((bif ((r.cells.length : Int) != (r.cells.length : Int)) then some true else some (!(r.wrapped == r.wrapped))) : Option Bool) = some false := by simp
  rw [e6, bnd_some, cond_false]
  have key : ∀ (b d : List RowCell), d ++ b = r.cells → iter (σ := Int) (ρ := Unit ⊕ Bool) (fun s479 => (bif (decide (s479 < (r.cells.length : Int))) then (Option.bind (idx r.cells s479) fun x837 => (Option.bind ((Option.bind (idx (r.cells.map tc) s479) fun x934 => (bif ((IntKind.i64.wrap x837.rune) != x934.rune) then some true else (Option.bind (idx (r.cells.map tc) s479) fun x942 => (bif (x837.style != x942.style) then some true else (Option.bind (idx (r.cells.map tc) s479) fun x947 => some (x837.part != x947.part)))))) : Option Bool) fun e914 => (bif e914 then (inrr (some false)) else some (.inl (IntKind.i64.wrap (s479 + 1)))))) else some (.inr (.inl ())))) (d.length : Int) = some (.inl ()) := by
    intro b
    induction b with
    | nil =>
      intro d hd
      simp at hd
      subst hd
      rw [iter_inr (r := .inl ())]
      simp
    | cons c b ih =>
      intro d hd
      have hl : r.cells.length = d.length + b.length + 1 := by rw [← hd]; simp; omega
      have hc : decide ((d.length : Int) < (r.cells.length : Int)) = true := by simp; omega
      have hx : idx r.cells (d.length : Int) = some c := by rw [← hd]; exact idx_mid d b c
      have hx2 : idx (r.cells.map tc) (d.length : Int) = some (tc c) := by
        rw [← hd, List.map_append, List.map_cons, ← told_len d]
        exact idx_mid _ _ _
      have hcr : rok c.rune := hr c (by rw [← hd]; simp)
      rw [iter_inl (s' := ((d ++ [c]).length : Int))]
      · exact ih (d ++ [c]) (by simpa using hd)
      · simp only [hc, cond_true, hx, hx2, bnd_some, w32 hcr, tc, bne_self_eq_false, cond_false]
        rw [w64 (by omega) (by omega)]
        simp
  have h0 := key r.cells [] rfl
  have e0 : ((([] : List RowCell).length : Nat) : Int) = 0 := rfl
  rw [e0] at h0
  rw [h0, bnd_some]
theorem whole_eq (l : List RowCell) (w : Bool) (h : l.length ≤ 1000000) (hm : mendS 0 l = l) : p_ref09_Whole ⟨l.map tc, w⟩ = some true := by
  unfold p_ref09_Whole
  simp only
  rw [rmend_eq l h, bnd_some, hm]
  simp only [told_len]
  have key : ∀ (b d : List RowCell), d ++ b = l → iter (σ := Int) (ρ := Unit ⊕ Bool) (fun s163 => (bif (decide (s163 < (l.length : Int))) then (Option.bind (idx (l.map tc) s163) fun x287 => (Option.bind (idx (l.map tc) s163) fun x316 => (bif (!((x287.rune == x316.rune) && ((x287.style == x316.style) && ((x287.part == x316.part) && true)))) then (inrr (some false)) else some (.inl (IntKind.i64.wrap (s163 + 1)))))) else some (.inr (.inl ())))) (d.length : Int) = some (.inl ()) := by
    intro b
    induction b with
    | nil =>
      intro d hd
      simp at hd
      subst hd
      rw [iter_inr (r := .inl ())]
      simp
    | cons c b ih =>
      intro d hd
      have hl : l.length = d.length + b.length + 1 := by rw [← hd]; simp; omega
      have hc : decide ((d.length : Int) < (l.length : Int)) = true := by simp; omega
      have hx2 : idx (l.map tc) (d.length : Int) = some (tc c) := by
        rw [← hd, List.map_append, List.map_cons, ← told_len d]
        exact idx_mid _ _ _
      rw [iter_inl (s' := ((d ++ [c]).length : Int))]
      · exact ih (d ++ [c]) (by simpa using hd)
      · simp only [hc, cond_true, hx2, bnd_some, beq_self_eq_true, Bool.and_self, Bool.not_true, cond_false]
        rw [w64 (by omega) (by omega)]
        simp
  have h0 := key l [] rfl
  have e0 : ((([] : List RowCell).length : Nat) : Int) = 0 := rfl
  rw [e0] at h0
  rw [h0, bnd_some]
def ins (l : List RowCell) (at_ n s : Int) : List RowCell := if withinS l at_ n = 0 then l else insertL l at_.toNat (withinS l at_ n).toNat s
def del (l : List RowCell) (at_ n s : Int) : List RowCell := if withinS l at_ n = 0 then l else deleteL l at_.toNat (withinS l at_ n).toNat s
/-- a call -/
def doS (r : RowRow) (a : Law09Act) : RowRow :=
  if a.kind = 0 then ⟨mendS 0 (putL r.cells a.at_ a.rune a.style), false⟩
  else if a.kind = 1 then ⟨mendS 0 (eraseL a.at_ a.n a.style 0 r.cells), false⟩
  else if a.kind = 2 then ⟨mendS 0 (ins r.cells a.at_ a.n a.style), false⟩
  else if a.kind = 3 then ⟨mendS 0 (del r.cells a.at_ a.n a.style), false⟩
  else if a.kind = 4 then ⟨mendS 0 (fillL r.cells a.style), true⟩
  else
    if (max 0 (min (if a.n > 60 ∧ a.n < 1000 then 60 else a.n) 1000)).toNat = r.cells.length then r
    else ⟨mendS 0 (resizeL r.cells (max 0 (min (if a.n > 60 ∧ a.n < 1000 then 60 else a.n) 1000)).toNat), false⟩
theorem do_eq (r : RowRow) (a : Law09Act) (h : r.cells.length ≤ 1000) (ha : wfLaw09Act a) : p_law09_Do r (told r) a = some (doS r a, told (doS r a)) := by
  obtain ⟨_, hat, hn, hs, hx, _⟩ := ha
  have ha1 : -9223372036854775808 ≤ a.at_ := by have := hat.1; simpa [IntKind.min, IntKind.signed, IntKind.bits] using this
  have ha2 : a.at_ ≤ 9223372036854775807 := by have := hat.2; simpa [IntKind.max, IntKind.signed, IntKind.bits] using this
  have hx1 : -2147483648 ≤ a.rune := by have := hx.1; simpa [IntKind.min, IntKind.signed, IntKind.bits] using this
  have hx2 : a.rune ≤ 2147483647 := by have := hx.2; simpa [IntKind.max, IntKind.signed, IntKind.bits] using this
  unfold p_law09_Do doS told
  by_cases k0 : a.kind = 0
  · rw [if_pos k0, show (a.kind == 0) = true by simp [k0], cond_true, put_eq r _ _ _ (by omega) ha1 ha2, bnd_some, w32 ⟨hx1, hx2⟩, rput_eq _ _ _ _ _ (by omega) ha1 ha2 hx1 hx2, bnd_some]
  · rw [if_neg k0, show (a.kind == 0) = false by simp [k0], cond_false]
    by_cases k1 : a.kind = 1
    · rw [if_pos k1, show (a.kind == 1) = true by simp [k1], cond_true, erase_eq r _ _ _ (by omega), bnd_some, rerase_eq _ _ _ _ _ (by omega), bnd_some]
    · rw [if_neg k1, show (a.kind == 1) = false by simp [k1], cond_false]
      by_cases k2 : a.kind = 2
      · rw [if_pos k2, show (a.kind == 2) = true by simp [k2], cond_true, insert_eq r _ _ _ h ha1 ha2, bnd_some, rinsert_eq _ _ _ _ _ h ha1 ha2, bnd_some]
        rfl
      · rw [if_neg k2, show (a.kind == 2) = false by simp [k2], cond_false]
        by_cases k3 : a.kind = 3
        · rw [if_pos k3, show (a.kind == 3) = true by simp [k3], cond_true, delete_eq r _ _ _ h ha1 ha2, bnd_some, rdelete_eq _ _ _ _ _ h ha1 ha2, bnd_some]
          rfl
        · rw [if_neg k3, show (a.kind == 3) = false by simp [k3], cond_false]
          by_cases k4 : a.kind = 4
          · rw [if_pos k4, show (a.kind == 4) = true by simp [k4], cond_true, fill_eq r _ (by omega), bnd_some, rfill_eq _ _ _ (by omega), bnd_some]
          · rw [if_neg k4, show (a.kind == 4) = false by simp [k4], cond_false]
            have e1 : ((bif (decide (a.n > 60)) then some (decide (a.n < 1000)) else some false) : Option Bool) = some (decide (a.n > 60 ∧ a.n < 1000)) := by
              by_cases h1 : a.n > 60 <;> by_cases h2 : a.n < 1000 <;> simp [h1, h2]
            have e2 : ((bif decide (a.n > 60 ∧ a.n < 1000) then some 60 else some a.n) : Option Int) = some (if a.n > 60 ∧ a.n < 1000 then 60 else a.n) := by
              by_cases h1 : a.n > 60 ∧ a.n < 1000
              · rw [decide_eq_true h1, if_pos h1]; rfl
              · rw [decide_eq_false h1, if_neg h1]; rfl
            rw [e1, bnd_some, e2, bnd_some, resize_eq r _ (by omega), bnd_some, rresize_eq _ _ _ (by omega), bnd_some]
            clear e1 e2
            generalize (if a.n > 60 ∧ a.n < 1000 then (60 : Int) else a.n) = m
            by_cases hm : (max 0 (min m 1000)).toNat = r.cells.length
            · simp only [if_pos hm]
            · simp only [if_neg hm]
theorem withinS_le (l : List RowCell) (at_ n : Int) : withinS l at_ n = 0 ∨ (0 < withinS l at_ n ∧ 0 ≤ at_ ∧ at_ + withinS l at_ n ≤ l.length) := by
  unfold withinS
  split
  · exact .inl rfl
  · omega
theorem do_length (r : RowRow) (a : Law09Act) (h : r.cells.length ≤ 1000) : (doS r a).cells.length ≤ 1000 := by
  unfold doS
  split
  · simp only [mendS_length, putL_length]; exact h
  · split
    · simp only [mendS_length, eraseL_length]; exact h
    · split
      · simp only [mendS_length, ins]; split
        · exact h
        · unfold insertL; simp; omega
      · split
        · simp only [mendS_length, del]; split
          · exact h
          · rename_i hne
            have := (withinS_le r.cells a.at_ a.n).resolve_left hne
            unfold deleteL; simp; omega
        · split
          · simp only [mendS_length]; simp [fillL]; exact h
          · generalize (if a.n > 60 ∧ a.n < 1000 then (60 : Int) else a.n) = m
            split
            · exact h
            · simp only [mendS_length]; unfold resizeL; simp; omega
theorem do_ok (r : RowRow) (a : Law09Act) (h : okR r.cells) (ha : wfLaw09Act a) : okR (doS r a).cells := by
  obtain ⟨_, hat, hn, hs, hx, _⟩ := ha
  have hx' : rok a.rune := ⟨by have := hx.1; simpa [IntKind.min, IntKind.signed, IntKind.bits] using this, by have := hx.2; simpa [IntKind.max, IntKind.signed, IntKind.bits] using this⟩
  unfold doS
  split
  · exact okR_mend _ _ (okR_put h _ _ hx')
  · split
    · exact okR_mend _ _ (okR_erase _ _ _ _ h)
    · split
      · refine okR_mend _ _ ?_
        unfold ins
        split
        · exact h
        · exact okR_take (okR_app (okR_app (okR_take h _) (okR_rep _ _)) (okR_drop h _)) _
      · split
        · refine okR_mend _ _ ?_
          unfold del
          split
          · exact h
          · exact okR_app (okR_app (okR_take h _) (okR_drop h _)) (okR_rep _ _)
        · split
          · refine okR_mend _ _ (okR_set h _ ?_)
            unfold rok; simp
          · generalize (if a.n > 60 ∧ a.n < 1000 then (60 : Int) else a.n) = m
            split
            · exact h
            · exact okR_mend _ _ (okR_app (okR_take h _) (okR_rep _ _))
theorem do_whole (r : RowRow) (a : Law09Act) (h : mendS 0 r.cells = r.cells) : mendS 0 (doS r a).cells = (doS r a).cells := by
  unfold doS
  repeat (first | exact mend_mend _ _ | exact h | split)
end Go.Tw.X

set_option linter.unusedVariables false
set_option linter.unusedSimpArgs false
namespace Go.Tw.X
open Go Go.Tw
/-! ### loops: by their states one after the other, and by an invariant -/
theorem iter_to {σ ρ : Type} {f : σ → Option (σ ⊕ ρ)} (S : Nat → σ) (n : Nat) (r : ρ) (hs : ∀ i, i < n → f (S i) = some (.inl (S (i + 1)))) (he : f (S n) = some (.inr r)) : iter f (S 0) = some r := by
  have key : ∀ i, i ≤ n → iter f (S 0) = iter f (S i) := by
    intro i
    induction i with
    | zero => intro _; rfl
    | succ i ih =>
      intro hi
      rw [ih (by omega), iter_inl (hs i (by omega))]
  rw [key n (Nat.le_refl n), iter_inr he]
theorem bind_to {σ ρ β : Type} {f : σ → Option (σ ⊕ ρ)} {s : σ} {g : ρ → Option β} {out : Option β} (S : Nat → σ) (n : Nat) (r : ρ) (h0 : s = S 0) (hs : ∀ i, i < n → f (S i) = some (.inl (S (i + 1)))) (he : f (S n) = some (.inr r)) (hg : g r = out) : Option.bind (iter f s) g = out := by
  rw [h0, iter_to S n r hs he]
  exact hg
theorem iter_inv {σ ρ : Type} {f : σ → Option (σ ⊕ ρ)} (Inv : σ → Prop) (m : σ → Nat) (Post : ρ → Prop)
    (hs : ∀ s, Inv s → (∃ s', f s = some (.inl s') ∧ Inv s' ∧ m s' < m s) ∨ (∃ r, f s = some (.inr r) ∧ Post r)) : ∀ s, Inv s → ∃ r, iter f s = some r ∧ Post r := by
  have key : ∀ (n : Nat) s, m s ≤ n → Inv s → ∃ r, iter f s = some r ∧ Post r := by
    intro n
    induction n with
    | zero =>
      intro s hm hi
      rcases hs s hi with ⟨s', hf, hi', hlt⟩ | ⟨r, hf, hp⟩
      · omega
      · exact ⟨r, iter_inr hf, hp⟩
    | succ n ih =>
      intro s hm hi
      rcases hs s hi with ⟨s', hf, hi', hlt⟩ | ⟨r, hf, hp⟩
      · rw [iter_inl hf]
        exact ih s' (by omega) hi'
      · exact ⟨r, iter_inr hf, hp⟩
  intro s hi
  exact key (m s) s (Nat.le_refl _) hi
theorem bind_inv {σ ρ β : Type} {f : σ → Option (σ ⊕ ρ)} {s : σ} {g : ρ → Option β} {out : Option β} (Inv : σ → Prop) (m : σ → Nat) (Post : ρ → Prop) (h0 : Inv s)
    (hs : ∀ s, Inv s → (∃ s', f s = some (.inl s') ∧ Inv s' ∧ m s' < m s) ∨ (∃ r, f s = some (.inr r) ∧ Post r)) (hg : ∀ r, Post r → g r = out) : Option.bind (iter f s) g = out := by
  obtain ⟨r, h1, h2⟩ := iter_inv Inv m Post hs s h0
  rw [h1]
  exact hg r h2
theorem idx_in {α : Type} (l : List α) {i : Int} (h0 : 0 ≤ i) (h1 : i < l.length) : ∃ a, idx l i = some a ∧ a ∈ l := by
  obtain ⟨n, rfl⟩ := Int.eq_ofNat_of_zero_le h0
  rw [idx_nat]
  have hn : n < l.length := by omega
  rw [List.getElem?_eq_getElem hn]
  exact ⟨_, rfl, List.getElem_mem hn⟩
theorem and2 (p q : Prop) [Decidable p] [Decidable q] : ((bif decide p then some (decide q) else some false) : Option Bool) = some (decide (p ∧ q)) := by
  by_cases a1 : p <;> by_cases a2 : q <;> simp [a1, a2]
theorem or2 (p q : Prop) [Decidable p] [Decidable q] : ((bif decide p then some true else some (decide q)) : Option Bool) = some (decide (p ∨ q)) := by
  by_cases a1 : p <;> by_cases a2 : q <;> simp [a1, a2]
theorem idx_get {α : Type} (l : List α) (n : Nat) (h : n < l.length) : idx l (n : Int) = some l[n] := by rw [idx_nat, List.getElem?_eq_getElem h]
theorem set_mid {α : Type} (l r : List α) (x y : α) : (l ++ x :: r).set l.length y = l ++ y :: r := by simp
theorem cut_mid {α : Type} (A B C : List α) (hi : Int) (h : hi = ((A.length + B.length : Nat) : Int)) : cut (A ++ B ++ C) (A.length : Int) hi = B := by
  subst h
  simp only [cut, Int.toNat_natCast]
  rw [List.take_left' (by simp), List.drop_left]
theorem cut_all {α : Type} (l : List α) : cut l 0 (l.length : Int) = l := by simp [cut]
theorem cut_nat {α : Type} (l : List α) (a b : Nat) : cut l (a : Int) (b : Int) = (l.take b).drop a := by simp [cut]
theorem cut_zero {α : Type} (l : List α) (b : Nat) : cut l 0 (b : Int) = l.take b := by simp [cut]
/-! ### grids -/
def szN (n : Int) : Nat := (max 1 (min n 1000)).toNat
theorem szN_eq (n : Int) : imax 1 (imin n 1000) = (szN n : Int) := by rw [imax_eq, imin_eq]; unfold szN; omega
theorem szN_pos (n : Int) : 1 ≤ szN n := by unfold szN; omega
theorem szN_le (n : Int) : szN n ≤ 1000 := by unfold szN; omega
theorem szN_id (n : Nat) (h0 : 1 ≤ n) (h1 : n ≤ 1000) : szN n = n := by unfold szN; omega
def rowB (W : Nat) (s : Int) : RowRow := ⟨List.replicate W (blk s), false⟩
def toldG (g : GridGrid) : Ref10Grid := ⟨g.w, g.l.map told⟩
def gok (W : Nat) (r : RowRow) : Prop := r.cells.length = W ∧ okR r.cells
structure GI (W : Nat) (l : List RowRow) : Prop where
  w1 : 1 ≤ W
  w2 : W ≤ 1000
  l1 : 1 ≤ l.length
  l2 : l.length ≤ 1000
  rs : ∀ r ∈ l, gok W r
theorem gclip_eq (n lo hi : Int) : p_grid_clip n lo hi = some (max lo (min n hi)) := by
  unfold p_grid_clip
  rw [imax_eq, imin_eq]
theorem gsize_eq (n : Int) : p_grid_size n = some (szN n : Int) := by
  unfold p_grid_size p_grid_clip
  rw [szN_eq]
  rfl
theorem rsize_eq (n : Int) : p_ref10_size n = some (szN n : Int) := by
  unfold p_ref10_size
  rw [szN_eq]
theorem blankW (W : Nat) (s : Int) (h : W ≤ 1000) : p_row_Blank W s = some (rowB W s) := by
  rw [blank_row_eq]
  have : (max 0 (min (W : Int) 1000)).toNat = W := by omega
  rw [this]
  rfl
theorem rblankW (W : Nat) (s : Int) (h : W ≤ 1000) : p_ref09_Blank W s = some (told (rowB W s)) := by
  rw [rblank_eq]
  have : (max 0 (min (W : Int) 1000)).toNat = W := by omega
  rw [this]
  rfl
theorem gok_blank (W : Nat) (s : Int) : gok W (rowB W s) := ⟨by simp [rowB], okR_rep W s⟩
def newS (w h : Int) : GridGrid := ⟨(szN w : Int), List.replicate (szN h) (rowB (szN w) 0)⟩
theorem GI_new (w h : Int) : GI (szN w) (newS w h).l := by
  refine ⟨szN_pos w, szN_le w, ?_, ?_, ?_⟩
  · simpa [newS] using szN_pos h
  · simpa [newS] using szN_le h
  · intro r hr
    rw [List.eq_of_mem_replicate hr]
    exact gok_blank _ _
theorem new_eq (w h : Int) : p_grid_New w h = some (newS w h) := by
  unfold p_grid_New
  rw [gsize_eq, bnd_some, gsize_eq, bnd_some]
  have hw := szN_le w
  have hh := szN_le h
  refine bind_to (fun i => ((⟨(szN w : Int), List.replicate i (rowB (szN w) 0)⟩ : GridGrid), (i : Int))) (szN h) _ rfl ?_ ?_ rfl
  · intro i hi
    try dsimp only
    rw [decide_eq_true (by omega), cond_true, blankW _ _ hw, bnd_some, apok_true (by simp; omega), bnd_some, w64 (by omega) (by omega), ← List.replicate_succ']
    rfl
  · try dsimp only
    rw [decide_eq_false (by omega), cond_false]
    rfl
theorem rnew_eq (w h : Int) : p_ref10_New w h = some (toldG (newS w h)) := by
  unfold p_ref10_New
  rw [rsize_eq, bnd_some]
  have hw := szN_le w
  have hh := szN_le h
  refine bind_to (fun i => ((⟨(szN w : Int), List.replicate i (told (rowB (szN w) 0))⟩ : Ref10Grid), (i : Int))) (szN h) (⟨(szN w : Int), List.replicate (szN h) (told (rowB (szN w) 0))⟩ : Ref10Grid) rfl ?_ ?_ ?_
  · intro i hi
    try dsimp only
    rw [rsize_eq, bnd_some, decide_eq_true (by omega), cond_true, rblankW _ _ hw, bnd_some, apok_true (by simp; omega), bnd_some, w64 (by omega) (by omega), ← List.replicate_succ']
    rfl
  · try dsimp only
    rw [rsize_eq, bnd_some, decide_eq_false (by omega), cond_false]
  · simp [toldG, newS]
theorem own_eq (r : RowRow) (h : r.cells.length ≤ 1000000) : p_grid_own r = some r := by
  unfold p_grid_own
  rw [clone_eq _ h, bnd_some]
def nilR : RowRow := ⟨[], false⟩
def rowS (l : List RowRow) (y : Int) : RowRow := if 0 ≤ y ∧ y < l.length then l[y.toNat]?.getD nilR else nilR
theorem rowS_ok {W : Nat} {l : List RowRow} (h : ∀ r ∈ l, gok W r) (y : Int) : (rowS l y).cells.length ≤ W ∧ okR (rowS l y).cells := by
  unfold rowS
  split
  · rename_i hy
    have hn : y.toNat < l.length := by omega
    rw [List.getElem?_eq_getElem hn]
    have := h _ (List.getElem_mem hn)
    exact ⟨by simpa using Nat.le_of_eq this.1, this.2⟩
  · exact ⟨Nat.zero_le _, fun c hc => by cases hc⟩
theorem rowS_in {l : List RowRow} {n : Nat} (h : n < l.length) : rowS l n = l[n] := by
  unfold rowS
  rw [if_pos (by omega), Int.toNat_natCast, List.getElem?_eq_getElem h]
  rfl
theorem row_eq (w : Int) (l : List RowRow) (y : Int) (h : ∀ r ∈ l, r.cells.length ≤ 1000000) : p_grid_Grid_Row ⟨w, l⟩ y = some (rowS l y) := by
  unfold p_grid_Grid_Row rowS
  rw [or2, bnd_some]
  by_cases hy : 0 ≤ y ∧ y < l.length
  · rw [decide_eq_false (by (try dsimp only); omega), cond_false, if_pos hy]
    obtain ⟨n, rfl⟩ := Int.eq_ofNat_of_zero_le hy.1
    have hn : n < l.length := by omega
    simp only [Int.toNat_natCast]
    rw [idx_get l n hn, bnd_some, own_eq _ (h _ (List.getElem_mem hn)), bnd_some, List.getElem?_eq_getElem hn]
    rfl
  · rw [decide_eq_true (by (try dsimp only); omega), cond_true, if_neg hy]
    rfl
/-- a row made W wide -/
def rsz (W : Nat) (r : RowRow) : RowRow := if W = r.cells.length then r else ⟨mendS 0 (resizeL r.cells W), false⟩
theorem rsz_eq (W : Nat) (hW : W ≤ 1000) (r : RowRow) (h : r.cells.length ≤ 1000000) : p_row_Row_Resize r W = some (rsz W r) := by
  rw [resize_eq _ _ h]
  have : (max 0 (min (W : Int) 1000)).toNat = W := by omega
  rw [this]
  rfl
theorem rrsz_eq (W : Nat) (hW : W ≤ 1000) (r : RowRow) (h : r.cells.length ≤ 1000000) : p_ref09_Resize (told r) W = some (told (rsz W r)) := by
  unfold told
  rw [rresize_eq _ _ _ h]
  have : (max 0 (min (W : Int) 1000)).toNat = W := by omega
  rw [this]
  unfold rsz
  split <;> rfl
theorem rsz_id {W : Nat} {r : RowRow} (h : r.cells.length = W) : rsz W r = r := by
  unfold rsz
  rw [if_pos h.symm]
theorem rsz_gok (W : Nat) (r : RowRow) (h : okR r.cells) : gok W (rsz W r) := by
  unfold rsz
  split
  · rename_i e
    exact ⟨e.symm, h⟩
  · refine ⟨?_, okR_mend _ _ (okR_app (okR_take h _) (okR_rep _ _))⟩
    simp only [mendS_length, resizeL, List.length_append, List.length_take, List.length_replicate]
    omega
def inG (l : List RowRow) (y : Int) : Bool := decide (0 ≤ y ∧ y < l.length)
def setS (W : Nat) (l : List RowRow) (y : Int) (r : RowRow) : List RowRow := if 0 ≤ y ∧ y < l.length then l.set y.toNat (rsz W r) else l
theorem setS_length (W : Nat) (l : List RowRow) (y : Int) (r : RowRow) : (setS W l y r).length = l.length := by
  unfold setS
  split <;> simp
theorem setS_rows {W : Nat} {l : List RowRow} (h : ∀ r ∈ l, gok W r) (y : Int) (r : RowRow) (hr : okR r.cells) : ∀ q ∈ setS W l y r, gok W q := by
  unfold setS
  split
  · intro q hq
    rcases List.mem_or_eq_of_mem_set hq with hq | hq
    · exact h q hq
    · rw [hq]
      exact rsz_gok W r hr
  · exact h
theorem set_eq (W : Nat) (hW : W ≤ 1000) (l : List RowRow) (y : Int) (r : RowRow) (h : r.cells.length ≤ 1000000) : p_grid_Grid_Set ⟨W, l⟩ y r = some (inG l y, ⟨W, setS W l y r⟩) := by
  unfold p_grid_Grid_Set setS inG
  rw [or2, bnd_some]
  by_cases hy : 0 ≤ y ∧ y < l.length
  · rw [decide_eq_false (by (try dsimp only); omega), cond_false, if_pos hy, decide_eq_true hy]
    obtain ⟨n, rfl⟩ := Int.eq_ofNat_of_zero_le hy.1
    have hn : n < l.length := by omega
    try dsimp only
    rw [rsz_eq W hW r h, bnd_some, idx_get l n hn, bnd_some]
  · rw [decide_eq_true (by (try dsimp only); omega), cond_true, if_neg hy, decide_eq_false hy]
theorem rset_eq (W : Nat) (hW : W ≤ 1000) (l : List RowRow) (y : Int) (r : RowRow) (h : r.cells.length ≤ 1000000) (hl : l.length ≤ 1000000) : p_ref10_Set ⟨W, l.map told⟩ y (told r) = some (⟨W, (setS W l y r).map told⟩, inG l y) := by
  unfold p_ref10_Set setS inG
  rw [or2, bnd_some]
  simp only [List.length_map]
  by_cases hy : 0 ≤ y ∧ y < l.length
  · rw [decide_eq_false (by (try dsimp only); omega), cond_false, if_pos hy, decide_eq_true hy]
    obtain ⟨n, rfl⟩ := Int.eq_ofNat_of_zero_le hy.1
    have hn : n < l.length := by omega
    rw [apok_true (by simp; omega), bnd_some, rrsz_eq W hW r h, bnd_some, List.nil_append, idx_get (l.map told) n (by simpa using hn), bnd_some]
    simp only [Int.toNat_natCast, List.map_set]
  · rw [decide_eq_true (by (try dsimp only); omega), cond_true, if_neg hy, decide_eq_false hy]
theorem gclone_eq (l : List RowRow) (h : l.length ≤ 1000000) : p_slices_Clone_row_Row l = some l := by
  unfold p_slices_Clone_row_Row
  rw [apok_true (by simp; omega), bnd_some]
  rfl
theorem each_eq {σ : Type} (Y : σ → RowRow → Option (σ × Bool)) (S : Nat → σ) (l : List RowRow) (hl : l.length ≤ 1000000) (h : ∀ r ∈ l, r.cells.length ≤ 1000000) (hY : ∀ i (hi : i < l.length), Y (S i) l[i] = some (S (i + 1), true)) : p_grid_each_1_v2 Y (S 0) l = some (S l.length) := by
  unfold p_grid_each_1_v2
  refine bind_to (fun i => ((i : Int), S i)) l.length (.inl (S l.length)) rfl ?_ ?_ rfl
  · intro i hi
    try dsimp only
    rw [decide_eq_true (by omega), cond_true, idx_get l i hi, bnd_some, own_eq _ (h _ (List.getElem_mem hi)), bnd_some, hY i hi, bnd_some]
    try dsimp only
    rw [Bool.not_true, cond_false, w64 (by omega) (by omega)]
    rfl
  · try dsimp only
    rw [decide_eq_false (by omega), cond_false]
theorem gcopies_eq (l : List RowRow) (hl : l.length ≤ 1000000) (h : ∀ r ∈ l, r.cells.length ≤ 1000000) : p_grid_copies_v2 l = some (l, l) := by
  unfold p_grid_copies_v2 p_grid_each_v2
  rw [bnd_some]
  have key := each_eq (fun (s40 : List RowRow) (x9 : RowRow) => (Option.bind (chk (apok s40.length [x9].length 32)) fun _ => some ((s40 ++ [x9]), true))) (fun i => l.take i) l hl h (by
    intro i hi
    try dsimp only
    rw [apok_true (by simp; omega), bnd_some, ← List.take_succ_eq_append_getElem hi])
  rw [List.take_length] at key
  change p_grid_each_1_v2 _ ([] : List RowRow) l = some l at key
  rw [key]
  rfl
theorem rows_eq (w : Int) (l : List RowRow) (hl : l.length ≤ 1000000) (h : ∀ r ∈ l, r.cells.length ≤ 1000000) : p_grid_Grid_Rows ⟨w, l⟩ = some (l, ⟨w, l⟩) := by
  unfold p_grid_Grid_Rows
  try dsimp only
  rw [gcopies_eq l hl h, bnd_some, chk_true rfl, bnd_some]
theorem gclones_eq (w : Int) (l : List RowRow) (hl : l.length ≤ 1000000) (h : ∀ r ∈ l, r.cells.length ≤ 1000000) : p_grid_Grid_Clone ⟨w, l⟩ = some (⟨w, l⟩, ⟨w, l⟩) := by
  unfold p_grid_Grid_Clone
  try dsimp only
  rw [gcopies_eq l hl h, bnd_some, chk_true rfl, bnd_some]
theorem efunc_eq (a b : List RowRow) (ha : a.length ≤ 1000000) (h : ∀ r ∈ a, r.cells.length ≤ 1000000) : p_slices_EqualFunc_row_Row_Row_Same a b = some (decide (a = b)) := by
  unfold p_slices_EqualFunc_row_Row_Row_Same
  by_cases hl : a.length = b.length
  · have e0 : ((a.length : Int) != (b.length : Int)) = false := by simp [hl]
    rw [e0, cond_false]
    refine bind_inv (fun i : Int => ∃ n : Nat, i = n ∧ n ≤ a.length ∧ a.take n = b.take n) (fun i => (a.length - i).toNat) (fun r => r = (if a = b then .inl () else .inr false)) ⟨0, rfl, by omega, rfl⟩ ?_ ?_
    · rintro i ⟨n, rfl, hn, ht⟩
      by_cases h1 : n < a.length
      · have h2 : n < b.length := by omega
        try dsimp only
        rw [decide_eq_true (by omega), cond_true, idx_get a n h1, idx_get b n h2, bnd_some, bnd_some, same_eq _ _ (h _ (List.getElem_mem h1)), bnd_some]
        by_cases he : a[n] = b[n]
        · refine .inl ⟨((n + 1 : Nat) : Int), ?_, ⟨n + 1, rfl, by omega, ?_⟩, by (try dsimp only); omega⟩
          · rw [decide_eq_true he, w64 (by omega) (by omega)]
            rfl
          · rw [List.take_succ_eq_append_getElem h1, List.take_succ_eq_append_getElem h2, ht, he]
        · refine .inr ⟨.inr false, ?_, ?_⟩
          · rw [decide_eq_false he]
            rfl
          · rw [if_neg]
            intro hab
            subst hab
            exact he rfl
      · refine .inr ⟨.inl (), ?_, ?_⟩
        · try dsimp only
          rw [decide_eq_false (by omega), cond_false]
        · rw [if_pos]
          have hn2 : n = a.length := by omega
          subst hn2
          rw [List.take_length] at ht
          rw [ht, hl, List.take_length]
    · intro r hr
      subst hr
      by_cases hab : a = b
      · rw [if_pos hab, decide_eq_true hab]
      · rw [if_neg hab, decide_eq_false hab]
  · have e0 : ((a.length : Int) != (b.length : Int)) = true := by simp; omega
    rw [e0, cond_true, decide_eq_false]
    intro h
    exact hl (by rw [h])
theorem gsame_eq (g h : GridGrid) (hl : g.l.length ≤ 1000000) (hr : ∀ r ∈ g.l, r.cells.length ≤ 1000000) : p_grid_Grid_Same g h = some (decide (g = h)) := by
  unfold p_grid_Grid_Same
  rw [efunc_eq _ _ hl hr]
  obtain ⟨a, x⟩ := g
  obtain ⟨b, y⟩ := h
  by_cases h1 : a = b
  · subst h1
    by_cases h2 : x = y <;> simp [h2]
  · have : (a == b) = false := by simpa using h1
    simp [this, h1]
end Go.Tw.X

set_option linter.unusedVariables false
set_option linter.unusedSimpArgs false
namespace Go.Tw.X
open Go Go.Tw
theorem idx_mid' {α : Type} {l r : List α} {x : α} {k : Int} (h : k = l.length) : idx (l ++ x :: r) k = some x := by rw [h, idx_mid]
theorem set_mid' {α : Type} {l r : List α} {x y : α} {k : Nat} (h : k = l.length) : (l ++ x :: r).set k y = l ++ y :: r := by rw [h, set_mid]
theorem cut_len {α : Type} (l : List α) (a b : Nat) (h : a ≤ b) (h2 : b ≤ l.length) : (cut l (a : Int) (b : Int)).length = b - a := by
  rw [cut_nat, List.length_drop, List.length_take]
  omega
def loS (l : List RowRow) (t : Int) : Nat := (max 0 (min t ((l.length : Int) - 1))).toNat
theorem loS_lt (l : List RowRow) (t : Int) (h : 1 ≤ l.length) : loS l t < l.length := by unfold loS; omega
theorem loS_eq (l : List RowRow) (t : Int) : max 0 (min t ((l.length : Int) - 1)) = (loS l t : Int) := by unfold loS; omega
theorem region_eq (w : Int) (l : List RowRow) (top bottom : Int) (h1 : 1 ≤ l.length) (h2 : l.length ≤ 1000000) : p_grid_Grid_region ⟨w, l⟩ top bottom = some (if loS l bottom < loS l top then .inl () else .inr ((loS l top : Int), ((loS l bottom + 1 : Nat) : Int))) := by
  unfold p_grid_Grid_region
  dsimp only
  have ht := loS_lt l top h1
  have hb := loS_lt l bottom h1
  rw [w64 (x := (l.length : Int) - 1) (by omega) (by omega), gclip_eq, bnd_some, gclip_eq, bnd_some, loS_eq, loS_eq]
  by_cases h : loS l bottom < loS l top
  · rw [decide_eq_true (by omega), cond_true, if_pos h]
  · rw [decide_eq_false (by omega), cond_false, if_neg h, w64 (by omega) (by omega), cutok_true (by omega) (by omega) (by omega), bnd_some]
    rfl
theorem split_at {α : Type} (l : List α) (a b : Nat) (h : a ≤ b) (hb : b < l.length) : ∃ A B C, l = A ++ B ++ C ∧ A.length = a ∧ B.length = b + 1 - a := by
  refine ⟨l.take a, (l.take (b + 1)).drop a, l.drop (b + 1), ?_, ?_, ?_⟩
  · have : l.take a = (l.take (b + 1)).take a := by rw [List.take_take]; congr 1; omega
    rw [this, List.take_append_drop, List.take_append_drop]
  · rw [List.length_take]; omega
  · rw [List.length_drop, List.length_take]; omega
def kN (n : Int) (b : Nat) : Nat := (max 0 (min n (b : Int))).toNat
theorem kN_eq (n : Int) (b : Nat) : max 0 (min n (b : Int)) = (kN n b : Int) := by unfold kN; omega
theorem kN_le (n : Int) (b : Nat) : kN n b ≤ b := by unfold kN; omega
/-- k rows up: what comes in is x -/
def upB {α : Type} (k : Nat) (B : List α) (x : α) : List α := B.drop k ++ List.replicate (min k B.length) x
def downB {α : Type} (k : Nat) (B : List α) (x : α) : List α := List.replicate (min k B.length) x ++ B.take (B.length - k)
theorem upB_length {α : Type} (k : Nat) (B : List α) (x : α) : (upB k B x).length = B.length := by
  unfold upB
  rw [List.length_append, List.length_drop, List.length_replicate]
  omega
theorem downB_length {α : Type} (k : Nat) (B : List α) (x : α) : (downB k B x).length = B.length := by
  unfold downB
  rw [List.length_append, List.length_take, List.length_replicate]
  omega
theorem upB_map {α β : Type} (f : α → β) (k : Nat) (B : List α) (x : α) : (upB k B x).map f = upB k (B.map f) (f x) := by
  simp [upB]
theorem downB_map {α β : Type} (f : α → β) (k : Nat) (B : List α) (x : α) : (downB k B x).map f = downB k (B.map f) (f x) := by
  simp [downB]
theorem drop3 {α : Type} (A B C : List α) (n : Nat) (h : n ≤ B.length) : (A ++ B ++ C).drop (A.length + n) = B.drop n ++ C := by
  rw [List.append_assoc, List.drop_append, List.drop_append]
  have e1 : A.drop (A.length + n) = [] := List.drop_eq_nil_of_le (by omega)
  have e2 : A.length + n - A.length = n := by omega
  have e3 : n - B.length = 0 := by omega
  rw [e1, e2, e3, List.nil_append, List.drop_zero]
theorem take3 {α : Type} (A B C : List α) (n : Nat) (h : n ≤ B.length) : (A ++ B ++ C).take (A.length + n) = A ++ B.take n := by
  rw [List.append_assoc, List.take_append, List.take_append]
  have e1 : A.take (A.length + n) = A := List.take_of_length_le (by omega)
  have e2 : A.length + n - A.length = n := by omega
  have e3 : n - B.length = 0 := by omega
  rw [e1, e2, e3, List.take_zero, List.append_nil]
theorem cut3 {α : Type} (A B C : List α) (m n : Nat) (h : n ≤ B.length) (h2 : m ≤ n) : cut (A ++ B ++ C) ((A.length + m : Nat) : Int) ((A.length + n : Nat) : Int) = (B.take n).drop m := by
  rw [cut_nat, take3 A B C n h]
  have := drop3 A (B.take n) [] m (by rw [List.length_take]; omega)
  simp
theorem up_eq (W : Nat) (hW : W ≤ 1000) (A B C : List RowRow) (top bottom n s : Int) (hl : (A ++ B ++ C).length ≤ 1000000) (hB : 1 ≤ B.length)
    (hreg : p_grid_Grid_region ⟨W, A ++ B ++ C⟩ top bottom = some (.inr ((A.length : Int), ((A.length + B.length : Nat) : Int)))) :
    p_grid_Grid_Up ⟨W, A ++ B ++ C⟩ top bottom n s = some (B.take (kN n B.length), ⟨W, A ++ upB (kN n B.length) B (rowB W s) ++ C⟩) := by
  unfold p_grid_Grid_Up
  rw [hreg, bnd_some]
  dsimp only
  have hk := kN_le n B.length
  simp only [List.length_append] at hl
  rw [cutok_true (by omega) (by omega) (by simp only [List.length_append]; omega), bnd_some, cut_mid A B C _ rfl, gclip_eq, bnd_some, kN_eq]
  generalize kN n B.length = k at hk
  rw [cutok_true (by omega) (by omega) (by omega), bnd_some]
  have e1 : cut (A ++ B ++ C) ((A.length : Int) + 0) ((A.length : Int) + (k : Int)) = B.take k := by
    have := cut3 A B C 0 k hk (by omega)
    simpa using this
  have e2 : cpyv (A ++ B ++ C) (A.length : Int) ((A.length + B.length : Nat) : Int) ((A.length : Int) + (k : Int)) ((A.length : Int) + (B.length : Int)) = A ++ B.drop k ++ (B.drop (B.length - k) ++ C) := by
    have c := cut3 A B C k B.length (Nat.le_refl _) hk
    rw [List.take_length] at c
    have c' : cut (A ++ B ++ C) ((A.length : Int) + (k : Int)) ((A.length : Int) + (B.length : Int)) = B.drop k := by simpa using c
    unfold cpyv
    rw [c', Int.toNat_natCast, Int.toNat_natCast, List.append_assoc A B C, List.take_left, List.take_of_length_le (l := B.drop k) (by rw [List.length_drop]; omega), List.length_drop, ← List.append_assoc A B C, drop3 A B C _ (by omega)]
  rw [e1, gclone_eq _ (by rw [List.length_take]; omega), bnd_some, cutok_true (by omega) (by omega) (by omega), bnd_some, e2]
  have hL : (cut (A ++ B.drop k ++ (B.drop (B.length - k) ++ C)) (A.length : Int) ((A.length + B.length : Nat) : Int)).length = B.length := by
    rw [cut_len _ _ _ (by omega) (by simp; omega)]
    omega
  rw [hL, w64 (by omega) (by omega)]
  refine bind_to (fun i => ((⟨W, A ++ (B.drop k ++ List.replicate i (rowB W s)) ++ (B.drop (B.length - k + i) ++ C)⟩ : GridGrid), ((B.length - k + i : Nat) : Int))) k (⟨W, A ++ upB k B (rowB W s) ++ C⟩ : GridGrid) ?_ ?_ ?_ rfl
  · have : (B.length : Int) - (k : Int) = ((B.length - k + 0 : Nat) : Int) := by omega
    rw [this]
    simp
  · intro i hi
    dsimp only
    have hlen : (A ++ (B.drop k ++ List.replicate i (rowB W s)) ++ (B.drop (B.length - k + i) ++ C)).length = A.length + B.length + C.length := by simp; omega
    have hc : (cut (A ++ (B.drop k ++ List.replicate i (rowB W s)) ++ (B.drop (B.length - k + i) ++ C)) (A.length : Int) ((A.length + B.length : Nat) : Int)).length = B.length := by
      rw [cut_len _ _ _ (by omega) (by rw [hlen]; omega)]
      omega
    rw [hc, decide_eq_true (by omega), cond_true, blankW _ _ hW, bnd_some, cutok_true (by omega) (by omega) (by rw [hlen]; omega), bnd_some]
    obtain ⟨x, hx, _⟩ := idx_in (cut (A ++ (B.drop k ++ List.replicate i (rowB W s)) ++ (B.drop (B.length - k + i) ++ C)) (A.length : Int) ((A.length + B.length : Nat) : Int)) (i := ((B.length - k + i : Nat) : Int)) (by omega) (by rw [hc]; omega)
    rw [hx, bnd_some, w64 (by omega) (by omega), List.drop_eq_getElem_cons (l := B) (i := B.length - k + i) (by omega), List.cons_append, set_mid' (by simp; omega), List.replicate_succ']
    simp [Nat.add_assoc]
    omega
  · dsimp only
    have hlen : (A ++ (B.drop k ++ List.replicate k (rowB W s)) ++ (B.drop (B.length - k + k) ++ C)).length = A.length + B.length + C.length := by simp; omega
    have hc : (cut (A ++ (B.drop k ++ List.replicate k (rowB W s)) ++ (B.drop (B.length - k + k) ++ C)) (A.length : Int) ((A.length + B.length : Nat) : Int)).length = B.length := by
      rw [cut_len _ _ _ (by omega) (by rw [hlen]; omega)]
      omega
    rw [hc, decide_eq_false (by omega), cond_false, List.drop_eq_nil_of_le (as := B) (i := B.length - k + k) (by omega)]
    unfold upB
    rw [Nat.min_eq_left hk]
    simp
end Go.Tw.X

set_option linter.unusedVariables false
set_option linter.unusedSimpArgs false
namespace Go.Tw.X
open Go Go.Tw
theorem reverse_eq (l : List RowRow) (h : l.length ≤ 1000000) : p_slices_Reverse_row_Row l = some l.reverse := by
  unfold p_slices_Reverse_row_Row
  refine bind_inv (fun s : List RowRow × Int × Int => ∃ t : Nat, s.2.1 = t ∧ s.2.2 = (l.length : Int) - 1 - t ∧ 2 * t ≤ l.length + 1 ∧ s.1.length = l.length ∧ ∀ p, p < l.length → s.1[p]? = if p < t ∨ l.length - 1 - t < p then l[l.length - 1 - p]? else l[p]?) (fun s => (s.2.2 - s.2.1 + 1).toNat) (fun r => r = l.reverse) ?_ ?_ (fun r hr => by rw [hr])
  · refine ⟨0, rfl, ?_, by omega, rfl, fun p hp => ?_⟩
    · dsimp only
      rw [w64 (by omega) (by omega)]
      omega
    · rw [if_neg (by omega)]
  · rintro ⟨L, i, j⟩ ⟨t, hi, hj, ht, hL, hp⟩
    dsimp only at hi hj hL hp ⊢
    subst hi hj
    by_cases hlt : (t : Int) < (l.length : Int) - 1 - t
    · have hj : (l.length : Int) - 1 - (t : Int) = ((l.length - 1 - t : Nat) : Int) := by omega
      have h1 : t < L.length := by omega
      have h2 : l.length - 1 - t < L.length := by omega
      have g1 := hp t (by omega)
      have g2 := hp (l.length - 1 - t) (by omega)
      rw [if_neg (by omega)] at g1 g2
      refine .inl ⟨((L.set t L[l.length - 1 - t]).set (l.length - 1 - t) L[t], ((t + 1 : Nat) : Int), (l.length : Int) - 1 - ((t + 1 : Nat) : Int)), ?_, ⟨t + 1, rfl, rfl, by omega, by simp [hL], ?_⟩, by dsimp only; omega⟩
      · rw [decide_eq_true hlt, cond_true, hj, idx_get L _ h1, idx_get L _ h2]
        simp only [bnd_some, Int.toNat_natCast]
        rw [w64 (by omega) (by omega), w64 (by omega) (by omega)]
        congr 3
        congr 1
        omega
      · intro p hpl
        have hg1 : L[t]? = some L[t] := List.getElem?_eq_getElem h1
        have hg2 : L[l.length - 1 - t]? = some L[l.length - 1 - t] := List.getElem?_eq_getElem h2
        dsimp only
        by_cases c1 : p = l.length - 1 - t
        · subst c1
          rw [List.getElem?_set_self (by simpa using h2), if_pos (by omega), ← hg1, g1]
          congr 1
          omega
        · rw [List.getElem?_set_ne (fun e => c1 e.symm)]
          by_cases c2 : p = t
          · subst c2
            rw [List.getElem?_set_self h1, if_pos (by omega), ← hg2, g2]
          · rw [List.getElem?_set_ne (fun e => c2 e.symm), hp p hpl]
            by_cases c3 : p < t ∨ l.length - 1 - t < p
            · rw [if_pos c3, if_pos (by omega)]
            · rw [if_neg c3, if_neg (by omega)]
    · refine .inr ⟨L, by rw [decide_eq_false hlt, cond_false], ?_⟩
      apply List.ext_getElem?
      intro p
      by_cases hpl : p < l.length
      · rw [hp p hpl, List.getElem?_reverse hpl]
        by_cases c3 : p < t ∨ l.length - 1 - t < p
        · rw [if_pos c3]
        · rw [if_neg c3]
          congr 1
          omega
      · rw [List.getElem?_eq_none (by omega), List.getElem?_eq_none (by simp; omega)]
theorem down_eq (W : Nat) (hW : W ≤ 1000) (A B C : List RowRow) (top bottom n s : Int) (hl : (A ++ B ++ C).length ≤ 1000000) (hB : 1 ≤ B.length)
    (hreg : p_grid_Grid_region ⟨W, A ++ B ++ C⟩ top bottom = some (.inr ((A.length : Int), ((A.length + B.length : Nat) : Int)))) :
    p_grid_Grid_Down ⟨W, A ++ B ++ C⟩ top bottom n s = some ((B.drop (B.length - kN n B.length)).reverse, ⟨W, A ++ downB (kN n B.length) B (rowB W s) ++ C⟩) := by
  unfold p_grid_Grid_Down
  rw [hreg, bnd_some]
  dsimp only
  have hk := kN_le n B.length
  simp only [List.length_append] at hl
  rw [cutok_true (by omega) (by omega) (by simp only [List.length_append]; omega), bnd_some, cut_mid A B C _ rfl, gclip_eq, bnd_some, kN_eq]
  generalize kN n B.length = k at hk
  rw [w64 (x := (B.length : Int) - (k : Int)) (by omega) (by omega)]
  have hbk : (B.length : Int) - (k : Int) = ((B.length - k : Nat) : Int) := by omega
  rw [hbk, cutok_true (by omega) (by omega) (by omega), bnd_some]
  have e1 : cut (A ++ B ++ C) ((A.length : Int) + ((B.length - k : Nat) : Int)) ((A.length : Int) + (B.length : Int)) = B.drop (B.length - k) := by
    have := cut3 A B C (B.length - k) B.length (Nat.le_refl _) (by omega)
    rw [List.take_length] at this
    simpa using this
  have e2 : cpyv (A ++ B ++ C) ((A.length : Int) + (k : Int)) ((A.length : Int) + (B.length : Int)) ((A.length : Int) + 0) ((A.length : Int) + ((B.length - k : Nat) : Int)) = A ++ B.take k ++ (B.take (B.length - k) ++ C) := by
    have c := cut3 A B C 0 (B.length - k) (by omega) (by omega)
    rw [List.drop_zero] at c
    have c' : cut (A ++ B ++ C) ((A.length : Int) + 0) ((A.length : Int) + ((B.length - k : Nat) : Int)) = B.take (B.length - k) := by simpa using c
    have t1 : ((A.length : Int) + (k : Int)).toNat = A.length + k := by omega
    have t2 : ((A.length : Int) + (B.length : Int)).toNat = A.length + B.length := by omega
    unfold cpyv
    rw [c', t1, t2, take3 A B C k hk, List.take_of_length_le (l := B.take (B.length - k)) (by rw [List.length_take]; omega), List.length_take]
    have t3 : A.length + k + min (B.length - k) B.length = A.length + B.length := by omega
    rw [t3, drop3 A B C _ (Nat.le_refl _), List.drop_eq_nil_of_le (Nat.le_refl _), List.nil_append, List.append_assoc (A ++ B.take k)]
  rw [e1, gclone_eq _ (by rw [List.length_drop]; omega), bnd_some, reverse_eq _ (by rw [List.length_drop]; omega), bnd_some, chk_true (by simp), bnd_some, cutok_true (by omega) (by omega) (by omega), bnd_some, cutok_true (by omega) (by omega) (by omega), bnd_some, e2]
  refine bind_to (fun i => ((⟨W, A ++ List.replicate i (rowB W s) ++ ((B.take k).drop i ++ (B.take (B.length - k) ++ C))⟩ : GridGrid), (i : Int))) k (⟨W, A ++ downB k B (rowB W s) ++ C⟩ : GridGrid) ?_ ?_ ?_ rfl
  · simp
  · intro i hi
    dsimp only
    have hlen : (A ++ List.replicate i (rowB W s) ++ ((B.take k).drop i ++ (B.take (B.length - k) ++ C))).length = A.length + B.length + C.length := by simp; omega
    have hc : (cut (A ++ List.replicate i (rowB W s) ++ ((B.take k).drop i ++ (B.take (B.length - k) ++ C))) (A.length : Int) ((A.length + B.length : Nat) : Int)).length = B.length := by
      rw [cut_len _ _ _ (by omega) (by rw [hlen]; omega)]
      omega
    rw [decide_eq_true (by omega), cond_true, blankW _ _ hW, bnd_some, cutok_true (by omega) (by omega) (by rw [hlen]; omega), bnd_some]
    obtain ⟨x, hx, _⟩ := idx_in (cut (A ++ List.replicate i (rowB W s) ++ ((B.take k).drop i ++ (B.take (B.length - k) ++ C))) (A.length : Int) ((A.length + B.length : Nat) : Int)) (i := (i : Int)) (by omega) (by rw [hc]; omega)
    have htl : i < (B.take k).length := by rw [List.length_take]; omega
    rw [hx, bnd_some, w64 (by omega) (by omega), List.drop_eq_getElem_cons htl, List.cons_append, set_mid' (by simp), List.replicate_succ']
    simp
  · dsimp only
    rw [decide_eq_false (by omega), cond_false, List.drop_eq_nil_of_le (as := B.take k) (i := k) (by rw [List.length_take]; omega)]
    unfold downB
    rw [Nat.min_eq_left hk]
    simp
end Go.Tw.X

set_option linter.unusedVariables false
set_option linter.unusedSimpArgs false
namespace Go.Tw.X
open Go Go.Tw
variable {α : Type}
theorem upB_zero (B : List α) (x : α) : upB 0 B x = B := by simp [upB]
theorem downB_zero (B : List α) (x : α) : downB 0 B x = B := by simp [downB]
theorem upB_head (B : List α) (x : α) (i : Nat) (h : i < B.length) : upB i B x = B[i] :: (B.drop (i + 1) ++ List.replicate i x) := by
  unfold upB
  rw [Nat.min_eq_left (by omega), List.drop_eq_getElem_cons h, List.cons_append]
theorem upB_succ (B : List α) (x : α) (i : Nat) (h : i < B.length) : upB (i + 1) B x = (B.drop (i + 1) ++ List.replicate i x) ++ [x] := by
  unfold upB
  rw [Nat.min_eq_left (by omega), List.replicate_succ', List.append_assoc]
theorem downB_last (B : List α) (x : α) (i : Nat) (h : i < B.length) : downB i B x = (List.replicate i x ++ B.take (B.length - i - 1)) ++ [B[B.length - i - 1]'(by omega)] := by
  unfold downB
  rw [Nat.min_eq_left (by omega), List.append_assoc, ← List.take_succ_eq_append_getElem]
  congr 2
  omega
theorem downB_succ (B : List α) (x : α) (i : Nat) (h : i < B.length) : downB (i + 1) B x = x :: (List.replicate i x ++ B.take (B.length - i - 1)) := by
  unfold downB
  rw [Nat.min_eq_left (by omega), List.replicate_succ, List.cons_append]
  congr 3
theorem take_one {l : List α} (h : 0 < l.length) : l.take 1 = [l[0]] := by
  cases l with
  | nil => simp at h
  | cons a t => rfl
/-- the rows of a region, one up -/
theorem shup {ρ β : Type} (lo hi : Int) (A T C : List Ref09Row) (y : Ref09Row) (g : List Ref09Row → Option β) (out : Option β) (hl : (A ++ (y :: T) ++ C).length ≤ 1000000) (hlo : lo = A.length) (hhi : hi = lo + T.length)
    (hg : g ((A ++ T) ++ ((y :: T).drop T.length ++ C)) = out) :
    Option.bind (iter (σ := (List Ref09Row) × Int) (ρ := (List Ref09Row)) (fun s3003 => (bif (decide (s3003.2 < hi)) then (Option.bind (idx s3003.1 (IntKind.i64.wrap (s3003.2 + 1))) fun x3047 => (Option.bind (idx s3003.1 s3003.2) fun x3053 => some (.inl ((s3003.1.set s3003.2.toNat x3047), (IntKind.i64.wrap (s3003.2 + 1)))))) else some (.inr s3003.1))) (A ++ (y :: T) ++ C, lo)) g = out := by
  subst hlo
  simp only [List.length_append, List.length_cons] at hl
  refine bind_to (fun j => ((A ++ T.take j) ++ ((y :: T).drop j ++ C), ((A.length + j : Nat) : Int))) T.length _ ?_ ?_ ?_ hg
  · simp
  · intro j hj
    dsimp only
    have e1 : (y :: T).drop j = (y :: T)[j]'(by simp; omega) :: T[j] :: T.drop (j + 1) := by
      rw [List.drop_eq_getElem_cons (by simp; omega), List.drop_succ_cons, List.drop_eq_getElem_cons hj]
    have e2 : A ++ T.take j ++ ((y :: T).drop j ++ C) = ((A ++ T.take j) ++ [(y :: T)[j]'(by simp; omega)]) ++ T[j] :: (T.drop (j + 1) ++ C) := by rw [e1]; simp only [List.append_assoc, List.cons_append, List.nil_append]
    have e3 : A ++ T.take j ++ ((y :: T).drop j ++ C) = (A ++ T.take j) ++ (y :: T)[j]'(by simp; omega) :: (T[j] :: (T.drop (j + 1) ++ C)) := by rw [e1]; simp only [List.append_assoc, List.cons_append, List.nil_append]
    rw [decide_eq_true (by omega), cond_true, w64 (by omega) (by omega)]
    rw [show idx (A ++ T.take j ++ ((y :: T).drop j ++ C)) (((A.length + j : Nat) : Int) + 1) = some T[j] by rw [e2]; exact idx_mid' (by simp; omega)]
    rw [bnd_some]
    rw [show idx (A ++ T.take j ++ ((y :: T).drop j ++ C)) ((A.length + j : Nat) : Int) = some ((y :: T)[j]'(by simp; omega)) by rw [e3]; exact idx_mid' (by simp; omega)]
    rw [bnd_some, Int.toNat_natCast, e3, set_mid' (by simp; omega), List.drop_succ_cons, List.drop_eq_getElem_cons hj, List.take_succ_eq_append_getElem hj]
    have t4 : ((A.length + j : Nat) : Int) + 1 = ((A.length + (j + 1) : Nat) : Int) := by omega
    rw [t4]
    simp only [List.append_assoc, List.cons_append, List.nil_append]
  · dsimp only
    rw [decide_eq_false (by omega), cond_false, List.take_length]
theorem shdown {ρ β : Type} (lo hi : Int) (A T C : List Ref09Row) (y : Ref09Row) (g : List Ref09Row → Option β) (out : Option β) (hl : (A ++ (T ++ [y]) ++ C).length ≤ 1000000) (hlo : lo = A.length) (hhi : hi = lo + T.length)
    (hg : g (A ++ (T ++ [y]).take 1 ++ (T ++ C)) = out) :
    Option.bind (iter (σ := (List Ref09Row) × Int) (ρ := (List Ref09Row)) (fun s3130 => (bif (decide (s3130.2 > lo)) then (Option.bind (idx s3130.1 (IntKind.i64.wrap (s3130.2 - 1))) fun x3174 => (Option.bind (idx s3130.1 s3130.2) fun x3180 => some (.inl ((s3130.1.set s3130.2.toNat x3174), (IntKind.i64.wrap (s3130.2 - 1)))))) else some (.inr s3130.1))) (A ++ (T ++ [y]) ++ C, hi)) g = out := by
  subst hlo
  simp only [List.length_append, List.length_cons, List.length_nil] at hl
  refine bind_to (fun j => ((A ++ (T ++ [y]).take (T.length + 1 - j)) ++ (T.drop (T.length - j) ++ C), ((A.length + (T.length - j) : Nat) : Int))) T.length _ ?_ ?_ ?_ hg
  · have : (T ++ [y]).take (T.length + 1 - 0) = T ++ [y] := List.take_of_length_le (by simp)
    try dsimp only
    rw [hhi, this]
    simp
  · intro j hj
    dsimp only
    have hz : T.length - 1 - j < T.length := by omega
    have hzz : T.length - j < (T ++ [y]).length := by simp; omega
    have t1 : (T ++ [y]).take (T.length + 1 - j) = (T ++ [y]).take (T.length - 1 - j) ++ [T[T.length - 1 - j]] ++ [(T ++ [y])[T.length - j]] := by
      have a1 : T.length + 1 - j = (T.length - j) + 1 := by omega
      have a2 : T.length - j = (T.length - 1 - j) + 1 := by omega
      rw [a1, List.take_succ_eq_append_getElem hzz]
      congr 1
      rw [a2, List.take_succ_eq_append_getElem (by simp; omega)]
      congr 2
      rw [List.getElem_append_left hz]
    have e2 : A ++ (T ++ [y]).take (T.length + 1 - j) ++ (T.drop (T.length - j) ++ C) = (A ++ (T ++ [y]).take (T.length - 1 - j)) ++ T[T.length - 1 - j] :: ((T ++ [y])[T.length - j] :: (T.drop (T.length - j) ++ C)) := by rw [t1]; simp
    have e3 : A ++ (T ++ [y]).take (T.length + 1 - j) ++ (T.drop (T.length - j) ++ C) = (A ++ (T ++ [y]).take (T.length - 1 - j) ++ [T[T.length - 1 - j]]) ++ (T ++ [y])[T.length - j] :: (T.drop (T.length - j) ++ C) := by rw [t1]; simp
    rw [decide_eq_true (by omega), cond_true, w64 (by omega) (by omega)]
    rw [show idx (A ++ (T ++ [y]).take (T.length + 1 - j) ++ (T.drop (T.length - j) ++ C)) (((A.length + (T.length - j) : Nat) : Int) - 1) = some T[T.length - 1 - j] by rw [e2]; exact idx_mid' (by simp; omega)]
    rw [bnd_some]
    rw [show idx (A ++ (T ++ [y]).take (T.length + 1 - j) ++ (T.drop (T.length - j) ++ C)) ((A.length + (T.length - j) : Nat) : Int) = some ((T ++ [y])[T.length - j]) by rw [e3]; exact idx_mid' (by simp; omega)]
    rw [bnd_some, Int.toNat_natCast, e3, set_mid' (by simp; omega)]
    have t2 : (T ++ [y]).take (T.length + 1 - (j + 1)) = (T ++ [y]).take (T.length - 1 - j) ++ [T[T.length - 1 - j]] := by
      have a2 : T.length + 1 - (j + 1) = (T.length - 1 - j) + 1 := by omega
      rw [a2, List.take_succ_eq_append_getElem (by simp; omega)]
      congr 2
      rw [List.getElem_append_left hz]
    have t3 : T.drop (T.length - (j + 1)) = T[T.length - 1 - j] :: T.drop (T.length - j) := by
      have a2 : T.length - (j + 1) = T.length - 1 - j := by omega
      rw [a2, List.drop_eq_getElem_cons hz]
      congr 2
      omega
    rw [t2, t3]
    have t4 : ((A.length + (T.length - j) : Nat) : Int) - 1 = ((A.length + (T.length - (j + 1)) : Nat) : Int) := by omega
    rw [t4]
    simp
  · dsimp only
    rw [decide_eq_false (by omega), cond_false]
    have : T.length + 1 - T.length = 1 := by omega
    rw [this, Nat.sub_self, List.drop_zero]
theorem rmove_up (W : Nat) (hW : W ≤ 1000) (A B C : List Ref09Row) (top bottom n s : Int) (hl : (A ++ B ++ C).length ≤ 1000000) (hB : 1 ≤ B.length)
    (h1 : max 0 (min top (((A ++ B ++ C).length : Int) - 1)) = A.length) (h2 : max 0 (min bottom (((A ++ B ++ C).length : Int) - 1)) = A.length + B.length - 1) :
    p_ref10_Move ⟨W, A ++ B ++ C⟩ true top bottom n s = some (⟨W, A ++ upB (kN n B.length) B (told (rowB W s)) ++ C⟩, B.take (kN n B.length)) := by
  unfold p_ref10_Move
  dsimp only
  have hl' := hl
  simp only [List.length_append] at hl'
  rw [w64 (x := ((A ++ B ++ C).length : Int) - 1) (by omega) (by omega)]
  simp only [imax_eq, imin_eq, h1, h2]
  have hk := kN_le n B.length
  have hkn : ∀ i : Nat, i < kN n B.length → (i : Int) < n := fun i hi => by unfold kN at hi; omega
  have hkx : ¬ (((kN n B.length : Nat) : Int) < n ∧ ((kN n B.length : Nat) : Int) ≤ (A.length : Int) + (B.length : Int) - 1 - (A.length : Int)) := by unfold kN; omega
  generalize kN n B.length = k at hk hkn hkx
  rw [decide_eq_false (by omega), cond_false, apok_true (by simp; omega), bnd_some, rblankW _ _ hW, bnd_some, List.nil_append]
  refine bind_to (fun i => (B.take i, A ++ upB i B (told (rowB W s)) ++ C, (i : Int))) k (B.take k, A ++ upB k B (told (rowB W s)) ++ C) ?_ ?_ ?_ rfl
  · rw [upB_zero]
    rfl
  · intro i hi
    dsimp only
    have hib : i < B.length := by omega
    rw [and2, w64 (x := (A.length : Int) + (B.length : Int) - 1 - (A.length : Int)) (by omega) (by omega), decide_eq_true ⟨hkn i hi, by omega⟩, bnd_some, cond_true, cond_true, upB_head _ _ _ hib]
    rw [show idx (A ++ B[i] :: (B.drop (i + 1) ++ List.replicate i (told (rowB W s))) ++ C) (A.length : Int) = some B[i] by rw [List.append_assoc, List.cons_append]; exact idx_mid' rfl]
    rw [bnd_some, apok_true (by simp; omega), bnd_some]
    rw [shup (ρ := Unit) (A.length : Int) ((A.length : Int) + (B.length : Int) - 1) A (B.drop (i + 1) ++ List.replicate i (told (rowB W s))) C B[i] _ (some (B.take (i + 1), A ++ upB (i + 1) B (told (rowB W s)) ++ C)) (by simp; omega) rfl (by simp; omega)]
    · rw [bnd_some, w64 (by omega) (by omega)]
      rfl
    · generalize hT : B.drop (i + 1) ++ List.replicate i (told (rowB W s)) = T
      have hTl : A.length + T.length = A.length + B.length - 1 := by rw [← hT]; simp; omega
      have hd : (B[i] :: T).drop T.length = [(B[i] :: T)[T.length]] := by
        rw [List.drop_eq_getElem_cons (by simp), List.drop_eq_nil_of_le (by simp)]
      rw [hd, List.singleton_append]
      rw [idx_mid' (by simp; omega), bnd_some, upB_succ _ _ _ hib, hT, set_mid' (by simp; omega), List.take_succ_eq_append_getElem hib]
      simp
  · dsimp only
    rw [and2, w64 (x := (A.length : Int) + (B.length : Int) - 1 - (A.length : Int)) (by omega) (by omega), decide_eq_false hkx, bnd_some, cond_false]
theorem rmove_down (W : Nat) (hW : W ≤ 1000) (A B C : List Ref09Row) (top bottom n s : Int) (hl : (A ++ B ++ C).length ≤ 1000000) (hB : 1 ≤ B.length)
    (h1 : max 0 (min top (((A ++ B ++ C).length : Int) - 1)) = A.length) (h2 : max 0 (min bottom (((A ++ B ++ C).length : Int) - 1)) = A.length + B.length - 1) :
    p_ref10_Move ⟨W, A ++ B ++ C⟩ false top bottom n s = some (⟨W, A ++ downB (kN n B.length) B (told (rowB W s)) ++ C⟩, (B.drop (B.length - kN n B.length)).reverse) := by
  unfold p_ref10_Move
  dsimp only
  have hl' := hl
  simp only [List.length_append] at hl'
  rw [w64 (x := ((A ++ B ++ C).length : Int) - 1) (by omega) (by omega)]
  simp only [imax_eq, imin_eq, h1, h2]
  have hk := kN_le n B.length
  have hkn : ∀ i : Nat, i < kN n B.length → (i : Int) < n := fun i hi => by unfold kN at hi; omega
  have hkx : ¬ (((kN n B.length : Nat) : Int) < n ∧ ((kN n B.length : Nat) : Int) ≤ (A.length : Int) + (B.length : Int) - 1 - (A.length : Int)) := by unfold kN; omega
  generalize kN n B.length = k at hk hkn hkx
  rw [decide_eq_false (by omega), cond_false, apok_true (by simp; omega), bnd_some, rblankW _ _ hW, bnd_some, List.nil_append]
  refine bind_to (fun i => ((B.drop (B.length - i)).reverse, A ++ downB i B (told (rowB W s)) ++ C, (i : Int))) k ((B.drop (B.length - k)).reverse, A ++ downB k B (told (rowB W s)) ++ C) ?_ ?_ ?_ rfl
  · rw [downB_zero]
    simp
  · intro i hi
    dsimp only
    have hib : i < B.length := by omega
    rw [and2, w64 (x := (A.length : Int) + (B.length : Int) - 1 - (A.length : Int)) (by omega) (by omega), decide_eq_true ⟨hkn i hi, by omega⟩, bnd_some, cond_true, cond_false, downB_last _ _ _ hib]
    have hTl : A.length + (List.replicate i (told (rowB W s)) ++ B.take (B.length - i - 1)).length = A.length + B.length - 1 := by simp; omega
    rw [show idx (A ++ ((List.replicate i (told (rowB W s)) ++ B.take (B.length - i - 1)) ++ [B[B.length - i - 1]'(by omega)]) ++ C) ((A.length : Int) + (B.length : Int) - 1) = some (B[B.length - i - 1]'(by omega)) by
      rw [← List.append_assoc A, List.append_assoc (A ++ (List.replicate i (told (rowB W s)) ++ B.take (B.length - i - 1))), List.singleton_append]; exact idx_mid' (by rw [List.length_append]; omega)]
    rw [bnd_some, apok_true (by simp; omega), bnd_some]
    rw [shdown (ρ := Unit) (A.length : Int) ((A.length : Int) + (B.length : Int) - 1) A (List.replicate i (told (rowB W s)) ++ B.take (B.length - i - 1)) C (B[B.length - i - 1]'(by omega)) _ (some ((B.drop (B.length - (i + 1))).reverse, A ++ downB (i + 1) B (told (rowB W s)) ++ C)) (by simp; omega) rfl (by omega)]
    · rw [bnd_some, w64 (by omega) (by omega)]
      rfl
    · rw [downB_succ _ _ _ hib]
      generalize hT : List.replicate i (told (rowB W s)) ++ B.take (B.length - i - 1) = T
      have hd : (T ++ [B[B.length - i - 1]'(by omega)]).take 1 = [(T ++ [B[B.length - i - 1]'(by omega)])[0]'(by simp)] := by
        exact take_one (by simp)
      rw [hd, List.append_assoc A, List.singleton_append]
      rw [idx_mid' rfl, bnd_some, Int.toNat_natCast, set_mid' rfl]
      have a1 : B.length - i = (B.length - i - 1) + 1 := by omega
      have a2 : B.length - (i + 1) = B.length - i - 1 := by omega
      rw [a2, List.drop_eq_getElem_cons (i := B.length - i - 1) (by omega), ← a1]
      simp
  · dsimp only
    rw [and2, w64 (x := (A.length : Int) + (B.length : Int) - 1 - (A.length : Int)) (by omega) (by omega), decide_eq_false hkx, bnd_some, cond_false]
end Go.Tw.X

set_option linter.unusedVariables false
set_option linter.unusedSimpArgs false
namespace Go.Tw.X
open Go Go.Tw
theorem GI.len {W : Nat} {l : List RowRow} (h : GI W l) : ∀ r ∈ l, r.cells.length ≤ 1000000 := fun r hr => by
  have := (h.rs r hr).1
  have := h.w2
  omega
def rgB (l : List RowRow) (t b : Int) : List RowRow := (l.take (loS l b + 1)).drop (loS l t)
def upL (W : Nat) (l : List RowRow) (t b n s : Int) : List RowRow := if loS l b < loS l t then l else l.take (loS l t) ++ upB (kN n (rgB l t b).length) (rgB l t b) (rowB W s) ++ l.drop (loS l b + 1)
def upO (l : List RowRow) (t b n : Int) : List RowRow := if loS l b < loS l t then [] else (rgB l t b).take (kN n (rgB l t b).length)
def downL (W : Nat) (l : List RowRow) (t b n s : Int) : List RowRow := if loS l b < loS l t then l else l.take (loS l t) ++ downB (kN n (rgB l t b).length) (rgB l t b) (rowB W s) ++ l.drop (loS l b + 1)
def downO (l : List RowRow) (t b n : Int) : List RowRow := if loS l b < loS l t then [] else ((rgB l t b).drop ((rgB l t b).length - kN n (rgB l t b).length)).reverse
theorem rg_split (l : List RowRow) (t b : Int) (h : ¬ loS l b < loS l t) (h1 : 1 ≤ l.length) : l = l.take (loS l t) ++ rgB l t b ++ l.drop (loS l b + 1) ∧ (l.take (loS l t)).length = loS l t ∧ (rgB l t b).length = loS l b + 1 - loS l t := by
  have hb := loS_lt l b h1
  unfold rgB
  refine ⟨?_, ?_, ?_⟩
  · have : l.take (loS l t) = (l.take (loS l b + 1)).take (loS l t) := by rw [List.take_take]; congr 1; omega
    rw [this, List.take_append_drop, List.take_append_drop]
  · rw [List.length_take]; omega
  · rw [List.length_drop, List.length_take]; omega
theorem up_all {W : Nat} {l : List RowRow} (h : GI W l) (t b n s : Int) : p_grid_Grid_Up ⟨W, l⟩ t b n s = some (upO l t b n, ⟨W, upL W l t b n s⟩) ∧ p_ref10_Move ⟨W, l.map told⟩ true t b n s = some (⟨W, (upL W l t b n s).map told⟩, (upO l t b n).map told) := by
  have h1 := h.l1
  have h2 := h.l2
  have hreg := region_eq (W : Int) l t b h1 (by omega)
  have hb := loS_lt l b h1
  by_cases hc : loS l b < loS l t
  · rw [if_pos hc] at hreg
    unfold upO upL
    rw [if_pos hc, if_pos hc]
    constructor
    · unfold p_grid_Grid_Up
      rw [hreg, bnd_some]
    · unfold p_ref10_Move
      dsimp only
      rw [List.length_map, w64 (x := (l.length : Int) - 1) (by omega) (by omega), imax_eq, imax_eq, imin_eq, imin_eq, loS_eq, loS_eq, decide_eq_true (by omega), cond_true]
      rfl
  · rw [if_neg hc] at hreg
    obtain ⟨e, ea, eb⟩ := rg_split l t b hc h1
    have hlo := loS_eq l t
    have hhi := loS_eq l b
    unfold upO upL
    rw [if_neg hc, if_neg hc]
    generalize l.take (loS l t) = A at e ea
    generalize rgB l t b = B at e eb
    generalize l.drop (loS l b + 1) = C at e
    rw [e] at hlo hhi hreg h2 hc ea eb ⊢
    have e2 : ((loS (A ++ B ++ C) b + 1 : Nat) : Int) = ((A.length + B.length : Nat) : Int) := by omega
    have e1 : ((loS (A ++ B ++ C) t : Nat) : Int) = (A.length : Int) := by omega
    rw [e1, e2] at hreg
    constructor
    · exact up_eq W h.w2 A B C t b n s (by omega) (by omega) hreg
    · have hm := rmove_up W h.w2 (A.map told) (B.map told) (C.map told) t b n s (by simpa using (by omega : (A ++ B ++ C).length ≤ 1000000)) (by simp; omega)
      have el : ((A.map told ++ B.map told ++ C.map told).length : Int) = ((A ++ B ++ C).length : Int) := by simp
      rw [el] at hm
      have := hm (by rw [hlo, List.length_map]; omega) (by rw [hhi, List.length_map, List.length_map]; omega)
      rw [List.map_append, List.map_append, this, List.length_map, List.map_append, List.map_append, upB_map, List.map_take]
theorem down_all {W : Nat} {l : List RowRow} (h : GI W l) (t b n s : Int) : p_grid_Grid_Down ⟨W, l⟩ t b n s = some (downO l t b n, ⟨W, downL W l t b n s⟩) ∧ p_ref10_Move ⟨W, l.map told⟩ false t b n s = some (⟨W, (downL W l t b n s).map told⟩, (downO l t b n).map told) := by
  have h1 := h.l1
  have h2 := h.l2
  have hreg := region_eq (W : Int) l t b h1 (by omega)
  have hb := loS_lt l b h1
  by_cases hc : loS l b < loS l t
  · rw [if_pos hc] at hreg
    unfold downO downL
    rw [if_pos hc, if_pos hc]
    constructor
    · unfold p_grid_Grid_Down
      rw [hreg, bnd_some]
    · unfold p_ref10_Move
      dsimp only
      rw [List.length_map, w64 (x := (l.length : Int) - 1) (by omega) (by omega), imax_eq, imax_eq, imin_eq, imin_eq, loS_eq, loS_eq, decide_eq_true (by omega), cond_true]
      rfl
  · rw [if_neg hc] at hreg
    obtain ⟨e, ea, eb⟩ := rg_split l t b hc h1
    have hlo := loS_eq l t
    have hhi := loS_eq l b
    unfold downO downL
    rw [if_neg hc, if_neg hc]
    generalize l.take (loS l t) = A at e ea
    generalize rgB l t b = B at e eb
    generalize l.drop (loS l b + 1) = C at e
    rw [e] at hlo hhi hreg h2 hc ea eb ⊢
    have e2 : ((loS (A ++ B ++ C) b + 1 : Nat) : Int) = ((A.length + B.length : Nat) : Int) := by omega
    have e1 : ((loS (A ++ B ++ C) t : Nat) : Int) = (A.length : Int) := by omega
    rw [e1, e2] at hreg
    constructor
    · exact down_eq W h.w2 A B C t b n s (by omega) (by omega) hreg
    · have hm := rmove_down W h.w2 (A.map told) (B.map told) (C.map told) t b n s (by simpa using (by omega : (A ++ B ++ C).length ≤ 1000000)) (by simp; omega)
      have el : ((A.map told ++ B.map told ++ C.map told).length : Int) = ((A ++ B ++ C).length : Int) := by simp
      rw [el] at hm
      have := hm (by rw [hlo, List.length_map]; omega) (by rw [hhi, List.length_map, List.length_map]; omega)
      rw [List.map_append, List.map_append, this, List.length_map, List.map_append, List.map_append, downB_map, List.map_reverse, List.map_drop]
theorem rg_mem {l : List RowRow} {t b : Int} {r : RowRow} (h : r ∈ rgB l t b) : r ∈ l := List.mem_of_mem_take (List.mem_of_mem_drop h)
theorem GI_up {W : Nat} {l : List RowRow} (h : GI W l) (t b n s : Int) : GI W (upL W l t b n s) := by
  unfold upL
  by_cases hc : loS l b < loS l t
  · rw [if_pos hc]
    exact h
  · rw [if_neg hc]
    obtain ⟨e, ea, eb⟩ := rg_split l t b hc h.l1
    have hlen : (l.take (loS l t) ++ upB (kN n (rgB l t b).length) (rgB l t b) (rowB W s) ++ l.drop (loS l b + 1)).length = l.length := by
      conv => rhs; rw [e]
      simp only [List.length_append, upB_length]
    refine ⟨h.w1, h.w2, by rw [hlen]; exact h.l1, by rw [hlen]; exact h.l2, ?_⟩
    intro r hr
    rw [List.mem_append, List.mem_append] at hr
    rcases hr with (hr | hr) | hr
    · exact h.rs r (List.mem_of_mem_take hr)
    · unfold upB at hr
      rw [List.mem_append] at hr
      rcases hr with hr | hr
      · exact h.rs r (rg_mem (List.mem_of_mem_drop hr))
      · rw [List.eq_of_mem_replicate hr]
        exact gok_blank _ _
    · exact h.rs r (List.mem_of_mem_drop hr)
theorem GI_down {W : Nat} {l : List RowRow} (h : GI W l) (t b n s : Int) : GI W (downL W l t b n s) := by
  unfold downL
  by_cases hc : loS l b < loS l t
  · rw [if_pos hc]
    exact h
  · rw [if_neg hc]
    obtain ⟨e, ea, eb⟩ := rg_split l t b hc h.l1
    have hlen : (l.take (loS l t) ++ downB (kN n (rgB l t b).length) (rgB l t b) (rowB W s) ++ l.drop (loS l b + 1)).length = l.length := by
      conv => rhs; rw [e]
      simp only [List.length_append, downB_length]
    refine ⟨h.w1, h.w2, by rw [hlen]; exact h.l1, by rw [hlen]; exact h.l2, ?_⟩
    intro r hr
    rw [List.mem_append, List.mem_append] at hr
    rcases hr with (hr | hr) | hr
    · exact h.rs r (List.mem_of_mem_take hr)
    · unfold downB at hr
      rw [List.mem_append] at hr
      rcases hr with hr | hr
      · rw [List.eq_of_mem_replicate hr]
        exact gok_blank _ _
      · exact h.rs r (rg_mem (List.mem_of_mem_take hr))
    · exact h.rs r (List.mem_of_mem_drop hr)
theorem upO_mem {l : List RowRow} {t b n : Int} {r : RowRow} (h : r ∈ upO l t b n) : r ∈ l := by
  unfold upO at h
  split at h
  · cases h
  · exact rg_mem (List.mem_of_mem_take h)
theorem downO_mem {l : List RowRow} {t b n : Int} {r : RowRow} (h : r ∈ downO l t b n) : r ∈ l := by
  unfold downO at h
  split at h
  · cases h
  · exact rg_mem (List.mem_of_mem_drop (List.mem_reverse.1 h))
theorem upO_len (l : List RowRow) (t b n : Int) : (upO l t b n).length ≤ l.length := by
  unfold upO
  split
  · exact Nat.zero_le _
  · unfold rgB
    rw [List.length_take, List.length_drop, List.length_take]
    omega
theorem downO_len (l : List RowRow) (t b n : Int) : (downO l t b n).length ≤ l.length := by
  unfold downO
  split
  · exact Nat.zero_le _
  · unfold rgB
    rw [List.length_reverse, List.length_drop, List.length_drop, List.length_take]
    omega
/-! ### another size -/
def rzL (W : Nat) (l : List RowRow) (c H : Nat) : List RowRow := ((l.drop c).take H ++ List.replicate (H - (l.length - c)) (rowB W 0)).map (rsz W)
theorem rzL_length (W : Nat) (l : List RowRow) (c H : Nat) : (rzL W l c H).length = H := by
  unfold rzL
  simp
  omega
theorem rsz_blank (W : Nat) : rsz W (rowB W 0) = rowB W 0 := rsz_id (by simp [rowB])
theorem resizeG_eq (w0 : Int) (l : List RowRow) (w h off : Int) (h1 : 1 ≤ l.length) (h2 : l.length ≤ 1000000) (hr : ∀ r ∈ l, r.cells.length ≤ 1000000) : p_grid_Grid_Resize ⟨w0, l⟩ w h off = some (l.take (loS l off), ⟨(szN w : Int), rzL (szN w) l (loS l off) (szN h)⟩) := by
  unfold p_grid_Grid_Resize
  dsimp only
  have hw := szN_le w
  have hh := szN_le h
  rw [w64 (x := (l.length : Int) - 1) (by omega) (by omega), gclip_eq, bnd_some, loS_eq]
  have hc := loS_lt l off h1
  unfold rzL
  generalize loS l off = c at hc
  have c1 : cut l (c : Int) (l.length : Int) = l.drop c := by rw [cut_nat, List.take_length]
  have hm : imin ((l.drop c).length : Int) (szN h : Int) = ((min (l.drop c).length (szN h) : Nat) : Int) := by rw [imin_eq]; omega
  have c2 : cut (l.drop c) 0 ((min (l.drop c).length (szN h) : Nat) : Int) = (l.drop c).take (szN h) := by
    rw [cut_zero, ← List.take_take]
    exact List.take_of_length_le (by rw [List.length_take]; omega)
  rw [cutok_true (by omega) (by omega) (by omega), bnd_some, cut_zero, gclone_eq _ (by rw [List.length_take]; omega), bnd_some, cutok_true (by omega) (by omega) (by omega), bnd_some, c1, gclone_eq _ (by rw [List.length_drop]; omega), bnd_some, gsize_eq, bnd_some, hm, cutok_true (by omega) (by omega) (by omega), bnd_some, c2]
  refine bind_to (fun i => (l.drop c).take (szN h) ++ List.replicate i (rowB (szN w) 0)) (szN h - (l.length - c)) ((l.drop c).take (szN h) ++ List.replicate (szN h - (l.length - c)) (rowB (szN w) 0)) ?_ ?_ ?_ ?_
  · simp
  · intro i hi
    try dsimp only
    rw [bnd_some, decide_eq_true (by simp; omega), cond_true, gsize_eq w, bnd_some, blankW _ _ hw, bnd_some, apok_true (by simp; omega), bnd_some, List.append_assoc, ← List.replicate_succ']
  · try dsimp only
    rw [bnd_some, decide_eq_false (by simp; omega), cond_false]
  · rw [gsize_eq, bnd_some]
    have hL : ∀ r ∈ (l.drop c).take (szN h) ++ List.replicate (szN h - (l.length - c)) (rowB (szN w) 0), r.cells.length ≤ 1000000 := by
      intro r hrr
      rcases List.mem_append.1 hrr with hrr | hrr
      · exact hr r (List.mem_of_mem_drop (List.mem_of_mem_take hrr))
      · rw [List.eq_of_mem_replicate hrr]
        simp [rowB]
        omega
    have hLl : ((l.drop c).take (szN h) ++ List.replicate (szN h - (l.length - c)) (rowB (szN w) 0)).length = szN h := by
      simp
      omega
    generalize (l.drop c).take (szN h) ++ List.replicate (szN h - (l.length - c)) (rowB (szN w) 0) = L at hL hLl
    refine bind_to (fun i => ((⟨(szN w : Int), (L.take i).map (rsz (szN w)) ++ L.drop i⟩ : GridGrid), (i : Int))) L.length (⟨(szN w : Int), L.map (rsz (szN w))⟩ : GridGrid) ?_ ?_ ?_ rfl
    · simp
    · intro i hi
      dsimp only
      have hd : (L.take i).map (rsz (szN w)) ++ L.drop i = (L.take i).map (rsz (szN w)) ++ L[i] :: L.drop (i + 1) := by rw [List.drop_eq_getElem_cons hi]
      have hlen : (L.take i).length = i := by rw [List.length_take]; omega
      rw [decide_eq_true (by omega), cond_true, hd, idx_mid' (by simp; omega), bnd_some, set_eq _ hw _ _ _ (hL _ (List.getElem_mem hi)), bnd_some, w64 (by omega) (by omega)]
      dsimp only
      unfold setS
      rw [if_pos (by simp; omega), Int.toNat_natCast, set_mid' (by simp; omega), List.take_succ_eq_append_getElem hi, List.map_append, List.append_assoc]
      rfl
    · dsimp only
      rw [decide_eq_false (by omega), cond_false]
      simp
theorem rresizeG_eq (w0 : Int) (l : List RowRow) (w h off : Int) (h1 : 1 ≤ l.length) (h2 : l.length ≤ 1000000) (hr : ∀ r ∈ l, r.cells.length ≤ 1000000) : p_ref10_Resize ⟨w0, l.map told⟩ w h off = some (⟨(szN w : Int), (rzL (szN w) l (loS l off) (szN h)).map told⟩, (l.take (loS l off)).map told) := by
  unfold p_ref10_Resize
  dsimp only
  have hw := szN_le w
  have hh := szN_le h
  rw [List.length_map, w64 (x := (l.length : Int) - 1) (by omega) (by omega), imax_eq, imin_eq, loS_eq]
  have hc := loS_lt l off h1
  generalize loS l off = c at hc
  rw [rsize_eq, bnd_some]
  refine bind_to (fun i => ((⟨(szN w : Int), ((rzL (szN w) l c (szN h)).take i).map told⟩ : Ref10Grid), (i : Int))) (szN h) (⟨(szN w : Int), (rzL (szN w) l c (szN h)).map told⟩ : Ref10Grid) rfl ?_ ?_ ?_
  · intro i hi
    dsimp only
    have hrl := rzL_length (szN w) l c (szN h)
    have hil : i < (rzL (szN w) l c (szN h)).length := by omega
    rw [rsize_eq, bnd_some, decide_eq_true (by omega), cond_true, w64 (x := (c : Int) + (i : Int)) (by omega) (by omega), w64 (x := (i : Int) + 1) (by omega) (by omega), List.take_succ_eq_append_getElem hil, List.map_append]
    by_cases hci : c + i < l.length
    · have hg : (rzL (szN w) l c (szN h))[i] = rsz (szN w) l[c + i] := by
        simp only [rzL, List.getElem_map]
        rw [List.getElem_append_left (by simp; omega)]
        simp
      rw [decide_eq_true (by omega), cond_true, show (c : Int) + (i : Int) = ((c + i : Nat) : Int) by omega, idx_get _ _ (by simpa using hci), bnd_some, List.getElem_map, rrsz_eq _ hw _ (hr _ (List.getElem_mem hci)), bnd_some, apok_true (by simp; omega), bnd_some, bnd_some, hg]
      rfl
    · have hg : (rzL (szN w) l c (szN h))[i] = rowB (szN w) 0 := by
        simp only [rzL, List.getElem_map]
        rw [List.getElem_append_right (by simp; omega)]
        simp [rsz_blank]
      rw [decide_eq_false (by omega), cond_false, rblankW _ _ hw, bnd_some, apok_true (by simp; omega), bnd_some, bnd_some, hg]
      rfl
  · dsimp only
    rw [rsize_eq, bnd_some, decide_eq_false (by omega), cond_false, List.take_of_length_le (by rw [rzL_length]; omega)]
  · rw [cutok_true (by omega) (by omega) (by omega), bnd_some, cut_zero, List.map_take]
theorem GI_rz {W : Nat} {l : List RowRow} (hl : ∀ r ∈ l, okR r.cells) (W' : Nat) (c H : Nat) (h1 : 1 ≤ W') (h2 : W' ≤ 1000) (h3 : 1 ≤ H) (h4 : H ≤ 1000) : GI W' (rzL W' l c H) := by
  refine ⟨h1, h2, by rw [rzL_length]; exact h3, by rw [rzL_length]; exact h4, ?_⟩
  intro r hr
  unfold rzL at hr
  obtain ⟨q, hq, rfl⟩ := List.mem_map.1 hr
  refine rsz_gok _ _ ?_
  rcases List.mem_append.1 hq with hq | hq
  · exact hl q (List.mem_of_mem_drop (List.mem_of_mem_take hq))
  · rw [List.eq_of_mem_replicate hq]
    exact (gok_blank _ _).2
end Go.Tw.X

set_option linter.unusedVariables false
set_option linter.unusedSimpArgs false
namespace Go.Tw.X
open Go Go.Tw
/-! ### what a row and a grid read as -/
def encL (e : Int) : List Int := if e < 128 then [e] else if e < 2048 then [192 + e / 64, 128 + e % 64] else if e < 65536 then [224 + e / 4096, 128 + e / 64 % 64, 128 + e % 64] else [240 + e / 262144, 128 + e / 4096 % 64, 128 + e / 64 % 64, 128 + e % 64]
def fixV (r : Int) : Int := if r < 0 ∨ r > 1114111 ∨ (r ≥ 55296 ∧ r ≤ 57343) then 65533 else r
def encS (r : Int) : List Int := encL (fixV r)
theorem fixV_ok (r : Int) : 0 ≤ fixV r ∧ fixV r ≤ 1114111 := by unfold fixV; split <;> omega
theorem badV (r : Int) : ((bif (decide (r < 0)) then some true else (bif (decide (r > 1114111)) then some true else (bif (decide (r ≥ 55296)) then some (decide (r ≤ 57343)) else some false))) : Option Bool) = some (decide (r < 0 ∨ r > 1114111 ∨ (r ≥ 55296 ∧ r ≤ 57343))) := by
  rw [and2]
  by_cases a : r < 0
  · simp [a]
  · by_cases b : r > 1114111
    · simp [a, b]
    · simp [a, b]
theorem fixV_eq (r : Int) : ((bif (decide (r < 0 ∨ r > 1114111 ∨ (r ≥ 55296 ∧ r ≤ 57343))) then some 65533 else some r) : Option Int) = some (fixV r) := by
  unfold fixV
  by_cases h : r < 0 ∨ r > 1114111 ∨ (r ≥ 55296 ∧ r ≤ 57343)
  · rw [if_pos h, decide_eq_true h, cond_true]
  · rw [if_neg h, decide_eq_false h, cond_false]
theorem encL_len (e : Int) : (encL e).length ≤ 4 := by
  unfold encL
  split
  · simp
  · split
    · simp
    · split <;> simp
theorem m63 (x : Int) (h0 : 0 ≤ x) (h1 : x < 2147483648) : Go.bits .and .i32 x 63 = x % 64 := by
  have h := bits_mask .i32 31 (by decide) wraps_i32 6 (by decide) x h0 (by omega)
  have e : ((2 : Int) ^ 6 - 1) = 63 := by decide
  have e2 : ((2 : Int) ^ 6) = 64 := by decide
  rw [e, e2] at h
  exact h
theorem j128 (y : Int) (h0 : 0 ≤ y) (h1 : y < 64) : Go.bits .or .i32 128 y = 128 + y := bits_join .i32 31 (by decide) wraps_i32 6 128 y (by decide) (by decide) (by decide) h0 (by omega) (by omega)
theorem j192 (y : Int) (h0 : 0 ≤ y) (h1 : y < 32) : Go.bits .or .i32 192 y = 192 + y := bits_join .i32 31 (by decide) wraps_i32 5 192 y (by decide) (by decide) (by decide) h0 (by omega) (by omega)
theorem j224 (y : Int) (h0 : 0 ≤ y) (h1 : y < 16) : Go.bits .or .i32 224 y = 224 + y := bits_join .i32 31 (by decide) wraps_i32 4 224 y (by decide) (by decide) (by decide) h0 (by omega) (by omega)
theorem j240 (y : Int) (h0 : 0 ≤ y) (h1 : y < 8) : Go.bits .or .i32 240 y = 240 + y := bits_join .i32 31 (by decide) wraps_i32 3 240 y (by decide) (by decide) (by decide) h0 (by omega) (by omega)
theorem sh6 (e : Int) : e.fdiv (2 ^ (min 6 32)) = e / 64 := by rw [Int.fdiv_eq_ediv_of_nonneg _ (by decide)]; rfl
theorem sh12 (e : Int) : e.fdiv (2 ^ (min 12 32)) = e / 4096 := by rw [Int.fdiv_eq_ediv_of_nonneg _ (by decide)]; rfl
theorem sh18 (e : Int) : e.fdiv (2 ^ (min 18 32)) = e / 262144 := by rw [Int.fdiv_eq_ediv_of_nonneg _ (by decide)]; rfl
theorem u8id {x : Int} (h0 : 0 ≤ x) (h1 : x < 256) : IntKind.u8.wrap x = x := by rw [IntKind.wrap_u8]; omega
theorem renc_eq (r : Int) : p_ref05_Encode r = some (bstr (encS r)) := by
  unfold p_ref05_Encode encS
  rw [badV, bnd_some, fixV_eq, bnd_some]
  obtain ⟨h0, h1⟩ := fixV_ok r
  generalize fixV r = e at h0 h1
  have d1 : e.tdiv 64 = e / 64 := Int.tdiv_eq_ediv_of_nonneg h0
  have d2 : e.tdiv 4096 = e / 4096 := Int.tdiv_eq_ediv_of_nonneg h0
  have d3 : e.tdiv 262144 = e / 262144 := Int.tdiv_eq_ediv_of_nonneg h0
  have m1 : e.tmod 64 = e % 64 := Int.tmod_eq_emod_of_nonneg h0
  have m2 : (e / 64).tmod 64 = e / 64 % 64 := Int.tmod_eq_emod_of_nonneg (by omega)
  have m3 : (e / 4096).tmod 64 = e / 4096 % 64 := Int.tmod_eq_emod_of_nonneg (by omega)
  have w1 : IntKind.i64.wrap (e / 64) = e / 64 := w64 (by omega) (by omega)
  have w2 : IntKind.i64.wrap (e / 4096) = e / 4096 := w64 (by omega) (by omega)
  have w3 : IntKind.i64.wrap (e / 262144) = e / 262144 := w64 (by omega) (by omega)
  rw [d1, d2, d3, w1, w2, w3, m1, m2, m3]
  unfold encL
  by_cases c1 : e < 128
  · rw [decide_eq_true c1, cond_true, if_pos c1, u8id h0 (by omega)]
  · rw [decide_eq_false c1, cond_false, if_neg c1]
    rw [w64 (x := 128 + e % 64) (by omega) (by omega), u8id (x := 128 + e % 64) (by omega) (by omega)]
    by_cases c2 : e < 2048
    · rw [decide_eq_true c2, cond_true, if_pos c2, w64 (by omega) (by omega), u8id (by omega) (by omega)]
    · rw [decide_eq_false c2, cond_false, if_neg c2]
      rw [w64 (x := 128 + e / 64 % 64) (by omega) (by omega), u8id (x := 128 + e / 64 % 64) (by omega) (by omega)]
      by_cases c3 : e < 65536
      · rw [decide_eq_true c3, cond_true, if_pos c3, w64 (by omega) (by omega), u8id (by omega) (by omega)]
      · rw [decide_eq_false c3, cond_false, if_neg c3]
        rw [w64 (x := 128 + e / 4096 % 64) (by omega) (by omega), u8id (x := 128 + e / 4096 % 64) (by omega) (by omega), w64 (by omega) (by omega), u8id (by omega) (by omega)]
theorem flatS_len (l : List Int) : (l.flatMap encS).length ≤ 4 * l.length := by
  induction l with
  | nil => simp
  | cons a l ih =>
    rw [List.flatMap_cons, List.length_append, List.length_cons]
    have := encL_len (fixV a)
    unfold encS at *
    omega
theorem genc_eq (l : List Int) (h : l.length ≤ 1000000) : p_glyph_Encode l = some (bstr (l.flatMap encS)) := by
  unfold p_glyph_Encode
  refine bind_to (fun i => ((l.take i).flatMap encS, (i : Int))) l.length (l.flatMap encS) rfl ?_ ?_ rfl
  · intro i hi
    dsimp only
    have hfl := flatS_len (l.take i)
    have htl : (l.take i).length = i := by rw [List.length_take]; omega
    rw [decide_eq_true (by omega), cond_true, idx_get l i hi, bnd_some, badV, bnd_some, fixV_eq, bnd_some, List.take_succ_eq_append_getElem hi, List.flatMap_append, List.flatMap_singleton, w64 (by omega) (by omega)]
    generalize (l.take i).flatMap encS = D at hfl
    unfold encS
    obtain ⟨h0, h1⟩ := fixV_ok l[i]
    generalize fixV l[i] = e at h0 h1
    rw [sh6, sh12, sh18, m63 e h0 (by omega), m63 (e / 64) (by omega) (by omega), m63 (e / 4096) (by omega) (by omega), j128 (e % 64) (by omega) (by omega), j128 (e / 64 % 64) (by omega) (by omega), j128 (e / 4096 % 64) (by omega) (by omega)]
    rw [u8id (x := 128 + e % 64) (by omega) (by omega), u8id (x := 128 + e / 64 % 64) (by omega) (by omega), u8id (x := 128 + e / 4096 % 64) (by omega) (by omega)]
    unfold encL
    by_cases c1 : e < 128
    · rw [decide_eq_true c1, cond_true, if_pos c1, u8id h0 (by omega), apok_true (by simp; omega), bnd_some]
      rfl
    · rw [decide_eq_false c1, cond_false, if_neg c1]
      by_cases c2 : e < 2048
      · rw [decide_eq_true c2, cond_true, if_pos c2, j192 _ (by omega) (by omega), u8id (by omega) (by omega), apok_true (by simp; omega), bnd_some]
        rfl
      · rw [decide_eq_false c2, cond_false, if_neg c2]
        by_cases c3 : e < 65536
        · rw [decide_eq_true c3, cond_true, if_pos c3, j224 _ (by omega) (by omega), u8id (by omega) (by omega), apok_true (by simp; omega), bnd_some]
          rfl
        · rw [decide_eq_false c3, cond_false, if_neg c3, j240 _ (by omega) (by omega), u8id (by omega) (by omega), apok_true (by simp; omega), bnd_some]
          rfl
  · dsimp only
    rw [decide_eq_false (by omega), cond_false, List.take_length]
theorem foldl_push (xs : List Int) : ∀ l : List UInt8, xs.foldl (fun r n => r.push (UInt8.ofNat n.toNat)) (ByteArray.mk l.toArray) = ByteArray.mk (l ++ xs.map (fun n => UInt8.ofNat n.toNat)).toArray := by
  induction xs with
  | nil => intro l; simp
  | cons a xs ih =>
    intro l
    rw [List.foldl_cons]
    have : (ByteArray.mk l.toArray).push (UInt8.ofNat a.toNat) = ByteArray.mk (l ++ [UInt8.ofNat a.toNat]).toArray := by
      show ByteArray.mk (l.toArray.push _) = _
      rw [List.push_toArray]
    rw [this, ih]
    simp
theorem bstr_eq (xs : List Int) : bstr xs = ByteArray.mk (xs.map (fun n => UInt8.ofNat n.toNat)).toArray := foldl_push xs []
theorem bstr_append (a b : List Int) : bstr (a ++ b) = bstr a ++ bstr b := by
  rw [bstr_eq, bstr_eq, bstr_eq, ByteArray.mk_append_mk, List.map_append]
theorem bstr_size (a : List Int) : (bstr a).size = a.length := by
  rw [bstr_eq]
  simp [ByteArray.size]
theorem rglyphs_eq (r : RowRow) (h : r.cells.length ≤ 1000000) : p_ref09_Glyphs (told r) = some ((glyR r).map fun g => ⟨g.rune, g.style⟩) := by
  unfold p_ref09_Glyphs told
  dsimp only
  rw [told_len]
  have k1 : ∀ (n : Nat), n ≤ r.cells.length → ∃ m : Nat, m ≤ r.cells.length ∧ r.cells.take m = (if r.wrapped then r.cells.take n else trimN n (r.cells.take n)) ∧ iter (σ := Int) (ρ := Int) (fun s71 => (Option.bind ((bif (decide (s71 > 0)) then (bif (!r.wrapped) then (Option.bind (idx (r.cells.map tc) (IntKind.i64.wrap (s71 - 1))) fun x137 => some ((x137.rune == 32) && ((x137.style == 0) && ((x137.part == 0) && true)))) else some false) else some false) : Option Bool) fun e132 => (bif e132 then some (.inl (IntKind.i64.wrap (s71 - 1))) else some (.inr s71)))) (n : Int) = some (m : Int) := by
    intro n
    induction n with
    | zero =>
      intro _
      refine ⟨0, by omega, by simp [trimN], ?_⟩
      exact iter_inr (by simp)
    | succ n ih =>
      intro hn
      cases hw : r.wrapped with
      | true =>
        refine ⟨n + 1, hn, by simp, ?_⟩
        exact iter_inr (by simp)
      | false =>
        have hp : decide (((n + 1 : Nat) : Int) > 0) = true := decide_eq_true (by omega)
        have ew : IntKind.i64.wrap (((n + 1 : Nat) : Int) - 1) = (n : Int) := by rw [w64 (by omega) (by omega)]; omega
        have hlt : n < r.cells.length := by omega
        have hlast : (r.cells.take (n + 1)).getLast? = some r.cells[n] := by
          rw [List.take_succ_eq_append_getElem hlt, List.getLast?_concat]
        have hidx : idx (r.cells.map tc) (n : Int) = some (tc r.cells[n]) := by rw [idx_get _ _ (by simpa using hlt), List.getElem_map]
        have hcmp : (((tc r.cells[n]).rune == 32) && (((tc r.cells[n]).style == 0) && (((tc r.cells[n]).part == 0) && true))) = decide (r.cells[n] = blk 0) := by
          show ((r.cells[n].rune == 32) && ((r.cells[n].style == 0) && ((r.cells[n].part == 0) && true))) = _
          exact cell_eqb r.cells[n] (blk 0)
        unfold trimN
        rw [hlast]
        by_cases hb : r.cells[n] = blk 0
        · obtain ⟨m, hm, ht, hi⟩ := ih (by omega)
          refine ⟨m, hm, ?_, ?_⟩
          · rw [ht, hw, hb]
            simp only [Bool.false_eq_true, if_false, if_true]
            congr 1
            rw [List.take_succ_eq_append_getElem hlt, List.dropLast_concat]
          · rw [iter_inl (s' := (n : Int))]
            · rw [hw] at hi
              exact hi
            · simp only [hp, Bool.not_false, cond_true, ew, hidx, bnd_some, hcmp, decide_eq_true hb]
        · refine ⟨n + 1, hn, ?_, ?_⟩
          · rw [if_neg (by simp), if_neg (by simpa using hb)]
          · exact iter_inr (by simp only [hp, Bool.not_false, cond_true, ew, hidx, bnd_some, hcmp, decide_eq_false hb, cond_false])
  obtain ⟨m, hm, ht, hi⟩ := k1 r.cells.length (Nat.le_refl _)
  rw [List.take_length] at ht
  rw [hi, bnd_some, cutok_true (by omega) (by omega) (by omega), bnd_some, cut_zero, ← List.map_take, ht]
  have hE : (if r.wrapped then r.cells else trimN r.cells.length r.cells).length ≤ 1000000 := by
    split
    · exact h
    · exact Nat.le_trans (trimN_length _ _) h
  unfold glyR trimS
  generalize (if r.wrapped then r.cells else trimN r.cells.length r.cells) = L at hE
  refine bind_to (fun i => ((i : Int), (glyS (L.take i)).map fun g => (⟨g.rune, g.style⟩ : Ref09Glyph))) L.length ((glyS L).map fun g => (⟨g.rune, g.style⟩ : Ref09Glyph)) rfl ?_ ?_ rfl
  · intro i hil
    dsimp only
    have hgl := glyS_length (L.take i)
    rw [List.length_take] at hgl
    rw [List.length_map, decide_eq_true (by omega), cond_true, idx_get _ _ (by simpa using hil), bnd_some, List.getElem_map, List.take_succ_eq_append_getElem hil]
    have ho : ((bif ((tc L[i]).part == 0) then some true else some ((tc L[i]).part == 1)) : Option Bool) = some (isG L[i]) := by
      show ((bif (L[i].part == 0) then some true else some (L[i].part == 1)) : Option Bool) = some (L[i].part == 0 || L[i].part == 1)
      cases (L[i].part == 0) <;> rfl
    rw [ho, bnd_some, w64 (by omega) (by omega)]
    unfold glyS
    rw [List.filter_append, List.map_append, List.map_append]
    cases hg : isG L[i] with
    | true =>
      unfold glyS at hgl
      rw [cond_true, apok_true (by simp at hgl ⊢; omega), bnd_some, bnd_some]
      simp [hg, tc]
    | false =>
      rw [cond_false, bnd_some]
      simp [hg]
  · dsimp only
    rw [List.length_map, decide_eq_false (by omega), cond_false, List.take_length]
def txtR (r : RowRow) : ByteArray := bstr ((glyR r).flatMap fun g => encS g.rune)
theorem glyR_len (r : RowRow) : (glyR r).length ≤ r.cells.length := by
  unfold glyR trimS
  refine Nat.le_trans (glyS_length _) ?_
  split
  · exact Nat.le_refl _
  · exact trimN_length _ _
theorem flatG_len (l : List RowGlyph) : (l.flatMap fun g => encS g.rune).length ≤ 4 * l.length := by
  have := flatS_len (l.map (·.rune))
  rw [List.flatMap_map, List.length_map] at this
  exact this
theorem sadd_true {n m : Nat} (h : n + m ≤ 4611686018427387904) : chk (sadd n m) = some () := chk_true h
theorem rtext_eq (r : RowRow) (h : r.cells.length ≤ 1000000) : p_ref10_Text (told r) = some (txtR r) := by
  unfold p_ref10_Text txtR
  have hg := glyR_len r
  rw [rglyphs_eq r h, bnd_some]
  generalize glyR r = L at hg
  refine bind_to (fun i => (bstr ((L.take i).flatMap fun g => encS g.rune), (i : Int))) L.length (bstr (L.flatMap fun g => encS g.rune)) ?_ ?_ ?_ ?_
  · rw [List.take_zero, List.flatMap_nil, bstr_eq]
    rfl
  · intro i hi
    dsimp only
    have h4 := flatG_len (L.take i)
    have h5 := encL_len (fixV L[i].rune)
    rw [List.length_take] at h4
    rw [List.length_map, decide_eq_true (by omega), cond_true, idx_get _ _ (by simpa using hi), bnd_some, List.getElem_map]
    dsimp only
    rw [renc_eq, bnd_some]
    have h6 : (encS L[i].rune).length ≤ 4 := h5
    rw [sadd_true (by rw [bstr_size, bstr_size]; omega), bnd_some, w64 (by omega) (by omega), List.take_succ_eq_append_getElem hi, List.flatMap_append, List.flatMap_singleton, bstr_append]
    have ec : ((i : Int) + 1) = ((i + 1 : Nat) : Int) := by omega
    rw [ec]
  · dsimp only
    rw [List.length_map, decide_eq_false (by omega), cond_false, List.take_length]
  · rfl
theorem gtext_eq (w : Int) (l : List RowRow) (hl : l.length ≤ 1000000) (h : ∀ r ∈ l, r.cells.length ≤ 1000000) : p_grid_Grid_Text ⟨w, l⟩ = some (l.map txtR) := by
  unfold p_grid_Grid_Text
  dsimp only
  refine bind_to (fun i => ((i : Int), (l.take i).map txtR)) l.length (l.map txtR) rfl ?_ ?_ rfl
  · intro i hi
    dsimp only
    have hr := h _ (List.getElem_mem hi)
    have hg := glyR_len l[i]
    rw [decide_eq_true (by omega), cond_true, idx_get l i hi, bnd_some, glyphs_eq _ hr, bnd_some]
    rw [show (some (Sum.inl (((i + 1 : Nat) : Int), (l.take (i + 1)).map txtR)) : Option ((Int × List ByteArray) ⊕ List ByteArray)) = some (Sum.inl (((i + 1 : Nat) : Int), (l.take i).map txtR ++ [bstr (((glyR l[i]).map (·.rune)).flatMap encS)])) by
      rw [List.take_succ_eq_append_getElem hi, List.map_append, List.flatMap_map]; rfl]
    generalize glyR l[i] = L at hg
    refine bind_to (fun j => ((j : Int), (L.take j).map (·.rune))) L.length (L.map (·.rune)) rfl ?_ ?_ ?_
    · intro j hj
      dsimp only
      rw [decide_eq_true (by omega), cond_true, idx_get L j hj, bnd_some, apok_true (by simp; omega), bnd_some, w64 (by omega) (by omega), List.take_succ_eq_append_getElem hj, List.map_append]
      rfl
    · dsimp only
      rw [decide_eq_false (by omega), cond_false, List.take_length]
    · rw [genc_eq _ (by rw [List.length_map]; omega), bnd_some, apok_true (by simp; omega), bnd_some, w64 (by omega) (by omega)]
      rfl
  · dsimp only
    rw [decide_eq_false (by omega), cond_false, List.take_length]
end Go.Tw.X

set_option linter.unusedVariables false
set_option linter.unusedSimpArgs false
namespace Go.Tw.X
open Go Go.Tw
/-! ### numbers as bytes -/
def encN (n : Nat) : List Int := if n < 128 then [(n : Int)] else ((128 + n % 128 : Nat) : Int) :: encN (n / 128)
termination_by n
decreasing_by omega
def clN (n : Int) : Nat := (max 0 (min n 4611686018427387904)).toNat
theorem clN_eq (n : Int) : imax 0 (imin n 4611686018427387904) = (clN n : Int) := by rw [imax_eq, imin_eq]; unfold clN; omega
theorem clN_le (n : Int) : clN n ≤ 4611686018427387904 := by unfold clN; omega
def encC (n : Int) : List Int := encN (clN n)
theorem encN_small {n : Nat} (h : n < 128) : encN n = [(n : Int)] := by rw [encN, if_pos h]
theorem encN_big {n : Nat} (h : ¬ n < 128) : encN n = ((128 + n % 128 : Nat) : Int) :: encN (n / 128) := by rw [encN, if_neg h]
theorem encN_len : ∀ (k n : Nat), n < 128 ^ (k + 1) → (encN n).length ≤ k + 1 := by
  intro k
  induction k with
  | zero =>
    intro n h
    rw [encN_small (by omega)]
    simp
  | succ k ih =>
    intro n h
    by_cases hn : n < 128
    · rw [encN_small hn]
      simp
    · rw [encN_big hn, List.length_cons]
      have : n / 128 < 128 ^ (k + 1) := by
        rw [Nat.pow_succ] at h
        exact Nat.div_lt_of_lt_mul (by rw [Nat.mul_comm]; exact h)
      have := ih _ this
      omega
theorem encC_len (n : Int) : (encC n).length ≤ 9 := encN_len 8 _ (by have := clN_le n; omega)
theorem encN_byte : ∀ (n : Nat), ∀ b ∈ encN n, 0 ≤ b ∧ b < 256 := by
  intro n
  induction n using Nat.strongRecOn with
  | _ n ih =>
    intro b hb
    by_cases hn : n < 128
    · rw [encN_small hn, List.mem_singleton] at hb
      omega
    · rw [encN_big hn] at hb
      rcases List.mem_cons.1 hb with rfl | hb
      · omega
      · exact ih (n / 128) (by omega) b hb
theorem u8mask (x : Int) (h0 : 0 ≤ x) (h1 : x < 256) : Go.bits .and .u8 x 127 = x % 128 := by
  have h := bits_mask .u8 8 (by decide) wraps_u8 7 (by decide) x h0 (by omega)
  have e : ((2 : Int) ^ 7 - 1) = 127 := by decide
  have e2 : ((2 : Int) ^ 7) = 128 := by decide
  rw [e, e2] at h
  exact h
theorem or_comm (k : IntKind) (x y : Int) : Go.bits .or k x y = Go.bits .or k y x := by
  show k.wrap ((BitVec.ofInt k.bits x ||| BitVec.ofInt k.bits y).toNat : Int) = k.wrap ((BitVec.ofInt k.bits y ||| BitVec.ofInt k.bits x).toNat : Int)
  rw [BitVec.or_comm]
theorem u8or128 (y : Int) (h0 : 0 ≤ y) (h1 : y < 128) : Go.bits .or .u8 y 128 = 128 + y := by
  rw [or_comm]
  exact bits_join .u8 8 (by decide) wraps_u8 7 128 y (by decide) (by decide) (by decide) h0 (by omega) (by omega)
theorem fdiv7 (n : Nat) : (n : Int).fdiv (2 ^ (min 7 64)) = ((n / 128 : Nat) : Int) := by
  rw [Int.fdiv_eq_ediv_of_nonneg _ (by decide)]
  show (n : Int) / 128 = _
  omega
theorem digits_eq (b : List Int) (x : Int) (hb : b.length ≤ 100000000) : ∃ e, p_num_digits_1 (fun (s661 : NumOut) (x619 : Int) => (Option.bind (chk (apok s661.b.length [x619].length 1)) fun _ => some ((NumOut.mk (s661.b ++ [x619])), true))) (⟨b⟩ : NumOut) x = some ((⟨b ++ encC x⟩ : NumOut), e) := by
  unfold p_num_digits_1 p_num_clip
  rw [clN_eq, bnd_some]
  unfold encC
  have hle := clN_le x
  generalize clN x = n at hle
  have key : ∀ (k n : Nat) (b : List Int), n < 128 ^ (k + 1) → b.length + (k + 1) ≤ 100000010 → ∃ e, iter (σ := Int × NumOut) (ρ := (Int × NumOut) ⊕ (NumOut × Int)) (fun s37 => (bif (decide (s37.1 ≥ 128)) then (Option.bind ((fun (s661 : NumOut) (x619 : Int) => (Option.bind (chk (apok s661.b.length [x619].length 1)) fun _ => some ((NumOut.mk (s661.b ++ [x619])), true))) s37.2 (Go.bits .or .u8 (Go.bits .and .u8 (IntKind.u8.wrap s37.1) 127) 128)) fun z68 => (bif (!z68.2) then (inrr (some (z68.1, s37.1))) else some (.inl ((s37.1.fdiv (2 ^ (min 7 64))), z68.1)))) else some (.inr (.inl (s37.1, s37.2))))) ((n : Int), (⟨b⟩ : NumOut)) = some (.inl ((e : Int), (⟨b ++ (encN n).dropLast⟩ : NumOut))) ∧ 0 ≤ e ∧ e < 128 ∧ encN n = (encN n).dropLast ++ [e] := by
    intro k
    induction k with
    | zero =>
      intro n b h hb
      refine ⟨n, ?_, by omega, by omega, ?_⟩
      · rw [encN_small (by omega)]
        refine iter_inr ?_
        dsimp only
        rw [decide_eq_false (by omega), cond_false]
        simp
      · rw [encN_small (by omega)]
        rfl
    | succ k ih =>
      intro n b h hb
      by_cases hn : n < 128
      · refine ⟨n, ?_, by omega, by omega, ?_⟩
        · rw [encN_small hn]
          refine iter_inr ?_
          dsimp only
          rw [decide_eq_false (by omega), cond_false]
          simp
        · rw [encN_small hn]
          rfl
      · have hlt : n / 128 < 128 ^ (k + 1) := by
          rw [Nat.pow_succ] at h
          exact Nat.div_lt_of_lt_mul (by rw [Nat.mul_comm]; exact h)
        obtain ⟨e, h1, h2, h3, h4⟩ := ih (n / 128) (b ++ [((128 + n % 128 : Nat) : Int)]) hlt (by simp; omega)
        refine ⟨e, ?_, h2, h3, ?_⟩
        · rw [iter_inl (s' := (((n / 128 : Nat) : Int), (⟨b ++ [((128 + n % 128 : Nat) : Int)]⟩ : NumOut)))]
          · rw [h1, encN_big hn]
            have hne : encN (n / 128) ≠ [] := by rw [h4]; simp
            rw [List.dropLast_cons_of_ne_nil hne]
            simp
          · dsimp only
            have hw : IntKind.u8.wrap (n : Int) = ((n % 256 : Nat) : Int) := by rw [IntKind.wrap_u8]; omega
            have hv : Go.bits .or .u8 (Go.bits .and .u8 (IntKind.u8.wrap (n : Int)) 127) 128 = ((128 + n % 128 : Nat) : Int) := by
              rw [hw, u8mask _ (by omega) (by omega), u8or128 _ (by omega) (by omega)]
              omega
            rw [decide_eq_true (by omega), cond_true, hv, apok_true (by simp; omega), bnd_some, bnd_some]
            dsimp only
            rw [Bool.not_true, cond_false, fdiv7]
        · rw [encN_big hn]
          have hne : encN (n / 128) ≠ [] := by rw [h4]; simp
          rw [List.dropLast_cons_of_ne_nil hne, List.cons_append, ← h4]
  obtain ⟨e, h1, h2, h3, h4⟩ := key 8 n b (by omega) (by omega)
  have hl := encN_len 8 n (by omega)
  have hd : (encN n).dropLast.length ≤ 9 := by rw [List.length_dropLast]; omega
  refine ⟨e, ?_⟩
  rw [h1, bnd_some]
  dsimp only
  have hu : IntKind.u8.wrap e = e := by rw [IntKind.wrap_u8]; omega
  rw [hu, apok_true (by simp only [List.length_append, List.length_singleton]; omega), bnd_some, bnd_some, List.append_assoc, ← h4]
theorem onum_eq (b : List Int) (l : List Int) (hb : b.length + 9 * l.length ≤ 10000000) : p_num_Out_Num ⟨b⟩ l = some ⟨b ++ l.flatMap encC⟩ := by
  unfold p_num_Out_Num p_num_digits
  have hfl : ∀ l : List Int, (l.flatMap encC).length ≤ 9 * l.length := by
    intro l
    induction l with
    | nil => simp
    | cons a l ih =>
      rw [List.flatMap_cons, List.length_append, List.length_cons]
      have := encC_len a
      omega
  refine bind_to (fun i => ((⟨b ++ (l.take i).flatMap encC⟩ : NumOut), (i : Int))) l.length (⟨b ++ l.flatMap encC⟩ : NumOut) ?_ ?_ ?_ rfl
  · simp
  · intro i hi
    dsimp only
    have h4 := hfl (l.take i)
    rw [List.length_take] at h4
    obtain ⟨e, he⟩ := digits_eq (b ++ (l.take i).flatMap encC) l[i] (by rw [List.length_append]; omega)
    rw [decide_eq_true (by omega), cond_true, idx_get l i hi, bnd_some, bnd_some, he, bnd_some, w64 (by omega) (by omega), List.take_succ_eq_append_getElem hi, List.flatMap_append, List.flatMap_singleton, List.append_assoc]
    rfl
  · dsimp only
    rw [decide_eq_false (by omega), cond_false, List.take_length]
theorem rnum_eq (x : Int) : p_ref01_Num x = some (bstr (encC x)) := by
  unfold p_ref01_Num
  rw [clN_eq]
  unfold encC
  have hle := clN_le x
  generalize clN x = n at hle
  have key : ∀ (k n : Nat) (b : List Int), n < 128 ^ (k + 1) → n ≤ 4611686018427387904 → b.length + (k + 1) ≤ 1000 → ∃ e, iter (σ := Int × (List Int)) (ρ := Int × (List Int)) (fun s38 => (bif (decide (s38.1 ≥ 128)) then (Option.bind (chk (apok s38.2.length [(IntKind.u8.wrap (IntKind.i64.wrap (128 + (s38.1.tmod 128))))].length 1)) fun _ => some (.inl ((IntKind.i64.wrap (s38.1.tdiv 128)), (s38.2 ++ [(IntKind.u8.wrap (IntKind.i64.wrap (128 + (s38.1.tmod 128))))])))) else some (.inr (s38.1, s38.2)))) ((n : Int), b) = some ((e : Int), b ++ (encN n).dropLast) ∧ 0 ≤ e ∧ e < 128 ∧ encN n = (encN n).dropLast ++ [e] := by
    intro k
    induction k with
    | zero =>
      intro n b h hmx hb
      refine ⟨n, ?_, by omega, by omega, ?_⟩
      · rw [encN_small (by omega)]
        refine iter_inr ?_
        dsimp only
        rw [decide_eq_false (by omega), cond_false]
        simp
      · rw [encN_small (by omega)]
        rfl
    | succ k ih =>
      intro n b h hmx hb
      by_cases hn : n < 128
      · refine ⟨n, ?_, by omega, by omega, ?_⟩
        · rw [encN_small hn]
          refine iter_inr ?_
          dsimp only
          rw [decide_eq_false (by omega), cond_false]
          simp
        · rw [encN_small hn]
          rfl
      · have hlt : n / 128 < 128 ^ (k + 1) := by
          rw [Nat.pow_succ] at h
          exact Nat.div_lt_of_lt_mul (by rw [Nat.mul_comm]; exact h)
        obtain ⟨e, h1, h2, h3, h4⟩ := ih (n / 128) (b ++ [((128 + n % 128 : Nat) : Int)]) hlt (by omega) (by simp; omega)
        refine ⟨e, ?_, h2, h3, ?_⟩
        · have hbig : n < 9223372036854775808 := by omega
          · rw [iter_inl (s' := (((n / 128 : Nat) : Int), b ++ [((128 + n % 128 : Nat) : Int)]))]
            · rw [h1, encN_big hn]
              have hne : encN (n / 128) ≠ [] := by rw [h4]; simp
              rw [List.dropLast_cons_of_ne_nil hne]
              simp
            · dsimp only
              have m1 : (n : Int).tmod 128 = ((n % 128 : Nat) : Int) := by rw [Int.tmod_eq_emod_of_nonneg (by omega)]; omega
              have d1 : (n : Int).tdiv 128 = ((n / 128 : Nat) : Int) := by rw [Int.tdiv_eq_ediv_of_nonneg (by omega)]; omega
              rw [decide_eq_true (by omega), cond_true, m1, d1, w64 (by omega) (by omega), w64 (by omega) (by omega), u8id (by omega) (by omega), apok_true (by simp; omega), bnd_some]
              have : (128 : Int) + ((n % 128 : Nat) : Int) = ((128 + n % 128 : Nat) : Int) := by omega
              rw [this]
        · rw [encN_big hn]
          have hne : encN (n / 128) ≠ [] := by rw [h4]; simp
          rw [List.dropLast_cons_of_ne_nil hne, List.cons_append, ← h4]
  obtain ⟨e, h1, h2, h3, h4⟩ := key 8 n [] (by omega) hle (by simp)
  have hl := encN_len 8 n (by omega)
  have hd : (encN n).dropLast.length ≤ 9 := by rw [List.length_dropLast]; omega
  rw [h1, bnd_some]
  dsimp only
  rw [u8id h2 (by omega), apok_true (by simp only [List.length_append, List.length_singleton, List.length_nil]; omega), bnd_some, List.nil_append, ← h4]
end Go.Tw.X

set_option linter.unusedVariables false
set_option linter.unusedSimpArgs false
namespace Go.Tw.X
open Go Go.Tw
/-! ### numbers out of bytes -/
def most : Nat := 4611686018427387904
/-- the number, and how many bytes; or what is wrong -/
def rdp : Nat → Nat → Nat → List Int → Int ⊕ (Nat × Nat)
  | 0, _, _, _ => .inl 1
  | _ + 1, _, _, [] => .inl 2
  | k + 1, i, acc, b :: r => if b < 128 then (if (i > 0 ∧ b = 0) ∨ acc + b.toNat % 128 * 128 ^ i > most then .inl 1 else .inr (acc + b.toNat % 128 * 128 ^ i, i + 1)) else rdp k (i + 1) (acc + b.toNat % 128 * 128 ^ i) r
def noS : ByteArray := ByteArray.mk #[]
theorem sbs_byte (s : ByteArray) : ∀ b ∈ sbs s, 0 ≤ b ∧ b < 256 := by
  intro b hb
  unfold sbs at hb
  obtain ⟨c, _, rfl⟩ := List.mem_map.1 hb
  have := c.toNat_lt
  omega
theorem sidx_get (s : ByteArray) (i : Nat) (h : i < (sbs s).length) : sidx s (i : Int) = some (sbs s)[i] := by
  unfold sidx
  rw [decide_eq_true (by omega), cond_true, Int.toNat_natCast]
  have h2 : i < s.data.size := by rw [sbs_length] at h; exact h
  rw [Array.getElem?_eq_getElem h2]
  simp only [sbs, Option.map_some, List.getElem_map, Array.getElem_toList]
theorem p2 (i : Nat) : 2 ^ (7 * i) = 128 ^ i := by rw [Nat.pow_mul]
theorem pw8 {i : Nat} (h : i ≤ 8) : 128 ^ i ≤ 72057594037927936 := Nat.le_trans (Nat.pow_le_pow_right (by omega) h) (by decide)
theorem or_step (i acc b : Nat) (hi : i ≤ 8) (ha : acc < 128 ^ i) (hb : b < 256) :
    Go.bits .or .i64 (acc : Int) (IntKind.i64.wrap ((IntKind.i64.wrap (Go.bits .and .u8 (b : Int) 127)) * 2 ^ (min (IntKind.i64.wrap (7 * (i : Int))).toNat 64))) = ((acc + b % 128 * 128 ^ i : Nat) : Int) ∧ acc + b % 128 * 128 ^ i < 128 ^ (i + 1) := by
  have hP := pw8 hi
  have h7 : (IntKind.i64.wrap (7 * (i : Int))).toNat = 7 * i := by rw [w64 (by omega) (by omega)]; omega
  have hm : min (7 * i) 64 = 7 * i := by omega
  have hp : (2 : Int) ^ (7 * i) = ((128 ^ i : Nat) : Int) := by rw [← p2]; simp
  rw [h7, hm, hp, u8mask _ (by omega) (by omega)]
  have hlt : b % 128 * 128 ^ i ≤ 127 * 128 ^ i := Nat.mul_le_mul_right _ (by omega)
  have hP1 : 128 ^ (i + 1) = 128 * 128 ^ i := by rw [Nat.pow_succ, Nat.mul_comm]
  have e1 : IntKind.i64.wrap ((b : Int) % 128) = ((b % 128 : Nat) : Int) := by rw [w64 (by omega) (by omega)]; omega
  have e2 : ((b % 128 : Nat) : Int) * ((128 ^ i : Nat) : Int) = ((b % 128 * 128 ^ i : Nat) : Int) := by simp
  rw [e1, e2]
  generalize hw : b % 128 * 128 ^ i = w at hlt
  rw [w64 (by omega) (by omega), or_comm]
  have hmod : (w : Int) % 2 ^ (7 * i) = 0 := by
    rw [hp, ← hw]
    rw [← Int.natCast_emod, Nat.mul_mod_left]
    rfl
  have := bits_join .i64 63 (by decide) (fun n h0 h1 => w64 (by omega) (by omega)) (7 * i) (w : Int) (acc : Int) (by omega) hmod (by omega) (by omega) (by rw [hp]; omega) (by omega)
  rw [this]
  constructor
  · omega
  · omega
def finI (s : ByteArray) : Int ⊕ (Nat × Nat) → Int × NumIn
  | .inl e => (0, ⟨noS, e⟩)
  | .inr (v, j) => (v, ⟨scut s j s.size, 0⟩)
theorem fail_zero (s : ByteArray) (e : Int) (h : e ≠ 0) : p_num_In_Fail ⟨s, 0⟩ e = some ⟨noS, e⟩ := by
  unfold p_num_In_Fail
  have : (e != 0) = true := by simpa using h
  simp [this, noS]
theorem fail_kept (s : ByteArray) (e f : Int) (h : e ≠ 0) : p_num_In_Fail ⟨s, e⟩ f = some ⟨s, e⟩ := by
  unfold p_num_In_Fail
  have : (e == 0) = false := by simpa using h
  simp [this]
theorem num_eq0 (s : ByteArray) (hs : s.size ≤ 1000000) : p_num_In_Num ⟨s, 0⟩ = some (finI s (rdp 9 0 0 (sbs s))) := by
  unfold p_num_In_Num
  have hl : (sbs s).length = s.size := sbs_length s
  refine Eq.trans ?_ (congrArg (fun l => some (finI s (rdp 9 0 0 l))) (List.drop_zero (l := sbs s)))
  have key : ∀ (k i acc : Nat), i + k = 9 → acc < 128 ^ i → i ≤ (sbs s).length → Option.bind (iter (σ := Int × Int) (ρ := Unit ⊕ (Int × NumIn)) (fun s119 => (bif (decide (s119.1 < (imin ((⟨s, 0⟩ : NumIn).s.size : Int) 9))) then (Option.bind (sidx (⟨s, 0⟩ : NumIn).s s119.1) fun b213 => (Option.bind (chk (shk (IntKind.i64.wrap (7 * s119.1)))) fun _ => (bif (decide (b213 ≥ 128)) then some (.inl ((IntKind.i64.wrap (s119.1 + 1)), (Go.bits .or .i64 s119.2 (IntKind.i64.wrap ((IntKind.i64.wrap (Go.bits .and .u8 b213 127)) * 2 ^ (min (IntKind.i64.wrap (7 * s119.1)).toNat 64)))))) else (Option.bind ((bif (decide (s119.1 > 0)) then (bif (b213 == 0) then some true else some (decide ((Go.bits .or .i64 s119.2 (IntKind.i64.wrap ((IntKind.i64.wrap (Go.bits .and .u8 b213 127)) * 2 ^ (min (IntKind.i64.wrap (7 * s119.1)).toNat 64)))) > 4611686018427387904))) else some (decide ((Go.bits .or .i64 s119.2 (IntKind.i64.wrap ((IntKind.i64.wrap (Go.bits .and .u8 b213 127)) * 2 ^ (min (IntKind.i64.wrap (7 * s119.1)).toNat 64)))) > 4611686018427387904))) : Option Bool) fun e225 => (bif e225 then (Option.bind (p_num_In_Fail (⟨s, 0⟩ : NumIn) 1) fun r235 => (inrr (some (0, r235)))) else (Option.bind (chk (cutok (IntKind.i64.wrap (s119.1 + 1)) ((⟨s, 0⟩ : NumIn).s.size : Int) (⟨s, 0⟩ : NumIn).s.size)) fun _ => (inrr (some ((Go.bits .or .i64 s119.2 (IntKind.i64.wrap ((IntKind.i64.wrap (Go.bits .and .u8 b213 127)) * 2 ^ (min (IntKind.i64.wrap (7 * s119.1)).toNat 64)))), (NumIn.mk (scut (⟨s, 0⟩ : NumIn).s (IntKind.i64.wrap (s119.1 + 1)) ((⟨s, 0⟩ : NumIn).s.size : Int)) (⟨s, 0⟩ : NumIn).e)))))))))) else some (.inr (.inl ())))) ((i : Int), (acc : Int))) (fun | .inl e176 => (Option.bind ((bif (decide (((⟨s, 0⟩ : NumIn).s.size : Int) ≥ 9)) then (Option.bind (p_num_In_Fail (⟨s, 0⟩ : NumIn) 1) fun r257 => some r257) else some (⟨s, 0⟩ : NumIn)) : Option NumIn) fun e253 => (Option.bind (p_num_In_Fail e253 2) fun r260 => some (0, r260))) | .inr w => some w) = some (finI s (rdp k i acc ((sbs s).drop i))) := by
    intro k
    induction k with
    | zero =>
      intro i acc hi ha hil
      rw [iter_inr (r := .inl ())]
      · rw [bnd_some]
        dsimp only
        rw [decide_eq_true (by omega), cond_true, fail_zero _ _ (by decide), bnd_some, bnd_some, fail_kept _ _ _ (by decide), bnd_some]
        rfl
      · dsimp only
        rw [imin_eq, decide_eq_false (by omega), cond_false]
    | succ k ih =>
      intro i acc hi ha hil
      by_cases hlt : i < (sbs s).length
      · obtain ⟨hb0, hb1⟩ := sbs_byte s _ (List.getElem_mem hlt)
        have hx := sidx_get s i hlt
        rw [List.drop_eq_getElem_cons hlt]
        generalize (sbs s)[i] = b at hb0 hb1 hx
        obtain ⟨B, rfl⟩ := Int.eq_ofNat_of_zero_le hb0
        obtain ⟨hor, hbd⟩ := or_step i acc B (by omega) ha (by omega)
        have hshk : chk (shk (IntKind.i64.wrap (7 * (i : Int)))) = some () := by
          rw [w64 (by omega) (by omega)]
          exact chk_true (by omega)
        unfold rdp
        rw [Int.toNat_natCast]
        by_cases hbig : (B : Int) ≥ 128
        · rw [iter_inl (s' := (((i + 1 : Nat) : Int), ((acc + B % 128 * 128 ^ i : Nat) : Int)))]
          · rw [ih (i + 1) (acc + B % 128 * 128 ^ i) (by omega) hbd (by omega), if_neg (by omega)]
          · dsimp only
            rw [imin_eq, decide_eq_true (by omega), cond_true, hx, bnd_some, hshk, bnd_some, decide_eq_true hbig, cond_true, hor, w64 (by omega) (by omega)]
            rfl
        · rw [if_pos (by omega)]
          have hc : ((bif (decide ((i : Int) > 0)) then (bif ((B : Int) == 0) then some true else some (decide (((acc + B % 128 * 128 ^ i : Nat) : Int) > 4611686018427387904))) else some (decide (((acc + B % 128 * 128 ^ i : Nat) : Int) > 4611686018427387904))) : Option Bool) = some (decide ((i > 0 ∧ (B : Int) = 0) ∨ acc + B % 128 * 128 ^ i > most)) := by
            have hd : ∀ v : Nat, decide ((v : Int) > 4611686018427387904) = decide (v > most) := fun v => by
              unfold most
              congr 1
              apply propext
              omega
            rw [hd]
            by_cases c1 : i > 0
            · have c1' : (i : Int) > 0 := by omega
              rw [decide_eq_true c1', cond_true]
              by_cases c2 : (B : Int) = 0
              · have : ((B : Int) == 0) = true := by simpa using c2
                rw [this, cond_true, decide_eq_true (.inl ⟨c1, c2⟩)]
              · have : ((B : Int) == 0) = false := by simpa using c2
                rw [this, cond_false]
                congr 1
                by_cases c3 : acc + B % 128 * 128 ^ i > most
                · rw [decide_eq_true c3, decide_eq_true (.inr c3)]
                · rw [decide_eq_false c3, decide_eq_false (by rintro (h | h); exact c2 h.2; exact c3 h)]
            · rw [decide_eq_false (by omega), cond_false]
              congr 1
              by_cases c3 : acc + B % 128 * 128 ^ i > most
              · rw [decide_eq_true c3, decide_eq_true (.inr c3)]
              · rw [decide_eq_false c3, decide_eq_false (by rintro (h | h); exact c1 h.1; exact c3 h)]
          by_cases hf : (i > 0 ∧ (B : Int) = 0) ∨ acc + B % 128 * 128 ^ i > most
          · rw [if_pos hf, iter_inr (r := .inr (0, ⟨noS, 1⟩))]
            · rfl
            · dsimp only
              rw [imin_eq, decide_eq_true (by omega), cond_true, hx, bnd_some, hshk, bnd_some, decide_eq_false hbig, cond_false, hor, hc, bnd_some, decide_eq_true hf, cond_true, fail_zero _ _ (by decide), bnd_some]
              rfl
          · rw [if_neg hf, iter_inr (r := .inr (((acc + B % 128 * 128 ^ i : Nat) : Int), ⟨scut s ((i + 1 : Nat) : Int) s.size, 0⟩))]
            · rfl
            · dsimp only
              rw [imin_eq, decide_eq_true (by omega), cond_true, hx, bnd_some, hshk, bnd_some, decide_eq_false hbig, cond_false, hor, hc, bnd_some, decide_eq_false hf, cond_false, w64 (by omega) (by omega), cutok_true (by omega) (by omega) (by omega), bnd_some]
              rfl
      · have hd : (sbs s).drop i = [] := List.drop_eq_nil_of_le (by omega)
        rw [hd, iter_inr (r := .inl ())]
        · rw [bnd_some]
          dsimp only
          rw [decide_eq_false (by omega), cond_false, bnd_some, fail_zero _ _ (by decide), bnd_some]
          rfl
        · dsimp only
          rw [imin_eq, decide_eq_false (by omega), cond_false]
  exact key 9 0 0 (by omega) (by omega) (by omega)
end Go.Tw.X

set_option linter.unusedVariables false
set_option linter.unusedSimpArgs false
namespace Go.Tw.X
open Go Go.Tw
def finR (s : ByteArray) : Int ⊕ (Nat × Nat) → Ref01In × Int
  | .inl e => (⟨noS, e⟩, 0)
  | .inr (v, j) => (⟨scut s j s.size, 0⟩, v)
theorem read_eq0 (s : ByteArray) (hs : s.size ≤ 1000000) : p_ref01_Read ⟨s, 0⟩ = some (finR s (rdp 9 0 0 (sbs s))) := by
  unfold p_ref01_Read
  have hl : (sbs s).length = s.size := sbs_length s
  have e0 : ((0 : Int) != 0) = false := rfl
  dsimp only
  rw [e0, cond_false]
  refine Eq.trans ?_ (congrArg (fun l => some (finR s (rdp 9 0 0 l))) (List.drop_zero (l := sbs s)))
  have key : ∀ (k i acc : Nat) (f : Int × Int × Int → Option ((Int × Int × Int) ⊕ (Unit ⊕ (Ref01In × Int)))), f = (fun (s258 : Int × Int × Int) => (bif (decide (s258.2.2 < 9)) then (Option.bind ((bif (s258.2.2 == (s.size : Int)) then (inrs (inrr (some ((Ref01In.mk (ByteArray.mk #[]) 2), 0)))) else (Option.bind (sidx s s258.2.2) fun b475 => (bif (decide ((IntKind.i64.wrap b475) < 128)) then (Option.bind ((bif (decide (s258.2.2 > 0)) then (bif ((IntKind.i64.wrap b475) == 0) then some true else some (decide ((IntKind.i64.wrap (s258.1 + (IntKind.i64.wrap (((IntKind.i64.wrap b475).tmod 128) * s258.2.1)))) > 4611686018427387904))) else some (decide ((IntKind.i64.wrap (s258.1 + (IntKind.i64.wrap (((IntKind.i64.wrap b475).tmod 128) * s258.2.1)))) > 4611686018427387904))) : Option Bool) fun e499 => (bif e499 then (inrs (inrr (some ((Ref01In.mk (ByteArray.mk #[]) 1), 0)))) else (Option.bind (chk (cutok (IntKind.i64.wrap (s258.2.2 + 1)) (s.size : Int) s.size)) fun _ => (inrs (inrr (some ((Ref01In.mk (scut s (IntKind.i64.wrap (s258.2.2 + 1)) (s.size : Int)) 0), (IntKind.i64.wrap (s258.1 + (IntKind.i64.wrap (((IntKind.i64.wrap b475).tmod 128) * s258.2.1))))))))))) else (bif (decide (s258.2.2 < 8)) then some (.inl ((IntKind.i64.wrap (s258.1 + (IntKind.i64.wrap (((IntKind.i64.wrap b475).tmod 128) * s258.2.1)))), (IntKind.i64.wrap (s258.2.1 * 128)))) else some (.inl ((IntKind.i64.wrap (s258.1 + (IntKind.i64.wrap (((IntKind.i64.wrap b475).tmod 128) * s258.2.1)))), s258.2.1)))))) : Option ((Int × Int) ⊕ ((Int × Int × Int) ⊕ (Unit ⊕ (Ref01In × Int))))) fun | .inl e465 => some (.inl (e465.1, e465.2, (IntKind.i64.wrap (s258.2.2 + 1)))) | .inr w => some w) else some (.inr (.inl ())))) → i + k = 9 → acc < 128 ^ i → i ≤ (sbs s).length → ∀ M : Nat, (i ≤ 8 → M = 128 ^ i) → Option.bind (iter f ((acc : Int), (M : Int), (i : Int))) (fun | .inl e381 => some ((Ref01In.mk (ByteArray.mk #[]) 1), 0) | .inr w => some w) = some (finR s (rdp k i acc ((sbs s).drop i))) := by
    intro k
    induction k with
    | zero =>
      intro i acc f hf hi ha hil M hM
      rw [iter_inr (r := .inl ())]
      · rfl
      · subst hf
        dsimp only
        rw [decide_eq_false (by omega), cond_false]
    | succ k ih =>
      intro i acc f hf hi ha hil M hM
      by_cases hlt : i < (sbs s).length
      · obtain ⟨hb0, hb1⟩ := sbs_byte s _ (List.getElem_mem hlt)
        have hx := sidx_get s i hlt
        rw [List.drop_eq_getElem_cons hlt]
        generalize (sbs s)[i] = b at hb0 hb1 hx
        obtain ⟨B, rfl⟩ := Int.eq_ofNat_of_zero_le hb0
        obtain ⟨_, hbd⟩ := or_step i acc B (by omega) ha (by omega)
        have hP := pw8 (i := i) (by omega)
        obtain rfl := hM (by omega)
        have hlt7 : B % 128 * 128 ^ i ≤ 127 * 128 ^ i := Nat.mul_le_mul_right _ (by omega)
        have hw : IntKind.i64.wrap (B : Int) = (B : Int) := w64 (by omega) (by omega)
        have hm : (B : Int).tmod 128 = ((B % 128 : Nat) : Int) := by rw [Int.tmod_eq_emod_of_nonneg (by omega)]; omega
        have hv : IntKind.i64.wrap ((acc : Int) + IntKind.i64.wrap (((B % 128 : Nat) : Int) * ((128 ^ i : Nat) : Int))) = ((acc + B % 128 * 128 ^ i : Nat) : Int) := by
          have e2 : ((B % 128 : Nat) : Int) * ((128 ^ i : Nat) : Int) = ((B % 128 * 128 ^ i : Nat) : Int) := by simp
          rw [e2]
          generalize B % 128 * 128 ^ i = w at hlt7
          rw [w64 (x := (w : Int)) (by omega) (by omega), w64 (by omega) (by omega)]
          omega
        have hne : ((i : Int) == (s.size : Int)) = false := by simp; omega
        unfold rdp
        rw [Int.toNat_natCast]
        by_cases hbig : (B : Int) < 128
        · rw [if_pos hbig]
          have hc : ((bif (decide ((i : Int) > 0)) then (bif ((B : Int) == 0) then some true else some (decide (((acc + B % 128 * 128 ^ i : Nat) : Int) > 4611686018427387904))) else some (decide (((acc + B % 128 * 128 ^ i : Nat) : Int) > 4611686018427387904))) : Option Bool) = some (decide ((i > 0 ∧ (B : Int) = 0) ∨ acc + B % 128 * 128 ^ i > most)) := by
            have hd : ∀ v : Nat, decide ((v : Int) > 4611686018427387904) = decide (v > most) := fun v => by
              unfold most
              congr 1
              apply propext
              omega
            rw [hd]
            by_cases c1 : i > 0
            · have c1' : (i : Int) > 0 := by omega
              rw [decide_eq_true c1', cond_true]
              by_cases c2 : (B : Int) = 0
              · have : ((B : Int) == 0) = true := by simpa using c2
                rw [this, cond_true, decide_eq_true (.inl ⟨c1, c2⟩)]
              · have : ((B : Int) == 0) = false := by simpa using c2
                rw [this, cond_false]
                congr 1
                by_cases c3 : acc + B % 128 * 128 ^ i > most
                · rw [decide_eq_true c3, decide_eq_true (.inr c3)]
                · rw [decide_eq_false c3, decide_eq_false (by rintro (h | h); exact c2 h.2; exact c3 h)]
            · rw [decide_eq_false (by omega), cond_false]
              congr 1
              by_cases c3 : acc + B % 128 * 128 ^ i > most
              · rw [decide_eq_true c3, decide_eq_true (.inr c3)]
              · rw [decide_eq_false c3, decide_eq_false (by rintro (h | h); exact c1 h.1; exact c3 h)]
          by_cases hfm : (i > 0 ∧ (B : Int) = 0) ∨ acc + B % 128 * 128 ^ i > most
          · rw [if_pos hfm, iter_inr (r := .inr (⟨noS, 1⟩, 0))]
            · rfl
            · subst hf
              dsimp only
              rw [decide_eq_true (by omega), cond_true, hne, cond_false, hx, bnd_some, hw, decide_eq_true hbig, cond_true, hm, hv, hc, bnd_some, decide_eq_true hfm, cond_true]
              rfl
          · rw [if_neg hfm, iter_inr (r := .inr (⟨scut s ((i + 1 : Nat) : Int) s.size, 0⟩, ((acc + B % 128 * 128 ^ i : Nat) : Int)))]
            · rfl
            · subst hf
              dsimp only
              rw [decide_eq_true (by omega), cond_true, hne, cond_false, hx, bnd_some, hw, decide_eq_true hbig, cond_true, hm, hv, hc, bnd_some, decide_eq_false hfm, cond_false, w64 (x := (i : Int) + 1) (by omega) (by omega), cutok_true (by omega) (by omega) (by omega), bnd_some]
              rfl
        · rw [if_neg hbig]
          by_cases h8 : i < 8
          · rw [iter_inl (s' := (((acc + B % 128 * 128 ^ i : Nat) : Int), ((128 ^ (i + 1) : Nat) : Int), ((i + 1 : Nat) : Int)))]
            · exact ih (i + 1) _ f hf (by omega) hbd (by omega) _ (fun _ => rfl)
            · subst hf
              dsimp only
              have hP1 : (128 : Nat) ^ (i + 1) = 128 ^ i * 128 := Nat.pow_succ ..
              have hP7 : 128 ^ i ≤ 562949953421312 := Nat.le_trans (Nat.pow_le_pow_right (by omega) (by omega : i ≤ 7)) (by decide)
              have hmm : IntKind.i64.wrap (((128 ^ i : Nat) : Int) * 128) = ((128 ^ (i + 1) : Nat) : Int) := by
                rw [hP1, w64 (by omega) (by omega)]
                omega
              rw [decide_eq_true (by omega), cond_true, hne, cond_false, hx, bnd_some, hw, decide_eq_false hbig, cond_false, hm, hv, decide_eq_true (by omega), cond_true, bnd_some]
              dsimp only
              rw [hmm, w64 (x := (i : Int) + 1) (by omega) (by omega)]
              rfl
          · rw [iter_inl (s' := (((acc + B % 128 * 128 ^ i : Nat) : Int), ((128 ^ i : Nat) : Int), ((i + 1 : Nat) : Int)))]
            · exact ih (i + 1) _ f hf (by omega) hbd (by omega) _ (fun h => by omega)
            · subst hf
              dsimp only
              rw [decide_eq_true (by omega), cond_true, hne, cond_false, hx, bnd_some, hw, decide_eq_false hbig, cond_false, hm, hv, decide_eq_false (by omega), cond_false, bnd_some]
              dsimp only
              rw [w64 (x := (i : Int) + 1) (by omega) (by omega)]
              rfl
      · have hd : (sbs s).drop i = [] := List.drop_eq_nil_of_le (by omega)
        rw [hd, iter_inr (r := .inr (⟨noS, 2⟩, 0))]
        · rfl
        · subst hf
          dsimp only
          have hne : ((i : Int) == (s.size : Int)) = true := by simp; omega
          rw [decide_eq_true (by omega), cond_true, hne, cond_true]
          rfl
  exact key 9 0 0 _ rfl (by omega) (by omega) (by omega) 1 (fun _ => rfl)
end Go.Tw.X

set_option linter.unusedVariables false
set_option linter.unusedSimpArgs false
namespace Go.Tw.X
open Go Go.Tw
/-! ### strings and their bytes -/
theorem str_eqb (a b : ByteArray) : (a.toList == b.toList) = decide (a = b) := by
  rw [ByteArray.toList_eq, ByteArray.toList_eq]
  by_cases h : a = b
  · subst h
    rw [decide_eq_true rfl, beq_self_eq_true]
  · rw [decide_eq_false h]
    have : ¬ a.data.toList = b.data.toList := fun e => h (ByteArray.ext (Array.ext' e))
    simpa using this
theorem sbs_scut (s : ByteArray) (lo hi : Nat) : sbs (scut s lo hi) = ((sbs s).take hi).drop lo := by
  unfold sbs scut
  rw [ByteArray.data_extract, Int.toNat_natCast, Int.toNat_natCast]
  rw [Array.toList_extract]
  rw [List.extract_eq_take_drop, List.map_take, List.map_drop, List.drop_take]
theorem bstr_sbs (s : ByteArray) : bstr (sbs s) = s := by
  rw [bstr_eq]
  unfold sbs
  rw [List.map_map]
  have : ((fun n : Int => UInt8.ofNat n.toNat) ∘ fun b : UInt8 => (b.toNat : Int)) = id := by
    funext b
    simp
  rw [this, List.map_id]
theorem sbs_bstr (l : List Int) (h : ∀ b ∈ l, 0 ≤ b ∧ b < 256) : sbs (bstr l) = l := by
  rw [bstr_eq]
  unfold sbs
  simp only [List.map_map]
  induction l with
  | nil => rfl
  | cons a l ih =>
    have ha := h a (List.mem_cons_self ..)
    rw [List.map_cons, ih fun b hb => h b (List.mem_cons_of_mem _ hb)]
    congr 1
    show ((UInt8.ofNat a.toNat).toNat : Int) = a
    rw [UInt8.toNat_ofNat']
    omega
theorem sbs_inj {a b : ByteArray} (h : sbs a = sbs b) : a = b := by rw [← bstr_sbs a, h, bstr_sbs]
theorem sbs_append (a b : ByteArray) : sbs (a ++ b) = sbs a ++ sbs b := by
  unfold sbs
  rw [ByteArray.data_append]
  simp
theorem noS_sbs : sbs noS = [] := rfl
theorem bstr_nil : bstr [] = noS := rfl
theorem noS_iff (s : ByteArray) : s = noS ↔ sbs s = [] := ⟨fun h => by rw [h]; rfl, fun h => sbs_inj (by rw [h]; rfl)⟩
/-! ### readers -/
def VI (i : NumIn) : Prop := i.s.size ≤ 1000000 ∧ (i.e = 0 ∨ i.s = noS)
def asR (i : NumIn) : Ref01In := ⟨i.s, i.e⟩
def rdS (i : NumIn) : Int × NumIn := if i.e = 0 then finI i.s (rdp 9 0 0 (sbs i.s)) else (0, i)
theorem num_eq (i : NumIn) (h : VI i) : p_num_In_Num i = some (rdS i) := by
  obtain ⟨s, e⟩ := i
  obtain ⟨h1, h2⟩ := h
  unfold rdS
  by_cases he : e = 0
  · subst he
    rw [if_pos rfl]
    exact num_eq0 s h1
  · rw [if_neg he]
    obtain rfl : s = noS := h2.resolve_left he
    unfold p_num_In_Num
    rw [iter_inr (r := .inl ())]
    · rw [bnd_some]
      have hz : (noS.size : Int) = 0 := rfl
      dsimp only
      rw [hz, decide_eq_false (by omega), cond_false, bnd_some, fail_kept _ _ _ he, bnd_some]
    · dsimp only
      have hz : (noS.size : Int) = 0 := rfl
      rw [imin_eq, hz, decide_eq_false (by omega), cond_false]
theorem read_eq (i : NumIn) (h : VI i) : p_ref01_Read (asR i) = some (asR (rdS i).2, (rdS i).1) := by
  obtain ⟨s, e⟩ := i
  obtain ⟨h1, h2⟩ := h
  unfold rdS
  by_cases he : e = 0
  · subst he
    rw [if_pos rfl]
    have := read_eq0 s h1
    refine this.trans ?_
    cases rdp 9 0 0 (sbs s) <;> rfl
  · rw [if_neg he]
    unfold p_ref01_Read asR
    have : (e != 0) = true := by simpa using he
    dsimp only
    rw [this, cond_true]
theorem rdp_spec : ∀ (k i acc : Nat) (l : List Int) (v j : Nat), (∀ b ∈ l, 0 ≤ b ∧ b < 256) → rdp k i acc l = .inr (v, j) → ∃ w, v = acc + w * 128 ^ i ∧ v ≤ most ∧ i < j ∧ j ≤ i + l.length ∧ encN w = l.take (j - i) ∧ (i > 0 → w > 0) := by
  intro k
  induction k with
  | zero => intro i acc l v j hb h; cases h
  | succ k ih =>
    intro i acc l v j hb h
    cases l with
    | nil => cases h
    | cons b r =>
      unfold rdp at h
      have hb0 := hb b (List.mem_cons_self ..)
      obtain ⟨B, rfl⟩ := Int.eq_ofNat_of_zero_le hb0.1
      rw [Int.toNat_natCast] at h
      by_cases hbig : (B : Int) < 128
      · rw [if_pos hbig] at h
        by_cases hf : (i > 0 ∧ (B : Int) = 0) ∨ acc + B % 128 * 128 ^ i > most
        · rw [if_pos hf] at h
          cases h
        · rw [if_neg hf] at h
          injection h with h
          injection h with hv hj
          have hm : B % 128 = B := Nat.mod_eq_of_lt (by omega)
          rw [hm] at hv hf
          refine ⟨B, hv.symm, ?_, by omega, by simp; omega, ?_, ?_⟩
          · rw [← hv]
            exact Nat.le_of_not_lt fun hh => hf (.inr hh)
          · rw [encN_small (by omega), ← hj]
            have : i + 1 - i = 1 := by omega
            rw [this]
            rfl
          · intro hi
            exact Nat.pos_of_ne_zero fun h0 => hf (.inl ⟨hi, by omega⟩)
      · rw [if_neg hbig] at h
        obtain ⟨w, h1, h2, h3, h4, h5, h6⟩ := ih (i + 1) _ r v j (fun c hc => hb c (List.mem_cons_of_mem _ hc)) h
        have hw := h6 (by omega)
        refine ⟨B % 128 + 128 * w, ?_, h2, by omega, by simp; omega, ?_, fun _ => by omega⟩
        · rw [h1, Nat.pow_succ, Nat.add_mul, Nat.add_assoc]
          congr 2
          rw [Nat.mul_comm 128 w, Nat.mul_assoc, Nat.mul_comm 128]
        · rw [encN_big (by omega)]
          have e1 : (B % 128 + 128 * w) / 128 = w := by omega
          have e2 : 128 + (B % 128 + 128 * w) % 128 = B := by omega
          have e3 : j - i = (j - (i + 1)) + 1 := by omega
          rw [e1, e2, h5, e3, List.take_succ_cons]
theorem rdp_enc : ∀ (k i acc w : Nat) (R : List Int), w < 128 ^ (k + 1) → k + 1 + i ≤ 9 → (i > 0 → w > 0) → acc + w * 128 ^ i ≤ most → rdp (k + 1) i acc (encN w ++ R) = .inr (acc + w * 128 ^ i, i + (encN w).length) := by
  intro k
  induction k with
  | zero =>
    intro i acc w R hw hk hi hm
    have hs : w < 128 := by simpa using hw
    rw [encN_small hs]
    show rdp (0 + 1) i acc ((w : Int) :: R) = _
    unfold rdp
    have hmod : w % 128 = w := Nat.mod_eq_of_lt hs
    rw [if_pos (by omega), Int.toNat_natCast, hmod, if_neg]
    · simp
    · rintro (⟨h1, h2⟩ | h)
      · have := hi h1
        omega
      · omega
  | succ k ih =>
    intro i acc w R hw hk hi hm
    by_cases hs : w < 128
    · rw [encN_small hs]
      show rdp (k + 1 + 1) i acc ((w : Int) :: R) = _
      unfold rdp
      have hmod : w % 128 = w := Nat.mod_eq_of_lt hs
      rw [if_pos (by omega), Int.toNat_natCast, hmod, if_neg]
      · simp
      · rintro (⟨h1, h2⟩ | h)
        · have := hi h1
          omega
        · omega
    · rw [encN_big hs]
      have hq : w / 128 < 128 ^ (k + 1) := by
        rw [Nat.pow_succ] at hw
        exact Nat.div_lt_of_lt_mul (by rw [Nat.mul_comm]; exact hw)
      have he : (128 + w % 128) % 128 = w % 128 := by omega
      have hsum : acc + w % 128 * 128 ^ i + w / 128 * 128 ^ (i + 1) = acc + w * 128 ^ i := by
        rw [Nat.pow_succ, Nat.add_assoc]
        congr 1
        rw [Nat.mul_comm (128 ^ i) 128, ← Nat.mul_assoc, ← Nat.add_mul]
        congr 1
        omega
      show rdp (k + 1 + 1) i acc (((128 + w % 128 : Nat) : Int) :: (encN (w / 128) ++ R)) = _
      rw [rdp, if_neg (by omega), Int.toNat_natCast, he, ih (i + 1) _ (w / 128) R hq (by omega) (fun _ => by omega) (by rw [hsum]; exact hm), hsum]
      simp only [List.length_cons]
      congr 2
      omega
theorem rd_VI {i : NumIn} (h : VI i) : VI (rdS i).2 := by
  obtain ⟨s, e⟩ := i
  obtain ⟨h1, h2⟩ := h
  unfold rdS
  by_cases he : e = 0
  · rw [if_pos he]
    cases hr : rdp 9 0 0 (sbs (⟨s, e⟩ : NumIn).s) with
    | inl f => exact ⟨by show noS.size ≤ 1000000; decide, .inr rfl⟩
    | inr p =>
      refine ⟨?_, .inl rfl⟩
      show (scut s p.2 s.size).size ≤ 1000000
      rw [← sbs_length, sbs_scut, List.length_drop, List.length_take, sbs_length]
      simp only at h1
      omega
  · rw [if_neg he]
    exact ⟨h1, h2⟩
theorem rd_err {i : NumIn} (h : (rdS i).2.e ≠ 0) : (rdS i).1 = 0 := by
  unfold rdS at *
  split at h
  · rename_i he
    rw [if_pos he]
    cases hr : rdp 9 0 0 (sbs i.s) with
    | inl f => rfl
    | inr p =>
      rw [hr] at h
      exact absurd rfl h
  · rename_i he
    rw [if_neg he]
theorem rd_ok {i : NumIn} (h : (rdS i).2.e = 0) (hV : VI i) : i.e = 0 ∧ ∃ w : Nat, (rdS i).1 = w ∧ w ≤ most ∧ sbs i.s = encN w ++ sbs (rdS i).2.s := by
  unfold rdS at *
  by_cases he : i.e = 0
  · rw [if_pos he] at h ⊢
    refine ⟨he, ?_⟩
    cases hr : rdp 9 0 0 (sbs i.s) with
    | inl f =>
      rw [hr] at h
      -- an error is never nought
      exfalso
      have key : ∀ (k i acc : Nat) (l : List Int) (e : Int), rdp k i acc l = .inl e → e ≠ 0 := by
        intro k
        induction k with
        | zero => intro i acc l e hh; injection hh with hh; omega
        | succ k ih =>
          intro i acc l e hh
          cases l with
          | nil => injection hh with hh; omega
          | cons b r =>
            unfold rdp at hh
            split at hh
            · split at hh
              · injection hh with hh
                omega
              · cases hh
            · exact ih _ _ _ _ hh
      exact key _ _ _ _ _ hr h
    | inr p =>
      obtain ⟨v, j⟩ := p
      obtain ⟨w, h1, h2, h3, h4, h5, h6⟩ := rdp_spec 9 0 0 (sbs i.s) v j (sbs_byte i.s) hr
      refine ⟨v, rfl, h2, ?_⟩
      have hvw : v = w := by rw [h1]; simp
      show sbs i.s = encN v ++ sbs (scut i.s j i.s.size)
      rw [hvw, h5, sbs_scut, Nat.sub_zero]
      have : (sbs i.s).take i.s.size = sbs i.s := List.take_of_length_le (by rw [sbs_length]; exact Nat.le_refl _)
      rw [this, List.take_append_drop]
  · rw [if_neg he] at h
    exact absurd h he
theorem rd_range {i : NumIn} (hV : VI i) : 0 ≤ (rdS i).1 ∧ (rdS i).1 ≤ 4611686018427387904 := by
  by_cases h : (rdS i).2.e = 0
  · obtain ⟨_, w, h1, h2, _⟩ := rd_ok h hV
    rw [h1]
    unfold most at h2
    omega
  · rw [rd_err h]
    omega
theorem rd_enc (s : ByteArray) (w : Nat) (R : List Int) (hw : w ≤ most) (hs : sbs s = encN w ++ R) : rdS ⟨s, 0⟩ = ((w : Int), ⟨bstr R, 0⟩) := by
  unfold rdS
  rw [if_pos rfl]
  have hl := encN_len 8 w (by unfold most at hw; omega)
  have h := rdp_enc 8 0 0 w R (by unfold most at hw; omega) (by omega) (fun h => by omega) (by simpa using hw)
  dsimp only
  rw [hs, h]
  show (((0 + w * 128 ^ 0 : Nat) : Int), (⟨scut s ((0 + (encN w).length : Nat) : Int) s.size, 0⟩ : NumIn)) = _
  have e1 : 0 + w * 128 ^ 0 = w := by simp
  have e2 : scut s ((0 + (encN w).length : Nat) : Int) s.size = bstr R := by
    rw [← bstr_sbs (scut s ((0 + (encN w).length : Nat) : Int) s.size), sbs_scut]
    have : (sbs s).take s.size = sbs s := List.take_of_length_le (by rw [sbs_length]; exact Nat.le_refl _)
    rw [this, hs, Nat.zero_add, List.drop_left]
  rw [e1, e2]
end Go.Tw.X

set_option linter.unusedVariables false
set_option linter.unusedSimpArgs false
namespace Go.Tw.X
open Go Go.Tw
theorem small_eq (n : Int) : p_law10_small n = some (min n 12) := by
  unfold p_law10_small
  rw [and2, bnd_some, imin_eq]
  by_cases h : n > 12 ∧ n < 1000
  · rw [decide_eq_true h, cond_true]
    congr 1
    omega
  · rw [decide_eq_false h, cond_false]
/-- a row and what it is told: alike or not -/
theorem is_gen (r q : RowRow) (h : r.cells.length ≤ 1000000) (hr : okR r.cells) (hq : okR q.cells) : p_law09_Is r (told q) = some (decide (r = q)) := by
  by_cases he : r = q
  · subst he
    rw [is_eq r h hr, decide_eq_true rfl]
  rw [decide_eq_false he]
  unfold p_law09_Is told
  simp only [told_len]
  by_cases h1 : r.cells.length = q.cells.length
  · by_cases h2 : r.wrapped = q.wrapped
    · have e6 : ((bif ((r.cells.length : Int) != (q.cells.length : Int)) then some true else some (!(r.wrapped == q.wrapped))) : Option Bool) = some false := by simp [h1, h2]
      rw [e6, bnd_some, cond_false]
      refine bind_inv (fun i : Int => ∃ n : Nat, i = n ∧ n ≤ r.cells.length ∧ r.cells.take n = q.cells.take n) (fun i => (r.cells.length - i).toNat) (fun v => v = .inr false) ⟨0, rfl, by omega, rfl⟩ ?_ (fun v hv => by rw [hv])
      rintro i ⟨n, rfl, hn, ht⟩
      by_cases hlt : n < r.cells.length
      · have hlq : n < q.cells.length := by omega
        have hi2 : idx (q.cells.map tc) (n : Int) = some (tc q.cells[n]) := by rw [idx_get _ _ (by simpa using hlq), List.getElem_map]
        have k1 := hr _ (List.getElem_mem hlt)
        have k2 := hq _ (List.getElem_mem hlq)
        have hcmp : (Option.bind (some (tc q.cells[n])) fun x934 => (bif ((IntKind.i64.wrap r.cells[n].rune) != x934.rune) then some true else (Option.bind (some (tc q.cells[n])) fun x942 => (bif (r.cells[n].style != x942.style) then some true else (Option.bind (some (tc q.cells[n])) fun x947 => some (r.cells[n].part != x947.part)))))) = some (decide (r.cells[n] ≠ q.cells[n])) := by
          simp only [bnd_some, tc, w32 k1]
          generalize r.cells[n] = a
          generalize q.cells[n] = b
          obtain ⟨a1, a2, a3⟩ := a
          obtain ⟨b1, b2, b3⟩ := b
          by_cases g1 : a1 = b1 <;> by_cases g2 : a2 = b2 <;> by_cases g3 : a3 = b3 <;> simp [g1, g2, g3]
          all_goals first | (have : (a1 != b1) = true := by simpa using g1); simp [this] | (have : (a2 != b2) = true := by simpa using g2); simp [this] | skip
        by_cases hc : r.cells[n] = q.cells[n]
        · refine .inl ⟨((n + 1 : Nat) : Int), ?_, ⟨n + 1, rfl, hlt, ?_⟩, by (try dsimp only); omega⟩
          · rw [decide_eq_true (by omega), cond_true, idx_get _ _ hlt, bnd_some, hi2, hcmp, bnd_some, decide_eq_false (by simpa using hc), cond_false, w64 (by omega) (by omega)]
            rfl
          · rw [List.take_succ_eq_append_getElem hlt, List.take_succ_eq_append_getElem hlq, ht, hc]
        · refine .inr ⟨.inr false, ?_, rfl⟩
          rw [decide_eq_true (by omega), cond_true, idx_get _ _ hlt, bnd_some, hi2, hcmp, bnd_some, decide_eq_true (by simpa using hc), cond_true]
          rfl
      · exfalso
        have hn2 : n = r.cells.length := by omega
        subst hn2
        rw [List.take_length, h1, List.take_length] at ht
        apply he
        obtain ⟨a, b⟩ := r
        obtain ⟨c, d⟩ := q
        simp_all
    · have e6 : ((bif ((r.cells.length : Int) != (q.cells.length : Int)) then some true else some (!(r.wrapped == q.wrapped))) : Option Bool) = some true := by simp [h1, h2]
      rw [e6, bnd_some, cond_true]
  · have e7 : ((r.cells.length : Int) != (q.cells.length : Int)) = true := by simp; omega
    rw [e7, cond_true, bnd_some, cond_true]
theorem lrows_eq (l : List RowRow) (hl : l.length ≤ 1000000) (h : ∀ r ∈ l, r.cells.length ≤ 1000000 ∧ okR r.cells) : p_law10_Rows l (l.map told) = some true := by
  unfold p_law10_Rows
  have e0 : ((l.length : Int) != ((l.map told).length : Int)) = false := by simp
  rw [e0, cond_false]
  refine bind_to (fun i => (i : Int)) l.length (.inl ()) rfl ?_ ?_ rfl
  · intro i hi
    try dsimp only
    have hr := h _ (List.getElem_mem hi)
    rw [List.length_map, decide_eq_true (by omega), cond_true, idx_get l i hi, bnd_some, idx_get _ _ (by simpa using hi), bnd_some, List.getElem_map, is_eq _ hr.1 hr.2, bnd_some, Bool.not_true, cond_false, w64 (by omega) (by omega)]
    rfl
  · try dsimp only
    rw [List.length_map, decide_eq_false (by omega), cond_false]
theorem GI.both {W : Nat} {l : List RowRow} (h : GI W l) : ∀ r ∈ l, r.cells.length ≤ 1000000 ∧ okR r.cells := fun r hr => ⟨h.len r hr, (h.rs r hr).2⟩
theorem gis_eq {W : Nat} {l : List RowRow} (h : GI W l) : p_law10_Is ⟨W, l⟩ ⟨W, l.map told⟩ = some (true, ⟨W, l⟩) := by
  have hl : l.length ≤ 1000000 := by have := h.l2; omega
  unfold p_law10_Is p_grid_Grid_Size
  rw [bnd_some, gtext_eq _ _ hl h.len, bnd_some]
  try dsimp only
  have n1 : rowS l (-1) = nilR := by unfold rowS; rw [if_neg (by omega)]
  have n2 : rowS l (l.length : Int) = nilR := by unfold rowS; rw [if_neg (by omega)]
  have e1 : ((W : Int) != (W : Int)) = false := by simp
  have e2 : ((l.length : Int) != ((l.map told).length : Int)) = false := by simp
  have e3 : (((l.map txtR).length : Int) != (l.length : Int)) = false := by simp
  have e4 : ((nilR.cells.length : Int) != 0) = false := rfl
  rw [e1, cond_false, e2, cond_false, rows_eq _ _ hl h.len, bnd_some, lrows_eq _ hl h.both, bnd_some, Bool.not_true, cond_false, e3, cond_false, row_eq _ _ _ h.len, bnd_some, n1, e4, cond_false, row_eq _ _ _ h.len, bnd_some, n2, e4, bnd_some]
  try dsimp only
  rw [cond_false]
  refine bind_to (fun i => (i : Int)) l.length (.inl ()) rfl ?_ ?_ rfl
  · intro i hi
    try dsimp only
    have hr := h.both _ (List.getElem_mem hi)
    rw [List.length_map, decide_eq_true (by omega), cond_true, idx_get _ _ (by simpa using hi), bnd_some, List.getElem_map, row_eq _ _ _ h.len, bnd_some, rowS_in hi, is_eq _ hr.1 hr.2, bnd_some, Bool.not_true, cond_false, idx_get _ _ (by simpa using hi), bnd_some, List.getElem_map, rtext_eq _ hr.1, bnd_some, beq_self_eq_true, Bool.not_true, bnd_some, cond_false, w64 (by omega) (by omega)]
    rfl
  · try dsimp only
    rw [List.length_map, decide_eq_false (by omega), cond_false]
theorem do_lenle (r : RowRow) (a : Law09Act) (h : r.cells.length ≤ 1000) : (doS r a).cells.length ≤ 1000000 := by
  have := do_length r a h
  omega
theorem GI_set {W : Nat} {l : List RowRow} (h : GI W l) (y : Int) (r : RowRow) (hr : okR r.cells) : GI W (setS W l y r) := ⟨h.w1, h.w2, by rw [setS_length]; exact h.l1, by rw [setS_length]; exact h.l2, setS_rows h.rs y r hr⟩
theorem gdo_eq {W : Nat} {l : List RowRow} (h : GI W l) (a : Law10Act) (ha : wfLaw10Act a) : ∃ (W' : Nat) (l' : List RowRow), p_law10_do ⟨W, l⟩ ⟨W, l.map told⟩ a = some (⟨W', l'.map told⟩, true, ⟨W', l'⟩) ∧ GI W' l' ∧ (0 ≤ a.kind → a.kind < 3 → W' = W ∧ l'.length = l.length) := by
  have hl : l.length ≤ 1000000 := by have := h.l2; omega
  obtain ⟨_, _, _, _, _, _, _, _, ha9, _⟩ := ha
  unfold p_law10_do
  by_cases k0 : a.kind = 0
  · have b0 : (a.kind == 0) = true := by simp [k0]
    obtain ⟨hy1, hy2⟩ := rowS_ok h.rs a.y
    have hW := h.w2
    refine ⟨W, setS W l a.y (doS (rowS l a.y) a.row), ?_, GI_set h _ _ (do_ok _ _ hy2 ha9), fun _ _ => ⟨rfl, setS_length _ _ _ _⟩⟩
    rw [b0, cond_true, row_eq _ _ _ h.len, bnd_some, and2, bnd_some]
    have e2 : ((bif decide (a.y ≥ 0 ∧ a.y < ((l.map told).length : Int)) then (Option.bind (idx (l.map told) a.y) fun x286 => some x286) else some (Ref09Row.mk ([] : List Ref09Cell) false)) : Option Ref09Row) = some (told (rowS l a.y)) := by
      rw [List.length_map]
      by_cases hy : 0 ≤ a.y ∧ a.y < l.length
      · rw [decide_eq_true (by omega), cond_true]
        obtain ⟨n, hn⟩ := Int.eq_ofNat_of_zero_le hy.1
        rw [hn] at hy ⊢
        have hnl : n < l.length := by omega
        rw [idx_get _ _ (by simpa using hnl), bnd_some, List.getElem_map, rowS_in hnl]
      · rw [decide_eq_false (by omega), cond_false]
        unfold rowS
        rw [if_neg hy]
        rfl
    rw [e2, bnd_some, is_eq _ (by omega) hy2, bnd_some, Bool.not_true, cond_false, do_eq _ _ (by omega) ha9, bnd_some]
    try dsimp only
    rw [rset_eq W hW l _ _ (do_lenle _ _ (by omega)) hl, bnd_some, set_eq W hW l _ _ (do_lenle _ _ (by omega)), bnd_some, beq_self_eq_true]
  · have b0 : (a.kind == 0) = false := by simp [k0]
    rw [b0, cond_false]
    by_cases k1 : a.kind = 1
    · have b1 : (a.kind == 1) = true := by simp [k1]
      obtain ⟨u1, u2⟩ := up_all h a.top a.bottom a.n a.style
      have g := GI_up h a.top a.bottom a.n a.style
      refine ⟨W, upL W l a.top a.bottom a.n a.style, ?_, g, fun _ _ => ⟨rfl, ?_⟩⟩
      · rw [b1, cond_true, bnd_some, cond_true, u2, bnd_some, cond_true, u1, bnd_some]
        try dsimp only
        rw [lrows_eq _ (Nat.le_trans (upO_len _ _ _ _) hl) (fun r hr => h.both r (upO_mem hr)), bnd_some]
      · unfold upL
        split
        · rfl
        · rename_i hc
          obtain ⟨e, _, _⟩ := rg_split l a.top a.bottom hc h.l1
          conv => rhs; rw [e]
          simp only [List.length_append, upB_length]
    · have b1 : (a.kind == 1) = false := by simp [k1]
      rw [b1, cond_false]
      by_cases k2 : a.kind = 2
      · have b2 : (a.kind == 2) = true := by simp [k2]
        obtain ⟨u1, u2⟩ := down_all h a.top a.bottom a.n a.style
        have g := GI_down h a.top a.bottom a.n a.style
        refine ⟨W, downL W l a.top a.bottom a.n a.style, ?_, g, fun _ _ => ⟨rfl, ?_⟩⟩
        · rw [b2, bnd_some, cond_true, u2, bnd_some, cond_false, u1, bnd_some]
          try dsimp only
          rw [lrows_eq _ (Nat.le_trans (downO_len _ _ _ _) hl) (fun r hr => h.both r (downO_mem hr)), bnd_some]
        · unfold downL
          split
          · rfl
          · rename_i hc
            obtain ⟨e, _, _⟩ := rg_split l a.top a.bottom hc h.l1
            conv => rhs; rw [e]
            simp only [List.length_append, downB_length]
      · have b2 : (a.kind == 2) = false := by simp [k2]
        have hok : ∀ r ∈ l, okR r.cells := fun r hr => (h.rs r hr).2
        refine ⟨szN (min a.w 12), rzL (szN (min a.w 12)) l (loS l a.n) (szN (min a.h 12)), ?_, GI_rz (W := W) hok _ _ _ (szN_pos _) (szN_le _) (szN_pos _) (szN_le _), fun _ _ => by omega⟩
        rw [b2, bnd_some, cond_false, small_eq, bnd_some, small_eq, bnd_some, rresizeG_eq _ _ _ _ _ h.l1 hl h.len, bnd_some, bnd_some, bnd_some, bnd_some, resizeG_eq _ _ _ _ _ h.l1 hl h.len, bnd_some]
        try dsimp only
        rw [lrows_eq _ (by rw [List.length_take]; omega) (fun r hr => h.both r (List.mem_of_mem_take hr)), bnd_some]
end Go.Tw.X

set_option linter.unusedVariables false
set_option linter.unusedSimpArgs false
namespace Go.Tw.X
open Go Go.Tw
def badI : NumIn := ⟨noS, 1⟩
theorem VI_bad : VI badI := ⟨by show noS.size ≤ 1000000; decide, .inr rfl⟩
theorem fail1 {i : NumIn} (h : VI i) : p_num_In_Fail i 1 = some (if i.e = 0 then badI else i) := by
  obtain ⟨s, e⟩ := i
  by_cases he : e = 0
  · subst he
    rw [if_pos rfl]
    exact fail_zero s 1 (by decide)
  · rw [if_neg he]
    exact fail_kept s e 1 he
/-- a number, at most so great -/
def limS (i : NumIn) (m : Int) : Int × NumIn := if (rdS i).1 > m then (0, badI) else rdS i
theorem lim_VI {i : NumIn} (m : Int) (h : VI i) : VI (limS i m).2 := by
  unfold limS
  split
  · exact VI_bad
  · exact rd_VI h
theorem lim_range {i : NumIn} {m : Int} (h : VI i) (hm : 0 ≤ m) : 0 ≤ (limS i m).1 ∧ (limS i m).1 ≤ m := by
  unfold limS
  split
  · exact ⟨Int.le_refl _, hm⟩
  · have := rd_range h
    omega
theorem lim_err {i : NumIn} {m : Int} (h : (limS i m).2.e ≠ 0) : (limS i m).1 = 0 := by
  unfold limS at *
  split at h
  · rename_i hh
    rw [if_pos hh]
  · rename_i hh
    rw [if_neg hh]
    exact rd_err h
theorem lim_ok {i : NumIn} {m : Int} (h : (limS i m).2.e = 0) (hV : VI i) : i.e = 0 ∧ ∃ w : Nat, (limS i m).1 = w ∧ (w : Int) ≤ m ∧ w ≤ most ∧ sbs i.s = encN w ++ sbs (limS i m).2.s := by
  unfold limS at *
  split at h
  · exact absurd h (by decide)
  · rename_i hh
    rw [if_neg hh]
    obtain ⟨h1, w, h2, h3, h4⟩ := rd_ok h hV
    exact ⟨h1, w, h2, by omega, h3, h4⟩
theorem lim_enc (s : ByteArray) (w : Nat) (R : List Int) {m : Int} (hm : (w : Int) ≤ m) (hw : w ≤ most) (hs : sbs s = encN w ++ R) : limS ⟨s, 0⟩ m = ((w : Int), ⟨bstr R, 0⟩) := by
  unfold limS
  rw [rd_enc s w R hw hs, if_neg (by dsimp only; omega)]
theorem big_ok {i : NumIn} (hV : VI i) {m : Int} (hm : 0 ≤ m) (h : (rdS i).1 > m) : (rdS i).2.e = 0 := by
  by_cases he : (rdS i).2.e = 0
  · exact he
  · have := rd_err he
    omega
theorem rlim_eq {i : NumIn} (h : VI i) {m : Int} (hm : 0 ≤ m) : p_ref16_limited (asR i) m = some (asR (limS i m).2, (limS i m).1) := by
  unfold p_ref16_limited limS
  rw [read_eq i h, bnd_some]
  dsimp only
  by_cases hb : (rdS i).1 > m
  · have he := big_ok h hm hb
    have e1 : ((asR (rdS i).2).e == 0) = true := by simpa [asR] using he
    rw [e1, cond_true, decide_eq_true hb, bnd_some, cond_true, if_pos hb]
    rfl
  · rw [if_neg hb, decide_eq_false hb]
    cases ((asR (rdS i).2).e == 0) <;> rfl
theorem size_eq {i : NumIn} (h : VI i) : p_snap_size i = some (limS i 1000) := by
  unfold p_snap_size limS
  rw [num_eq i h, bnd_some]
  by_cases hb : (rdS i).1 > 1000
  · have he := big_ok h (by omega) hb
    rw [decide_eq_true hb, cond_true, fail1 (rd_VI h), if_pos he, bnd_some, if_pos hb]
  · rw [decide_eq_false hb, cond_false, if_neg hb]
theorem blim_eq {i : NumIn} (h : VI i) {m : Int} (hm : 0 ≤ m) : p_book_limited i m = some (limS i m) := by
  unfold p_book_limited limS
  rw [num_eq i h, bnd_some]
  by_cases hb : (rdS i).1 > m
  · have he := big_ok h hm hb
    rw [decide_eq_true hb, cond_true, fail1 (rd_VI h), if_pos he, bnd_some, if_pos hb]
  · rw [decide_eq_false hb, cond_false, if_neg hb]
/-! ### a run of cells -/
def run0 (i : NumIn) (left : Int) : NumIn := if (limS i left).2.e = 0 ∧ (limS i left).1 = 0 then badI else (limS i left).2
theorem run0_VI {i : NumIn} (left : Int) (h : VI i) : VI (run0 i left) := by
  unfold run0
  split
  · exact VI_bad
  · exact lim_VI left h
def runA (i : NumIn) (left : Int) : Int × NumIn := limS (run0 i left) 1114111
def runB (i : NumIn) (left : Int) : Int × NumIn := limS (runA i left).2 647
def runC (i : NumIn) (left : Int) : Int × NumIn := limS (runB i left).2 3
theorem runA_VI {i : NumIn} (left : Int) (h : VI i) : VI (runA i left).2 := lim_VI _ (run0_VI left h)
theorem runB_VI {i : NumIn} (left : Int) (h : VI i) : VI (runB i left).2 := lim_VI _ (runA_VI left h)
theorem runC_VI {i : NumIn} (left : Int) (h : VI i) : VI (runC i left).2 := lim_VI _ (runB_VI left h)
def runCell (i : NumIn) (left : Int) : RowCell := ⟨(runA i left).1, (runB i left).1, (runC i left).1⟩
/-- what the three hold, whatever is wrong -/
theorem arr_step (i : NumIn) (h : VI i) (m : Int) (hm : 0 ≤ m) : ∃ v : Int, p_num_In_Num i = some (v, (rdS i).2) ∧ (if v > m then (if (rdS i).2.e = 0 then badI else (rdS i).2) else (rdS i).2) = (limS i m).2 ∧ ((limS i m).2.e = 0 → v = (limS i m).1) := by
  refine ⟨(rdS i).1, num_eq i h, ?_, ?_⟩
  · unfold limS
    by_cases hb : (rdS i).1 > m
    · rw [if_pos hb, if_pos hb, if_pos (big_ok h hm hb)]
    · rw [if_neg hb, if_neg hb]
  · unfold limS
    by_cases hb : (rdS i).1 > m
    · rw [if_pos hb]
      intro hh
      exact absurd hh (by decide)
    · rw [if_neg hb]
      exact fun _ => rfl
theorem lim_keep {i : NumIn} (h : i.e ≠ 0) (m : Int) (hm : 0 ≤ m) : (limS i m).2 = i := by
  unfold limS rdS
  rw [if_neg h]
  dsimp only
  rw [if_neg (by omega)]
theorem run_eq (i : NumIn) (left : Int) (h : VI i) (hl : 0 ≤ left) : p_snap_run i left = some (if (runC i left).2.e = 0 then ((limS i left).1, runCell i left, true, (runC i left).2) else (0, ⟨0, 0, 0⟩, false, (runC i left).2)) := by
  unfold p_snap_run
  rw [num_eq i h, bnd_some]
  have hor : ((bif ((rdS i).1 == 0) then some true else some (decide ((rdS i).1 > left))) : Option Bool) = some (decide ((rdS i).1 = 0 ∨ (rdS i).1 > left)) := by
    by_cases h0 : (rdS i).1 = 0
    · have : ((rdS i).1 == 0) = true := by simpa using h0
      rw [this, cond_true, decide_eq_true (.inl h0)]
    · have : ((rdS i).1 == 0) = false := by simpa using h0
      rw [this, cond_false]
      by_cases h1 : (rdS i).1 > left
      · rw [decide_eq_true h1, decide_eq_true (.inr h1)]
      · rw [decide_eq_false h1, decide_eq_false (by omega)]
  have hst : ((bif decide ((rdS i).1 = 0 ∨ (rdS i).1 > left) then (Option.bind (p_num_In_Fail (rdS i).2 1) fun r25 => some r25) else some (rdS i).2) : Option NumIn) = some (run0 i left) := by
    unfold run0 limS
    by_cases hb : (rdS i).1 > left
    · rw [decide_eq_true (.inr hb), cond_true, fail1 (rd_VI h), if_pos (big_ok h hl hb), bnd_some, if_pos hb]
      rfl
    · rw [if_neg hb]
      by_cases h0 : (rdS i).1 = 0
      · rw [decide_eq_true (.inl h0), cond_true, fail1 (rd_VI h), bnd_some]
        by_cases he : (rdS i).2.e = 0
        · rw [if_pos he, if_pos ⟨he, h0⟩]
        · rw [if_neg he, if_neg (fun hh => he hh.1)]
      · rw [decide_eq_false (by omega), cond_false, if_neg (fun hh => h0 hh.2)]
  rw [hor, bnd_some, hst, bnd_some]
  obtain ⟨v1, n1, f1, g1⟩ := arr_step (run0 i left) (run0_VI left h) 1114111 (by omega)
  obtain ⟨v2, n2, f2, g2⟩ := arr_step (runA i left).2 (runA_VI left h) 647 (by omega)
  obtain ⟨v3, n3, f3, g3⟩ := arr_step (runB i left).2 (runB_VI left h) 3 (by omega)
  have fl : ∀ (j : NumIn) (hj : VI j) (v m : Int) (a : Arr3Int) (out : NumIn), (if v > m then (if j.e = 0 then badI else j) else j) = out → ((bif (decide (v > m)) then (Option.bind (p_num_In_Fail j 1) fun r277 => some (a, r277)) else some (a, j)) : Option (Arr3Int × NumIn)) = some (a, out) := by
    intro j hj v m a out ho
    by_cases hb : v > m
    · rw [if_pos hb] at ho
      rw [decide_eq_true hb, cond_true, fail1 hj, bnd_some, ho]
    · rw [if_neg hb] at ho
      rw [decide_eq_false hb, cond_false, ho]
  have ab : ∀ k : Int, 0 ≤ k → k < 3 → chk (ainb k 3) = some () := fun k h0 h1 => chk_true ⟨h0, h1⟩
  rw [iter_inl (s' := ((⟨v1, 0, 0⟩ : Arr3Int), (runA i left).2, (1 : Int)))]
  · rw [iter_inl (s' := ((⟨v1, v2, 0⟩ : Arr3Int), (runB i left).2, (2 : Int)))]
    · rw [iter_inl (s' := ((⟨v1, v2, v3⟩ : Arr3Int), (runC i left).2, (3 : Int)))]
      · rw [iter_inr (r := ((⟨v1, v2, v3⟩ : Arr3Int), (runC i left).2))]
        · rw [bnd_some]
          unfold p_num_In_Err
          rw [bnd_some]
          dsimp only
          by_cases he : (runC i left).2.e = 0
          · have hb : ((runC i left).2.e != 0) = false := by simpa using he
            rw [hb, cond_false, if_pos he]
            have eB : (runB i left).2.e = 0 := (lim_ok (i := (runB i left).2) (m := 3) he (runB_VI left h)).1
            have eA : (runA i left).2.e = 0 := (lim_ok (i := (runA i left).2) (m := 647) eB (runA_VI left h)).1
            have e0 : (run0 i left).e = 0 := (lim_ok (i := run0 i left) (m := 1114111) eA (run0_VI left h)).1
            have q1 : v1 = (runA i left).1 := g1 eA
            have q2 : v2 = (runB i left).1 := g2 eB
            have q3 : v3 = (runC i left).1 := g3 he
            have hr := lim_range (i := run0 i left) (m := 1114111) (run0_VI left h) (by omega)
            have hw : IntKind.i32.wrap v1 = v1 := by
              rw [q1, IntKind.wrap_i32]
              unfold runA
              omega
            have hn : (rdS i).1 = (limS i left).1 := by
              unfold run0 at e0
              unfold limS at *
              split
              · rename_i hb2
                rw [if_pos hb2] at e0
                split at e0
                · exact absurd e0 (by decide)
                · exact absurd e0 (by decide)
              · rfl
            rw [hw, q1, q2, q3, hn]
            rfl
          · have hb : ((runC i left).2.e != 0) = true := by simpa using he
            rw [hb, cond_true, if_neg he]
        · rfl
      · dsimp only
        rw [decide_eq_true (by omega), cond_true, show idx ([1114111, 647, 3] : List Int) (2 : Int) = some 3 from rfl, bnd_some, n3, bnd_some, ab 2 (by omega) (by omega), bnd_some, bnd_some]
        dsimp only
        rw [show idx [sel 2 0 v3 v1, sel 2 1 v3 v2, sel 2 2 v3 0] (2 : Int) = some v3 from rfl, bnd_some, fl _ (rd_VI (runB_VI left h)) _ _ _ _ f3, bnd_some]
        rfl
    · dsimp only
      rw [decide_eq_true (by omega), cond_true, show idx ([1114111, 647, 3] : List Int) (1 : Int) = some 647 from rfl, bnd_some, n2, bnd_some, ab 1 (by omega) (by omega), bnd_some, bnd_some]
      dsimp only
      rw [show idx [sel 1 0 v2 v1, sel 1 1 v2 0, sel 1 2 v2 0] (1 : Int) = some v2 from rfl, bnd_some, fl _ (rd_VI (runA_VI left h)) _ _ _ _ f2, bnd_some]
      rfl
  · dsimp only
    rw [decide_eq_true (by omega), cond_true, show idx ([1114111, 647, 3] : List Int) (0 : Int) = some 1114111 from rfl, bnd_some, n1, bnd_some, ab 0 (by omega) (by omega), bnd_some, bnd_some]
    dsimp only
    rw [show idx [sel 0 0 v1 0, sel 0 1 v1 0, sel 0 2 v1 0] (0 : Int) = some v1 from rfl, bnd_some, fl _ (rd_VI (run0_VI left h)) _ _ _ _ f1, bnd_some]
    rfl
end Go.Tw.X

set_option linter.unusedVariables false
set_option linter.unusedSimpArgs false
namespace Go.Tw.X
open Go Go.Tw
/-! ### a row's bytes read -/
def rrS : Nat → Int → NumIn → List RowCell → List RowCell × NumIn
  | 0, _, i, l => (l, i)
  | k + 1, w, i, l => if (l.length : Int) < w ∧ i.e = 0 then
      (if (runC i (w - l.length)).2.e = 0 then (if l.getLast? = some (runCell i (w - l.length)) then rrS k w badI l else rrS k w (runC i (w - l.length)).2 (l ++ List.replicate (limS i (w - l.length)).1.toNat (runCell i (w - l.length))))
      else rrS k w (runC i (w - l.length)).2 l)
    else (l, i)
theorem run_pos {i : NumIn} {left : Int} (h : VI i) (hl : 0 ≤ left) (he : (runC i left).2.e = 0) : i.e = 0 ∧ 1 ≤ (limS i left).1 ∧ (limS i left).1 ≤ left ∧ (limS i left).2.e = 0 ∧ run0 i left = (limS i left).2 := by
  have eB : (runB i left).2.e = 0 := (lim_ok (i := (runB i left).2) (m := 3) he (runB_VI left h)).1
  have eA : (runA i left).2.e = 0 := (lim_ok (i := (runA i left).2) (m := 647) eB (runA_VI left h)).1
  have e0 : (run0 i left).e = 0 := (lim_ok (i := run0 i left) (m := 1114111) eA (run0_VI left h)).1
  have hr := lim_range (i := i) (m := left) h hl
  by_cases hc : (limS i left).2.e = 0 ∧ (limS i left).1 = 0
  · unfold run0 at e0
    rw [if_pos hc] at e0
    exact absurd e0 (by decide)
  · have e00 := e0
    unfold run0 at e0
    rw [if_neg hc] at e0
    refine ⟨(lim_ok e0 h).1, ?_, hr.2, e0, by unfold run0; rw [if_neg hc]⟩
    have : (limS i left).1 ≠ 0 := fun hh => hc ⟨e0, hh⟩
    omega
theorem last_eq (l : List RowCell) (c : RowCell) (h : l.length ≤ 1000000) : ((bif (decide ((l.length : Int) > 0)) then (Option.bind (idx l (IntKind.i64.wrap ((l.length : Int) - 1))) fun x326 => some ((x326.rune == c.rune) && ((x326.style == c.style) && ((x326.part == c.part) && true)))) else some false) : Option Bool) = some (decide (l.getLast? = some c)) := by
  by_cases hl : l.length = 0
  · rw [decide_eq_false (by omega), cond_false]
    have : l = [] := List.eq_nil_of_length_eq_zero hl
    subst this
    rfl
  · have hlt : l.length - 1 < l.length := by omega
    have e1 : IntKind.i64.wrap ((l.length : Int) - 1) = ((l.length - 1 : Nat) : Int) := by rw [w64 (by omega) (by omega)]; omega
    rw [decide_eq_true (by omega), cond_true, e1, idx_get _ _ hlt, bnd_some, cell_eqb, List.getLast?_eq_getElem?, List.getElem?_eq_getElem hlt]
    simp
theorem rlast_eq (l : List RowCell) (c : RowCell) (h : l.length ≤ 1000000) : ((bif (decide (((l.map tc).length : Int) > 0)) then (Option.bind (idx (l.map tc) (IntKind.i64.wrap (((l.map tc).length : Int) - 1))) fun x326 => some ((x326.rune == c.rune) && ((x326.style == c.style) && ((x326.part == c.part) && true)))) else some false) : Option Bool) = some (decide (l.getLast? = some c)) := by
  rw [told_len]
  by_cases hl : l.length = 0
  · rw [decide_eq_false (by omega), cond_false]
    have : l = [] := List.eq_nil_of_length_eq_zero hl
    subst this
    rfl
  · have hlt : l.length - 1 < l.length := by omega
    have e1 : IntKind.i64.wrap ((l.length : Int) - 1) = ((l.length - 1 : Nat) : Int) := by rw [w64 (by omega) (by omega)]; omega
    rw [decide_eq_true (by omega), cond_true, e1, idx_get _ _ (by simpa using hlt), bnd_some, List.getElem_map]
    show some ((l[l.length - 1].rune == c.rune) && ((l[l.length - 1].style == c.style) && ((l[l.length - 1].part == c.part) && true))) = _
    rw [cell_eqb, List.getLast?_eq_getElem?, List.getElem?_eq_getElem hlt]
    simp
theorem and_e (p : Prop) [Decidable p] (e : Int) : ((bif (decide p) then some (e == 0) else some false) : Option Bool) = some (decide (p ∧ e = 0)) := by
  by_cases h1 : p
  · by_cases h2 : e = 0
    · have : (e == 0) = true := by simpa using h2
      rw [decide_eq_true h1, cond_true, this, decide_eq_true ⟨h1, h2⟩]
    · have : (e == 0) = false := by simpa using h2
      rw [decide_eq_true h1, cond_true, this, decide_eq_false (fun h => h2 h.2)]
  · rw [decide_eq_false h1, cond_false, decide_eq_false (fun h => h1 h.1)]
theorem rrS_len : ∀ (k : Nat) (w : Int) (i : NumIn) (l : List RowCell), VI i → (l.length : Int) ≤ max w 0 → ((rrS k w i l).1.length : Int) ≤ max w 0 ∧ VI (rrS k w i l).2 := by
  intro k
  induction k with
  | zero => intro w i l h hl; exact ⟨hl, h⟩
  | succ k ih =>
    intro w i l h hl
    unfold rrS
    by_cases hc : (l.length : Int) < w ∧ i.e = 0
    · rw [if_pos hc]
      by_cases he : (runC i (w - l.length)).2.e = 0
      · rw [if_pos he]
        obtain ⟨_, h1, h2, _⟩ := run_pos h (by omega) he
        split
        · exact ih w _ l VI_bad hl
        · exact ih w _ _ (runC_VI _ h) (by rw [List.length_append, List.length_replicate]; omega)
      · rw [if_neg he]
        exact ih w _ l (runC_VI _ h) hl
    · rw [if_neg hc]
      exact ⟨hl, h⟩
theorem rrloop_eq (w : Int) (hw : w ≤ 1000) : ∀ (k : Nat) (i : NumIn) (l : List RowCell), VI i → (l.length : Int) ≤ max w 0 → (if i.e = 0 then (w - l.length).toNat + 1 else 1) ≤ k →
    iter (σ := NumIn × (List RowCell)) (ρ := (List RowCell) × NumIn) (fun s173 => (Option.bind ((bif (decide ((s173.2.length : Int) < w)) then (Option.bind (p_num_In_Err s173.1) fun r281 => some (r281 == 0)) else some false) : Option Bool) fun e277 => (bif e277 then (Option.bind (p_snap_run s173.1 (IntKind.i64.wrap (w - (s173.2.length : Int)))) fun r286 => (bif (!r286.2.2.1) then some (.inl (r286.2.2.2, s173.2)) else (Option.bind ((bif (decide ((s173.2.length : Int) > 0)) then (Option.bind (idx s173.2 (IntKind.i64.wrap ((s173.2.length : Int) - 1))) fun x326 => some ((x326.rune == r286.2.1.rune) && ((x326.style == r286.2.1.style) && ((x326.part == r286.2.1.part) && true)))) else some false) : Option Bool) fun e316 => (bif e316 then (Option.bind (p_num_In_Fail r286.2.2.2 1) fun r332 => some (.inl (r332, s173.2))) else (Option.bind (p_slices_Repeat_row_Cell [r286.2.1] r286.1) fun r338 => (Option.bind (chk (apok s173.2.length r338.length 24)) fun _ => some (.inl (r286.2.2.2, (s173.2 ++ r338))))))))) else some (.inr (s173.2, s173.1))))) (i, l) = some (rrS k w i l) := by
  intro k
  induction k with
  | zero => intro i l h hl hk; split at hk <;> omega
  | succ k ih =>
    intro i l h hl hk
    unfold rrS
    by_cases hc : (l.length : Int) < w ∧ i.e = 0
    · rw [if_pos hc]
      rw [if_pos hc.2] at hk
      have hwr : IntKind.i64.wrap (w - (l.length : Int)) = w - l.length := w64 (by omega) (by omega)
      by_cases he : (runC i (w - l.length)).2.e = 0
      · rw [if_pos he]
        obtain ⟨_, h1, h2, _⟩ := run_pos h (by omega) he
        by_cases hlast : l.getLast? = some (runCell i (w - l.length))
        · rw [if_pos hlast, iter_inl (s' := (badI, l))]
          · exact ih badI l VI_bad hl (by rw [if_neg (by decide)]; omega)
          · dsimp only
            unfold p_num_In_Err
            rw [bnd_some, and_e, decide_eq_true hc, bnd_some, cond_true, hwr, run_eq i _ h (by omega), if_pos he, bnd_some]
            dsimp only
            rw [Bool.not_true, cond_false, last_eq _ _ (by omega), bnd_some, decide_eq_true hlast, cond_true, fail1 (runC_VI _ h), if_pos he, bnd_some]
        · rw [if_neg hlast, iter_inl (s' := ((runC i (w - l.length)).2, l ++ List.replicate (limS i (w - l.length)).1.toNat (runCell i (w - l.length))))]
          · refine ih _ _ (runC_VI _ h) (by rw [List.length_append, List.length_replicate]; omega) ?_
            rw [if_pos he, List.length_append, List.length_replicate]
            omega
          · dsimp only
            unfold p_num_In_Err
            rw [bnd_some, and_e, decide_eq_true hc, bnd_some, cond_true, hwr, run_eq i _ h (by omega), if_pos he, bnd_some]
            dsimp only
            rw [Bool.not_true, cond_false, last_eq _ _ (by omega), bnd_some, decide_eq_false hlast, cond_false, repeat_eq _ _ (by omega) (by omega), bnd_some, apok_true (by rw [List.length_replicate]; omega), bnd_some]
      · rw [if_neg he, iter_inl (s' := ((runC i (w - l.length)).2, l))]
        · exact ih _ l (runC_VI _ h) hl (by rw [if_neg he]; omega)
        · dsimp only
          unfold p_num_In_Err
          rw [bnd_some, and_e, decide_eq_true hc, bnd_some, cond_true, hwr, run_eq i _ h (by omega), if_neg he, bnd_some]
          dsimp only
          rw [Bool.not_false, cond_true]
    · rw [if_neg hc]
      refine iter_inr ?_
      dsimp only
      unfold p_num_In_Err
      rw [bnd_some, and_e, decide_eq_false hc, bnd_some, cond_false]
def rowI (i : NumIn) (w : Int) : RowRow × NumIn :=
  if (rrS (w.toNat + 1) w (limS i 1).2 []).2.e = 0 then (⟨(rrS (w.toNat + 1) w (limS i 1).2 []).1, decide ((limS i 1).1 = 1)⟩, (rrS (w.toNat + 1) w (limS i 1).2 []).2)
  else (nilR, (rrS (w.toNat + 1) w (limS i 1).2 []).2)
theorem rrS_e : ∀ (k : Nat) (w : Int) (i : NumIn) (l : List RowCell), (rrS k w i l).2.e = 0 → i.e = 0 := by
  intro k
  induction k with
  | zero => intro w i l h; exact h
  | succ k ih =>
    intro w i l h
    unfold rrS at h
    by_cases hc : (l.length : Int) < w ∧ i.e = 0
    · exact hc.2
    · rw [if_neg hc] at h
      exact h
theorem readrow_eq (i : NumIn) (w : Int) (h : VI i) (hw : w ≤ 1000) : p_snap_ReadRow i w = some (rowI i w) := by
  unfold p_snap_ReadRow
  rw [num_eq i h, bnd_some]
  have hst : ((bif (decide ((rdS i).1 > 1)) then (Option.bind (p_num_In_Fail (rdS i).2 1) fun r18 => some r18) else some (rdS i).2) : Option NumIn) = some (limS i 1).2 := by
    unfold limS
    by_cases hb : (rdS i).1 > 1
    · rw [decide_eq_true hb, cond_true, fail1 (rd_VI h), if_pos (big_ok h (by omega) hb), bnd_some, if_pos hb]
    · rw [decide_eq_false hb, cond_false, if_neg hb]
  rw [hst, bnd_some]
  have hV := lim_VI 1 h
  rw [rrloop_eq w hw (w.toNat + 1) _ [] hV (by simp; omega) (by simp only [List.length_nil]; split <;> omega), bnd_some]
  unfold p_num_In_Err rowI
  rw [bnd_some]
  by_cases he : (rrS (w.toNat + 1) w (limS i 1).2 []).2.e = 0
  · have hb : ((rrS (w.toNat + 1) w (limS i 1).2 []).2.e != 0) = false := by simpa using he
    rw [hb, cond_false, if_pos he]
    have h0 := rrS_e _ _ _ _ he
    have hn : (rdS i).1 = (limS i 1).1 := by
      unfold limS at *
      split
      · rename_i hb2
        rw [if_pos hb2] at h0
        exact absurd h0 (by decide)
      · rfl
    rw [hn]
    congr 3
  · have hb : ((rrS (w.toNat + 1) w (limS i 1).2 []).2.e != 0) = true := by simpa using he
    rw [hb, cond_true, if_neg he]
    rfl
end Go.Tw.X

set_option linter.unusedVariables false
set_option linter.unusedSimpArgs false
namespace Go.Tw.X
open Go Go.Tw
theorem and_e2 (p : Prop) [Decidable p] (e : Int) : ((bif (e == 0) then some (decide p) else some false) : Option Bool) = some (decide (e = 0 ∧ p)) := by
  by_cases h2 : e = 0
  · have : (e == 0) = true := by simpa using h2
    rw [this, cond_true]
    by_cases h1 : p
    · rw [decide_eq_true h1, decide_eq_true ⟨h2, h1⟩]
    · rw [decide_eq_false h1, decide_eq_false (fun h => h1 h.2)]
  · have : (e == 0) = false := by simpa using h2
    rw [this, cond_false, decide_eq_false (fun h => h2 h.1)]
/-- what the document's reader has behind a run -/
theorem inner_eq (e : Int) (n : Nat) (c : Ref09Cell) (l : List Ref09Cell) (hl : l.length + n ≤ 1000000) : iter (σ := Int × (List Ref09Cell)) (ρ := (List Ref09Cell)) (fun s827 => (Option.bind ((bif (decide (s827.1 < (n : Int))) then some (e == 0) else some false) : Option Bool) fun e867 => (bif e867 then (Option.bind (chk (apok s827.2.length [c].length 24)) fun _ => some (.inl ((IntKind.i64.wrap (s827.1 + 1)), (s827.2 ++ [c])))) else some (.inr s827.2)))) (0, l) = some (if e = 0 then l ++ List.replicate n c else l) := by
  by_cases he : e = 0
  · rw [if_pos he]
    have h := iter_to (f := fun (s827 : Int × (List Ref09Cell)) => (Option.bind ((bif (decide (s827.1 < (n : Int))) then some (e == 0) else some false) : Option Bool) fun e867 => (bif e867 then (Option.bind (chk (apok s827.2.length [c].length 24)) fun _ => some (.inl ((IntKind.i64.wrap (s827.1 + 1)), (s827.2 ++ [c])))) else some (.inr s827.2)))) (fun k => ((k : Int), l ++ List.replicate k c)) n (l ++ List.replicate n c) ?_ ?_
    · simpa using h
    · intro k hk
      dsimp only
      rw [and_e, decide_eq_true ⟨by omega, he⟩, bnd_some, cond_true, apok_true (by simp; omega), bnd_some, w64 (by omega) (by omega), List.append_assoc, ← List.replicate_succ']
      rfl
    · dsimp only
      rw [and_e, decide_eq_false (by omega), bnd_some, cond_false]
  · rw [if_neg he]
    refine iter_inr ?_
    dsimp only
    rw [and_e, decide_eq_false (fun h => he h.2), bnd_some, cond_false]
theorem asR_e (i : NumIn) : (asR i).e = i.e := rfl
theorem asR_bad : (Ref01In.mk (ByteArray.mk #[]) 1) = asR badI := rfl
theorem rrrloop_eq (w : Int) (hw : w ≤ 1000) : ∀ (k : Nat) (i : NumIn) (l : List RowCell), VI i → (l.length : Int) ≤ max w 0 → (if i.e = 0 then (w - l.length).toNat + 1 else 1) ≤ k →
    iter (σ := Ref01In × (List Ref09Cell)) (ρ := (List Ref09Cell) × Ref01In) (fun s444 => (Option.bind ((bif (decide ((s444.2.length : Int) < w)) then some (s444.1.e == 0) else some false) : Option Bool) fun e676 => (bif e676 then (Option.bind (p_ref16_limited s444.1 (IntKind.i64.wrap (w - (s444.2.length : Int)))) fun r683 => (Option.bind ((bif (r683.1.e == 0) then some (r683.2 == 0) else some false) : Option Bool) fun e689 => (Option.bind ((bif e689 then some (Ref01In.mk (ByteArray.mk #[]) 1) else some r683.1) : Option Ref01In) fun e696 => (Option.bind (p_ref16_limited e696 1114111) fun r700 => (Option.bind (p_ref16_limited r700.1 647) fun r703 => (Option.bind (p_ref16_limited r703.1 3) fun r706 => (Option.bind ((bif (r706.1.e == 0) then (bif (decide ((s444.2.length : Int) > 0)) then (Option.bind (idx s444.2 (IntKind.i64.wrap ((s444.2.length : Int) - 1))) fun x750 => some ((x750.rune == r700.2) && ((x750.style == r703.2) && ((x750.part == r706.2) && true)))) else some false) else some false) : Option Bool) fun e738 => (Option.bind ((bif e738 then some (Ref01In.mk (ByteArray.mk #[]) 1) else some r706.1) : Option Ref01In) fun e758 => (Option.bind (iter (σ := Int × (List Ref09Cell)) (ρ := (List Ref09Cell)) (fun s827 => (Option.bind ((bif (decide (s827.1 < r683.2)) then some (e758.e == 0) else some false) : Option Bool) fun e867 => (bif e867 then (Option.bind (chk (apok s827.2.length [(Ref09Cell.mk r700.2 r703.2 r706.2)].length 24)) fun _ => some (.inl ((IntKind.i64.wrap (s827.1 + 1)), (s827.2 ++ [(Ref09Cell.mk r700.2 r703.2 r706.2)])))) else some (.inr s827.2)))) (0, s444.2)) fun e857 => some (.inl (e758, e857))))))))))) else some (.inr (s444.2, s444.1))))) (asR i, l.map tc) = some ((rrS k w i l).1.map tc, asR (rrS k w i l).2) := by
  intro k
  induction k with
  | zero => intro i l h hl hk; split at hk <;> omega
  | succ k ih =>
    intro i l h hl hk
    unfold rrS
    by_cases hc : (l.length : Int) < w ∧ i.e = 0
    · rw [if_pos hc]
      rw [if_pos hc.2] at hk
      have hwr : IntKind.i64.wrap (w - (l.length : Int)) = w - l.length := w64 (by omega) (by omega)
      have hL : 0 ≤ w - (l.length : Int) := by omega
      -- the document's steps
      have s1 : ((bif ((asR (limS i (w - l.length)).2).e == 0) then some ((limS i (w - l.length)).1 == 0) else some false) : Option Bool) = some (decide ((limS i (w - l.length)).2.e = 0 ∧ (limS i (w - l.length)).1 = 0)) := by
        have : ((limS i (w - l.length)).1 == 0) = decide ((limS i (w - l.length)).1 = 0) := by
          by_cases h0 : (limS i (w - l.length)).1 = 0 <;> simp [h0]
        rw [this, asR_e, and_e2]
      have s2 : ((bif decide ((limS i (w - l.length)).2.e = 0 ∧ (limS i (w - l.length)).1 = 0) then some (Ref01In.mk (ByteArray.mk #[]) 1) else some (asR (limS i (w - l.length)).2)) : Option Ref01In) = some (asR (run0 i (w - l.length))) := by
        unfold run0
        by_cases h0 : (limS i (w - l.length)).2.e = 0 ∧ (limS i (w - l.length)).1 = 0
        · rw [decide_eq_true h0, cond_true, if_pos h0]
          rfl
        · rw [decide_eq_false h0, cond_false, if_neg h0]
      have s3 : p_ref16_limited (asR (run0 i (w - l.length))) 1114111 = some (asR (runA i (w - l.length)).2, (runA i (w - l.length)).1) := rlim_eq (run0_VI _ h) (by omega)
      have s4 : p_ref16_limited (asR (runA i (w - l.length)).2) 647 = some (asR (runB i (w - l.length)).2, (runB i (w - l.length)).1) := rlim_eq (runA_VI _ h) (by omega)
      have s5 : p_ref16_limited (asR (runB i (w - l.length)).2) 3 = some (asR (runC i (w - l.length)).2, (runC i (w - l.length)).1) := rlim_eq (runB_VI _ h) (by omega)
      have hnat : ∃ N : Nat, (limS i (w - l.length)).1 = (N : Int) ∧ N ≤ 1000 := by
        have := lim_range (i := i) (m := w - l.length) h hL
        exact ⟨(limS i (w - l.length)).1.toNat, by omega, by omega⟩
      obtain ⟨N, hN, hN2⟩ := hnat
      have hlast := rlast_eq l (runCell i (w - l.length)) (by omega)
      by_cases he : (runC i (w - l.length)).2.e = 0
      · rw [if_pos he]
        obtain ⟨_, h1, h2, _⟩ := run_pos h (by omega) he
        have he' : ((asR (runC i (w - l.length)).2).e == 0) = true := by simpa [asR] using he
        by_cases hlst : l.getLast? = some (runCell i (w - l.length))
        · rw [if_pos hlst, iter_inl (s' := (asR badI, l.map tc))]
          · exact ih badI l VI_bad hl (by rw [if_neg (by decide)]; omega)
          · dsimp only
            rw [told_len, and_e, decide_eq_true (show (l.length : Int) < w ∧ (asR i).e = 0 from hc), bnd_some, cond_true, hwr, rlim_eq h hL, bnd_some]
            dsimp only
            rw [s1, bnd_some, s2, bnd_some, s3, bnd_some, s4, bnd_some, s5, bnd_some]
            dsimp only
            rw [he', cond_true]
            rw [told_len] at hlast
            unfold runCell at hlast hlst
            rw [hlast, bnd_some, decide_eq_true hlst, cond_true, bnd_some, hN]
            dsimp only
            rw [inner_eq 1 N _ _ (by rw [told_len]; omega), if_neg (by decide), bnd_some]
            rfl
        · rw [if_neg hlst, iter_inl (s' := (asR (runC i (w - l.length)).2, (l ++ List.replicate (limS i (w - l.length)).1.toNat (runCell i (w - l.length))).map tc))]
          · refine ih _ _ (runC_VI _ h) (by rw [List.length_append, List.length_replicate]; omega) ?_
            rw [if_pos he, List.length_append, List.length_replicate]
            omega
          · dsimp only
            rw [told_len, and_e, decide_eq_true (show (l.length : Int) < w ∧ (asR i).e = 0 from hc), bnd_some, cond_true, hwr, rlim_eq h hL, bnd_some]
            dsimp only
            rw [s1, bnd_some, s2, bnd_some, s3, bnd_some, s4, bnd_some, s5, bnd_some]
            dsimp only
            rw [he', cond_true]
            rw [told_len] at hlast
            have hlst' := hlst
            unfold runCell at hlast hlst'
            rw [hlast, bnd_some, decide_eq_false hlst', cond_false, bnd_some, hN]
            rw [inner_eq _ N _ _ (by rw [told_len]; omega), if_pos (show (asR (runC i (w - l.length)).2).e = 0 from he), bnd_some]
            rw [List.map_append, List.map_replicate, Int.toNat_natCast]
            rfl
      · rw [if_neg he, iter_inl (s' := (asR (runC i (w - l.length)).2, l.map tc))]
        · exact ih _ l (runC_VI _ h) hl (by rw [if_neg he]; omega)
        · have he' : ((asR (runC i (w - l.length)).2).e == 0) = false := by simpa [asR] using he
          dsimp only
          rw [told_len, and_e, decide_eq_true (show (l.length : Int) < w ∧ (asR i).e = 0 from hc), bnd_some, cond_true, hwr, rlim_eq h hL, bnd_some]
          dsimp only
          rw [s1, bnd_some, s2, bnd_some, s3, bnd_some, s4, bnd_some, s5, bnd_some]
          dsimp only
          rw [he', cond_false, bnd_some, cond_false, bnd_some, hN]
          rw [inner_eq _ N _ _ (by rw [told_len]; omega), if_neg (show ¬ (asR (runC i (w - l.length)).2).e = 0 from he), bnd_some]
    · rw [if_neg hc]
      refine iter_inr ?_
      dsimp only
      rw [told_len, and_e, decide_eq_false (show ¬ ((l.length : Int) < w ∧ (asR i).e = 0) from hc), bnd_some, cond_false]
theorem rreadrow_eq (i : NumIn) (w : Int) (h : VI i) (hw : w ≤ 1000) : p_ref16_ReadRow (asR i) w = some (asR (rowI i w).2, told (rowI i w).1) := by
  unfold p_ref16_ReadRow
  rw [rlim_eq h (by omega), bnd_some]
  have hV := lim_VI 1 h
  have hl := rrrloop_eq w hw (w.toNat + 1) _ [] hV (by simp; omega) (by simp only [List.length_nil]; split <;> omega)
  rw [List.map_nil] at hl
  dsimp only
  rw [hl, bnd_some]
  unfold rowI
  dsimp only
  by_cases he : (rrS (w.toNat + 1) w (limS i 1).2 []).2.e = 0
  · have hb : ((asR (rrS (w.toNat + 1) w (limS i 1).2 []).2).e != 0) = false := by simpa [asR] using he
    rw [hb, cond_false, if_pos he]
    have : ((limS i 1).1 == 1) = decide ((limS i 1).1 = 1) := by by_cases h0 : (limS i 1).1 = 1 <;> simp [h0]
    rw [this]
    rfl
  · have hb : ((asR (rrS (w.toNat + 1) w (limS i 1).2 []).2).e != 0) = true := by simpa [asR] using he
    rw [hb, cond_true, if_neg he]
    rfl
end Go.Tw.X

set_option linter.unusedVariables false
set_option linter.unusedSimpArgs false
namespace Go.Tw.X
open Go Go.Tw
/-! ### a row's bytes -/
def runsL : List RowCell → List (Nat × RowCell)
  | [] => []
  | c :: r => match runsL r with
    | (n, d) :: t => if c = d then (n + 1, d) :: t else (1, c) :: (n, d) :: t
    | [] => [(1, c)]
def encRun (p : Nat × RowCell) : List Int := [(p.1 : Int), p.2.rune, p.2.style, p.2.part].flatMap encC
def prow (r : RowRow) : List Int := encC (if r.wrapped then 1 else 0) ++ (runsL r.cells).flatMap encRun
theorem runsL_head (c : RowCell) (r : List RowCell) : ∃ n t, runsL (c :: r) = (n + 1, c) :: t := by
  unfold runsL
  split
  · rename_i n d t h
    split
    · rename_i e
      exact ⟨n, t, by rw [e]⟩
    · exact ⟨0, _, rfl⟩
  · exact ⟨0, [], rfl⟩
theorem runsL_len : ∀ l : List RowCell, (runsL l).length ≤ l.length
  | [] => Nat.le_refl _
  | c :: r => by
    have ih := runsL_len r
    unfold runsL
    split
    · rename_i n d t h
      rw [h] at ih
      split <;> (simp at ih ⊢; omega)
    · simp
theorem encRun_len (p : Nat × RowCell) : (encRun p).length ≤ 36 := by
  unfold encRun
  simp only [List.flatMap_cons, List.flatMap_nil, List.length_append, List.length_nil]
  have h1 := encC_len (p.1 : Int)
  have h2 := encC_len p.2.rune
  have h3 := encC_len p.2.style
  have h4 := encC_len p.2.part
  omega
theorem encRuns_len (t : List (Nat × RowCell)) : (t.flatMap encRun).length ≤ 36 * t.length := by
  induction t with
  | nil => simp
  | cons a t ih =>
    rw [List.flatMap_cons, List.length_append, List.length_cons]
    have := encRun_len a
    omega
/-- how many more are as c -/
def more (c : RowCell) : List RowCell → Nat
  | [] => 0
  | d :: r => if d = c then more c r + 1 else 0
theorem more_le (c : RowCell) : ∀ l, more c l ≤ l.length
  | [] => Nat.le_refl _
  | d :: r => by
    have := more_le c r
    unfold more
    split <;> simp <;> omega
theorem runsL_more (c : RowCell) : ∀ r : List RowCell, runsL (c :: r) = (more c r + 1, c) :: runsL (r.drop (more c r))
  | [] => rfl
  | d :: r => by
    have ih := runsL_more d r
    have hu : runsL (c :: d :: r) = (match runsL (d :: r) with
      | (n, e) :: t => if c = e then (n + 1, e) :: t else (1, c) :: (n, e) :: t
      | [] => [(1, c)]) := rfl
    rw [hu, ih]
    try dsimp only
    by_cases h : c = d
    · subst h
      rw [if_pos rfl]
      have hm : more c (c :: r) = more c r + 1 := by
        show (if c = c then more c r + 1 else 0) = _
        rw [if_pos rfl]
      rw [hm, List.drop_succ_cons]
    · rw [if_neg h]
      have hm : more c (d :: r) = 0 := by
        show (if d = c then more c r + 1 else 0) = _
        rw [if_neg (fun e => h e.symm)]
      rw [hm, List.drop_zero, ih]
theorem more_get (c : RowCell) : ∀ (l : List RowCell) (k : Nat), k < more c l → l[k]? = some c
  | [], k, h => by simp [more] at h
  | d :: r, k, h => by
    unfold more at h
    split at h
    · rename_i e
      cases k with
      | zero => rw [e]; rfl
      | succ k => exact more_get c r k (by omega)
    · omega
theorem more_stop (c : RowCell) : ∀ (l : List RowCell), more c l < l.length → l[more c l]? ≠ some c
  | [], h => by simp at h
  | d :: r, h => by
    have hu : more c (d :: r) = if d = c then more c r + 1 else 0 := rfl
    rw [hu] at h ⊢
    by_cases e : d = c
    · rw [if_pos e] at h ⊢
      exact more_stop c r (by simpa using h)
    · rw [if_neg e]
      simpa using e
theorem runs_eq : ∀ (m : Nat) (l : List RowCell) (b : List Int), l.length ≤ m → b.length + 36 * l.length ≤ 9000000 → okR l → ∃ q, iter (σ := (List RowCell) × NumOut) (ρ := ((List RowCell) × NumOut) ⊕ (NumOut × (List RowCell))) (fun s707 => (bif (decide ((s707.1.length : Int) > 0)) then (Option.bind (iter (σ := Int) (ρ := Int) (fun s1227 => (Option.bind ((bif (decide (s1227 < (s707.1.length : Int))) then (Option.bind (idx s707.1 s1227) fun x1379 => (Option.bind (idx s707.1 0) fun x1386 => some ((x1379.rune == x1386.rune) && ((x1379.style == x1386.style) && ((x1379.part == x1386.part) && true))))) else some false) : Option Bool) fun e1363 => (bif e1363 then some (.inl (IntKind.i64.wrap (s1227 + 1))) else some (.inr s1227)))) 1) fun e1307 => (Option.bind (idx s707.1 0) fun x1392 => (Option.bind ((fun (s51 : NumOut) (x21 : Int × RowCell) => (Option.bind (p_num_Out_Num s51 [x21.1, (IntKind.i64.wrap x21.2.rune), x21.2.style, x21.2.part]) fun r58 => some (r58, true))) s707.2 (e1307, x1392)) fun z1399 => (bif (!z1399.2) then (inrr (some (z1399.1, s707.1))) else (Option.bind (chk (cutok e1307 (s707.1.length : Int) s707.1.length)) fun _ => some (.inl ((cut s707.1 e1307 (s707.1.length : Int)), z1399.1))))))) else some (.inr (.inl (s707.1, s707.2))))) (l, ⟨b⟩) = some (.inl (q, ⟨b ++ (runsL l).flatMap encRun⟩)) := by
  intro m
  induction m with
  | zero =>
    intro l b hl hb hok
    have : l = [] := List.eq_nil_of_length_eq_zero (by omega)
    subst this
    refine ⟨[], ?_⟩
    refine iter_inr ?_
    try dsimp only
    rw [decide_eq_false (by simp), cond_false]
    simp [runsL]
  | succ m ih =>
    intro l b hl hb hok
    cases l with
    | nil =>
      refine ⟨[], ?_⟩
      refine iter_inr ?_
      try dsimp only
      rw [decide_eq_false (by simp), cond_false]
      simp [runsL]
    | cons c r =>
      have hmr := more_le c r
      have hcok : rok c.rune := hok c (List.mem_cons_self ..)
      simp only [List.length_cons] at hl hb
      have hon := onum_eq b [((more c r + 1 : Nat) : Int), c.rune, c.style, c.part] (by first | (simp; omega) | simp)
      have hd : (r.drop (more c r)).length ≤ m := by rw [List.length_drop]; omega
      have hel := encRun_len (more c r + 1, c)
      obtain ⟨q, hq⟩ := ih (r.drop (more c r)) (b ++ encRun (more c r + 1, c)) hd (by rw [List.length_append, List.length_drop]; omega) (okR_drop (fun d hd' => hok d (List.mem_cons_of_mem _ hd')) _)
      refine ⟨q, ?_⟩
      rw [iter_inl (s' := (r.drop (more c r), (⟨b ++ encRun (more c r + 1, c)⟩ : NumOut)))]
      · rw [hq, runsL_more, List.flatMap_cons, List.append_assoc]
      · try dsimp only
        rw [decide_eq_true (by first | (simp; omega) | simp), cond_true]
        refine bind_to (fun k => ((k + 1 : Nat) : Int)) (more c r) ((more c r + 1 : Nat) : Int) rfl ?_ ?_ ?_
        · intro k hk
          have hg := more_get c r k hk
          have hgi : idx (c :: r) ((k + 1 : Nat) : Int) = some c := by rw [idx_nat, List.getElem?_cons_succ, hg]
          have hg0 : idx (c :: r) 0 = some c := rfl
          try dsimp only
          rw [decide_eq_true (by first | (simp; omega) | simp), cond_true, hgi, bnd_some, hg0, bnd_some, cell_eqb, decide_eq_true rfl, bnd_some, cond_true, w64 (by omega) (by omega)]
          rfl
        · try dsimp only
          by_cases hlt : more c r < r.length
          · have hs := more_stop c r hlt
            have hgi : idx (c :: r) ((more c r + 1 : Nat) : Int) = some r[more c r] := by rw [idx_nat, List.getElem?_cons_succ, List.getElem?_eq_getElem hlt]
            have hg0 : idx (c :: r) 0 = some c := rfl
            have hne : ¬ r[more c r] = c := fun e => hs (by rw [List.getElem?_eq_getElem hlt, e])
            rw [decide_eq_true (by first | (simp; omega) | simp), cond_true, hgi, bnd_some, hg0, bnd_some, cell_eqb, decide_eq_false hne, bnd_some, cond_false]
          · rw [decide_eq_false (by first | (simp; omega) | simp), cond_false, bnd_some, cond_false]
        · have hg0 : idx (c :: r) 0 = some c := rfl
          have hce : encRun (more c r + 1, c) = [((more c r + 1 : Nat) : Int), c.rune, c.style, c.part].flatMap encC := rfl
          rw [hg0, bnd_some, w32 hcok, hon, bnd_some, bnd_some]
          try dsimp only
          rw [Bool.not_true, cond_false, cutok_true (by omega) (by first | (simp; omega) | simp) (by simp), bnd_some, cut_nat, List.take_length, List.drop_succ_cons, hce]
theorem packrow_eq (r : RowRow) (h : r.cells.length ≤ 1000) (hok : okR r.cells) : p_snap_PackRow r = some (bstr (prow r)) := by
  unfold p_snap_PackRow p_snap_bit p_snap_runs p_snap_runs_1 p_num_Out_Bytes
  have hbit : ((bif r.wrapped then some 1 else some 0) : Option Int) = some (if r.wrapped then 1 else 0) := by cases r.wrapped <;> rfl
  rw [hbit, bnd_some, onum_eq [] _ (by simp), bnd_some, bnd_some]
  have hb := encC_len (if r.wrapped then 1 else 0)
  obtain ⟨q, hq⟩ := runs_eq r.cells.length r.cells (encC (if r.wrapped then 1 else 0)) (Nat.le_refl _) (by omega) hok
  have e0 : ([] ++ [(if r.wrapped then (1 : Int) else 0)].flatMap encC) = encC (if r.wrapped then 1 else 0) := by simp
  rw [e0, hq, bnd_some, bnd_some, bnd_some]
  rfl
end Go.Tw.X

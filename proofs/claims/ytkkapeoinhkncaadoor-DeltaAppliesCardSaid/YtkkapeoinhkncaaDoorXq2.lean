import Derived.Test.YtkkapeoinhkncaaDoorXq1
import Derived.Test.YtkkapeoinhkncaaDoorXp1
set_option linter.unusedVariables false
set_option linter.unusedSimpArgs false
namespace Go.Tw.X
open Go Go.Tw
/-! ### the document's answer -/
def hasL (l : List (Int × RowRow)) (H : Nat) : List Bool := (List.range H).map fun y : Nat => (mgl (y : Int) l).isSome
def rowL (l : List (Int × RowRow)) (H : Nat) : List RowRow := (List.range H).map fun y : Nat => (mgl (y : Int) l).getD nilR
theorem hasL_len (l : List (Int × RowRow)) (H : Nat) : (hasL l H).length = H := by simp [hasL]
theorem rowL_len (l : List (Int × RowRow)) (H : Nat) : (rowL l H).length = H := by simp [rowL]
theorem mgl_snoc (l : List (Int × RowRow)) (k j : Int) (x : RowRow) (hn : ∀ p ∈ l, p.1 ≠ j) : mgl k (l ++ [(j, x)]) = if k = j then some x else mgl k l := by
  induction l with
  | nil => simp [mgl]
  | cons p l ih =>
    obtain ⟨i, z⟩ := p
    simp only [List.cons_append, mgl]
    have hi : i ≠ j := hn (i, z) (by simp)
    by_cases h : k = i
    · rw [if_pos h, if_neg (by omega), if_pos h]
    · rw [if_neg h, ih fun p hp => hn p (by simp [hp]), if_neg h]
theorem hasL_set (l : List (Int × RowRow)) (H j : Nat) (x : RowRow) (hj : j < H) (hn : ∀ p ∈ l, p.1 ≠ (j : Int)) : (hasL l H).set j true = hasL (l ++ [((j : Int), x)]) H := by
  apply List.ext_getElem?
  intro i
  rw [List.getElem?_set]
  unfold hasL
  simp only [List.getElem?_map, List.length_map, List.length_range]
  by_cases h : j = i
  · subst h
    rw [if_pos rfl, if_pos hj, List.getElem?_range hj]
    simp [mgl_snoc _ _ _ _ hn]
  · rw [if_neg h]
    by_cases hi : i < H
    · rw [List.getElem?_range hi]
      simp only [Option.map_some]
      rw [mgl_snoc _ _ _ _ hn, if_neg (by omega)]
    · rw [List.getElem?_eq_none (by simpa using hi)]
      rfl
theorem rowL_set (l : List (Int × RowRow)) (H j : Nat) (x : RowRow) (hj : j < H) (hn : ∀ p ∈ l, p.1 ≠ (j : Int)) : (rowL l H).set j x = rowL (l ++ [((j : Int), x)]) H := by
  apply List.ext_getElem?
  intro i
  rw [List.getElem?_set]
  unfold rowL
  simp only [List.getElem?_map, List.length_map, List.length_range]
  by_cases h : j = i
  · subst h
    rw [if_pos rfl, if_pos hj, List.getElem?_range hj]
    simp [mgl_snoc _ _ _ _ hn]
  · rw [if_neg h]
    by_cases hi : i < H
    · rw [List.getElem?_range hi]
      simp only [Option.map_some]
      rw [mgl_snoc _ _ _ _ hn, if_neg (by omega)]
    · rw [List.getElem?_eq_none (by simpa using hi)]
      rfl
theorem hasL_nil (H : Nat) : hasL [] H = List.replicate H false := by
  apply List.ext_getElem?
  intro i
  unfold hasL
  simp only [List.getElem?_map, List.getElem?_replicate]
  by_cases hi : i < H
  · rw [List.getElem?_range hi, if_pos hi]; rfl
  · rw [List.getElem?_eq_none (by simpa using hi), if_neg hi]; rfl
theorem rowL_nil (H : Nat) : (rowL [] H).map told = List.replicate H (told nilR) := by
  apply List.ext_getElem?
  intro i
  unfold rowL
  simp only [List.getElem?_map, List.getElem?_replicate]
  by_cases hi : i < H
  · rw [List.getElem?_range hi, if_pos hi]; rfl
  · rw [List.getElem?_eq_none (by simpa using hi), if_neg hi]; rfl
theorem hasL_get (l : List (Int × RowRow)) {H y : Nat} (h : y < H) : idx (hasL l H) (y : Int) = some (mgl (y : Int) l).isSome := by
  rw [idx_get _ _ (by rw [hasL_len]; exact h)]
  simp [hasL]
theorem rowL_get (l : List (Int × RowRow)) {H y : Nat} (h : y < H) : (rowL l H)[y]? = some ((mgl (y : Int) l).getD nilR) := by
  unfold rowL
  rw [List.getElem?_map, List.getElem?_range h]
  rfl
theorem rloop1 (x : SnapSnap) (H N : Nat) (hH : H ≤ 1000) (hh : x.h = (H : Int)) (hw : x.w ≤ 1000) (hN : N ≤ 4611686018427387904) (f : Ref01In × (List Bool) × (List Ref09Row) × Int × Int → Option ((Ref01In × (List Bool) × (List Ref09Row) × Int × Int) ⊕ (((List Bool) × (List Ref09Row) × Ref01In) ⊕ (Ref16Snap × Int)))) (hf : f = (fun s285 => (bif (decide (s285.2.2.2.2 < (N : Int))) then (Option.bind (p_ref01_Read s285.1) fun r415 => (Option.bind ((bif (r415.1.e == 0) then (bif (decide (r415.2 ≤ s285.2.2.2.1)) then some true else some (decide (r415.2 ≥ x.h))) else some false) : Option Bool) fun e423 => (bif e423 then (inrr (some ((Ref16Snap.mk 0 0 0 0 0 (ByteArray.mk #[]) ([] : List Ref09Row) 0 0 ([] : List Ref09Glyph)), 1))) else (Option.bind (p_ref16_ReadRow r415.1 x.w) fun r435 => (bif (r435.1.e != 0) then (inrr (some ((Ref16Snap.mk 0 0 0 0 0 (ByteArray.mk #[]) ([] : List Ref09Row) 0 0 ([] : List Ref09Glyph)), r435.1.e))) else (Option.bind (idx s285.2.1 r415.2) fun x447 => (Option.bind (idx s285.2.2.1 r415.2) fun x453 => some (.inl (r435.1, (s285.2.1.set r415.2.toNat true), (s285.2.2.1.set r415.2.toNat r435.2), r415.2, (IntKind.i64.wrap (s285.2.2.2.2 + 1))))))))))) else some (.inr (.inl (s285.2.1, s285.2.2.1, s285.1))))) ) :
    ∀ (k n : Nat) (i : NumIn) (last : Int) (l : List (Int × RowRow)), n + k = N → VI i → i.e = 0 → -1 ≤ last → (∀ p ∈ l, p.1 ≤ last) →
    iter f (asR i, hasL l H, (rowL l H).map told, last, (n : Int)) = some (if (dlL k x.w x.h i last l).2.e = 0 then .inl (hasL (dlL k x.w x.h i last l).1 H, (rowL (dlL k x.w x.h i last l).1 H).map told, asR (dlL k x.w x.h i last l).2) else .inr (toldS zeroS, (dlL k x.w x.h i last l).2.e)) := by
  intro k
  induction k with
  | zero =>
    intro n i last l hn hV he h1 hl
    have e0 : dlL 0 x.w x.h i last l = (l, i) := rfl
    rw [e0, if_pos he]
    refine iter_inr ?_
    subst hf
    dsimp only
    rw [decide_eq_false (by omega), cond_false]
  | succ k ih =>
    intro n i last l hn hV he h1 hl
    have hrr := rd_range hV
    have hd : dlL (k + 1) x.w x.h i last l = dlL k x.w x.h (rowI (dlI x.h i last) x.w).2 (rdS i).1 (l ++ [((rdS i).1, (rowI (dlI x.h i last) x.w).1)]) := by
      conv => lhs; unfold dlL
      rw [if_pos he]
    rw [hd]
    have hcond : ((bif ((asR (rdS i).2).e == 0) then (bif (decide ((rdS i).1 ≤ last)) then some true else some (decide ((rdS i).1 ≥ x.h))) else some false) : Option Bool) = some (decide ((rdS i).2.e = 0 ∧ ((rdS i).1 ≤ last ∨ (rdS i).1 ≥ x.h))) := by
      rw [asR_e, or2]
      by_cases h0 : (rdS i).2.e = 0
      · have : ((rdS i).2.e == 0) = true := by simpa using h0
        rw [this, cond_true]
        simp [h0]
      · have : ((rdS i).2.e == 0) = false := by simpa using h0
        rw [this, cond_false]
        simp [h0]
    by_cases hrow : (rowI (dlI x.h i last) x.w).2.e = 0
    · -- all right
      obtain ⟨h2, h3, h4⟩ := dlI_ok (rowI_e (dlI_VI hV) hrow)
      have h5 : (rdS i).2.e = 0 := by rw [← h4]; exact rowI_e (dlI_VI hV) hrow
      obtain ⟨y, hy⟩ := Int.eq_ofNat_of_zero_le hrr.1
      have hyH : y < H := by omega
      have hnew : ∀ p ∈ l, p.1 ≠ (y : Int) := fun p hp e => by have := hl p hp; omega
      rw [iter_inl (s' := (asR (rowI (dlI x.h i last) x.w).2, hasL (l ++ [((rdS i).1, (rowI (dlI x.h i last) x.w).1)]) H, (rowL (l ++ [((rdS i).1, (rowI (dlI x.h i last) x.w).1)]) H).map told, (rdS i).1, ((n + 1 : Nat) : Int)))]
      · refine ih (n + 1) _ _ _ (by omega) (rowI_VI (dlI_VI hV)) hrow (by omega) ?_
        intro p hp
        rcases List.mem_append.1 hp with hp | hp
        · have := hl p hp
          omega
        · rw [List.mem_singleton.1 hp]
          exact Int.le_refl _
      · subst hf
        dsimp only
        rw [decide_eq_true (by omega), cond_true, read_eq _ hV, bnd_some]
        dsimp only
        rw [hcond, decide_eq_false (by omega), bnd_some, cond_false, ← h4, rreadrow_eq _ _ (dlI_VI hV) hw, bnd_some]
        have k1 : ((asR (rowI (dlI x.h i last) x.w).2).e != 0) = false := by rw [asR_e]; simpa using hrow
        dsimp only
        rw [k1, cond_false, hy, hasL_get l hyH, bnd_some, idx_get _ _ (by rw [List.length_map, rowL_len]; exact hyH), bnd_some, Int.toNat_natCast, w64 (by omega) (by omega), ← hasL_set l H y _ hyH hnew, ← rowL_set l H y _ hyH hnew, List.map_set]
        rfl
    · rw [dlL_err _ _ _ _ _ _ hrow, if_neg hrow]
      refine iter_inr ?_
      subst hf
      dsimp only
      rw [decide_eq_true (by omega), cond_true, read_eq _ hV, bnd_some]
      dsimp only
      rw [hcond]
      by_cases hc : (rdS i).2.e = 0 ∧ ((rdS i).1 ≤ last ∨ (rdS i).1 ≥ x.h)
      · rw [decide_eq_true hc, bnd_some, cond_true]
        have h6 : dlI x.h i last = badI := by
          unfold dlI
          rw [if_pos hc.2]
          unfold failI
          rw [if_pos hc.1]
        have h7 : (rowI badI x.w).2.e = 1 := by
          have : (limS badI 1).2 = badI := by
            have := lim_keep (i := badI) (by decide) 1 (by omega)
            exact this
          unfold rowI
          rw [this]
          have h8 : rrS (x.w.toNat + 1) x.w badI [] = ([], badI) := by
            unfold rrS
            rw [if_neg (fun hh => absurd hh.2 (by decide))]
          rw [h8, if_neg (by decide)]
          rfl
        rw [h6, h7]
        rfl
      · rw [decide_eq_false hc, bnd_some, cond_false]
        have h6 : dlI x.h i last = if (rdS i).2.e = 0 then (rdS i).2 else (rdS i).2 := by
          unfold dlI
          by_cases h0 : (rdS i).2.e = 0
          · rw [if_pos h0, if_neg (fun hh => hc ⟨h0, hh⟩)]
          · rw [if_neg h0]
            split
            · unfold failI
              rw [if_neg h0]
            · rfl
        have h7 : dlI x.h i last = (rdS i).2 := by rw [h6]; split <;> rfl
        rw [← h7, rreadrow_eq _ _ (dlI_VI hV) hw, bnd_some]
        have k1 : ((asR (rowI (dlI x.h i last) x.w).2).e != 0) = true := by rw [asR_e]; simpa using hrow
        dsimp only
        rw [k1, cond_true]
        rfl
theorem rloop2 (a : SnapSnap) (l : List (Int × RowRow)) (H : Nat) (hH : H ≤ 1000) (ha : ∀ r ∈ a.rows, r.cells.length ≤ 1000000) (hl : ∀ p ∈ l, p.2.cells.length ≤ 1000000) (f : (List Ref09Row) × Int → Option (((List Ref09Row) × Int) ⊕ ((List Ref09Row) ⊕ (Ref16Snap × Int)))) (hf : f = (fun s2791 => (bif (decide (s2791.2 < (((rowL l H).map told).length : Int))) then (Option.bind ((Option.bind ((Option.bind (idx (hasL l H) s2791.2) fun x5029 => (bif (!x5029) then (bif (decide (s2791.2 ≥ ((toldS a).rows.length : Int))) then some true else (Option.bind (idx (hasL l H) s2791.2) fun x5036 => (bif x5036 then (bif (decide (s2791.2 < ((toldS a).rows.length : Int))) then (Option.bind (idx s2791.1 s2791.2) fun x5041 => (Option.bind (idx (toldS a).rows s2791.2) fun x5046 => (Option.bind (p_ref17_same x5041 x5046) fun r5059 => some r5059))) else some false) else some false))) else (Option.bind (idx (hasL l H) s2791.2) fun x5062 => (bif x5062 then (bif (decide (s2791.2 < ((toldS a).rows.length : Int))) then (Option.bind (idx s2791.1 s2791.2) fun x5067 => (Option.bind (idx (toldS a).rows s2791.2) fun x5072 => (Option.bind (p_ref17_same x5067 x5072) fun r5085 => some r5085))) else some false) else some false)))) : Option Bool) fun e4967 => (bif e4967 then (inrs (inrr (some ((Ref16Snap.mk 0 0 0 0 0 (ByteArray.mk #[]) ([] : List Ref09Row) 0 0 ([] : List Ref09Glyph)), 1)))) else (Option.bind (idx (hasL l H) s2791.2) fun x5096 => (bif (!x5096) then (Option.bind (idx (toldS a).rows s2791.2) fun x5102 => (Option.bind (idx s2791.1 s2791.2) fun x5112 => some (.inl (s2791.1.set s2791.2.toNat x5102)))) else some (.inl s2791.1))))) : Option ((List Ref09Row) ⊕ (((List Ref09Row) × Int) ⊕ ((List Ref09Row) ⊕ (Ref16Snap × Int))))) fun | .inl e4726 => some (.inl (e4726, (IntKind.i64.wrap (s2791.2 + 1)))) | .inr w => some w) else some (.inr (.inl s2791.1)))) ) :
    ∀ (k y : Nat) (acc : List RowRow), y + k = H → acc.length = y →
    iter f (acc.map told ++ ((rowL l H).map told).drop y, (y : Int)) = some (match bldL a.rows l k y acc with | some out => .inl (out.map told) | none => .inr (toldS zeroS, 1)) := by
  have lr : ((rowL l H).map told).length = H := by rw [List.length_map, rowL_len]
  have la : (toldS a).rows.length = a.rows.length := List.length_map ..
  intro k
  induction k with
  | zero =>
    intro y acc hy hacc
    refine iter_inr ?_
    subst hf
    dsimp only
    rw [decide_eq_false (by omega), cond_false, List.drop_eq_nil_of_le (by omega), List.append_nil]
    rfl
  | succ k ih =>
    intro y acc hy hacc
    have hyH : y < H := by omega
    have hcell : (((rowL l H).map told).drop y) = told ((mgl (y : Int) l).getD nilR) :: ((rowL l H).map told).drop (y + 1) := by
      rw [List.drop_eq_getElem_cons (by omega)]
      congr 1
      have := rowL_get l hyH
      rw [List.getElem_map]
      congr 1
      exact Option.some.inj ((List.getElem?_eq_getElem _).symm.trans this)
    have haccl : (acc.map told).length = y := by rw [List.length_map]; exact hacc
    have hat : idx (acc.map told ++ told ((mgl (y : Int) l).getD nilR) :: ((rowL l H).map told).drop (y + 1)) (y : Int) = some (told ((mgl (y : Int) l).getD nilR)) := idx_mid' (by rw [haccl])
    rw [hcell]
    have hset : ∀ r : RowRow, (acc.map told ++ told ((mgl (y : Int) l).getD nilR) :: ((rowL l H).map told).drop (y + 1)).set y (told r) = (acc ++ [r]).map told ++ ((rowL l H).map told).drop (y + 1) := by
      intro r
      rw [set_mid' (by rw [haccl]), List.map_append]
      simp
    have hon : ∀ r : RowRow, f (acc.map told ++ told ((mgl (y : Int) l).getD nilR) :: ((rowL l H).map told).drop (y + 1), (y : Int)) = some (.inl ((acc ++ [r]).map told ++ ((rowL l H).map told).drop (y + 1), ((y + 1 : Nat) : Int))) → bldL a.rows l (k + 1) y acc = bldL a.rows l k (y + 1) (acc ++ [r]) → iter f (acc.map told ++ told ((mgl (y : Int) l).getD nilR) :: ((rowL l H).map told).drop (y + 1), (y : Int)) = some (match bldL a.rows l (k + 1) y acc with | some out => .inl (out.map told) | none => .inr (toldS zeroS, 1)) := by
      intro r h1 h2
      rw [h2, iter_inl h1]
      exact ih (y + 1) (acc ++ [r]) (by omega) (by simp [hacc])
    have hd : decide ((y : Int) < (((rowL l H).map told).length : Int)) = true := decide_eq_true (by omega)
    have hwr : IntKind.i64.wrap ((y : Int) + 1) = ((y + 1 : Nat) : Int) := by rw [w64 (by omega) (by omega)]; rfl
    cases hm : mgl (y : Int) l with
    | some r =>
      rw [hm] at hat hset hon
      simp only [Option.getD_some] at hat hset hon ⊢
      have hrc : r.cells.length ≤ 1000000 := hl _ (mgl_mem hm)
      have hself : (acc.map told ++ told r :: ((rowL l H).map told).drop (y + 1)) = (acc ++ [r]).map told ++ ((rowL l H).map told).drop (y + 1) := by simp
      by_cases hya : y < a.rows.length
      · have e1 : a.rows[y]? = some a.rows[y] := List.getElem?_eq_getElem hya
        have ga : idx (toldS a).rows (y : Int) = some (told a.rows[y]) := by rw [idx_get _ _ (by omega)]; simp
        by_cases hq : a.rows[y] = r
        · have h2 : bldL a.rows l (k + 1) y acc = none := by simp only [bldL, hm, e1, if_pos hq]
          rw [h2]
          refine iter_inr ?_
          subst hf
          dsimp only
          rw [hd, cond_true, hasL_get l hyH, hm, bnd_some]
          simp only [Option.isSome_some, Bool.not_true, cond_false, bnd_some, cond_true]
          rw [decide_eq_true (show (y : Int) < ((toldS a).rows.length : Int) by omega), cond_true, hat, bnd_some, ga, bnd_some, rsame_eq _ _ hrc, decide_eq_true hq.symm]
          rfl
        · refine hon r ?_ (by simp only [bldL, hm, e1, if_neg hq])
          subst hf
          dsimp only
          rw [hd, cond_true, hasL_get l hyH, hm, bnd_some]
          simp only [Option.isSome_some, Bool.not_true, cond_false, bnd_some, cond_true]
          rw [decide_eq_true (show (y : Int) < ((toldS a).rows.length : Int) by omega), cond_true, hat, bnd_some, ga, bnd_some, rsame_eq _ _ hrc, decide_eq_false (fun hh => hq hh.symm), bnd_some, bnd_some, cond_false, bnd_some, hwr, hself]
      · have e1 : a.rows[y]? = none := List.getElem?_eq_none (by omega)
        refine hon r ?_ (by simp only [bldL, hm, e1])
        subst hf
        dsimp only
        rw [hd, cond_true, hasL_get l hyH, hm, bnd_some]
        simp only [Option.isSome_some, Bool.not_true, cond_false, bnd_some, cond_true]
        rw [decide_eq_false (show ¬ (y : Int) < ((toldS a).rows.length : Int) by omega), cond_false, bnd_some, cond_false, bnd_some, hwr, hself]
    | none =>
      rw [hm] at hat hset hon
      simp only [Option.getD_none] at hat hset hon ⊢
      by_cases hya : y < a.rows.length
      · have e1 : a.rows[y]? = some a.rows[y] := List.getElem?_eq_getElem hya
        have ga : idx (toldS a).rows (y : Int) = some (told a.rows[y]) := by rw [idx_get _ _ (by omega)]; simp
        refine hon a.rows[y] ?_ (by simp only [bldL, hm, e1])
        subst hf
        dsimp only
        rw [hd, cond_true, hasL_get l hyH, hm, bnd_some]
        simp only [Option.isSome_none, Bool.not_false, cond_true, bnd_some, cond_false]
        rw [decide_eq_false (show ¬ (y : Int) ≥ ((toldS a).rows.length : Int) by omega), cond_false, bnd_some, cond_false, ga, bnd_some, hat, bnd_some, bnd_some, hwr, Int.toNat_natCast, hset]
      · have e1 : a.rows[y]? = none := List.getElem?_eq_none (by omega)
        have h2 : bldL a.rows l (k + 1) y acc = none := by simp only [bldL, hm, e1]
        rw [h2]
        refine iter_inr ?_
        subst hf
        dsimp only
        rw [hd, cond_true, hasL_get l hyH, hm, bnd_some]
        simp only [Option.isSome_none, Bool.not_false, cond_true, bnd_some, cond_false]
        rw [decide_eq_true (show (y : Int) ≥ ((toldS a).rows.length : Int) by omega)]
        rfl
end Go.Tw.X

set_option linter.unusedVariables false
set_option linter.unusedSimpArgs false
namespace Go.Tw.X
open Go Go.Tw
theorem bind_of {α β : Type} {x : Option α} {y : α} {g : α → Option β} {out : Option β} (h : x = some y) (h2 : g y = out) : Option.bind x g = out := by rw [h]; exact h2
theorem rd_keep {i : NumIn} (h : i.e ≠ 0) : rdS i = (0, i) := by unfold rdS; rw [if_neg h]
theorem txt_keep {i : NumIn} (h : i.e ≠ 0) : txtS i = (noS, i) := by
  unfold txtS
  rw [rd_keep h]
  unfold rawS
  rw [if_pos h]
theorem lim_keep2 {i : NumIn} (h : i.e ≠ 0) (m : Int) (hm : 0 ≤ m) : limS i m = (0, i) := by
  unfold limS
  rw [rd_keep h, if_neg (by dsimp only; omega)]
theorem bk_keep {i : NumIn} (h : i.e ≠ 0) : bkS i = ([], i) := by
  unfold bkS
  rw [lim_keep2 h 1024 (by omega)]
  dsimp only
  rw [bkL_err _ _ _ h, if_neg h]
theorem zend_C {s : ByteArray} (h : (zC s).2.e ≠ 0) : (zR s).2 = (zC s).2 := by
  have e1 : (zD s).2 = (zC s).2 := by unfold zD; rw [lim_keep2 h _ (by omega)]
  have e2 : (zE s).2 = (zC s).2 := by unfold zE; rw [e1, rd_keep h]
  have e3 : (zF s).2 = (zC s).2 := by unfold zF; rw [e2, rd_keep h]
  have e4 : (zT s).2 = (zC s).2 := by unfold zT; rw [e3, txt_keep h]
  have e5 : (zG s).2 = (zC s).2 := by unfold zG; rw [e4, rd_keep h]
  have e6 : (zH s).2 = (zC s).2 := by unfold zH; rw [e5, rd_keep h]
  have e7 : (zK s).2 = (zC s).2 := by unfold zK; rw [e6, bk_keep h]
  have e8 : (zN s).2 = (zC s).2 := by unfold zN; rw [e7, rd_keep h]
  unfold zR
  rw [e8, dlL_err _ _ _ _ _ _ h]
theorem zend_D {s : ByteArray} (h : (zD s).2.e ≠ 0) : (zR s).2 = (zD s).2 := by
  have e2 : (zE s).2 = (zD s).2 := by unfold zE; rw [rd_keep h]
  have e3 : (zF s).2 = (zD s).2 := by unfold zF; rw [e2, rd_keep h]
  have e4 : (zT s).2 = (zD s).2 := by unfold zT; rw [e3, txt_keep h]
  have e5 : (zG s).2 = (zD s).2 := by unfold zG; rw [e4, rd_keep h]
  have e6 : (zH s).2 = (zD s).2 := by unfold zH; rw [e5, rd_keep h]
  have e7 : (zK s).2 = (zD s).2 := by unfold zK; rw [e6, bk_keep h]
  have e8 : (zN s).2 = (zD s).2 := by unfold zN; rw [e7, rd_keep h]
  unfold zR
  rw [e8, dlL_err _ _ _ _ _ _ h]
theorem endN_e {i : NumIn} (hV : VI i) (h : i.e ≠ 0) : endN i = i.e := by
  unfold endN
  rcases hV.2 with h1 | h1
  · exact absurd h1 h
  · rw [if_neg (fun hh => hh h1)]
/-- A size that is read, as the document reads it. -/
theorem rsize17 {i : NumIn} (hV : VI i) : ((bif ((asR (rdS i).2).e == 0) then some (decide ((rdS i).1 > 1000)) else some false) : Option Bool) = some (decide ((rdS i).1 > 1000)) := by
  rw [asR_e]
  by_cases h0 : (rdS i).2.e = 0
  · have : ((rdS i).2.e == 0) = true := by simpa using h0
    rw [this, cond_true]
  · have : ((rdS i).2.e == 0) = false := by simpa using h0
    rw [this, cond_false]
    have h1 : (rdS i).1 = 0 := rd_err h0
    rw [h1]
    rfl
theorem rapply_eq (a : SnapSnap) (s : ByteArray) (ha : SW a) (pa : (a.rows.flatMap prow).length ≤ 12000) (h : s.size ≤ 100000) (ht : (zT s).1.size ≤ 1000) : p_ref17_Apply (toldS a) s = some (toldS (applyS a s).1, (applyS a s).2) := by
  obtain ⟨vB, vC, vF, vH, vK, vN, vR⟩ := zVI (s := s) (by omega)
  have v0 : VI (⟨s, 0⟩ : NumIn) := ⟨by show s.size ≤ 1000000; omega, .inl rfl⟩
  have vA : VI (zA s).2 := rd_VI v0
  have vD : VI (zD s).2 := lim_VI _ vC
  have vE : VI (zE s).2 := rd_VI vD
  have vT : VI (zT s).2 := txt_VI vF
  have vG : VI (zG s).2 := rd_VI vT
  unfold p_ref17_Apply applyS
  rw [may_eq a ha, bnd_some]
  cases hm : mayB a with
  | false => rw [if_pos rfl]; rfl
  | true =>
    rw [if_neg (by simp), Bool.not_true, cond_false]
    have e1 : p_ref01_Read ⟨s, 0⟩ = some (asR (zA s).2, (zA s).1) := read_eq ⟨s, 0⟩ v0
    have e2 : p_ref01_Read (asR (zA s).2) = some (asR (zB s).2, (zB s).1) := read_eq _ vA
    have e3 := read_eq _ vB
    rw [e1, bnd_some]
    dsimp only
    rw [e2, bnd_some]
    dsimp only
    rw [e3, bnd_some]
    dsimp only
    rw [rsize17 vB, bnd_some]
    by_cases hW : (rdS (zB s).2).1 > 1000
    · have hC : (zC s).2 = badI := by unfold zC limS; rw [if_pos hW]
      have hR : (zR s).2 = badI := by rw [zend_C (by rw [hC]; decide), hC]
      have hE : endN (zR s).2 = 1 := by rw [hR]; rfl
      rw [decide_eq_true hW, cond_true, hE, if_pos (by decide)]
      rfl
    rw [decide_eq_false hW, cond_false]
    have hC : zC s = ((rdS (zB s).2).1, (rdS (zB s).2).2) := by unfold zC limS; rw [if_neg hW]
    have hC1 : (rdS (zB s).2).1 = (zC s).1 := by rw [hC]
    have hC2 : (rdS (zB s).2).2 = (zC s).2 := by rw [hC]
    rw [hC1, hC2]
    have e4 := read_eq _ vC
    rw [e4, bnd_some]
    dsimp only
    rw [rsize17 vC, bnd_some]
    by_cases hHH : (rdS (zC s).2).1 > 1000
    · have hD : (zD s).2 = badI := by unfold zD limS; rw [if_pos hHH]
      have hR : (zR s).2 = badI := by rw [zend_D (by rw [hD]; decide), hD]
      have hE : endN (zR s).2 = 1 := by rw [hR]; rfl
      rw [decide_eq_true hHH, cond_true, hE, if_pos (by decide)]
      rfl
    rw [decide_eq_false hHH, cond_false]
    have hD : zD s = ((rdS (zC s).2).1, (rdS (zC s).2).2) := by unfold zD limS; rw [if_neg hHH]
    have hD1 : (rdS (zC s).2).1 = (zD s).1 := by rw [hD]
    have hD2 : (rdS (zC s).2).2 = (zD s).2 := by rw [hD]
    rw [hD1, hD2]
    have e5 : p_ref01_Read (asR (zD s).2) = some (asR (zE s).2, (zE s).1) := read_eq _ vD
    have e6 : p_ref01_Read (asR (zE s).2) = some (asR (zF s).2, (zF s).1) := read_eq _ vE
    have e7 : p_ref01_ReadText (asR (zF s).2) = some (asR (zT s).2, (zT s).1) := rtextr_eq _ vF
    have e8 : p_ref01_Read (asR (zT s).2) = some (asR (zG s).2, (zG s).1) := read_eq _ vT
    have e9 : p_ref01_Read (asR (zG s).2) = some (asR (zH s).2, (zH s).1) := read_eq _ vG
    rw [e5, bnd_some]
    dsimp only
    rw [e6, bnd_some]
    dsimp only
    rw [e7, bnd_some]
    dsimp only
    rw [e8, bnd_some]
    dsimp only
    rw [e9, bnd_some]
    dsimp only
    have hbook : ((bif ((asR (zH s).2).e == 0) then (Option.bind (p_ref12_Read (asR (zH s).2)) fun r88 => some ((Ref16Snap.mk (zB s).1 (zC s).1 (zD s).1 (zE s).1 (zF s).1 (zT s).1 ([] : List Ref09Row) (zG s).1 (zH s).1 r88.2), r88.1)) else some ((Ref16Snap.mk (zB s).1 (zC s).1 (zD s).1 (zE s).1 (zF s).1 (zT s).1 ([] : List Ref09Row) (zG s).1 (zH s).1 ([] : List Ref09Glyph)), (asR (zH s).2))) : Option (Ref16Snap × Ref01In)) = some (toldS (zS s), asR (zK s).2) := by
      rw [asR_e]
      by_cases h0 : (zH s).2.e = 0
      · have : ((zH s).2.e == 0) = true := by simpa using h0
        rw [this, cond_true, rbread_eq _ vH, bnd_some]
        rfl
      · have : ((zH s).2.e == 0) = false := by simpa using h0
        rw [this, cond_false]
        have hk : zK s = ([], (zH s).2) := bk_keep h0
        unfold zS
        rw [hk]
        rfl
    rw [hbook, bnd_some]
    dsimp only
    have e10 : p_ref01_Read (asR (zK s).2) = some (asR (zN s).2, (zN s).1) := read_eq _ vK
    rw [e10, bnd_some]
    dsimp only
    rw [asR_e]
    by_cases hN0 : (zN s).2.e = 0
    · have k1 : ((zN s).2.e != 0) = false := by simp [hN0]
      rw [k1, cond_false]
      have hn := rd_range vK
      have c1 := lim_range (m := 1000) vC (by omega)
      have b1 := lim_range (m := 1000) vB (by omega)
      have hw : (zC s).1 ≤ 1000 := b1.2
      have hh1 : 0 ≤ (zD s).1 := c1.1
      have hh2 : (zD s).1 ≤ 1000 := c1.2
      obtain ⟨N, hN⟩ := Int.eq_ofNat_of_zero_le (show 0 ≤ (zN s).1 from hn.1)
      have hN2 : N ≤ 4611686018427387904 := by have : (zN s).1 ≤ 4611686018427387904 := hn.2; omega
      obtain ⟨H, hH⟩ := Int.eq_ofNat_of_zero_le hh1
      have hR : zR s = dlL N (zS s).w (zS s).h (zN s).2 (-1) [] := by
        unfold zR
        rw [hN, Int.toNat_natCast]
        rfl
      have hHt : (zD s).1.toNat = H := by rw [hH, Int.toNat_natCast]
      have hz : (zS s).h = (zD s).1 := rfl
      have hHt2 : (zS s).h.toNat = H := hHt
      have l1 := rloop1 (zS s) H N (by omega) hH hw hN2 _ rfl N 0 (zN s).2 (-1) [] (by omega) vN hN0 (by omega) (fun p hp => by cases hp)
      rw [← hR, hasL_nil, rowL_nil] at l1
      rw [mkok_true (by omega) (by omega) (by omega), bnd_some, mkok_true (by omega) (by omega) (by omega), bnd_some, hHt2, hN, hHt]
      refine bind_of l1 ?_
      by_cases he : (zR s).2.e = 0
      · rw [if_pos he]
        dsimp only
        have hst : ((zR s).2.s.toList == (ByteArray.mk #[]).toList) = decide ((zR s).2.s = noS) := str_eqb _ noS
        show (bif !((zR s).2.s.toList == (ByteArray.mk #[]).toList) then _ else _) = _
        rw [hst]
        by_cases hs0 : (zR s).2.s = noS
        · have hE : endN (zR s).2 = 0 := by unfold endN; rw [if_neg (fun hh => hh hs0)]; exact he
          rw [decide_eq_true hs0, Bool.not_true, cond_false, rssum_eq a ha pa, bnd_some, hE, if_neg (fun hh => hh rfl)]
          by_cases hs : (zA s).1 = ((sumB (packS a) : Nat) : Int)
          · have k2 : ((zA s).1 != ((sumB (packS a) : Nat) : Int)) = false := by simp [hs]
            rw [k2, cond_false, if_neg (fun hh => hh hs)]
            have har : ∀ r ∈ a.rows, r.cells.length ≤ 1000000 := fun r hr => by have := (ha.ro r hr).2; omega
            have hrows := dlL_rows (zN s).1.toNat (zC s).1 (zD s).1 (zN s).2 (-1) [] vN hw (fun p hp => by cases hp)
            have hrows2 : ∀ p ∈ (zR s).1, p.2.cells.length ≤ 1000000 := fun p hp => by have := (hrows p hp).2; omega
            have l2 := rloop2 a (zR s).1 H (by omega) har hrows2 _ rfl H 0 [] (by omega) rfl
            simp only [List.map_nil, List.nil_append, List.drop_zero] at l2
            refine bind_of l2 ?_
            cases hb : bldL a.rows (zR s).1 H 0 [] with
            | none => rfl
            | some l =>
              rw [← hHt] at hb
              obtain ⟨SWx, pl⟩ := built_SW ha pa h ht he hb
              dsimp only
              have hpk : p_ref16_Pack (toldS (setR (zS s) l)) = some (packS (setR (zS s) l)) := rpack_eq _ SWx (by show (l.flatMap prow).length ≤ 1000000; omega)
              show Option.bind (p_ref16_Pack (toldS (setR (zS s) l))) _ = _
              rw [hpk, bnd_some]
              have hst2 : ((packS (setR (zS s) l)).toList == (ByteArray.mk #[]).toList) = nullS (setR (zS s) l) := by
                have e : ((packS (setR (zS s) l)).toList == (ByteArray.mk #[]).toList) = decide (packS (setR (zS s) l) = noS) := str_eqb _ noS
                rw [e]
                cases hn : nullS (setR (zS s) l) with
                | true => rw [decide_eq_true (packS_bad.2 hn)]
                | false => rw [decide_eq_false (fun hh => by rw [packS_bad.1 hh] at hn; cases hn)]
              rw [hst2]
              cases nullS (setR (zS s) l) with
              | true => rfl
              | false => rfl
          · have k2 : ((zA s).1 != ((sumB (packS a) : Nat) : Int)) = true := by simp [hs]
            rw [k2, cond_true, if_pos hs]
            rfl
        · have hE : endN (zR s).2 = 1 := by unfold endN; rw [if_pos hs0]
          rw [decide_eq_false hs0, hE, if_pos (by decide)]
          rfl
      · have hE : endN (zR s).2 = (zR s).2.e := endN_e vR he
        rw [if_neg he, hE, if_pos he]
    · have k1 : ((zN s).2.e != 0) = true := by simp [hN0]
      have hR : (zR s).2 = (zN s).2 := by unfold zR; rw [dlL_err _ _ _ _ _ _ hN0]
      have hE : endN (zR s).2 = (zN s).2.e := by rw [hR]; exact endN_e vN hN0
      rw [k1, cond_true, hE, if_pos hN0]
      rfl
end Go.Tw.X

set_option linter.unusedVariables false
set_option linter.unusedSimpArgs false
namespace Go.Tw.X
open Go Go.Tw
/-! ### there and back -/
theorem chN_mem (a b : List RowRow) (y : Nat) : ∀ i, y ∈ chN a b i ↔ (y < i ∧ a[y]? ≠ b[y]?)
  | 0 => by simp [chN]
  | i + 1 => by
    rw [chN_succ]
    have ih := chN_mem a b y i
    split
    · rename_i h
      rw [ih]
      constructor
      · rintro ⟨h1, h2⟩; exact ⟨by omega, h2⟩
      · rintro ⟨h1, h2⟩
        refine ⟨?_, h2⟩
        rcases Nat.lt_succ_iff_lt_or_eq.1 h1 with h3 | h3
        · exact h3
        · subst h3; exact absurd h h2
    · rename_i h
      rw [List.mem_append, ih, List.mem_singleton]
      constructor
      · rintro (⟨h1, h2⟩ | h1)
        · exact ⟨by omega, h2⟩
        · subst h1; exact ⟨by omega, h⟩
      · rintro ⟨h1, h2⟩
        rcases Nat.lt_succ_iff_lt_or_eq.1 h1 with h3 | h3
        · exact .inl ⟨h3, h2⟩
        · exact .inr h3
theorem chN_sorted (a b : List RowRow) : ∀ i, (chN a b i).Pairwise (· < ·)
  | 0 => .nil
  | i + 1 => by
    rw [chN_succ]
    split
    · exact chN_sorted a b i
    · refine List.pairwise_append.2 ⟨chN_sorted a b i, by simp, fun x hx y hy => ?_⟩
      rw [List.mem_singleton.1 hy]
      exact chN_lt a b i x hx
def prs (b : List RowRow) (C : List Nat) : List (Int × RowRow) := C.map fun y : Nat => ((y : Int), b[y]?.getD nilR)
theorem prs_mgl (b : List RowRow) (y : Nat) : ∀ C : List Nat, mgl (y : Int) (prs b C) = if y ∈ C then some (b[y]?.getD nilR) else none
  | [] => rfl
  | c :: C => by
    have ih := prs_mgl b y C
    show (if (y : Int) = (c : Int) then some (b[c]?.getD nilR) else mgl (y : Int) (prs b C)) = _
    rw [ih]
    by_cases h : y = c
    · subst h
      rw [if_pos rfl, if_pos (by simp)]
    · rw [if_neg (by omega)]
      by_cases h2 : y ∈ C
      · rw [if_pos h2, if_pos (by simp [h2])]
      · rw [if_neg h2, if_neg (by simp [h, h2])]
theorem dlL_enc (b : List RowRow) (w h : Int) (hw : w ≤ 1000) (hh : h = (b.length : Int)) (hb : b.length ≤ 1000) (hr : ∀ r ∈ b, (r.cells.length : Int) = w ∧ ∀ c ∈ r.cells, okC c = true) {R : List Int} (hR : BB R) : ∀ (C : List Nat) (last : Int) (acc : List (Int × RowRow)), C.Pairwise (· < ·) → (∀ y ∈ C, last < (y : Int) ∧ y < b.length) → dlL C.length w h (bI (pch b C ++ R)) last acc = (acc ++ prs b C, bI R)
  | [], last, acc, _, _ => by simp [dlL, pch, prs]
  | c :: C, last, acc, hs, hl => by
    have hc := hl c (by simp)
    have hs2 := List.pairwise_cons.1 hs
    have hrc := hr _ (List.getElem_mem hc.2)
    have hgc : b[c]?.getD nilR = b[c] := by rw [List.getElem?_eq_getElem hc.2]; rfl
    have hBB : BB (pch b C ++ R) := BB_app (BB_pch _ _) hR
    have e1 : pch b (c :: C) ++ R = encC (c : Int) ++ (prow b[c] ++ (pch b C ++ R)) := by
      unfold pch
      rw [List.flatMap_cons, hgc]
      simp only [List.append_assoc]
    have e2 : rdS (bI (pch b (c :: C) ++ R)) = ((c : Int), bI (prow b[c] ++ (pch b C ++ R))) := by
      rw [e1]
      exact rd_b (BB_app (BB_row _) hBB) (by omega) (by omega)
    have e3 : dlI h (bI (pch b (c :: C) ++ R)) last = bI (prow b[c] ++ (pch b C ++ R)) := by
      unfold dlI
      rw [e2, if_neg (by dsimp only; omega)]
    have e4 := rowI_b b[c] w hBB hw hrc.1 hrc.2
    show dlL (C.length + 1) w h (bI (pch b (c :: C) ++ R)) last acc = _
    unfold dlL
    rw [if_pos (show (bI (pch b (c :: C) ++ R)).e = 0 from rfl), e3, e4, e2]
    dsimp only
    rw [dlL_enc b w h hw hh hb hr hR C (c : Int) _ hs2.2 (fun y hy => ⟨by have := hs2.1 y hy; omega, (hl y (by simp [hy])).2⟩)]
    unfold prs
    rw [List.map_cons, hgc, List.append_assoc]
    rfl
theorem bldL_chg (a b : List RowRow) : ∀ k y, y + k = b.length → bldL a (prs b (chg a b)) k y (b.take y) = some b
  | 0, y, hy => by
    show some (b.take y) = some b
    rw [List.take_of_length_le (by omega)]
  | k + 1, y, hy => by
    have hyb : y < b.length := by omega
    have hb : b[y]? = some b[y] := List.getElem?_eq_getElem hyb
    have ih := bldL_chg a b k (y + 1) (by omega)
    rw [List.take_succ_eq_append_getElem hyb] at ih
    have hm := prs_mgl b y (chg a b)
    have hmem : y ∈ chg a b ↔ a[y]? ≠ b[y]? := by
      unfold chg
      rw [chN_mem]
      exact ⟨fun h => h.2, fun h => ⟨hyb, h⟩⟩
    simp only [bldL]
    by_cases hc : y ∈ chg a b
    · rw [if_pos hc, hb] at hm
      rw [hm]
      simp only [Option.getD_some]
      have hne := hmem.1 hc
      rw [hb] at hne
      cases ha : a[y]? with
      | none => exact ih
      | some q =>
        dsimp only
        rw [ha] at hne
        rw [if_neg (fun hh => hne (by rw [hh]))]
        exact ih
    · rw [if_neg hc] at hm
      rw [hm]
      have he : a[y]? = b[y]? := Classical.not_not.1 fun h => hc (hmem.2 h)
      rw [he, hb]
      exact ih
theorem diff_back (a b : SnapSnap) (hb : SW b) (hma : mayB a = true) (hnb : nullS b = false) : zT (diffS a b) = (b.title, (zT (diffS a b)).2) ∧ applyS a (diffS a b) = (b, 0) := by
  have hbe : emptyB b = false ∧ mayB b = true := by
    unfold nullS at hnb
    cases h1 : emptyB b <;> cases h2 : mayB b <;> rw [h1, h2] at hnb <;> first | exact ⟨rfl, rfl⟩ | cases hnb
  have M := (may_iff hbe.1).1 hbe.2
  have hbad : badD a b = false := by unfold badD; rw [hma, hnb]; rfl
  have hs : diffS a b = bstr (pdel a b) := by unfold diffS; rw [hbad]; rfl
  rw [hs]
  generalize hC : chg a.rows b.rows = C
  have hCl : C.length ≤ b.rows.length := by rw [← hC]; exact chN_len _ _ _
  have hrl := hb.rl
  have htl := M.t
  have r0 : BB ([] : List Int) := BB_nil
  have rP : BB (pch b.rows C) := BB_pch _ _
  obtain ⟨t11, ht11⟩ : ∃ t, t = pch b.rows C := ⟨_, rfl⟩
  obtain ⟨t10, ht10⟩ : ∃ t, t = encC (C.length : Int) ++ t11 := ⟨_, rfl⟩
  obtain ⟨t9, ht9⟩ : ∃ t, t = pbook b.begun ++ t10 := ⟨_, rfl⟩
  obtain ⟨t8, ht8⟩ : ∃ t, t = encC b.chain ++ t9 := ⟨_, rfl⟩
  obtain ⟨t7, ht7⟩ : ∃ t, t = encC b.len ++ t8 := ⟨_, rfl⟩
  obtain ⟨t6, ht6⟩ : ∃ t, t = encC b.title.size ++ sbs b.title ++ t7 := ⟨_, rfl⟩
  obtain ⟨t5, ht5⟩ : ∃ t, t = encC b.y ++ t6 := ⟨_, rfl⟩
  obtain ⟨t4, ht4⟩ : ∃ t, t = encC b.x ++ t5 := ⟨_, rfl⟩
  obtain ⟨t3, ht3⟩ : ∃ t, t = encC b.h ++ t4 := ⟨_, rfl⟩
  obtain ⟨t2, ht2⟩ : ∃ t, t = encC b.w ++ t3 := ⟨_, rfl⟩
  obtain ⟨t1, ht1⟩ : ∃ t, t = encC b.k ++ t2 := ⟨_, rfl⟩
  have hpd : pdel a b = encC ((sumB (packS a) : Nat) : Int) ++ t1 := by
    rw [ht1, ht2, ht3, ht4, ht5, ht6, ht7, ht8, ht9, ht10, ht11]
    unfold pdel dhead
    rw [hC]
    simp only [List.flatMap_cons, List.flatMap_nil, List.append_nil, List.append_assoc]
  have q11 : BB t11 := by rw [ht11]; exact rP
  have q10 : BB t10 := by rw [ht10]; exact BB_app (BB_enc _) q11
  have q9 : BB t9 := by rw [ht9]; exact BB_app (BB_book b.begun) q10
  have q8 : BB t8 := by rw [ht8]; exact BB_app (BB_enc b.chain) q9
  have q7 : BB t7 := by rw [ht7]; exact BB_app (BB_enc b.len) q8
  have q6 : BB t6 := by rw [ht6]; exact BB_app (BB_app (BB_enc _) (BB_sbs _)) q7
  have q5 : BB t5 := by rw [ht5]; exact BB_app (BB_enc b.y) q6
  have q4 : BB t4 := by rw [ht4]; exact BB_app (BB_enc b.x) q5
  have q3 : BB t3 := by rw [ht3]; exact BB_app (BB_enc b.h) q4
  have q2 : BB t2 := by rw [ht2]; exact BB_app (BB_enc b.w) q3
  have q1 : BB t1 := by rw [ht1]; exact BB_app (BB_enc b.k) q2
  have hk := M.k
  have hw := M.w
  have hh := M.h
  have hx := M.x
  have hy := M.y
  have hl := M.l
  have hch := M.c
  have hsum := sumB_lt (packS a)
  have zA' : zA (bstr (pdel a b)) = (((sumB (packS a) : Nat) : Int), bI t1) := by unfold zA; rw [hpd]; exact rd_b q1 (by omega) (by omega)
  have zB' : zB (bstr (pdel a b)) = (b.k, bI t2) := by unfold zB; rw [zA', ht1]; exact rd_b q2 (by omega) (by omega)
  have zC' : zC (bstr (pdel a b)) = (b.w, bI t3) := by unfold zC; rw [zB', ht2]; exact lim_b q3 (by omega) (by omega) (by omega)
  have zD' : zD (bstr (pdel a b)) = (b.h, bI t4) := by unfold zD; rw [zC', ht3]; exact lim_b q4 (by omega) (by omega) (by omega)
  have zE' : zE (bstr (pdel a b)) = (b.x, bI t5) := by unfold zE; rw [zD', ht4]; exact rd_b q5 (by omega) (by omega)
  have zF' : zF (bstr (pdel a b)) = (b.y, bI t6) := by unfold zF; rw [zE', ht5]; exact rd_b q6 (by omega) (by omega)
  have zT' : zT (bstr (pdel a b)) = (b.title, bI t7) := by unfold zT; rw [zF', ht6]; exact txt_b b.title q7 hb.tl
  have zG' : zG (bstr (pdel a b)) = (b.len, bI t8) := by unfold zG; rw [zT', ht7]; exact rd_b q8 (by omega) (by omega)
  have zH' : zH (bstr (pdel a b)) = (b.chain, bI t9) := by unfold zH; rw [zG', ht8]; exact rd_b q9 (by omega) (by omega)
  have zK' : zK (bstr (pdel a b)) = (b.begun, bI t10) := by unfold zK; rw [zH', ht9]; exact bkS_b b.begun q10 M.g M.b
  have zN' : zN (bstr (pdel a b)) = ((C.length : Int), bI t11) := by unfold zN; rw [zK', ht10]; exact rd_b q11 (by omega) (by omega)
  have zR' : zR (bstr (pdel a b)) = (prs b.rows C, bI []) := by
    unfold zR
    rw [zN', zC', zD', ht11]
    dsimp only
    rw [Int.toNat_natCast]
    have := dlL_enc b.rows b.w b.h (by omega) M.r.symm hrl M.rr r0 C (-1) [] (by rw [← hC]; exact chN_sorted _ _ _) (fun y hy => ⟨by omega, by rw [← hC] at hy; exact chN_lt _ _ _ y hy⟩)
    rw [List.append_nil, List.nil_append] at this
    exact this
  refine ⟨by rw [zT'], ?_⟩
  unfold applyS
  rw [hma, if_neg (by simp), zR']
  have hE : endN (bI []) = 0 := endN_bI
  rw [hE, if_neg (fun h => h rfl), zA', if_neg (fun h => h rfl), zD']
  dsimp only
  have hb0 := bldL_chg a.rows b.rows b.rows.length 0 (by omega)
  have hht : b.h.toNat = b.rows.length := by have := M.r; omega
  rw [hht, ← hC, show bldL a.rows (prs b.rows (chg a.rows b.rows)) b.rows.length 0 [] = some b.rows from hb0]
  dsimp only
  have hset : setR (zS (bstr (pdel a b))) b.rows = b := by
    unfold setR zS
    rw [zB', zC', zD', zE', zF', zT', zG', zH', zK']
  rw [hset, hnb]
  rfl
/-! ### and forth -/
theorem dlL_len2 : ∀ (k : Nat) (w h : Int) (i : NumIn) (last : Int) (l : List (Int × RowRow)), (dlL k w h i last l).2.e = 0 → (dlL k w h i last l).1.length = l.length + k
  | 0, w, h, i, last, l, he => rfl
  | k + 1, w, h, i, last, l, he => by
    have hi := dlL_e _ _ _ _ _ _ he
    unfold dlL at he ⊢
    rw [if_pos hi] at he ⊢
    rw [dlL_len2 k _ _ _ _ _ he]
    simp only [List.length_append, List.length_cons, List.length_nil]
    omega
theorem mgl_key {k : Int} {r : RowRow} {l : List (Int × RowRow)} (h : mgl k l = some r) : ∃ p ∈ l, p.1 = k := ⟨(k, r), mgl_mem h, rfl⟩
theorem sorted_ext : ∀ (L : List (Int × RowRow)) (C : List Nat), L.Pairwise (fun p q => p.1 < q.1) → (∀ p ∈ L, 0 ≤ p.1) → C.Pairwise (· < ·) → (∀ y : Nat, y ∈ C ↔ ∃ r, mgl (y : Int) L = some r) → ∀ (b : List RowRow), (∀ (y : Nat) r, mgl (y : Int) L = some r → b[y]?.getD nilR = r) → L = prs b C
  | [], C, _, _, _, hm, b, hb => by
    cases C with
    | nil => rfl
    | cons c C =>
      obtain ⟨r, hr⟩ := (hm c).1 (by simp)
      cases hr
  | (j, z) :: L, C, hs, h0, hsC, hm, b, hb => by
    have hs2 := List.pairwise_cons.1 hs
    obtain ⟨jn, rfl⟩ := Int.eq_ofNat_of_zero_le (h0 (j, z) (by simp))
    have hj : jn ∈ C := (hm jn).2 ⟨z, by simp [mgl]⟩
    cases C with
    | nil => cases hj
    | cons c C =>
      have hsC2 := List.pairwise_cons.1 hsC
      have hcj : c = jn := by
        obtain ⟨r, hr⟩ := (hm c).1 (by simp)
        obtain ⟨p, hp, hpc⟩ := mgl_key hr
        have h1 : (jn : Int) ≤ (c : Int) := by
          rcases List.mem_cons.1 hp with rfl | hp
          · dsimp only at hpc; omega
          · have := hs2.1 p hp
            dsimp only at this
            omega
        have h2 : c ≤ jn := by
          rcases List.mem_cons.1 hj with rfl | hj
          · exact Nat.le_refl _
          · exact Nat.le_of_lt (hsC2.1 jn hj)
        omega
      subst hcj
      have hz : b[c]?.getD nilR = z := hb c z (by simp [mgl])
      have hrest : L = prs b C := by
        refine sorted_ext L C hs2.2 (fun p hp => h0 p (by simp [hp])) hsC2.2 (fun y => ?_) b (fun y r hr => ?_)
        · constructor
          · intro hy
            obtain ⟨r, hr⟩ := (hm y).1 (by simp [hy])
            have hne : y ≠ c := fun e => by have := hsC2.1 y hy; omega
            simp only [mgl] at hr
            rw [if_neg (by omega)] at hr
            exact ⟨r, hr⟩
          · rintro ⟨r, hr⟩
            obtain ⟨p, hp, hpy⟩ := mgl_key hr
            have hlt := hs2.1 p hp
            dsimp only at hlt
            have hne : y ≠ c := by omega
            have : y ∈ c :: C := (hm y).2 ⟨r, by simp only [mgl]; rw [if_neg (by omega)]; exact hr⟩
            rcases List.mem_cons.1 this with rfl | h
            · exact absurd rfl hne
            · exact h
        · obtain ⟨p, hp, hpy⟩ := mgl_key hr
          have hlt := hs2.1 p hp
          dsimp only at hlt
          refine hb y r ?_
          simp only [mgl]
          rw [if_neg (by omega)]
          exact hr
      unfold prs
      rw [List.map_cons, hz, hrest]
      rfl
/-- What was built: each row is the one that is told, or the elder one's. -/
theorem bldL_spec {A : List RowRow} {l : List (Int × RowRow)} : ∀ (k y : Nat) (acc out : List RowRow), bldL A l k y acc = some out → acc.length = y → (∀ i, i < y → out[i]? = acc[i]?) ∧ ∀ i, y ≤ i → i < y + k → ((∃ r, mgl (i : Int) l = some r ∧ out[i]? = some r ∧ A[i]? ≠ some r) ∨ (mgl (i : Int) l = none ∧ out[i]? = A[i]?))
  | 0, y, acc, out, h, hl => by
    injection h with h
    subst h
    exact ⟨fun _ _ => rfl, fun i h1 h2 => by omega⟩
  | k + 1, y, acc, out, h, hl => by
    have go : ∀ r, bldL A l k (y + 1) (acc ++ [r]) = some out → (∀ i, i < y → out[i]? = acc[i]?) ∧ out[y]? = some r ∧ ∀ i, y + 1 ≤ i → i < y + (k + 1) → ((∃ r, mgl (i : Int) l = some r ∧ out[i]? = some r ∧ A[i]? ≠ some r) ∨ (mgl (i : Int) l = none ∧ out[i]? = A[i]?)) := by
      intro r h2
      obtain ⟨p1, p2⟩ := bldL_spec k (y + 1) (acc ++ [r]) out h2 (by simp [hl])
      refine ⟨fun i hi => ?_, ?_, fun i h1 h2 => p2 i h1 (by omega)⟩
      · rw [p1 i (by omega), List.getElem?_append_left (by omega)]
      · rw [p1 y (by omega), List.getElem?_append_right (by omega), hl, Nat.sub_self]
        rfl
    have fin : ∀ r, bldL A l k (y + 1) (acc ++ [r]) = some out → ((∃ r', mgl (y : Int) l = some r' ∧ some r = some r' ∧ A[y]? ≠ some r') ∨ (mgl (y : Int) l = none ∧ some r = A[y]?)) → (∀ i, i < y → out[i]? = acc[i]?) ∧ ∀ i, y ≤ i → i < y + (k + 1) → ((∃ r, mgl (i : Int) l = some r ∧ out[i]? = some r ∧ A[i]? ≠ some r) ∨ (mgl (i : Int) l = none ∧ out[i]? = A[i]?)) := by
      intro r h2 h3
      obtain ⟨g1, g2, g3⟩ := go r h2
      refine ⟨g1, fun i hi1 hi2 => ?_⟩
      by_cases hiy : i = y
      · subst hiy
        rw [g2]
        exact h3
      · exact g3 i (by omega) hi2
    simp only [bldL] at h
    split at h
    · rename_i r q h1 h2
      split at h
      · cases h
      · rename_i hq
        exact fin r h (.inl ⟨r, h1, rfl, by rw [h2]; exact fun hh => hq (Option.some.inj hh)⟩)
    · rename_i r h1 h2
      exact fin r h (.inl ⟨r, h1, rfl, by rw [h2]; exact fun hh => by cases hh⟩)
    · rename_i q h1 h2
      exact fin q h (.inr ⟨h1, h2.symm⟩)
    · cases h
theorem lim_enc2 {i : NumIn} {m : Int} (hV : VI i) (h : (limS i m).2.e = 0) : i.e = 0 ∧ sbs i.s = encC (limS i m).1 ++ sbs (limS i m).2.s := by
  obtain ⟨h1, w, h2, h3, h4, h5⟩ := lim_ok h hV
  exact ⟨h1, by rw [h2, encC_nat h4]; exact h5⟩
theorem apply_diff (a : SnapSnap) (s : ByteArray) (hma : mayB a = true) (h : s.size ≤ 100000) (hok : (applyS a s).2 = 0) : diffS a (applyS a s).1 = s := by
  obtain ⟨vB, vC, vF, vH, vK, vN, vR⟩ := zVI (s := s) (by omega)
  have v0 : VI (⟨s, 0⟩ : NumIn) := ⟨by show s.size ≤ 1000000; omega, .inl rfl⟩
  have vA : VI (zA s).2 := rd_VI v0
  have vD : VI (zD s).2 := lim_VI _ vC
  have vE : VI (zE s).2 := rd_VI vD
  have vT : VI (zT s).2 := txt_VI vF
  have vG : VI (zG s).2 := rd_VI vT
  unfold applyS at hok ⊢
  rw [hma, if_neg (by simp)] at hok ⊢
  by_cases hE : endN (zR s).2 = 0
  rotate_left
  · rw [if_pos hE] at hok
    exact absurd hok hE
  rw [if_neg (fun hh => hh hE)] at hok ⊢
  by_cases hS : (zA s).1 = ((sumB (packS a) : Nat) : Int)
  rotate_left
  · rw [if_pos hS] at hok
    exact absurd hok (by decide)
  rw [if_neg (fun hh => hh hS)] at hok ⊢
  cases hb : bldL a.rows (zR s).1 (zD s).1.toNat 0 [] with
  | none => rw [hb] at hok; exact absurd (show (1 : Int) = 0 from hok) (by decide)
  | some l =>
    rw [hb] at hok
    dsimp only at hok ⊢
    cases hn : nullS (setR (zS s) l) with
    | true => rw [hn] at hok; exact absurd (show (1 : Int) = 0 from hok) (by decide)
    | false =>
      rw [if_neg (by simp)]
      dsimp only
      obtain ⟨he, hs0⟩ := endN_zero vR hE
      have hbad : badD a (setR (zS s) l) = false := by unfold badD; rw [hma, hn]; rfl
      have hd : diffS a (setR (zS s) l) = bstr (pdel a (setR (zS s) l)) := by unfold diffS; rw [hbad]; rfl
      rw [hd]
      -- the bytes
      have heN : (zN s).2.e = 0 := dlL_e _ _ _ _ _ _ he
      obtain ⟨heK, bN⟩ := rd_enc2 vK heN
      obtain ⟨heH, bK⟩ := bkS_bytes vH heK
      obtain ⟨heG, bH⟩ := rd_enc2 vG heH
      obtain ⟨heT, bG⟩ := rd_enc2 vT heG
      obtain ⟨heF, bT⟩ := txt_ok vF heT
      obtain ⟨heE, bF⟩ := rd_enc2 vE heF
      obtain ⟨heD, bE⟩ := rd_enc2 vD heE
      obtain ⟨heC, bD⟩ := lim_enc2 vC heD
      obtain ⟨heB, bC⟩ := lim_enc2 vB heC
      obtain ⟨heA, bB⟩ := rd_enc2 vA heB
      obtain ⟨-, bA⟩ := rd_enc2 v0 heA
      obtain ⟨D, d1, d2⟩ := dlL_bytes _ _ _ _ _ _ vN he
      have hD : prl (zR s).1 = D := d1
      have hbs : sbs s = encC (zA s).1 ++ (encC (zB s).1 ++ (encC (zC s).1 ++ (encC (zD s).1 ++ (encC (zE s).1 ++ (encC (zF s).1 ++ (encC (zT s).1.size ++ sbs (zT s).1 ++ (encC (zG s).1 ++ (encC (zH s).1 ++ (pbook (zK s).1 ++ (encC (zN s).1 ++ prl (zR s).1)))))))))) := by
        have c1 : sbs (zR s).2.s = [] := by rw [hs0]; rfl
        have c2 : sbs (zN s).2.s = prl (zR s).1 := by
          have : sbs (zN s).2.s = D ++ sbs (zR s).2.s := d2
          rw [this, c1, List.append_nil, hD]
        have c3 : sbs (zK s).2.s = encC (zN s).1 ++ sbs (zN s).2.s := bN
        have c4 : sbs (zH s).2.s = pbook (zK s).1 ++ sbs (zK s).2.s := bK
        have c5 : sbs (zG s).2.s = encC (zH s).1 ++ sbs (zH s).2.s := bH
        have c6 : sbs (zT s).2.s = encC (zG s).1 ++ sbs (zG s).2.s := bG
        have c7 : sbs (zF s).2.s = encC (zT s).1.size ++ sbs (zT s).1 ++ sbs (zT s).2.s := bT
        have c8 : sbs (zE s).2.s = encC (zF s).1 ++ sbs (zF s).2.s := bF
        have c9 : sbs (zD s).2.s = encC (zE s).1 ++ sbs (zE s).2.s := bE
        have c10 : sbs (zC s).2.s = encC (zD s).1 ++ sbs (zD s).2.s := bD
        have c11 : sbs (zB s).2.s = encC (zC s).1 ++ sbs (zC s).2.s := bC
        have c12 : sbs (zA s).2.s = encC (zB s).1 ++ sbs (zB s).2.s := bB
        have c13 : sbs s = encC (zA s).1 ++ sbs (zA s).2.s := bA
        rw [c13, c12, c11, c10, c9, c8, c7, c6, c5, c4, c3, c2]
      -- the rows
      obtain ⟨last', K0⟩ := dlL_KO _ _ _ _ _ _ vN ⟨.nil, fun p hp => by cases hp⟩ he
      have K : KO (zD s).1 last' (zR s).1 := K0
      have hspec := (bldL_spec _ _ _ _ hb rfl).2
      have hlen := (bldL_props (fun _ => True) (fun _ _ => trivial) (fun _ _ => trivial) _ _ _ _ hb (fun _ _ => trivial)).2
      simp only [List.length_nil, Nat.zero_add] at hlen
      have c1 := lim_range (m := 1000) vC (by omega)
      have hD0 : 0 ≤ (zD s).1 := c1.1
      have hkeyb : ∀ (y : Nat) r, mgl (y : Int) (zR s).1 = some r → y < l.length := by
        intro y r hr
        have := (K.b _ (mgl_mem hr)).2.2
        dsimp only at this
        have h2 : ((y : Int)) < (zD s).1 := this
        omega
      have hprs : (zR s).1 = prs l (chg a.rows l) := by
        refine sorted_ext _ _ K.r (fun p hp => (K.b p hp).1) (chN_sorted _ _ _) (fun y => ?_) l (fun y r hr => ?_)
        · show y ∈ chN a.rows l l.length ↔ _
          rw [chN_mem]
          constructor
          · rintro ⟨h1, h2⟩
            rcases hspec y (Nat.zero_le _) (by omega) with ⟨r, h3, -, -⟩ | ⟨h3, h4⟩
            · exact ⟨r, h3⟩
            · exact absurd h4.symm h2
          · rintro ⟨r, hr⟩
            have hy := hkeyb y r hr
            rcases hspec y (Nat.zero_le _) (by omega) with ⟨r', h3, h4, h5⟩ | ⟨h3, h4⟩
            · exact ⟨hy, by rw [h4]; exact h5⟩
            · rw [h3] at hr; cases hr
        · have hy := hkeyb y r hr
          rcases hspec y (Nat.zero_le _) (by omega) with ⟨r', h3, h4, h5⟩ | ⟨h3, h4⟩
          · rw [h3] at hr
            rw [h4]
            exact Option.some.inj hr
          · rw [h3] at hr; cases hr
      have hcount : (zN s).1 = ((chg a.rows l).length : Int) := by
        have h1 : (zR s).1.length = ([] : List (Int × RowRow)).length + (zN s).1.toNat := dlL_len2 _ _ _ _ _ _ he
        have h2 : (zR s).1.length = (zN s).1.toNat := by rw [h1]; simp
        have h3 : (zR s).1.length = (chg a.rows l).length := by rw [hprs]; simp [prs]
        have h4 : 0 ≤ (zN s).1 := (rd_range vK).1
        omega
      have hprl : prl (zR s).1 = pch l (chg a.rows l) := by
        rw [hprs]
        unfold prl pch prs
        rw [List.flatMap_map]
      apply sbs_inj
      rw [sbs_bstr _ (BB_pdel _ _), hbs, hcount, hprl, hS]
      unfold pdel dhead setR zS
      simp only [List.flatMap_cons, List.flatMap_nil, List.append_nil, List.append_assoc]
end Go.Tw.X

set_option linter.unusedVariables false
set_option linter.unusedSimpArgs false
namespace Go.Tw.X
open Go Go.Tw
theorem diffS_size (a b : SnapSnap) (hb : SW b) (pb : (b.rows.flatMap prow).length ≤ 12000) : (diffS a b).size ≤ 61000 := by
  unfold diffS
  split
  · exact Nat.zero_le _
  · rw [bstr_size]
    unfold pdel
    have h1 := dhead_len a b hb
    have h2 := pch_le a.rows b.rows pb hb.rl b.rows.length (Nat.le_refl _)
    have h3 : (pch b.rows (chg a.rows b.rows)).length ≤ 21000 := h2
    rw [List.length_append]
    omega
theorem zero_pk : (zeroS.rows.flatMap prow).length ≤ 12000 := by decide
theorem oneS_pk : (oneS.rows.flatMap prow).length ≤ 12000 := by
  have h := prows_len 1 oneS.rows (by
    intro r hr
    rw [List.mem_singleton.1 hr]
    decide)
  have h2 : oneS.rows.length = 1 := rfl
  omega
theorem oneS_null : nullS oneS = false := by unfold nullS; rw [oneS_empty, oneS_may]; rfl
theorem zero_may : mayB zeroS = true := by
  unfold mayB
  have : emptyB zeroS = true := empty_iff.2 rfl
  rw [this]
  rfl
theorem del_one : pdel zeroS oneS = [0, 1, 1, 1, 0, 0, 0, 0, 0, 0, 1, 0, 0, 1, 32, 0, 0] := by
  have e0 : encC 0 = [0] := enc_small (n := 0) (by omega)
  have e1 : encC 1 = [1] := enc_small (n := 1) (by omega)
  have e32 : encC 32 = [32] := enc_small (n := 32) (by omega)
  have hz : (noS.size : Int) = 0 := rfl
  have hs : sbs noS = [] := rfl
  have hr : runsL [blk 0] = [(1, blk 0)] := rfl
  have hp : packS zeroS = noS := by unfold packS; rw [if_pos (.inl (empty_iff.2 rfl))]
  have hsum : sumB noS = 0 := by
    unfold sumB
    rw [hs]
    decide
  have hc : chg zeroS.rows oneS.rows = [0] := rfl
  have hg : (oneS.rows[0]?).getD nilR = ⟨[blk 0], false⟩ := rfl
  unfold pdel dhead
  rw [hp, hsum, hc]
  unfold pch pbook
  simp only [List.flatMap_cons, List.flatMap_nil, List.append_nil, hg]
  unfold oneS
  dsimp only
  unfold prow
  simp only [List.flatMap_cons, List.flatMap_nil, hr, hz, hs, e0, e1, List.append_nil, List.length_nil]
  unfold encRun blk
  simp only [List.flatMap_cons, List.flatMap_nil, e0, e32, List.append_nil]
  have e1' : encC ((1 : Nat) : Int) = [1] := enc_small (n := 1) (by omega)
  have e0' : encC ((0 : Nat) : Int) = [0] := enc_small (n := 0) (by omega)
  simp [e0, e0', e1, e1']
theorem diff_one : diffS zeroS oneS = ByteArray.mk #[0, 1, 1, 1, 0, 0, 0, 0, 0, 0, 1, 0, 0, 1, 32, 0, 0] := by
  have hb : badD zeroS oneS = false := by unfold badD; rw [zero_may, oneS_null]; rfl
  unfold diffS
  rw [hb, del_one]
  rfl
theorem awake17_eq : p_law17_awake = some true := by
  unfold p_law17_awake
  have hz : SnapSnap.mk 0 0 0 0 0 (ByteArray.mk #[]) ([] : List RowRow) 0 0 ([] : List RowGlyph) = zeroS := rfl
  have hr : p_row_Blank 1 0 = some ⟨[blk 0], false⟩ := by rw [blank_row_eq]; rfl
  have ho : SnapSnap.mk 1 1 1 0 0 (ByteArray.mk #[]) [⟨[blk 0], false⟩] 0 0 ([] : List RowGlyph) = oneS := rfl
  rw [hr, bnd_some, hz, ho, diff_eq zeroS oneS zeroS_SW oneS_SW zero_pk oneS_pk, bnd_some]
  obtain ⟨d1, d2⟩ := diff_back zeroS oneS oneS_SW zero_may oneS_null
  have hsz := diffS_size zeroS oneS oneS_SW oneS_pk
  rw [apply_eq zeroS _ zeroS_SW zero_pk (by omega) (by rw [d1]; decide), bnd_some, d2, diff_one]
  have k1 : ((ByteArray.mk #[0, 1, 1, 1, 0, 0, 0, 0, 0, 0, 1, 0, 0, 1, 32, 0, 0]).toList == (ByteArray.mk #[0, 1, 1, 1, 0, 0, 0, 0, 0, 0, 1, 0, 0, 1, 32, 0, 0]).toList) = true := by
    rw [str_eqb]
    exact decide_eq_true rfl
  rw [k1, cond_true]
  dsimp only
  rw [ssame_eq oneS oneS oneS_SW, decide_eq_true rfl]
  rfl
/-- What a law's cut gives. -/
structure CT1 (x : SnapSnap) : Prop where
  sw : SW x
  pk : (x.rows.flatMap prow).length ≤ 11600
theorem cut_ct {s : SnapSnap} (h : wfSnapSnap s) : CT1 (cutS s) := by
  refine ⟨cut_SW h, ?_⟩
  have h1 := prows_len 40 (cutS s).rows (by
    intro r hr
    obtain ⟨q, hq, rfl⟩ := List.mem_map.1 hr
    show (q.cells.take 40).length ≤ 40
    rw [List.length_take]
    omega)
  have h2 : (cutS s).rows.length ≤ 8 := by
    show ((s.rows.take 8).map anyR).length ≤ 8
    rw [List.length_map, List.length_take]
    omega
  have h3 : (cutS s).rows.length * (9 + 36 * 40) ≤ 8 * (9 + 36 * 40) := Nat.mul_le_mul_right _ h2
  omega
theorem zT_size {s : ByteArray} (h : s.size ≤ 1000) : (zT s).1.size ≤ 1000 := by
  have v0 : SZ s.size (⟨s, 0⟩ : NumIn) := ⟨⟨by show s.size ≤ 1000000; omega, .inl rfl⟩, Nat.le_refl _⟩
  have s1 : SZ s.size (zF s).2 := rd_sz (rd_sz (lim_sz _ (lim_sz _ (rd_sz (rd_sz v0)))))
  have := (txt_size s1.1 s1.2).1
  have h2 : (zT s).1.size ≤ s.size := this
  omega
/-- What an applied one is. -/
theorem applied_SW (a : SnapSnap) (s : ByteArray) (ha : SW a) (pa : (a.rows.flatMap prow).length ≤ 12000) (h : s.size ≤ 100000) (ht : (zT s).1.size ≤ 1000) : SW (applyS a s).1 ∧ ((applyS a s).1.rows.flatMap prow).length ≤ (a.rows.flatMap prow).length + s.size := by
  have z : SW zeroS ∧ (zeroS.rows.flatMap prow).length ≤ (a.rows.flatMap prow).length + s.size := ⟨zeroS_SW, Nat.zero_le _⟩
  unfold applyS
  split
  · exact z
  · split
    · exact z
    · rename_i hE
      split
      · exact z
      · obtain ⟨vB, vC, vF, vH, vK, vN, vR⟩ := zVI (s := s) (by omega)
        obtain ⟨he, hs0⟩ := endN_zero vR (Classical.not_not.1 hE)
        split
        · exact z
        · rename_i l hl
          split
          · exact z
          · refine ⟨(built_SW ha pa h ht he hl).1, ?_⟩
            have p3 := bldL_len _ _ _ _ hl
            have p4 := tot_le ((0 : Nat) : Int) (zR s).1
            have p5 := zR_len (by omega) he
            have p6 : ((a.rows.drop 0).flatMap prow).length = (a.rows.flatMap prow).length := by simp
            simp only [List.flatMap_nil, List.length_nil] at p3
            show (l.flatMap prow).length ≤ _
            omega
theorem pure_DeltaApplies {a : SnapSnap} {s_ : ByteArray} (h0 : wfSnapSnap a) (h1 : s_.size ≤ maxLen) : p_law17_DeltaApplies a s_ = some true := by
  unfold p_law17_DeltaApplies
  have e1 := cut01_eq s_ 300
  have e2 := cutB_size s_ 300
  rw [awake17_eq, bnd_some, Bool.not_true, cond_false, cut16_eq, bnd_some, show p_law01_Cut s_ 300 = some (cutB s_ 300) from e1, bnd_some]
  obtain ⟨Sa, Pa⟩ := cut_ct h0
  generalize cutS a = x at Sa Pa
  generalize cutB s_ 300 = s at e2
  have ht := zT_size (s := s) (by omega)
  have hA := apply_eq x s Sa (by omega) (by omega) ht
  have hR := rapply_eq x s Sa (by omega) (by omega) ht
  obtain ⟨Sc, Pc⟩ := applied_SW x s Sa (by omega) (by omega) ht
  rw [hA, bnd_some, told16_eq x Sa, bnd_some, hR, bnd_some]
  dsimp only
  have k1 : ((applyS x s).2 == (applyS x s).2) = true := by simp
  rw [k1, cond_true, is16_eq _ _ Sc Sc, decide_eq_true rfl, bnd_some, cond_true]
  by_cases he : (applyS x s).2 = 0
  · have k2 : ((applyS x s).2 != 0) = false := by simp [he]
    have hm : mayB x = true := by
      cases hm : mayB x with
      | true => rfl
      | false =>
        unfold applyS at he
        rw [hm, if_pos rfl] at he
        exact absurd (show (1 : Int) = 0 from he) (by decide)
    rw [k2, cond_false, diff_eq x _ Sa Sc (by omega) (by omega), bnd_some, apply_diff x s hm (by omega) he]
    simp
  · have k2 : ((applyS x s).2 != 0) = true := by simp [he]
    rw [k2, cond_true]
    rfl
end Go.Tw.X

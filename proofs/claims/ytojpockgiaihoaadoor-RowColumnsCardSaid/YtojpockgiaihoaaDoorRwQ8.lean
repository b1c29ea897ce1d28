import Derived.Test.YtojpockgiaihoaaDoorRwQ7
set_option linter.unusedVariables false
set_option linter.unusedSimpArgs false
namespace Go.Tw.Rw
open Go Go.Tw
theorem apnil (n : Nat) (h : n ≤ 1000000) : chk (apok ([] : List Ref09Cell).length n 24) = some () := apok_true (by simp; omega)
theorem told_len (l : List RowCell) : (l.map tc).length = l.length := List.length_map _
theorem tc_blk (s : Int) : tc (blk s) = ⟨32, s, 0⟩ := rfl
theorem rerase_eq (l : List RowCell) (w : Bool) (a b s : Int) (h : l.length ≤ 1000000) : p_ref09_Erase ⟨l.map tc, w⟩ a b s = some ⟨(mendS 0 (eraseL a b s 0 l)).map tc, false⟩ := by
  unfold p_ref09_Erase
  simp only [told_len, List.nil_append]
  rw [apnil _ h, bnd_some]
  have key : ∀ (r d o : List RowCell), d ++ r = l → o.length = d.length → iter (σ := Int × (List Ref09Cell)) (ρ := (List Ref09Cell)) (fun s127 => (bif (decide (s127.1 < (l.length : Int))) then (Option.bind ((Option.bind ((bif (decide (s127.1 ≥ a)) then some (decide (s127.1 < b)) else some false) : Option Bool) fun e230 => (bif e230 then (Option.bind (idx s127.2 s127.1) fun x235 => some (s127.2.set s127.1.toNat (Ref09Cell.mk 32 s 0))) else some s127.2)) : Option (List Ref09Cell)) fun e224 => some (.inl ((IntKind.i64.wrap (s127.1 + 1)), e224))) else some (.inr s127.2))) ((d.length : Int), (o ++ r).map tc) = some ((o ++ eraseL a b s (d.length : Int) r).map tc) := by
    intro r
    induction r with
    | nil =>
      intro d o hd ho
      simp at hd
      subst hd
      rw [iter_inr (r := (o ++ []).map tc)]
      · simp [eraseL]
      · simp
    | cons c r ih =>
      intro d o hd ho
      have hl : l.length = d.length + r.length + 1 := by rw [← hd]; simp; omega
      have hc : decide ((d.length : Int) < (l.length : Int)) = true := by simp; omega
      generalize hc' : (if a ≤ (d.length : Int) ∧ (d.length : Int) < b then blk s else c) = c'
      rw [iter_inl (s' := (((d ++ [c]).length : Int), ((o ++ [c']) ++ r).map tc))]
      · rw [ih (d ++ [c]) (o ++ [c']) (by simpa using hd) (by simp [ho])]
        simp [eraseL, hc']
      · simp only [hc, cond_true]
        rw [w64 (by omega) (by omega)]
        have hx : idx ((o ++ c :: r).map tc) (d.length : Int) = some (tc c) := by
          rw [← ho, List.map_append, List.map_cons, ← told_len o]
          exact idx_mid _ _ _
        by_cases h1 : a ≤ (d.length : Int)
        · by_cases h2 : (d.length : Int) < b
          · rw [decide_eq_true (show (d.length : Int) ≥ a from h1), cond_true, decide_eq_true h2, bnd_some, cond_true, hx, bnd_some, bnd_some]
            rw [if_pos ⟨h1, h2⟩] at hc'
            subst hc'
            congr 2
            refine Prod.ext (by simp) ?_
            show ((o ++ c :: r).map tc).set ((d.length : Int).toNat) _ = _
            rw [Int.toNat_natCast, ← ho, List.map_append, List.map_cons]
            simp [tc_blk]
          · rw [decide_eq_true (show (d.length : Int) ≥ a from h1), cond_true, decide_eq_false h2, bnd_some, cond_false, bnd_some]
            rw [if_neg (by omega)] at hc'
            subst hc'
            simp
        · rw [decide_eq_false (show ¬ (d.length : Int) ≥ a from h1), cond_false, bnd_some, cond_false, bnd_some]
          rw [if_neg (by omega)] at hc'
          subst hc'
          simp
  have h0 := key l [] [] rfl rfl
  have e0 : ((([] : List RowCell).length : Nat) : Int) = 0 := rfl
  rw [e0] at h0
  simp only [List.nil_append] at h0
  rw [h0, bnd_some, rmend_eq _ (by rw [eraseL_length]; exact h), bnd_some]
theorem rfill_eq (l : List RowCell) (w : Bool) (s : Int) (h : l.length ≤ 1000000) : p_ref09_Fill ⟨l.map tc, w⟩ s = some ⟨(mendS 0 (fillL l s)).map tc, true⟩ := by
  unfold p_ref09_Fill
  simp only [told_len, List.nil_append]
  rw [apnil _ h, bnd_some]
  by_cases h0 : (l.length : Int) > 0
  · have ew : IntKind.i64.wrap ((l.length : Int) - 1) = ((l.length - 1 : Nat) : Int) := by rw [w64 (by omega) (by omega)]; omega
    rw [decide_eq_true h0, cond_true, ew, idx_nat, List.getElem?_eq_getElem (by rw [told_len]; omega), bnd_some, bnd_some, Int.toNat_natCast]
    have e : (l.map tc).set (l.length - 1) ⟨32, s, 3⟩ = (fillL l s).map tc := by
      unfold fillL
      rw [List.map_set]
      rfl
    rw [e, rmend_eq _ (by simp [fillL]; exact h), bnd_some]
  · have hn : l = [] := List.eq_nil_of_length_eq_zero (by omega)
    rw [decide_eq_false h0, cond_false, bnd_some, rmend_eq _ h, bnd_some]
    simp [fillL, hn]
theorem rmin (x y : Int) : (if x < y then x else y) = min y x := by split <;> omega
theorem rinsert_eq (l : List RowCell) (w : Bool) (at_ n s : Int) (h : l.length ≤ 1000) (ha : -9223372036854775808 ≤ at_) (hb : at_ ≤ 9223372036854775807) : p_ref09_Insert ⟨l.map tc, w⟩ at_ n s = some ⟨(mendS 0 (if withinS l at_ n = 0 then l else insertL l at_.toNat (withinS l at_ n).toNat s)).map tc, false⟩ := by
  unfold p_ref09_Insert
  simp only [told_len, List.nil_append, rmin]
  by_cases h0 : at_ < 0 ∨ at_ ≥ l.length ∨ n ≤ 0
  · have e : ((bif (decide (at_ < 0)) then some true else (bif (decide (at_ ≥ (l.length : Int))) then some true else some (decide (n ≤ 0)))) : Option Bool) = some true := by
      rcases h0 with h0 | h0 | h0
      · simp [h0]
      · cases h1 : decide (at_ < 0) <;> simp [h0]
      · cases h1 : decide (at_ < 0) <;> cases h2 : decide (at_ ≥ (l.length : Int)) <;> simp [h0]
    have hw : withinS l at_ n = 0 := by unfold withinS; split <;> omega
    rw [e, bnd_some, cond_true, rmend_eq _ (by omega), bnd_some, if_pos hw]
  · have e : ((bif (decide (at_ < 0)) then some true else (bif (decide (at_ ≥ (l.length : Int))) then some true else some (decide (n ≤ 0)))) : Option Bool) = some false := by
      rw [decide_eq_false (by omega : ¬ at_ < 0), decide_eq_false (by omega : ¬ at_ ≥ (l.length : Int)), decide_eq_false (by omega : ¬ n ≤ 0)]
      rfl
    have hw : withinS l at_ n = min n (l.length - at_) := by unfold withinS; rw [if_neg (by omega)]; omega
    rw [e, bnd_some, cond_false, w64 (x := (l.length : Int) - at_) (by omega) (by omega), ← hw]
    have hb2 : 0 < withinS l at_ n ∧ at_ + withinS l at_ n ≤ l.length := by omega
    rw [if_neg (by omega)]
    generalize withinS l at_ n = v at hb2
    clear hw e
    obtain ⟨k, rfl⟩ : ∃ k : Nat, at_ = k := ⟨at_.toNat, by omega⟩
    obtain ⟨m, rfl⟩ : ∃ m : Nat, v = m := ⟨v.toNat, by omega⟩
    have c1 : cut (l.map tc) 0 (k : Int) = (l.take k).map tc := by simp [cut, List.map_take]
    have c2 : cut (l.map tc) (k : Int) ((l.length : Int) - (m : Int)) = ((l.take (l.length - m)).drop k).map tc := by
      have e : ((l.length : Int) - (m : Int)).toNat = l.length - m := by omega
      unfold cut
      rw [e, Int.toNat_natCast, List.map_drop, List.map_take]
    rw [cutok_true (by omega) (by omega) (by omega), bnd_some, c1, apok_true (by simp; omega), bnd_some, rblank_eq, bnd_some, w64 (x := (l.length : Int) - (m : Int)) (by omega) (by omega), apok_true (by simp; omega), bnd_some, cutok_true (by omega) (by omega) (by omega), bnd_some, c2, apok_true (by simp; omega), bnd_some]
    have em : (max 0 (min (m : Int) 1000)).toNat = m := by omega
    rw [em, ← List.map_append, ← List.map_append, Int.toNat_natCast, Int.toNat_natCast]
    have ei : l.take k ++ List.replicate m (blk s) ++ (l.take (l.length - m)).drop k = insertL l k m s := by
      unfold insertL
      have hkm : k + m ≤ l.length := by omega
      have hA : (l.take k ++ List.replicate m (blk s)).length = k + m := by rw [List.length_append, List.length_take, List.length_replicate]; omega
      have hT := List.take_of_length_le (l := l.take k ++ List.replicate m (blk s)) (i := l.length) (by rw [hA]; exact hkm)
      rw [List.take_append, hA, hT, List.drop_take, Nat.sub_sub, Nat.add_comm m k]
    rw [ei, rmend_eq _ (by unfold insertL; simp; omega), bnd_some]
theorem rdelete_eq (l : List RowCell) (w : Bool) (at_ n s : Int) (h : l.length ≤ 1000) (ha : -9223372036854775808 ≤ at_) (hb : at_ ≤ 9223372036854775807) : p_ref09_Delete ⟨l.map tc, w⟩ at_ n s = some ⟨(mendS 0 (if withinS l at_ n = 0 then l else deleteL l at_.toNat (withinS l at_ n).toNat s)).map tc, false⟩ := by
  unfold p_ref09_Delete
  simp only [told_len, List.nil_append, rmin]
  by_cases h0 : at_ < 0 ∨ at_ ≥ l.length ∨ n ≤ 0
  · have e : ((bif (decide (at_ < 0)) then some true else (bif (decide (at_ ≥ (l.length : Int))) then some true else some (decide (n ≤ 0)))) : Option Bool) = some true := by
      rcases h0 with h0 | h0 | h0
      · simp [h0]
      · cases h1 : decide (at_ < 0) <;> simp [h0]
      · cases h1 : decide (at_ < 0) <;> cases h2 : decide (at_ ≥ (l.length : Int)) <;> simp [h0]
    have hw : withinS l at_ n = 0 := by unfold withinS; split <;> omega
    rw [e, bnd_some, cond_true, rmend_eq _ (by omega), bnd_some, if_pos hw]
  · have e : ((bif (decide (at_ < 0)) then some true else (bif (decide (at_ ≥ (l.length : Int))) then some true else some (decide (n ≤ 0)))) : Option Bool) = some false := by
      rw [decide_eq_false (by omega : ¬ at_ < 0), decide_eq_false (by omega : ¬ at_ ≥ (l.length : Int)), decide_eq_false (by omega : ¬ n ≤ 0)]
      rfl
    have hw : withinS l at_ n = min n (l.length - at_) := by unfold withinS; rw [if_neg (by omega)]; omega
    rw [e, bnd_some, cond_false, w64 (x := (l.length : Int) - at_) (by omega) (by omega), ← hw]
    have hb2 : 0 < withinS l at_ n ∧ at_ + withinS l at_ n ≤ l.length := by omega
    rw [if_neg (by omega)]
    generalize withinS l at_ n = v at hb2
    clear hw e
    obtain ⟨k, rfl⟩ : ∃ k : Nat, at_ = k := ⟨at_.toNat, by omega⟩
    obtain ⟨m, rfl⟩ : ∃ m : Nat, v = m := ⟨v.toNat, by omega⟩
    have c1 : cut (l.map tc) 0 (k : Int) = (l.take k).map tc := by simp [cut, List.map_take]
    have ek : (k : Int) + (m : Int) = ((k + m : Nat) : Int) := by omega
    have c2 : cut (l.map tc) ((k + m : Nat) : Int) (l.length : Int) = (l.drop (k + m)).map tc := by
      unfold cut
      rw [Int.toNat_natCast, Int.toNat_natCast, List.take_of_length_le (by rw [told_len]; exact Nat.le_refl _), List.map_drop]
    rw [cutok_true (by omega) (by omega) (by omega), bnd_some, c1, apok_true (by simp; omega), bnd_some, w64 (x := (k : Int) + (m : Int)) (by omega) (by omega), ek, cutok_true (by omega) (by omega) (by omega), bnd_some, c2, apok_true (by simp; omega), bnd_some, rblank_eq, bnd_some, apok_true (by simp; omega), bnd_some]
    have em : (max 0 (min (m : Int) 1000)).toNat = m := by omega
    rw [em, ← List.map_append, ← List.map_append, Int.toNat_natCast, Int.toNat_natCast]
    change (Option.bind (p_ref09_mend ((deleteL l k m s).map tc)) _) = _
    rw [rmend_eq _ (by unfold deleteL; simp; omega), bnd_some]
theorem rresize_eq (l : List RowCell) (w : Bool) (v : Int) (h : l.length ≤ 1000000) : p_ref09_Resize ⟨l.map tc, w⟩ v = some (if (max 0 (min v 1000)).toNat = l.length then ⟨l.map tc, w⟩ else ⟨(mendS 0 (resizeL l (max 0 (min v 1000)).toNat)).map tc, false⟩) := by
  unfold p_ref09_Resize
  rw [near_eq _ _ _ (by omega), bnd_some]
  simp only [told_len, List.nil_append]
  generalize hv : max 0 (min v 1000) = u
  obtain ⟨k, rfl⟩ : ∃ k : Nat, u = k := ⟨u.toNat, by omega⟩
  rw [Int.toNat_natCast]
  by_cases h0 : k = l.length
  · have e : ((k : Int) == (l.length : Int)) = true := by simp [h0]
    rw [e, cond_true, if_pos h0]
  · have e : ((k : Int) == (l.length : Int)) = false := by rw [beq_eq_false_iff_ne]; omega
    have ec : (if (l.length : Int) < (k : Int) then (l.length : Int) else (k : Int)) = ((min k l.length : Nat) : Int) := by split <;> omega
    have c1 : cut (l.map tc) 0 ((min k l.length : Nat) : Int) = (l.take k).map tc := by
      simp only [cut, Int.toNat_natCast, Int.toNat_zero, List.drop_zero]
      rw [← List.take_take, ← told_len l, List.take_length, List.map_take]
    rw [e, cond_false, if_neg h0, ec, cutok_true (by omega) (by omega) (by omega), bnd_some, c1, apok_true (by simp; omega), bnd_some]
    have e3 : (((l.take k).map tc).length : Int) = ((min k l.length : Nat) : Int) := by simp
    rw [e3, w64 (by omega) (by omega), rblank_eq, bnd_some, apok_true (by simp; omega), bnd_some, ← List.map_append]
    have c2 : l.take k ++ List.replicate (max 0 (min ((k : Int) - ((min k l.length : Nat) : Int)) 1000)).toNat (blk 0) = resizeL l k := by
      unfold resizeL
      congr 2
      omega
    rw [c2, rmend_eq _ (by unfold resizeL; simp; omega), bnd_some]
end Go.Tw.Rw

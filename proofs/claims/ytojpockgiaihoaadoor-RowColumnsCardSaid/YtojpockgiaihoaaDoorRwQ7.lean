import Derived.Test.YtojpockgiaihoaaDoorRwQ6
set_option linter.unusedVariables false
set_option linter.unusedSimpArgs false
namespace Go.Tw.Rw
open Go Go.Tw
theorem rmend_eq (l : List RowCell) (h : l.length ≤ 1000000) : p_ref09_mend (l.map tc) = some ⟨(mendS 0 l).map tc, false⟩ := by
  unfold p_ref09_mend
  have hml : (l.map tc).length = l.length := List.length_map _
  rw [hml]
  have key : ∀ (r d o : List RowCell), d ++ r = l → o.length = d.length → iter (σ := Int × (List Ref09Cell)) (ρ := (List Ref09Cell)) (fun s287 => (bif (decide (s287.1 < (l.length : Int))) then (Option.bind (idx (l.map tc) s287.1) fun x510 => (Option.bind ((bif (x510.part == 1) then (bif ((IntKind.i64.wrap (s287.1 + 1)) == (l.length : Int)) then some true else (Option.bind (idx (l.map tc) (IntKind.i64.wrap (s287.1 + 1))) fun x552 => some (x552.part != 2))) else (bif (x510.part == 2) then (bif (s287.1 == 0) then some true else (Option.bind (idx s287.2 (IntKind.i64.wrap (s287.1 - 1))) fun x558 => some (x558.part != 1))) else (bif (x510.part == 3) then some (decide (s287.1 < (IntKind.i64.wrap ((l.length : Int) - 1)))) else some false))) : Option Bool) fun e547 => (Option.bind ((bif e547 then some (Ref09Cell.mk 32 x510.style 0) else some x510) : Option Ref09Cell) fun e567 => (Option.bind (chk (apok s287.2.length [e567].length 24)) fun _ => some (.inl ((IntKind.i64.wrap (s287.1 + 1)), (s287.2 ++ [e567]))))))) else some (.inr s287.2))) ((d.length : Int), o.map tc) = some ((o ++ mendS (lastP o) r).map tc) := by
    intro r
    induction r with
    | nil =>
      intro d o hd ho
      simp at hd
      subst hd
      rw [iter_inr (r := o.map tc)]
      · simp [mendS]
      · simp
    | cons c r ih =>
      intro d o hd ho
      have hl : l.length = d.length + r.length + 1 := by rw [← hd]; simp; omega
      rw [iter_inl (s' := (((d ++ [c]).length : Int), (o ++ [fixS (lastP o) c r]).map tc))]
      · rw [ih (d ++ [c]) (o ++ [fixS (lastP o) c r]) (by simpa using hd) (by simp [ho]), lastP_snoc]
        simp [mendS]
      · have hc : decide ((d.length : Int) < (l.length : Int)) = true := by simp; omega
        have em : l.map tc = d.map tc ++ tc c :: r.map tc := by rw [← hd]; simp
        have hdl : (d.map tc).length = d.length := List.length_map _
        have hx : idx (l.map tc) (d.length : Int) = some (tc c) := by rw [em, ← hdl]; exact idx_mid _ _ _
        have hx2 : idx (l.map tc) ((d.length : Int) + 1) = (r.map tc)[0]? := by rw [em, ← hdl]; exact idx_next _ _ _
        simp only [hc, cond_true, hx, bnd_some]
        rw [w64 (x := (d.length : Int) + 1) (by omega) (by omega), w64 (x := (d.length : Int) - 1) (by omega) (by omega), w64 (x := (l.length : Int) - 1) (by omega) (by omega), hx2]
        have hbad : ((bif ((tc c).part == 1) then (bif (((d.length : Int) + 1) == (l.length : Int)) then some true else (Option.bind ((r.map tc)[0]?) fun x552 => some (x552.part != 2))) else (bif ((tc c).part == 2) then (bif ((d.length : Int) == 0) then some true else (Option.bind (idx (o.map tc) ((d.length : Int) - 1)) fun x558 => some (x558.part != 1))) else (bif ((tc c).part == 3) then some (decide ((d.length : Int) < (l.length : Int) - 1)) else some false))) : Option Bool) = some (badS (lastP o) c r) := by
          have htc : (tc c).part = c.part := rfl
          rw [htc]
          unfold badS
          cases h1 : (c.part == 1) with
          | true =>
            simp only [cond_true]
            cases r with
            | nil =>
              have : (((d.length : Int) + 1) == (l.length : Int)) = true := by simp at hl ⊢; omega
              rw [this]
              rfl
            | cons e r =>
              have : (((d.length : Int) + 1) == (l.length : Int)) = false := by simp at hl ⊢; omega
              rw [this]
              rfl
          | false =>
            simp only [cond_false]
            cases h2 : (c.part == 2) with
            | true =>
              simp only [cond_true]
              cases ho0 : o with
              | nil =>
                have : d.length = 0 := by rw [← ho, ho0]; rfl
                have : ((d.length : Int) == 0) = true := by simp [this]
                rw [this]
                rfl
              | cons a t =>
                have hpos : 0 < d.length := by rw [← ho, ho0]; simp
                have hne : ((d.length : Int) == 0) = false := by rw [beq_eq_false_iff_ne]; omega
                have hol : ((a :: t).map tc).length = d.length := by rw [List.length_map, ← ho0, ho]
                have hi := idx_last ((a :: t).map tc) [] ⟨0, 0, 0⟩ ⟨0, 0, 0⟩ (by rw [hol]; exact hpos)
                have hlt : d.length - 1 < ((a :: t).map tc).length := by rw [hol]; omega
                have e1 : ((d.length : Int) - 1) = ((d.length - 1 : Nat) : Int) := by omega
                rw [hol, e1, idx_nat, List.getElem?_append_left hlt] at hi
                rw [hne, cond_false, e1, idx_nat, hi, bnd_some]
                have e2 : lastP (a :: t) = (lastD (⟨0, 0, 0⟩ : Ref09Cell) ((a :: t).map tc)).part := by
                  unfold lastP
                  rw [← lastD_map (fun c : Ref09Cell => c.part) ⟨0, 0, 0⟩ ((a :: t).map tc), List.map_map]
                  rfl
                rw [e2]
            | false =>
              simp only [cond_false]
              cases h3 : (c.part == 3) with
              | true =>
                simp only [cond_true]
                cases r with
                | nil =>
                  have : decide ((d.length : Int) < (l.length : Int) - 1) = false := decide_eq_false (by simp at hl; omega)
                  rw [this]
                  rfl
                | cons e r =>
                  have : decide ((d.length : Int) < (l.length : Int) - 1) = true := decide_eq_true (by simp at hl; omega)
                  rw [this]
                  rfl
              | false => rfl
        rw [hbad, bnd_some]
        have hfix : ((bif badS (lastP o) c r then some (Ref09Cell.mk 32 (tc c).style 0) else some (tc c)) : Option Ref09Cell) = some (tc (fixS (lastP o) c r)) := by
          unfold fixS
          cases badS (lastP o) c r <;> rfl
        rw [hfix, bnd_some, apok_true (by simp; omega), bnd_some]
        simp
  have h0 := key l [] [] rfl rfl
  have e0 : ((([] : List RowCell).length : Nat) : Int) = 0 := rfl
  rw [e0] at h0
  simp only [List.map_nil, List.nil_append] at h0
  rw [h0, bnd_some]
  rfl
theorem near_eq (n lo hi : Int) (h : lo ≤ hi) : p_ref09_near n lo hi = some (max lo (min n hi)) := by
  unfold p_ref09_near
  by_cases h1 : n < lo
  · rw [decide_eq_true h1, cond_true]; congr 1; omega
  · rw [decide_eq_false h1, cond_false]
    by_cases h2 : n > hi
    · rw [decide_eq_true h2, cond_true]; congr 1; omega
    · rw [decide_eq_false h2, cond_false]; congr 1; omega
theorem rblank_eq (w s : Int) : p_ref09_Blank w s = some ⟨(List.replicate (max 0 (min w 1000)).toNat (blk s)).map tc, false⟩ := by
  unfold p_ref09_Blank
  generalize hv : max 0 (min w 1000) = v
  obtain ⟨k, rfl⟩ : ∃ k : Nat, v = k := ⟨v.toNat, by omega⟩
  have hk : k ≤ 1000 := by omega
  have key : ∀ m j, k - j = m → j ≤ k → iter (σ := (List Ref09Cell) × Int) (ρ := (List Ref09Cell)) (fun s61 => (Option.bind (p_ref09_near w 0 1000) fun r94 => (bif (decide (s61.2 < r94)) then (Option.bind (chk (apok s61.1.length [(Ref09Cell.mk 32 s 0)].length 24)) fun _ => some (.inl ((s61.1 ++ [(Ref09Cell.mk 32 s 0)]), (IntKind.i64.wrap (s61.2 + 1))))) else some (.inr s61.1)))) (List.replicate j (tc (blk s)), (j : Int)) = some (List.replicate k (tc (blk s))) := by
    intro m
    induction m with
    | zero =>
      intro j hm hj
      have : j = k := by omega
      subst this
      rw [iter_inr (r := List.replicate j (tc (blk s)))]
      simp only [near_eq w 0 1000 (by omega), hv, bnd_some]
      simp
    | succ m ih =>
      intro j hm hj
      rw [iter_inl (s' := (List.replicate (j + 1) (tc (blk s)), ((j + 1 : Nat) : Int)))]
      · exact ih (j + 1) (by omega) (by omega)
      · simp only [near_eq w 0 1000 (by omega), hv, bnd_some]
        have : decide ((j : Int) < (k : Int)) = true := decide_eq_true (by omega)
        rw [this, cond_true, apok_true (by simp; omega), bnd_some, w64 (by omega) (by omega), List.replicate_succ']
        rfl
  have h0 := key (k - 0) 0 rfl (Nat.zero_le _)
  have e0 : ((0 : Nat) : Int) = 0 := rfl
  rw [e0, List.replicate_zero] at h0
  rw [h0, bnd_some, Int.toNat_natCast, List.map_replicate]
end Go.Tw.Rw

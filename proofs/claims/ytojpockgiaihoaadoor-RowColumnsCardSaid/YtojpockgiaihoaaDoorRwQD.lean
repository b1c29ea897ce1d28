import Derived.Test.YtojpockgiaihoaaDoorRwQC
set_option linter.unusedVariables false
set_option linter.unusedSimpArgs false
namespace Go.Tw.Rw
open Go Go.Tw
/-- a cell as wide as its rune -/
def V (c : RowCell) : Prop := (c.part = 0 ∧ ofS c.rune = 1) ∨ (c.part = 1 ∧ ofS c.rune = 2) ∨ c.part = 2
def V3 (c : RowCell) : Prop := V c ∨ c.part = 3
def sumW : List RowCell → Int
  | [] => 0
  | c :: r => (bif isG c then ofS c.rune else 0) + sumW r
def cnt3 : List RowCell → Int
  | [] => 0
  | c :: r => (bif c.part == 3 then 1 else 0) + cnt3 r
theorem of32 : ofS 32 = 1 := by decide
theorem V_blk (s : Int) : V (blk s) := .inl ⟨rfl, of32⟩
theorem sum_len : ∀ (l : List RowCell) (p : Int), (∀ c ∈ l, V3 c) → mendS p l = l → (p = 1 → nextD l = 2) → sumW l + (if p = 1 then 1 else 0) + cnt3 l = l.length
  | [], p, _, _, hp => by
    have : p ≠ 1 := fun h => by have := hp h; simp [nextD] at this
    simp [sumW, cnt3, this]
  | c :: r, p, hv, hm, hp => by
    simp only [mendS, List.cons.injEq] at hm
    obtain ⟨h1, h2⟩ := hm
    rw [h1] at h2
    have hvr : ∀ d ∈ r, V3 d := fun d hd => hv d (by simp [hd])
    have ih := sum_len r c.part hvr h2
    have hnp : c.part ≠ 2 → p ≠ 1 := fun h hp1 => h (hp hp1)
    simp only [sumW, cnt3, List.length_cons]
    rcases hv c (by simp) with (⟨h0, hw⟩ | ⟨h0, hw⟩ | h0) | h0
    · have ih := ih (fun h => by omega)
      have hp' := hnp (by omega)
      rw [h0] at ih
      simp [isG, h0, hw, hp'] at ih ⊢
      omega
    · have hb : badS p c r = false := by
        cases hb : badS p c r with
        | false => rfl
        | true => rw [show fixS p c r = ⟨32, c.style, 0⟩ by unfold fixS; rw [hb]; rfl] at h1; rw [← h1] at h0; simp at h0
      have hn : nextD r = 2 := by simpa [badS, h0] using hb
      have ih := ih (fun _ => hn)
      have hp' := hnp (by omega)
      rw [h0] at ih
      simp [isG, h0, hw, hp'] at ih ⊢
      omega
    · have hb : badS p c r = false := by
        cases hb : badS p c r with
        | false => rfl
        | true => rw [show fixS p c r = ⟨32, c.style, 0⟩ by unfold fixS; rw [hb]; rfl] at h1; rw [← h1] at h0; simp at h0
      have hp1 : p = 1 := by simpa [badS, h0] using hb
      have ih := ih (fun h => by omega)
      rw [h0] at ih
      simp [isG, h0, hp1] at ih ⊢
      omega
    · have ih := ih (fun h => by omega)
      have hp' := hnp (by omega)
      rw [h0] at ih
      simp [isG, h0, hp'] at ih ⊢
      omega
theorem V_mend {Q : RowCell → Prop} (hq : ∀ s, Q (blk s)) : ∀ (l : List RowCell) (p : Int), (∀ c ∈ l, Q c) → ∀ c ∈ mendS p l, Q c
  | [], _, _ => fun c hc => by cases hc
  | c :: r, p, h => by
    intro d hd
    simp only [mendS, List.mem_cons] at hd
    rcases hd with rfl | hd
    · unfold fixS
      cases badS p c r with
      | true => exact hq c.style
      | false => exact h c (by simp)
    · exact V_mend hq r _ (fun e he => h e (by simp [he])) d hd
theorem V_set {Q : RowCell → Prop} {l : List RowCell} (h : ∀ c ∈ l, Q c) (i : Nat) {c : RowCell} (hc : Q c) : ∀ d ∈ l.set i c, Q d := by
  intro d hd
  rcases List.mem_or_eq_of_mem_set hd with hd | rfl
  · exact h d hd
  · exact hc
theorem V_put {l : List RowCell} (h : ∀ c ∈ l, V c) (at_ x s : Int) : ∀ c ∈ putL l at_ x s, V c := by
  unfold putL
  split
  · exact h
  · rename_i hn
    split
    · rename_i h1
      exact V_set h _ (.inl ⟨rfl, h1⟩)
    · rename_i h1
      have h2 : ofS x = 2 := by have := ofS_cases x; omega
      unfold putR
      have h3 := V_set (V_set h at_.toNat (c := ⟨x, s, 1⟩) (.inr (.inl ⟨rfl, h2⟩))) (at_.toNat + 1) (c := ⟨x, s, 2⟩) (.inr (.inr rfl))
      split
      · split
        · exact V_set h3 _ (V_blk _)
        · exact h3
      · exact h3
theorem V_erase (a b s : Int) : ∀ {l : List RowCell} (i : Int), (∀ c ∈ l, V c) → ∀ c ∈ eraseL a b s i l, V c
  | [], _, _ => fun c hc => by cases hc
  | c :: r, i, h => by
    intro d hd
    simp only [eraseL, List.mem_cons] at hd
    rcases hd with rfl | hd
    · split
      · exact V_blk s
      · exact h c (by simp)
    · exact V_erase a b s (i + 1) (fun e he => h e (by simp [he])) d hd
theorem V_rep (n : Nat) (s : Int) : ∀ c ∈ List.replicate n (blk s), V c := fun c hc => by rw [List.eq_of_mem_replicate hc]; exact V_blk s
theorem V_app {a b : List RowCell} (ha : ∀ c ∈ a, V c) (hb : ∀ c ∈ b, V c) : ∀ c ∈ a ++ b, V c := fun c hc => (List.mem_append.1 hc).elim (ha c) (hb c)
theorem V_take {a : List RowCell} (ha : ∀ c ∈ a, V c) (n : Nat) : ∀ c ∈ a.take n, V c := fun c hc => ha c (List.mem_of_mem_take hc)
theorem V_drop {a : List RowCell} (ha : ∀ c ∈ a, V c) (n : Nat) : ∀ c ∈ a.drop n, V c := fun c hc => ha c (List.mem_of_mem_drop hc)
theorem do_V (r : RowRow) (a : Law09Act) (h : ∀ c ∈ r.cells, V c) (h0 : 0 ≤ a.kind) (h4 : a.kind < 4) : ∀ c ∈ (doS r a).cells, V c := by
  unfold doS
  split
  · exact V_mend V_blk _ _ (V_put h _ _ _)
  · split
    · exact V_mend V_blk _ _ (V_erase _ _ _ _ h)
    · split
      · refine V_mend V_blk _ _ ?_
        unfold ins
        split
        · exact h
        · exact V_take (V_app (V_app (V_take h _) (V_rep _ _)) (V_drop h _)) _
      · split
        · refine V_mend V_blk _ _ ?_
          unfold del
          split
          · exact h
          · exact V_app (V_app (V_take h _) (V_drop h _)) (V_rep _ _)
        · omega
theorem do_len (r : RowRow) (a : Law09Act) (h0 : 0 ≤ a.kind) (h4 : a.kind < 4) : (doS r a).cells.length = r.cells.length := by
  unfold doS
  split
  · simp only [mendS_length, putL_length]
  · split
    · simp only [mendS_length, eraseL_length]
    · split
      · simp only [mendS_length, ins]; split
        · rfl
        · rename_i hne
          have := (withinS_le r.cells a.at_ a.n).resolve_left hne
          unfold insertL; simp; omega
      · split
        · simp only [mendS_length, del]; split
          · rfl
          · rename_i hne
            have := (withinS_le r.cells a.at_ a.n).resolve_left hne
            unfold deleteL; simp; omega
        · omega
theorem cnt3_V : ∀ l : List RowCell, (∀ c ∈ l, V c) → cnt3 l = 0
  | [], _ => rfl
  | c :: r, h => by
    have := cnt3_V r (fun d hd => h d (by simp [hd]))
    have hc : (c.part == 3) = false := by
      rcases h c (by simp) with ⟨h, _⟩ | ⟨h, _⟩ | h <;> simp [h]
    simp [cnt3, hc, this]
theorem cnt3_end (s : Int) : ∀ (l : List RowCell) (p : Int), (∀ c ∈ l, V c) → cnt3 (mendS p (l ++ [⟨32, s, 3⟩])) = 1
  | [], p, _ => rfl
  | c :: r, p, h => by
    have ih := cnt3_end s r (fixS p c (r ++ [⟨32, s, 3⟩])).part (fun d hd => h d (by simp [hd]))
    have hc : ((fixS p c (r ++ [⟨32, s, 3⟩])).part == 3) = false := by
      unfold fixS
      cases badS p c (r ++ [⟨32, s, 3⟩]) with
      | true => rfl
      | false => rcases h c (by simp) with ⟨h, _⟩ | ⟨h, _⟩ | h <;> simp [h]
    simp [mendS, cnt3, hc, ih]
end Go.Tw.Rw

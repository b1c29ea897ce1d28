import Derived.Test.YtojpockgiaihoaaDoorRwQ9
set_option linter.unusedVariables false
set_option linter.unusedSimpArgs false
namespace Go.Tw.Rw
open Go Go.Tw
def rok (x : Int) : Prop := -2147483648 ≤ x ∧ x ≤ 2147483647
/-- runes are such -/
def okR (l : List RowCell) : Prop := ∀ c ∈ l, rok c.rune
theorem okR_blk (s : Int) : rok (blk s).rune := by unfold rok blk; simp
theorem okR_mend : ∀ (l : List RowCell) (p : Int), okR l → okR (mendS p l)
  | [], _, _ => fun c hc => by cases hc
  | c :: r, p, h => by
    intro d hd
    simp only [mendS, List.mem_cons] at hd
    rcases hd with rfl | hd
    · unfold fixS
      cases badS p c r with
      | true => exact okR_blk c.style
      | false => exact h c (by simp)
    · exact okR_mend r _ (fun e he => h e (by simp [he])) d hd
theorem okR_set {l : List RowCell} (h : okR l) (i : Nat) {c : RowCell} (hc : rok c.rune) : okR (l.set i c) := by
  intro d hd
  rcases List.mem_or_eq_of_mem_set hd with hd | rfl
  · exact h d hd
  · exact hc
theorem okR_put {l : List RowCell} (h : okR l) (at_ s : Int) {x : Int} (hx : rok x) : okR (putL l at_ x s) := by
  unfold putL
  split
  · exact h
  · split
    · exact okR_set h _ hx
    · unfold putR
      have h1 := okR_set (okR_set h at_.toNat (c := ⟨x, s, 1⟩) hx) (at_.toNat + 1) (c := ⟨x, s, 2⟩) hx
      split
      · split
        · exact okR_set h1 _ (okR_blk _)
        · exact h1
      · exact h1
theorem okR_rep (n : Nat) (s : Int) : okR (List.replicate n (blk s)) := fun c hc => by rw [List.eq_of_mem_replicate hc]; exact okR_blk s
theorem okR_app {a b : List RowCell} (ha : okR a) (hb : okR b) : okR (a ++ b) := fun c hc => (List.mem_append.1 hc).elim (ha c) (hb c)
theorem okR_take {a : List RowCell} (ha : okR a) (n : Nat) : okR (a.take n) := fun c hc => ha c (List.mem_of_mem_take hc)
theorem okR_drop {a : List RowCell} (ha : okR a) (n : Nat) : okR (a.drop n) := fun c hc => ha c (List.mem_of_mem_drop hc)
theorem okR_erase (a b s : Int) : ∀ {l : List RowCell} (i : Int), okR l → okR (eraseL a b s i l)
  | [], _, _ => fun c hc => by cases hc
  | c :: r, i, h => by
    intro d hd
    simp only [eraseL, List.mem_cons] at hd
    rcases hd with rfl | hd
    · split
      · exact okR_blk s
      · exact h c (by simp)
    · exact okR_erase a b s (i + 1) (fun e he => h e (by simp [he])) d hd
theorem nextD_mend (p : Int) : ∀ (r : List RowCell), p = 1 → nextD r = 2 → nextD (mendS p r) = 2
  | [], _, h => by simp [nextD] at h
  | d :: r, hp, h => by
    have hd : d.part = 2 := h
    have : fixS p d r = d := by
      unfold fixS badS
      rw [hd, hp]
      rfl
    simp only [mendS, this]
    exact hd
theorem mend_mend : ∀ (l : List RowCell) (p : Int), mendS p (mendS p l) = mendS p l
  | [], _ => rfl
  | c :: r, p => by
    simp only [mendS]
    have key : fixS p (fixS p c r) (mendS (fixS p c r).part r) = fixS p c r := by
      cases hb : badS p c r with
      | true =>
        have e : fixS p c r = ⟨32, c.style, 0⟩ := by unfold fixS; rw [hb]; rfl
        rw [e]
        rfl
      | false =>
        have e : fixS p c r = c := by unfold fixS; rw [hb]; rfl
        rw [e]
        have : badS p c (mendS c.part r) = false := by
          unfold badS at hb ⊢
          cases h1 : (c.part == 1) with
          | true =>
            rw [h1, cond_true] at hb
            rw [cond_true]
            have hn : nextD r = 2 := by simpa using hb
            rw [nextD_mend c.part r (by simpa using h1) hn]
            rfl
          | false =>
            rw [h1, cond_false] at hb
            rw [cond_false]
            cases h2 : (c.part == 2) with
            | true => rw [h2] at hb; exact hb
            | false =>
              rw [h2, cond_false] at hb
              rw [cond_false]
              cases h3 : (c.part == 3) with
              | true =>
                rw [h3, cond_true] at hb
                rw [cond_true]
                cases r with
                | nil => rfl
                | cons d r => simp at hb
              | false => rfl
        unfold fixS
        rw [this]
        rfl
    rw [key, mend_mend r]
theorem w32 {x : Int} (h : rok x) : IntKind.i64.wrap x = x := by obtain ⟨h1, h2⟩ := h; exact w64 (by omega) (by omega)
theorem is_eq (r : RowRow) (h : r.cells.length ≤ 1000000) (hr : okR r.cells) : p_law09_Is r (told r) = some true := by
  unfold p_law09_Is told
  simp only [told_len]
  have e6 : ((bif ((r.cells.length : Int) != (r.cells.length : Int)) then some true else some (!(r.wrapped == r.wrapped))) : Option Bool) = some false := by simp
  rw [e6, bnd_some, cond_false]
  have key : ∀ (b d : List RowCell), d ++ b = r.cells → iter (σ := Int) (ρ := Unit ⊕ Bool) (fun s479 => (bif (decide (s479 < (r.cells.length : Int))) then (Option.bind (idx r.cells s479) fun x837 => (Option.bind ((Option.bind (idx (r.cells.map tc) s479) fun x934 => (bif ((IntKind.i64.wrap x837.rune) != x934.rune) then some true else (Option.bind (idx (r.cells.map tc) s479) fun x942 => (bif (x837.style != x942.style) then some true else (Option.bind (idx (r.cells.map tc) s479) fun x947 => some (x837.part != x947.part)))))) : Option Bool) fun e914 => (bif e914 then (inrr (some false)) else some (.inl (IntKind.i64.wrap (s479 + 1)))))) else some (.inr (.inl ())))) (d.length : Int) = some (.inl ()) := by
    intro b
    induction b with
    | nil =>
      intro d hd
      simp at hd
      subst hd
      rw [iter_inr (r := .inl ())]
      simp
    | cons c b ih =>
      intro d hd
      have hl : r.cells.length = d.length + b.length + 1 := by rw [← hd]; simp; omega
      have hc : decide ((d.length : Int) < (r.cells.length : Int)) = true := by simp; omega
      have hx : idx r.cells (d.length : Int) = some c := by rw [← hd]; exact idx_mid d b c
      have hx2 : idx (r.cells.map tc) (d.length : Int) = some (tc c) := by
        rw [← hd, List.map_append, List.map_cons, ← told_len d]
        exact idx_mid _ _ _
      have hcr : rok c.rune := hr c (by rw [← hd]; simp)
      rw [iter_inl (s' := ((d ++ [c]).length : Int))]
      · exact ih (d ++ [c]) (by simpa using hd)
      · simp only [hc, cond_true, hx, hx2, bnd_some, w32 hcr, tc, bne_self_eq_false, cond_false]
        rw [w64 (by omega) (by omega)]
        simp
  have h0 := key r.cells [] rfl
  have e0 : ((([] : List RowCell).length : Nat) : Int) = 0 := rfl
  rw [e0] at h0
  rw [h0, bnd_some]
theorem whole_eq (l : List RowCell) (w : Bool) (h : l.length ≤ 1000000) (hm : mendS 0 l = l) : p_ref09_Whole ⟨l.map tc, w⟩ = some true := by
  unfold p_ref09_Whole
  simp only
  rw [rmend_eq l h, bnd_some, hm]
  simp only [told_len]
  have key : ∀ (b d : List RowCell), d ++ b = l → iter (σ := Int) (ρ := Unit ⊕ Bool) (fun s163 => (bif (decide (s163 < (l.length : Int))) then (Option.bind (idx (l.map tc) s163) fun x287 => (Option.bind (idx (l.map tc) s163) fun x316 => (bif (!((x287.rune == x316.rune) && ((x287.style == x316.style) && ((x287.part == x316.part) && true)))) then (inrr (some false)) else some (.inl (IntKind.i64.wrap (s163 + 1)))))) else some (.inr (.inl ())))) (d.length : Int) = some (.inl ()) := by
    intro b
    induction b with
    | nil =>
      intro d hd
      simp at hd
      subst hd
      rw [iter_inr (r := .inl ())]
      simp
    | cons c b ih =>
      intro d hd
      have hl : l.length = d.length + b.length + 1 := by rw [← hd]; simp; omega
      have hc : decide ((d.length : Int) < (l.length : Int)) = true := by simp; omega
      have hx2 : idx (l.map tc) (d.length : Int) = some (tc c) := by
        rw [← hd, List.map_append, List.map_cons, ← told_len d]
        exact idx_mid _ _ _
      rw [iter_inl (s' := ((d ++ [c]).length : Int))]
      · exact ih (d ++ [c]) (by simpa using hd)
      · simp only [hc, cond_true, hx2, bnd_some, beq_self_eq_true, Bool.and_self, Bool.not_true, cond_false]
        rw [w64 (by omega) (by omega)]
        simp
  have h0 := key l [] rfl
  have e0 : ((([] : List RowCell).length : Nat) : Int) = 0 := rfl
  rw [e0] at h0
  rw [h0, bnd_some]
def ins (l : List RowCell) (at_ n s : Int) : List RowCell := if withinS l at_ n = 0 then l else insertL l at_.toNat (withinS l at_ n).toNat s
def del (l : List RowCell) (at_ n s : Int) : List RowCell := if withinS l at_ n = 0 then l else deleteL l at_.toNat (withinS l at_ n).toNat s
/-- a call -/
def doS (r : RowRow) (a : Law09Act) : RowRow :=
  if a.kind = 0 then ⟨mendS 0 (putL r.cells a.at_ a.rune a.style), false⟩
  else if a.kind = 1 then ⟨mendS 0 (eraseL a.at_ a.n a.style 0 r.cells), false⟩
  else if a.kind = 2 then ⟨mendS 0 (ins r.cells a.at_ a.n a.style), false⟩
  else if a.kind = 3 then ⟨mendS 0 (del r.cells a.at_ a.n a.style), false⟩
  else if a.kind = 4 then ⟨mendS 0 (fillL r.cells a.style), true⟩
  else
    if (max 0 (min (if a.n > 60 ∧ a.n < 1000 then 60 else a.n) 1000)).toNat = r.cells.length then r
    else ⟨mendS 0 (resizeL r.cells (max 0 (min (if a.n > 60 ∧ a.n < 1000 then 60 else a.n) 1000)).toNat), false⟩
theorem do_eq (r : RowRow) (a : Law09Act) (h : r.cells.length ≤ 1000) (ha : wfLaw09Act a) : p_law09_Do r (told r) a = some (doS r a, told (doS r a)) := by
  obtain ⟨_, hat, hn, hs, hx, _⟩ := ha
  have ha1 : -9223372036854775808 ≤ a.at_ := by have := hat.1; simpa [IntKind.min, IntKind.signed, IntKind.bits] using this
  have ha2 : a.at_ ≤ 9223372036854775807 := by have := hat.2; simpa [IntKind.max, IntKind.signed, IntKind.bits] using this
  have hx1 : -2147483648 ≤ a.rune := by have := hx.1; simpa [IntKind.min, IntKind.signed, IntKind.bits] using this
  have hx2 : a.rune ≤ 2147483647 := by have := hx.2; simpa [IntKind.max, IntKind.signed, IntKind.bits] using this
  unfold p_law09_Do doS told
  by_cases k0 : a.kind = 0
  · rw [if_pos k0, show (a.kind == 0) = true by simp [k0], cond_true, put_eq r _ _ _ (by omega) ha1 ha2, bnd_some, w32 ⟨hx1, hx2⟩, rput_eq _ _ _ _ _ (by omega) ha1 ha2 hx1 hx2, bnd_some]
  · rw [if_neg k0, show (a.kind == 0) = false by simp [k0], cond_false]
    by_cases k1 : a.kind = 1
    · rw [if_pos k1, show (a.kind == 1) = true by simp [k1], cond_true, erase_eq r _ _ _ (by omega), bnd_some, rerase_eq _ _ _ _ _ (by omega), bnd_some]
    · rw [if_neg k1, show (a.kind == 1) = false by simp [k1], cond_false]
      by_cases k2 : a.kind = 2
      · rw [if_pos k2, show (a.kind == 2) = true by simp [k2], cond_true, insert_eq r _ _ _ h ha1 ha2, bnd_some, rinsert_eq _ _ _ _ _ h ha1 ha2, bnd_some]
        rfl
      · rw [if_neg k2, show (a.kind == 2) = false by simp [k2], cond_false]
        by_cases k3 : a.kind = 3
        · rw [if_pos k3, show (a.kind == 3) = true by simp [k3], cond_true, delete_eq r _ _ _ h ha1 ha2, bnd_some, rdelete_eq _ _ _ _ _ h ha1 ha2, bnd_some]
          rfl
        · rw [if_neg k3, show (a.kind == 3) = false by simp [k3], cond_false]
          by_cases k4 : a.kind = 4
          · rw [if_pos k4, show (a.kind == 4) = true by simp [k4], cond_true, fill_eq r _ (by omega), bnd_some, rfill_eq _ _ _ (by omega), bnd_some]
          · rw [if_neg k4, show (a.kind == 4) = false by simp [k4], cond_false]
            have e1 : ((bif (decide (a.n > 60)) then some (decide (a.n < 1000)) else some false) : Option Bool) = some (decide (a.n > 60 ∧ a.n < 1000)) := by
              by_cases h1 : a.n > 60 <;> by_cases h2 : a.n < 1000 <;> simp [h1, h2]
            have e2 : ((bif decide (a.n > 60 ∧ a.n < 1000) then some 60 else some a.n) : Option Int) = some (if a.n > 60 ∧ a.n < 1000 then 60 else a.n) := by
              by_cases h1 : a.n > 60 ∧ a.n < 1000
              · rw [decide_eq_true h1, if_pos h1]; rfl
              · rw [decide_eq_false h1, if_neg h1]; rfl
            rw [e1, bnd_some, e2, bnd_some, resize_eq r _ (by omega), bnd_some, rresize_eq _ _ _ (by omega), bnd_some]
            clear e1 e2
            generalize (if a.n > 60 ∧ a.n < 1000 then (60 : Int) else a.n) = m
            by_cases hm : (max 0 (min m 1000)).toNat = r.cells.length
            · simp only [if_pos hm]
            · simp only [if_neg hm]
theorem withinS_le (l : List RowCell) (at_ n : Int) : withinS l at_ n = 0 ∨ (0 < withinS l at_ n ∧ 0 ≤ at_ ∧ at_ + withinS l at_ n ≤ l.length) := by
  unfold withinS
  split
  · exact .inl rfl
  · omega
theorem do_length (r : RowRow) (a : Law09Act) (h : r.cells.length ≤ 1000) : (doS r a).cells.length ≤ 1000 := by
  unfold doS
  split
  · simp only [mendS_length, putL_length]; exact h
  · split
    · simp only [mendS_length, eraseL_length]; exact h
    · split
      · simp only [mendS_length, ins]; split
        · exact h
        · unfold insertL; simp; omega
      · split
        · simp only [mendS_length, del]; split
          · exact h
          · rename_i hne
            have := (withinS_le r.cells a.at_ a.n).resolve_left hne
            unfold deleteL; simp; omega
        · split
          · simp only [mendS_length]; simp [fillL]; exact h
          · generalize (if a.n > 60 ∧ a.n < 1000 then (60 : Int) else a.n) = m
            split
            · exact h
            · simp only [mendS_length]; unfold resizeL; simp; omega
theorem do_ok (r : RowRow) (a : Law09Act) (h : okR r.cells) (ha : wfLaw09Act a) : okR (doS r a).cells := by
  obtain ⟨_, hat, hn, hs, hx, _⟩ := ha
  have hx' : rok a.rune := ⟨by have := hx.1; simpa [IntKind.min, IntKind.signed, IntKind.bits] using this, by have := hx.2; simpa [IntKind.max, IntKind.signed, IntKind.bits] using this⟩
  unfold doS
  split
  · exact okR_mend _ _ (okR_put h _ _ hx')
  · split
    · exact okR_mend _ _ (okR_erase _ _ _ _ h)
    · split
      · refine okR_mend _ _ ?_
        unfold ins
        split
        · exact h
        · exact okR_take (okR_app (okR_app (okR_take h _) (okR_rep _ _)) (okR_drop h _)) _
      · split
        · refine okR_mend _ _ ?_
          unfold del
          split
          · exact h
          · exact okR_app (okR_app (okR_take h _) (okR_drop h _)) (okR_rep _ _)
        · split
          · refine okR_mend _ _ (okR_set h _ ?_)
            unfold rok; simp
          · generalize (if a.n > 60 ∧ a.n < 1000 then (60 : Int) else a.n) = m
            split
            · exact h
            · exact okR_mend _ _ (okR_app (okR_take h _) (okR_rep _ _))
theorem do_whole (r : RowRow) (a : Law09Act) (h : mendS 0 r.cells = r.cells) : mendS 0 (doS r a).cells = (doS r a).cells := by
  unfold doS
  repeat (first | exact mend_mend _ _ | exact h | split)
end Go.Tw.Rw

import Derived.Test.YtojpockgiaihoaaDoorRwQ5
set_option linter.unusedVariables false
set_option linter.unusedSimpArgs false
namespace Go.Tw.Rw
open Go Go.Tw
theorem blank_row_eq (w s : Int) : p_row_Blank w s = some ⟨List.replicate (max 0 (min w 1000)).toNat (blk s), false⟩ := by
  unfold p_row_Blank
  rw [clip_eq, bnd_some, blanks_eq _ _ (by omega), bnd_some]
  rfl
/-- without the blanks at the end -/
def trimN : Nat → List RowCell → List RowCell
  | 0, l => l
  | n + 1, l => if l.getLast? = some (blk 0) then trimN n l.dropLast else l
def trimS (l : List RowCell) : List RowCell := trimN l.length l
def isG (c : RowCell) : Bool := c.part == 0 || c.part == 1
def glyS (l : List RowCell) : List RowGlyph := (l.filter isG).map fun c => ⟨c.rune, c.style⟩
def glyR (r : RowRow) : List RowGlyph := glyS (if r.wrapped then r.cells else trimS r.cells)
theorem glyS_length (l : List RowCell) : (glyS l).length ≤ l.length := by
  unfold glyS
  rw [List.length_map]
  exact List.length_filter_le _ _
theorem trimN_length : ∀ (n : Nat) (l : List RowCell), (trimN n l).length ≤ l.length
  | 0, l => Nat.le_refl _
  | n + 1, l => by
    unfold trimN
    split
    · have := trimN_length n l.dropLast
      rw [List.length_dropLast] at this
      omega
    · exact Nat.le_refl _
theorem cell_eqb (x y : RowCell) : ((x.rune == y.rune) && ((x.style == y.style) && ((x.part == y.part) && true))) = decide (x = y) := by
  obtain ⟨a, b, c⟩ := x
  obtain ⟨d, e, f⟩ := y
  by_cases h1 : a = d <;> by_cases h2 : b = e <;> by_cases h3 : c = f <;> simp [h1, h2, h3]
theorem glyphs_eq (r : RowRow) (h : r.cells.length ≤ 1000000) : p_row_Row_Glyphs r = some (glyR r) := by
  unfold p_row_Row_Glyphs
  have k1 : ∀ (n : Nat) (l : List RowCell), l.length = n → n ≤ 1000000 → iter (σ := (List RowCell)) (ρ := (List RowCell)) (fun s180 => (Option.bind ((bif (!r.wrapped) then (bif (decide ((s180.length : Int) > 0)) then (Option.bind (idx s180 (IntKind.i64.wrap ((s180.length : Int) - 1))) fun x341 => (Option.bind (p_row_blank 0) fun r348 => some ((x341.rune == r348.rune) && ((x341.style == r348.style) && ((x341.part == r348.part) && true))))) else some false) else some false) : Option Bool) fun e324 => (bif e324 then (Option.bind (chk (cutok 0 (IntKind.i64.wrap ((s180.length : Int) - 1)) s180.length)) fun _ => some (.inl (cut s180 0 (IntKind.i64.wrap ((s180.length : Int) - 1))))) else some (.inr s180)))) l = some (if r.wrapped then l else trimN n l) := by
    intro n
    induction n with
    | zero =>
      intro l hl hn
      rw [iter_inr (r := l)]
      · simp [trimN]
      · cases r.wrapped <;> simp [hl]
    | succ n ih =>
      intro l hl hn
      cases hw : r.wrapped with
      | true =>
        rw [iter_inr (r := l)]
        · simp
        · simp [hw]
      | false =>
        have hp : decide ((l.length : Int) > 0) = true := decide_eq_true (by omega)
        have ew : IntKind.i64.wrap ((l.length : Int) - 1) = ((l.length - 1 : Nat) : Int) := by rw [w64 (by omega) (by omega)]; omega
        have hlt : l.length - 1 < l.length := by omega
        have hlast : l.getLast? = some l[l.length - 1] := by rw [List.getLast?_eq_getElem?, List.getElem?_eq_getElem hlt]
        unfold trimN
        rw [hlast]
        by_cases hb : l[l.length - 1] = blk 0
        · rw [iter_inl (s' := l.dropLast)]
          · have := ih l.dropLast (by rw [List.length_dropLast]; omega) (by omega)
            rw [hw] at this
            simp only [hw, Bool.not_false, cond_true] at this ⊢
            rw [this, if_neg (by simp), if_neg (by simp), if_pos (by rw [hb])]
          · simp only [hw, Bool.not_false, cond_true, hp, ew, idx_nat, List.getElem?_eq_getElem hlt, bnd_some, blank_eq, cell_eqb]
            have : decide (l[l.length - 1] = ⟨32, 0, 0⟩) = true := decide_eq_true hb
            rw [this, cond_true, cutok_true (by omega) (by omega) (by omega), bnd_some]
            congr 2
            simp [cut, List.dropLast_eq_take]
        · rw [iter_inr (r := l)]
          · rw [if_neg (by simp), if_neg (by simpa using hb)]
          · simp only [hw, Bool.not_false, cond_true, hp, ew, idx_nat, List.getElem?_eq_getElem hlt, bnd_some, blank_eq, cell_eqb]
            have : decide (l[l.length - 1] = ⟨32, 0, 0⟩) = false := decide_eq_false hb
            rw [this, cond_false]
  rw [k1 r.cells.length r.cells rfl h, bnd_some]
  have hE : (if r.wrapped then r.cells else trimN r.cells.length r.cells).length ≤ 1000000 := by
    split
    · exact h
    · exact Nat.le_trans (trimN_length _ _) h
  change (Option.bind _ _) = some (glyS (if r.wrapped then r.cells else trimN r.cells.length r.cells))
  generalize (if r.wrapped then r.cells else trimN r.cells.length r.cells) = E at hE
  have k2 : ∀ (b d : List RowCell), d ++ b = E → iter (σ := Int × (List RowGlyph)) (ρ := (List RowGlyph)) (fun s539 => (bif (decide (s539.1 < (E.length : Int))) then (Option.bind ((Option.bind (idx E s539.1) fun x689 => (Option.bind ((bif (x689.part == 0) then some true else some (x689.part == 1)) : Option Bool) fun e700 => (bif e700 then (Option.bind (chk (apok s539.2.length [(RowGlyph.mk x689.rune x689.style)].length 16)) fun _ => some (s539.2 ++ [(RowGlyph.mk x689.rune x689.style)])) else some s539.2))) : Option (List RowGlyph)) fun e686 => some (.inl ((IntKind.i64.wrap (s539.1 + 1)), e686))) else some (.inr s539.2))) ((d.length : Int), glyS d) = some (glyS E) := by
    intro b
    induction b with
    | nil =>
      intro d hd
      simp at hd
      subst hd
      rw [iter_inr (r := glyS d)]
      simp
    | cons c b ih =>
      intro d hd
      have hl : E.length = d.length + b.length + 1 := by rw [← hd]; simp; omega
      have hg : glyS (d ++ [c]) = bif isG c then glyS d ++ [⟨c.rune, c.style⟩] else glyS d := by
        unfold glyS
        rw [List.filter_append]
        cases hc : isG c <;> simp [hc]
      rw [iter_inl (s' := (((d ++ [c]).length : Int), glyS (d ++ [c])))]
      · exact ih (d ++ [c]) (by simpa using hd)
      · have hc : decide ((d.length : Int) < (E.length : Int)) = true := by simp; omega
        have hx : idx E (d.length : Int) = some c := by rw [← hd]; exact idx_mid d b c
        have hi : ((bif (c.part == 0) then some true else some (c.part == 1)) : Option Bool) = some (isG c) := by unfold isG; cases c.part == 0 <;> rfl
        have hgl := glyS_length d
        simp only [hc, cond_true, hx, bnd_some, hi]
        rw [hg, w64 (by omega) (by omega)]
        cases hc2 : isG c with
        | true => rw [cond_true, apok_true (by simp; omega), bnd_some, bnd_some]; simp
        | false => simp
  have h0 := k2 E [] rfl
  have e0 : ((([] : List RowCell).length : Nat) : Int) = 0 := rfl
  have e1 : glyS [] = [] := rfl
  rw [e0, e1] at h0
  rw [h0, bnd_some]
theorem equal_eq (a b : List RowCell) (h : a.length ≤ 1000000) : p_slices_Equal_row_Cell a b = some (decide (a = b)) := by
  unfold p_slices_Equal_row_Cell
  by_cases hl : a.length = b.length
  · have e : ((a.length : Int) != (b.length : Int)) = false := by simp [hl]
    rw [e, cond_false]
    have key : ∀ (x y d d2 : List RowCell), d ++ x = a → d2 ++ y = b → d = d2 → x.length = y.length → iter (σ := Int) (ρ := Unit ⊕ Bool) (fun s238 => (bif (decide (s238 < (a.length : Int))) then (Option.bind (idx a s238) fun x464 => (Option.bind (idx b s238) fun x471 => (bif (!((x464.rune == x471.rune) && ((x464.style == x471.style) && ((x464.part == x471.part) && true)))) then (inrr (some false)) else some (.inl (IntKind.i64.wrap (s238 + 1)))))) else some (.inr (.inl ())))) (d.length : Int) = some (if x = y then .inl () else .inr false) := by
      intro x
      induction x with
      | nil =>
        intro y d d2 hd hd2 hdd hxy
        have : y = [] := List.eq_nil_of_length_eq_zero hxy.symm
        subst this
        simp at hd
        subst hd
        rw [iter_inr (r := .inl ())]
        · simp
        · simp
      | cons c x ih =>
        intro y d d2 hd hd2 hdd hxy
        cases y with
        | nil => simp at hxy
        | cons c2 y =>
          subst hdd
          have hal : a.length = d.length + x.length + 1 := by rw [← hd]; simp; omega
          have hc : decide ((d.length : Int) < (a.length : Int)) = true := by simp; omega
          have hx : idx a (d.length : Int) = some c := by rw [← hd]; exact idx_mid d x c
          have hx2 : idx b (d.length : Int) = some c2 := by rw [← hd2]; exact idx_mid d y c2
          by_cases hcc : c = c2
          · subst hcc
            rw [iter_inl (s' := ((d ++ [c]).length : Int))]
            · rw [ih y (d ++ [c]) (d ++ [c]) (by simpa using hd) (by simpa using hd2) rfl (by simpa using hxy)]
              simp
            · simp only [hc, cond_true, hx, hx2, bnd_some, cell_eqb]
              rw [w64 (by omega) (by omega)]
              simp
          · rw [iter_inr (r := .inr false)]
            · simp [hcc]
            · simp only [hc, cond_true, hx, hx2, bnd_some, cell_eqb]
              have : decide (c = c2) = false := decide_eq_false hcc
              rw [this]
              rfl
    have h0 := key a b [] [] rfl rfl rfl hl
    have e0 : ((([] : List RowCell).length : Nat) : Int) = 0 := rfl
    rw [e0] at h0
    rw [h0, bnd_some]
    by_cases hab : a = b
    · rw [if_pos hab]; simp [hab]
    · rw [if_neg hab]; simp [hab]
  · have e : ((a.length : Int) != (b.length : Int)) = true := by simp; omega
    rw [e, cond_true]
    have : a ≠ b := fun h => hl (by rw [h])
    simp [this]
theorem same_eq (r q : RowRow) (h : r.cells.length ≤ 1000000) : p_row_Row_Same r q = some (decide (r = q)) := by
  unfold p_row_Row_Same
  obtain ⟨a, x⟩ := r
  obtain ⟨b, y⟩ := q
  rw [equal_eq a b h]
  cases x <;> cases y <;> simp
theorem any_eq (l : List RowCell) (w : Bool) : p_law09_Any l w = some ⟨l.take 40, w⟩ := by
  unfold p_law09_Any
  have e : (if 40 < (l.length : Int) then 40 else (l.length : Int)) = ((min 40 l.length : Nat) : Int) := by split <;> omega
  have c : cut l 0 ((min 40 l.length : Nat) : Int) = l.take 40 := by
    simp only [cut, Int.toNat_natCast, Int.toNat_zero, List.drop_zero]
    rw [← List.take_take, List.take_length]
  rw [e, cutok_true (by omega) (by omega) (by omega), bnd_some, c, apok_true (by simp; omega), bnd_some]
  rfl
theorem awake_eq : p_law09_awake = some true := by
  unfold p_law09_awake
  rw [blank_row_eq, bnd_some]
  have e1 : (List.replicate (max 0 (min (3 : Int) 1000)).toNat (blk 0)) = [blk 0, blk 0, blk 0] := by decide
  rw [e1, put_eq _ _ _ _ (by simp) (by omega) (by omega), bnd_some]
  have e2 : mendS 0 (putL [blk 0, blk 0, blk 0] 0 20013 0) = [⟨20013, 0, 1⟩, ⟨20013, 0, 2⟩, blk 0] := by decide
  rw [show (RowRow.mk [blk 0, blk 0, blk 0] false).cells = [blk 0, blk 0, blk 0] from rfl, e2, put_eq _ _ _ _ (by simp) (by omega) (by omega), bnd_some]
  have e3 : mendS 0 (putL [⟨20013, 0, 1⟩, ⟨20013, 0, 2⟩, blk 0] 1 97 0) = [⟨32, 0, 0⟩, ⟨97, 0, 0⟩, blk 0] := by decide
  rw [show (RowRow.mk [⟨20013, 0, 1⟩, ⟨20013, 0, 2⟩, blk 0] false).cells = [⟨20013, 0, 1⟩, ⟨20013, 0, 2⟩, blk 0] from rfl, e3, glyphs_eq _ (by simp)]
  decide
theorem pure_RowLength {l : List RowCell} {b : Bool} {a : Law09Act} (h0 : ∀ x ∈ l, wfRowCell x) (h1 : True) (h2 : wfLaw09Act a) : p_law09_RowLength l b a = some true := by
  obtain ⟨_, hat, hn, hs, _, _⟩ := h2
  simp only [inK, IntKind.min, IntKind.max, IntKind.signed, IntKind.bits] at hat hn
  have ha1 : -9223372036854775808 ≤ a.at_ := by have := hat.1; simpa using this
  have ha2 : a.at_ ≤ 9223372036854775807 := by have := hat.2; simpa using this
  have hl : (l.take 40).length ≤ 40 := by rw [List.length_take]; omega
  unfold p_law09_RowLength
  rw [awake_eq, bnd_some, any_eq, bnd_some]
  generalize l.take 40 = c at hl
  rw [erase_eq _ _ _ _ (by simpa using (by omega : c.length ≤ 1000000)), bnd_some, put_eq _ _ _ _ (by simpa using (by omega : c.length ≤ 1000000)) ha1 ha2]
  rw [erase_eq _ _ _ _ (by simpa using (by omega : c.length ≤ 1000000)), insert_eq _ _ _ _ (by simpa using (by omega : c.length ≤ 1000)) ha1 ha2, delete_eq _ _ _ _ (by simpa using (by omega : c.length ≤ 1000)) ha1 ha2, fill_eq _ _ (by simpa using (by omega : c.length ≤ 1000000)), blank_row_eq]
  have p1 : (mendS 0 (putL c a.at_ a.rune a.style)).length = c.length := by rw [mendS_length, putL_length]
  have p2 : (mendS 0 (eraseL a.at_ a.n a.style 0 c)).length = c.length := by rw [mendS_length, eraseL_length]
  have hwi : withinS c a.at_ a.n = 0 ∨ (0 < withinS c a.at_ a.n ∧ 0 ≤ a.at_ ∧ a.at_ + withinS c a.at_ a.n ≤ c.length) := by
    unfold withinS
    split
    · exact .inl rfl
    · omega
  have p3 : (mendS 0 (if withinS c a.at_ a.n = 0 then c else insertL c a.at_.toNat (withinS c a.at_ a.n).toNat a.style)).length = c.length := by
    rw [mendS_length]
    split
    · rfl
    · unfold insertL; simp; omega
  have p4 : (mendS 0 (if withinS c a.at_ a.n = 0 then c else deleteL c a.at_.toNat (withinS c a.at_ a.n).toNat a.style)).length = c.length := by
    rw [mendS_length]
    split
    · rfl
    · rename_i hne
      have := hwi.resolve_left hne
      unfold deleteL
      simp
      omega
  have p5 : (mendS 0 (fillL c a.style)).length = c.length := by rw [mendS_length]; simp [fillL]
  have em : ∀ n, mendS 0 (List.replicate n (blk a.style)) = List.replicate n (blk a.style) := by
    intro n
    induction n with
    | zero => rfl
    | succ n ih =>
      rw [List.replicate_succ, mendS]
      have : fixS 0 (blk a.style) (List.replicate n (blk a.style)) = blk a.style := by simp [fixS, badS, blk]
      rw [this, show (blk a.style).part = 0 from rfl, ih]
  have ee : eraseL 0 (c.length : Int) a.style 0 c = List.replicate c.length (blk a.style) := by
    apply List.ext_getElem?
    intro j
    rw [eraseL_get, List.getElem?_replicate]
    by_cases hj : j < c.length
    · rw [List.getElem?_eq_getElem hj, if_pos hj, Option.map_some, if_pos (by omega)]
    · rw [List.getElem?_eq_none (by omega), if_neg hj]
      rfl
  have ek : (max 0 (min ((c.length : Nat) : Int) 1000)).toNat = c.length := by omega
  have bq : ∀ n : Nat, n = c.length → (((n : Nat) : Int) == (c.length : Int)) = true := fun n h => by simp [h]
  simp only [Bool.not_true, cond_false, bnd_some, p1, p2, p3, p4, p5, beq_self_eq_true, cond_true, ee, em, ek]
  rw [same_eq _ _ (by simp; omega), bnd_some, bnd_some]
  simp
end Go.Tw.Rw

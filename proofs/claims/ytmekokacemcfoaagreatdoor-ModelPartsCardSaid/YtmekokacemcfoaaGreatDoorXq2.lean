import Derived.Test.YtmekokacemcfoaaGreatDoorXq1
import Derived.Test.YtmekokacemcfoaaGreatDoorXp1
set_option linter.unusedVariables false
set_option linter.unusedSimpArgs false
namespace Go.Tw.X
open Go Go.Tw
section
variable {W : Nat} {s : ScreenScreen}
theorem rnw_def (s : ScreenScreen) : Ref11Screen.mk (toldS s).g (toldS s).x (toldS s).y (toldS s).s (toldS s).sX (toldS s).sY (toldS s).sS false (toldS s).top (toldS s).bottom (toldS s).wraps (toldS s).title = toldS (nwS s) := rfl
theorem mv_same {s : ScreenScreen} {x y x' y' : Int} (hx : max 0 (min x (s.g.w - 1)) = max 0 (min x' (s.g.w - 1))) (hy : max 0 (min y ((s.g.l.length : Int) - 1)) = max 0 (min y' ((s.g.l.length : Int) - 1))) : mvS s x y = mvS s x' y' := by
  unfold mvS
  rw [hx, hy]
theorem command_q (h : SJ W s) (b : Int) (l : List Int) (hl : l.length ≤ 1000000) : p_ref11_Command (toldS s) b l = some (toldS (orS W s b l), (orF s b l).map told) := by
  have hy := yr h
  have hlen := h.gi.l2
  have hlen1 := h.gi.l1
  have hN := atS_le l 0 (d := 1) (by omega) (by omega)
  have hM := atS_le l 1 (d := 1) (by omega) (by omega)
  have hZ := atS_le l 0 (d := 0) (by omega) (by omega)
  unfold p_ref11_Command
  rw [show p_ref11_num l 0 1 = _ from rnum_seq l 0 1, bnd_some, rsnum_eq, bnd_some]
  simp only [show p_ref11_num l 0 1 = _ from rnum_seq l 0 1, show p_ref11_num l 1 1 = _ from rnum_seq l 1 1, show p_ref11_num l 0 0 = _ from rnum_seq l 0 0, eqb_or2, rnw_def, size_g h]
  simp only [show p_ref11_num l 1 (s.g.l.length : Int) = _ from rnum_seq l 1 _, show (toldS s).x = s.spot.x from rfl, show (toldS s).y = s.spot.y from rfl, show (toldS s).top = s.top from rfl, show (toldS s).bottom = s.bottom from rfl, show (toldS s).s = tst s.spot.style from rfl, rset_seq _ _ hl, bnd_some]
  have w1 : IntKind.i64.wrap (s.spot.y - atS l 0 1) = s.spot.y - atS l 0 1 := w64 (by omega) (by omega)
  have w1' : IntKind.i64.wrap (s.spot.y + atS l 0 1) = s.spot.y + atS l 0 1 := w64 (by omega) (by omega)
  have w2 : IntKind.i64.wrap (s.spot.x + atS l 0 1) = s.spot.x + atS l 0 1 := w64 (by omega) (by omega)
  have w3 : IntKind.i64.wrap (s.spot.x - atS l 0 1) = s.spot.x - atS l 0 1 := w64 (by omega) (by omega)
  have w4 : IntKind.i64.wrap (atS l 0 1 - 1) = atS l 0 1 - 1 := w64 (by omega) (by omega)
  have w5 : IntKind.i64.wrap (atS l 1 1 - 1) = atS l 1 1 - 1 := w64 (by omega) (by omega)
  have w6 : IntKind.i64.wrap ((s.g.l.length : Int) - 1) = (s.g.l.length : Int) - 1 := w64 (by omega) (by omega)
  have dn : p_ref10_Move (toldS s).g false s.top s.bottom (atS l 0 1) (numS s.spot.style) = some ((toldS (dnS W (nwS s) s.top s.bottom (atS l 0 1))).g, (downO s.g.l s.top s.bottom (atS l 0 1)).map told) := rdown_eq (SJ_nw h) _ _ _
  by_cases h1 : b = 65 ∨ b = 70
  · rw [decide_eq_true h1]
    simp only [cond_true, ite_bif, w1, bnd_some, imax_eq, place_eq h]
    have e : mvS s s.spot.x (max (if s.spot.y ≥ s.top then s.top else 0) (s.spot.y - atS l 0 1)) = clS s (0 - atS l 0 1) := by
      unfold clS
      apply mv_same rfl
      split <;> split <;> split <;> omega
    rw [e]
    rcases h1 with rfl | rfl <;> rfl
  rw [decide_eq_false h1, cond_false]
  by_cases h2 : b = 66 ∨ b = 69
  · rw [decide_eq_true h2]
    simp only [cond_true, ite_bif, w1', w6, bnd_some, imin_eq, place_eq h]
    have e : mvS s s.spot.x (min (if s.spot.y ≤ s.bottom then s.bottom else (s.g.l.length : Int) - 1) (s.spot.y + atS l 0 1)) = clS s (atS l 0 1) := by
      unfold clS
      have hb := h.b1
      have ht := h.t0
      have htb := h.tb
      apply mv_same rfl
      split <;> split <;> split <;> omega
    rw [e]
    rcases h2 with rfl | rfl <;> rfl
  rw [decide_eq_false h2, cond_false]
  by_cases h3 : b = 67
  · subst h3; simp only [beq_self_eq_true, cond_true, w2, place_eq h, bnd_some]; rfl
  rw [beqF h3, cond_false]
  by_cases h4 : b = 68
  · subst h4; simp only [beq_self_eq_true, cond_true, w3, place_eq h, bnd_some]; rfl
  rw [beqF h4, cond_false]
  by_cases h5 : b = 71
  · subst h5; simp only [beq_self_eq_true, cond_true, w4, place_eq h, bnd_some]; rfl
  rw [beqF h5, cond_false]
  by_cases h6 : b = 100
  · subst h6; simp only [beq_self_eq_true, cond_true, w4, place_eq h, bnd_some]; rfl
  rw [beqF h6, cond_false]
  by_cases h7 : b = 72 ∨ b = 102
  · rw [decide_eq_true h7]; simp only [cond_true, w4, w5, place_eq h, bnd_some]
    rcases h7 with rfl | rfl <;> rfl
  rw [decide_eq_false h7, cond_false]
  by_cases h8 : b = 74
  · subst h8; simp only [beq_self_eq_true, cond_true, clear_eq h hZ.1, bnd_some]; rfl
  rw [beqF h8, cond_false]
  by_cases h9 : b = 75
  · subst h9; simp only [beq_self_eq_true, cond_true, clear_eq h hZ.1, bnd_some]; rfl
  rw [beqF h9, cond_false]
  by_cases h10 : b = 88
  · subst h10; simp only [beq_self_eq_true, cond_true, w2, rerase_seq h h.y0 h.y1, bnd_some]; rfl
  rw [beqF h10, cond_false]
  have gr : idx (toldS s).g.l s.spot.y = some (told (rowS s.g.l s.spot.y)) := h.getr
  by_cases h11 : b = 64
  · subst h11; simp only [beq_self_eq_true, cond_true, gr, bnd_some, rins_eq h, rset1_eq h (ceR_len h 64 _)]; rfl
  rw [beqF h11, cond_false]
  by_cases h12 : b = 80
  · subst h12; simp only [beq_self_eq_true, cond_true, gr, bnd_some, rdel_eq h, rset1_eq h (ceR_len h 80 _)]; rfl
  rw [beqF h12, cond_false]
  have e12 : ¬ (b = 64 ∨ b = 80 ∨ b = 88) := by omega
  by_cases h13 : b = 76 ∨ b = 77
  · rw [decide_eq_true h13]
    simp only [cond_true]
    rw [show ((bif (decide (s.spot.y ≥ s.top)) then some (decide (s.spot.y ≤ s.bottom)) else some false) : Option Bool) = _ from and2 _ _, bnd_some]
    by_cases c : s.spot.y ≥ s.top ∧ s.spot.y ≤ s.bottom
    · have c' : ¬ (s.spot.y < s.top ∨ s.spot.y > s.bottom) := by omega
      rw [decide_eq_true c, cond_true]
      rcases h13 with rfl | rfl
      · rw [show ((76 : Int) == 77) = false from rfl, rdown_eq h, bnd_some]
        have e := place_eq (SJ_dn h s.spot.y s.bottom (atS l 0 1)) 0 s.spot.y
        rw [show toldS (dnS W s s.spot.y s.bottom (atS l 0 1)) = Ref11Screen.mk (toldS (dnS W s s.spot.y s.bottom (atS l 0 1))).g s.spot.x s.spot.y (tst s.spot.style) (toldS s).sX (toldS s).sY (toldS s).sS (toldS s).waiting s.top s.bottom (toldS s).wraps (toldS s).title from rfl] at e
        dsimp only
        rw [e, bnd_some]
        unfold orS orF shS
        rw [if_neg c']
        rfl
      · rw [show ((77 : Int) == 77) = true from rfl, rupT_eq h, bnd_some]
        have e := place_eq (SJ_upT h s.spot.y s.bottom (atS l 0 1)) 0 s.spot.y
        rw [show toldS (upT W s s.spot.y s.bottom (atS l 0 1)) = Ref11Screen.mk (toldS (upT W s s.spot.y s.bottom (atS l 0 1))).g s.spot.x s.spot.y (tst s.spot.style) (toldS s).sX (toldS s).sY (toldS s).sS (toldS s).waiting s.top s.bottom (toldS s).wraps (toldS s).title from rfl] at e
        dsimp only
        rw [e, bnd_some]
        unfold orS orF shS
        rw [if_neg c']
        rfl
    · have c' : s.spot.y < s.top ∨ s.spot.y > s.bottom := by omega
      rw [decide_eq_false c, cond_false, bnd_some]
      unfold orS orF shS
      rw [if_pos c']
      rcases h13 with rfl | rfl <;> rfl
  rw [decide_eq_false h13, cond_false]
  by_cases h14 : b = 83
  · subst h14
    have e := scroll_eq (SJ_nw h) (atS l 0 1)
    have e2 : Ref11Screen.mk (toldS s).g s.spot.x s.spot.y (tst s.spot.style) (toldS s).sX (toldS s).sY (toldS s).sS false s.top s.bottom (toldS s).wraps (toldS s).title = toldS (nwS s) := rfl
    simp only [beq_self_eq_true, cond_true, e2, e, bnd_some]
    rfl
  rw [beqF h14, cond_false]
  by_cases h15 : b = 84
  · subst h15; simp only [beq_self_eq_true, cond_true, dn, bnd_some]; rfl
  rw [beqF h15, cond_false]
  by_cases h16 : b = 109
  · subst h16; simp only [beq_self_eq_true, cond_true, bnd_some]; rfl
  rw [beqF h16, cond_false]
  by_cases h17 : b = 114
  · subst h17
    simp only [beq_self_eq_true, cond_true]
    rw [imin_eq, imax_eq, imin_eq, imax_eq, w64 (by omega) (by omega), w64 (by omega) (by omega), ← rgT, ← rgU]
    unfold orS orF
    simp only [Int.reduceEq, if_false, if_true, or_self, Bool.false_eq_true]
    unfold reS
    by_cases c : rgT s l < rgU s l
    · rw [decide_eq_true c, cond_true, if_pos c]
      have e := place_eq (SJ_rn h l c) 0 0
      rw [show toldS (rnS s (rgT s l) (rgU s l)) = Ref11Screen.mk (toldS s).g s.spot.x s.spot.y (tst s.spot.style) (toldS s).sX (toldS s).sY (toldS s).sS (toldS s).waiting (rgT s l) (rgU s l) (toldS s).wraps (toldS s).title from rfl] at e
      rw [e, bnd_some, bnd_some]
      rfl
    · rw [decide_eq_false c, cond_false, if_neg c, bnd_some]
      rfl
  rw [beqF h17, cond_false, bnd_some]
  unfold orS orF
  rw [if_neg (by omega), if_neg (by omega), if_neg (by omega), if_neg (by omega), if_neg h3, if_neg h4, if_neg h5, if_neg h6, if_neg h7, if_neg h8, if_neg h9, if_neg e12, if_neg h13, if_neg h14, if_neg h15, if_neg h16, if_neg h17, if_neg h14]
  rfl
end
end Go.Tw.X

set_option linter.unusedVariables false
set_option linter.unusedSimpArgs false
namespace Go.Tw.X
open Go Go.Tw
/-! ### a new one; what an action does -/
def nlS : StyleStyle := ⟨0, 0, false, false, false⟩
def newT (w h : Int) : ScreenScreen := ⟨newS w h, ⟨0, 0, nlS⟩, ⟨0, 0, nlS⟩, false, 0, (szN h : Int) - 1, true, ByteArray.mk #[]⟩
theorem newT_len (w h : Int) : (newT w h).g.l.length = szN h := by simp [newT, newS]
theorem snew_eq (w h : Int) : p_screen_New w h = some (newT w h) := by
  unfold p_screen_New
  have h1 := szN_le h
  rw [new_eq, bnd_some, gsz_eq, bnd_some]
  dsimp only
  rw [show ((newS w h).l.length : Int) = (szN h : Int) by simp [newS], w64 (by omega) (by omega)]
  rfl
theorem rsnew_eq (w h : Int) : p_ref11_New w h = some (toldS (newT w h)) := by
  unfold p_ref11_New
  have h1 := szN_le h
  rw [rnew_eq, bnd_some]
  rw [show ((toldG (newS w h)).l.length : Int) = (szN h : Int) by simp [newS, toldG], w64 (by omega) (by omega)]
  rfl
theorem SI_newT (w h : Int) : SI (szN w) (newT w h) := by
  have h1 := szN_pos h
  have h2 := szN_pos w
  refine ⟨⟨rfl, GI_new w h, Int.le_refl 0, ?_, Int.le_refl 0, ?_, Int.le_refl 0, ?_, ?_⟩, fun e => by cases e⟩
  · show (0 : Int) < _; omega
  · rw [newT_len]; show (0 : Int) < _; omega
  · show (0 : Int) ≤ (szN h : Int) - 1; omega
  · rw [newT_len]; show (szN h : Int) - 1 < _; omega
section
variable {W : Nat} {s : ScreenScreen}
def ctS (W : Nat) (s : ScreenScreen) (b : Int) : ScreenScreen := if b = 8 then mvS s (s.spot.x - 1) s.spot.y else if b = 9 then mvS s (s.spot.x.tdiv 8 * 8 + 8) s.spot.y else if b = 10 ∨ b = 11 ∨ b = 12 then liS W s else if b = 13 then mvS s 0 s.spot.y else s
def ctF (s : ScreenScreen) (b : Int) : List RowRow := if b = 10 ∨ b = 11 ∨ b = 12 then liF s else []
theorem tdiv_r {x : Int} (h0 : 0 ≤ x) (h1 : x < 1000) : 0 ≤ x.tdiv 8 ∧ x.tdiv 8 ≤ 1000 := by
  rw [Int.tdiv_eq_ediv_of_nonneg h0]
  omega
theorem control_p (h : SJ W s) (b : Int) : p_screen_Screen_control s b = some (ctF s b, ctS W s b) := by
  have hy := yr h
  have ht := tdiv_r hy.2.2.1 hy.2.2.2
  unfold p_screen_Screen_control ctF ctS
  simp only [eqb_or3]
  rw [w64 (x := s.spot.x - 1) (by omega) (by omega), w64 (x := s.spot.x.tdiv 8) (by omega) (by omega), w64 (x := s.spot.x.tdiv 8 + 1) (by omega) (by omega), w64 (x := (s.spot.x.tdiv 8 + 1) * 8) (by omega) (by omega), show (s.spot.x.tdiv 8 + 1) * 8 = s.spot.x.tdiv 8 * 8 + 8 by omega]
  by_cases h1 : b = 8
  · subst h1; simp only [beq_self_eq_true, cond_true, move_eq h, bnd_some]; rfl
  rw [beqF h1, cond_false, if_neg h1]
  by_cases h2 : b = 9
  · subst h2; simp only [beq_self_eq_true, cond_true, move_eq h, bnd_some]; rfl
  rw [beqF h2, cond_false, if_neg h2, bnd_some]
  by_cases h3 : b = 10 ∨ b = 11 ∨ b = 12
  · rw [decide_eq_true h3, cond_true, (line_sim h).p, if_pos h3, if_pos h3]; rfl
  rw [decide_eq_false h3, cond_false, if_neg h3, if_neg h3]
  by_cases h4 : b = 13
  · subst h4; simp only [beq_self_eq_true, cond_true, move_eq h, bnd_some]; rfl
  rw [beqF h4, cond_false, if_neg h4]
  rfl
theorem SI_ct (h : SI W s) (b : Int) : SI W (ctS W s b) := sIte (SI_mv h.toSJ _ _) (sIte (SI_mv h.toSJ _ _) (sIte (line_sim h.toSJ).i (sIte (SI_mv h.toSJ _ _) h)))
def e8S (s : ScreenScreen) : ScreenScreen := ⟨s.g, ⟨s.spot.x, s.spot.y, s.saved.style⟩, s.saved, s.waiting, s.top, s.bottom, s.wraps, s.title⟩
theorem SJ_e8 (h : SJ W s) : SJ W (e8S s) := ⟨h.gw, h.gi, h.x0, h.x1, h.y0, h.y1, h.t0, h.tb, h.b1⟩
def e7S (s : ScreenScreen) : ScreenScreen := ⟨s.g, s.spot, s.spot, s.waiting, s.top, s.bottom, s.wraps, s.title⟩
def esS (W : Nat) (s : ScreenScreen) (b : Int) : ScreenScreen := if b = 69 then liS W (xS s 0) else if b = 68 then liS W s else if b = 77 then baS W s else if b = 55 then e7S s else if b = 56 then mvS (e8S s) s.saved.x s.saved.y else if b = 99 then newT W s.g.l.length else s
def esF (s : ScreenScreen) (b : Int) : List RowRow := if b = 69 then liF (xS s 0) else if b = 68 then liF s else []
theorem SI_es (h : SI W s) (b : Int) : SI W (esS W s b) := by
  have e := SI_newT (W : Int) (s.g.l.length : Int)
  rw [szN_id W h.gi.w1 h.gi.w2] at e
  exact sIte (line_sim (SJ_x h.toSJ (Int.le_refl 0) (w0 h.toSJ))).i (sIte (line_sim h.toSJ).i (sIte (SI_ba h.toSJ) (sIte ⟨⟨h.gw, h.gi, h.x0, h.x1, h.y0, h.y1, h.t0, h.tb, h.b1⟩, h.wt⟩ (sIte (SI_mv (SJ_e8 h.toSJ) _ _) (sIte e h)))))
theorem escape_p (h : SJ W s) (b : Int) : p_screen_Screen_escape s b = some (esF s b, esS W s b) := by
  unfold p_screen_Screen_escape esF esS
  by_cases h1 : b = 69
  · subst h1
    have e := (line_sim (SJ_x h (Int.le_refl 0) (w0 h))).p
    rw [show xS s 0 = ScreenScreen.mk s.g (ScreenSpot.mk 0 s.spot.y s.spot.style) s.saved s.waiting s.top s.bottom s.wraps s.title from rfl] at e
    simp only [beq_self_eq_true, cond_true, bnd_some, e, if_true]
    rfl
  rw [beqF h1, cond_false, if_neg h1, if_neg h1]
  by_cases h2 : b = 68
  · subst h2
    have e := (line_sim h).p
    simp only [beq_self_eq_true, cond_true, bnd_some, if_true]
    rw [show ScreenScreen.mk s.g s.spot s.saved s.waiting s.top s.bottom s.wraps s.title = s from rfl, e]
    rfl
  rw [beqF h2, cond_false, if_neg h2, if_neg h2]
  by_cases h3 : b = 77
  · subst h3; simp only [beq_self_eq_true, cond_true, back_eq h, bnd_some, if_true]; rfl
  rw [beqF h3, cond_false, if_neg h3]
  by_cases h4 : b = 55
  · subst h4; simp only [beq_self_eq_true, cond_true, bnd_some, if_true]; rfl
  rw [beqF h4, cond_false, if_neg h4]
  by_cases h5 : b = 56
  · subst h5
    have e := move_eq (SJ_e8 h) s.saved.x s.saved.y
    rw [show e8S s = ScreenScreen.mk s.g (ScreenSpot.mk s.spot.x s.spot.y s.saved.style) s.saved s.waiting s.top s.bottom s.wraps s.title from rfl] at e
    simp only [beq_self_eq_true, cond_true, e, bnd_some, if_true]
    rfl
  rw [beqF h5, cond_false, if_neg h5]
  by_cases h6 : b = 99
  · subst h6
    simp only [beq_self_eq_true, cond_true, gsz_eq, bnd_some, if_true, snew_eq, h.gw]
    rfl
  rw [beqF h6, cond_false, if_neg h6]
  rfl
/-- an action -/
def pvS (s : ScreenScreen) (b : Int) (l : List Int) : ScreenScreen := if atS l 0 0 = 7 ∧ (b = 104 ∨ b = 108) then ⟨s.g, s.spot, s.saved, s.waiting, s.top, s.bottom, b == 104, s.title⟩ else s
def tiS (s : ScreenScreen) (t : ByteArray) : ScreenScreen := ⟨s.g, s.spot, s.saved, s.waiting, s.top, s.bottom, s.wraps, t⟩
def acS (W : Nat) (s : ScreenScreen) (a : SeqAction) : ScreenScreen := if a.kind = 1 then prS W s a.rune else if a.kind = 2 then ctS W s a.byte else if a.kind = 3 then esS W s a.byte else if a.kind = 4 then (if a.private_ = true then pvS s a.byte a.nums else orS W s a.byte a.nums) else if a.kind = 5 then tiS s a.text else s
def acF (W : Nat) (s : ScreenScreen) (a : SeqAction) : List RowRow := if a.kind = 1 then prF W s a.rune else if a.kind = 2 then ctF s a.byte else if a.kind = 3 then esF s a.byte else if a.kind = 4 then (if a.private_ = true then [] else orF s a.byte a.nums) else []
theorem do_p (h : SJ W s) (a : SeqAction) (hl : a.nums.length ≤ 1000000) : p_screen_Screen_Do s a = some (acF W s a, acS W s a) := by
  unfold p_screen_Screen_Do acF acS
  by_cases h1 : a.kind = 1
  · rw [beqT h1, cond_true, if_pos h1, if_pos h1, print_p h]; rfl
  rw [beqF h1, cond_false, if_neg h1, if_neg h1]
  by_cases h2 : a.kind = 2
  · rw [beqT h2, cond_true, if_pos h2, if_pos h2, control_p h]; rfl
  rw [beqF h2, cond_false, if_neg h2, if_neg h2]
  by_cases h3 : a.kind = 3
  · rw [beqT h3, cond_true, if_pos h3, if_pos h3, escape_p h]; rfl
  rw [beqF h3, cond_false, if_neg h3, if_neg h3]
  by_cases h5 : a.kind = 5
  · have h4 : ¬ a.kind = 4 := by omega
    rw [beqT h5, cond_true, if_neg h4, if_neg h4, if_pos h5]; rfl
  rw [beqF h5, cond_false, if_neg h5]
  by_cases h4 : a.kind = 4
  · rw [beqT h4, cond_true, if_pos h4, if_pos h4]
    cases hp : a.private_ with
    | false =>
      rw [Bool.not_false, cond_true, order_p h a hl, if_neg (by simp), if_neg (by simp)]
      rfl
    | true =>
      rw [Bool.not_true, cond_false, if_pos rfl, if_pos rfl, show p_screen_at a 0 0 = _ from at_eq a 0 0, bnd_some, eqb_or]
      unfold pvS
      by_cases c : atS a.nums 0 0 = 7
      · rw [beqT c, cond_true, bnd_some]
        by_cases c2 : a.byte = 104 ∨ a.byte = 108
        · rw [decide_eq_true c2, cond_true, if_pos ⟨c, c2⟩]; rfl
        · rw [decide_eq_false c2, cond_false, if_neg (fun e => c2 e.2)]; rfl
      · rw [beqF c, cond_false, bnd_some, cond_false, if_neg (fun e => c e.1)]; rfl
  rw [beqF h4, cond_false, if_neg h4, if_neg h4]
  rfl
theorem SI_ac (h : SI W s) (a : SeqAction) (hr : rok a.rune) : SI W (acS W s a) := by
  have e1 : SI W (pvS s a.byte a.nums) := by
    unfold pvS
    exact sIte ⟨⟨h.gw, h.gi, h.x0, h.x1, h.y0, h.y1, h.t0, h.tb, h.b1⟩, h.wt⟩ h
  exact sIte (SI_pr h hr) (sIte (SI_ct h _) (sIte (SI_es h _) (sIte (sIte e1 (SI_or h _ _)) (sIte ⟨⟨h.gw, h.gi, h.x0, h.x1, h.y0, h.y1, h.t0, h.tb, h.b1⟩, h.wt⟩ h))))
def off2 (W : Nat) (off : List RowRow) : Prop := off.length ≤ 2000 ∧ ∀ r ∈ off, gok W r
theorem offok.o2 {off : List RowRow} (h : offok W off) : off2 W off := ⟨by have := h.1; omega, h.2⟩
theorem oIte {p : Prop} [Decidable p] {a b : List RowRow} (ha : off2 W a) (hb : off2 W b) : off2 W (if p then a else b) := by split <;> assumption
theorem acF_ok (h : SJ W s) (a : SeqAction) : off2 W (acF W s a) := by
  have n0 : off2 W [] := (offok_nil W).o2
  have l0 : ∀ t, SJ W t → off2 W (liF t) := fun t ht => (line_sim ht).o.o2
  exact oIte (prF_ok h) (oIte (oIte (l0 _ h) n0) (oIte (oIte (l0 _ (SJ_x h (Int.le_refl 0) (w0 h))) (oIte (l0 _ h) n0)) (oIte (oIte n0 (oIte (upF_ok (SJ_nw h) _).o2 n0)) n0)))
end
end Go.Tw.X

set_option linter.unusedVariables false
set_option linter.unusedSimpArgs false
namespace Go.Tw.X
open Go Go.Tw
def ownA (a : Ref07Action) : SeqAction := ⟨a.kind, a.rune, a.byte, a.private_, a.nums, a.text⟩
section
variable {W : Nat} {s : ScreenScreen}
theorem do_q (h : SJ W s) (a : Ref07Action) (hr : rok a.rune) (hl : a.nums.length ≤ 1000000) : p_ref11_Do (toldS s) a = some (toldS (acS W s (ownA a)), (acF W s (ownA a)).map told) := by
  have hy := yr h
  have hlen := h.gi.l2
  have ht := tdiv_r hy.2.2.1 hy.2.2.2
  unfold p_ref11_Do acF acS ownA
  dsimp only
  by_cases h1 : a.kind = 1
  · rw [beqT h1, cond_true, if_pos h1, if_pos h1, show_r h hr]; rfl
  rw [beqF h1, cond_false, if_neg h1, if_neg h1]
  by_cases h2 : a.kind = 2
  · rw [beqT h2, cond_true, if_pos h2, if_pos h2]
    unfold ctF ctS
    simp only [eqb_or3]
    rw [show (toldS s).x = s.spot.x from rfl, show (toldS s).y = s.spot.y from rfl, w64 (x := s.spot.x - 1) (by omega) (by omega), w64 (x := s.spot.x.tdiv 8) (by omega) (by omega), w64 (x := s.spot.x.tdiv 8 * 8) (by omega) (by omega), w64 (x := s.spot.x.tdiv 8 * 8 + 8) (by omega) (by omega)]
    generalize a.byte = b
    by_cases c1 : b = 8
    · subst c1; simp only [beq_self_eq_true, cond_true, place_eq h, bnd_some]; rfl
    rw [beqF c1, cond_false, if_neg c1]
    by_cases c2 : b = 9
    · subst c2; simp only [beq_self_eq_true, cond_true, place_eq h, bnd_some]; rfl
    rw [beqF c2, cond_false, if_neg c2, bnd_some]
    by_cases c3 : b = 10 ∨ b = 11 ∨ b = 12
    · rw [decide_eq_true c3, cond_true, (line_sim h).q, if_pos c3, if_pos c3]; rfl
    rw [decide_eq_false c3, cond_false, if_neg c3, if_neg c3]
    by_cases c4 : b = 13
    · subst c4; simp only [beq_self_eq_true, cond_true, place_eq h, bnd_some]; rfl
    rw [beqF c4, cond_false, if_neg c4]
    rfl
  rw [beqF h2, cond_false, if_neg h2, if_neg h2]
  by_cases h3 : a.kind = 3
  · rw [beqT h3, cond_true, if_pos h3, if_pos h3]
    unfold esF esS
    generalize a.byte = b
    by_cases c2 : b = 68
    · subst c2; simp only [beq_self_eq_true, cond_true, (line_sim h).q, bnd_some, if_true]; rfl
    rw [beqF c2, cond_false, if_neg c2, if_neg c2]
    by_cases c1 : b = 69
    · subst c1
      have e := (line_sim (SJ_x h (Int.le_refl 0) (w0 h))).q
      rw [show toldS (xS s 0) = Ref11Screen.mk (toldS s).g 0 (toldS s).y (toldS s).s (toldS s).sX (toldS s).sY (toldS s).sS (toldS s).waiting (toldS s).top (toldS s).bottom (toldS s).wraps (toldS s).title from rfl] at e
      simp only [beq_self_eq_true, cond_true, e, bnd_some, if_true]
      rfl
    rw [beqF c1, cond_false, if_neg c1, if_neg c1]
    by_cases c3 : b = 77
    · subst c3
      simp only [beq_self_eq_true, cond_true, if_true]
      unfold baS
      rw [show (toldS s).y = s.spot.y from rfl, show (toldS s).top = s.top from rfl]
      by_cases c : s.spot.y = s.top
      · have e : p_ref10_Move (toldS s).g false s.top s.bottom 1 (numS s.spot.style) = some ((toldS (dnS W (nwS s) s.top s.bottom 1)).g, (downO s.g.l s.top s.bottom 1).map told) := rdown_eq (SJ_nw h) _ _ _
        rw [beqT c, cond_true, if_pos c, show (toldS s).s = tst s.spot.style from rfl, rnumS_eq, bnd_some, show (toldS s).bottom = s.bottom from rfl, e, bnd_some]
        rfl
      · have e := place_eq (SJ_nw h) s.spot.x (s.spot.y - 1)
        rw [show toldS (nwS s) = Ref11Screen.mk (toldS s).g (toldS s).x s.spot.y (toldS s).s (toldS s).sX (toldS s).sY (toldS s).sS false s.top (toldS s).bottom (toldS s).wraps (toldS s).title from rfl] at e
        rw [beqF c, cond_false, if_neg c, w64 (by omega) (by omega), show (toldS s).x = s.spot.x from rfl]
        rw [show (toldS s).x = s.spot.x from rfl] at e
        rw [e, bnd_some]
        rfl
    rw [beqF c3, cond_false, if_neg c3]
    by_cases c4 : b = 55
    · subst c4; simp only [beq_self_eq_true, cond_true, bnd_some, if_true]; rfl
    rw [beqF c4, cond_false, if_neg c4]
    by_cases c5 : b = 56
    · subst c5
      have e := place_eq (SJ_e8 h) s.saved.x s.saved.y
      rw [show toldS (e8S s) = Ref11Screen.mk (toldS s).g (toldS s).x (toldS s).y (toldS s).sS (toldS s).sX (toldS s).sY (toldS s).sS (toldS s).waiting (toldS s).top (toldS s).bottom (toldS s).wraps (toldS s).title from rfl] at e
      simp only [beq_self_eq_true, cond_true, if_true]
      rw [show (toldS s).sX = s.saved.x from rfl, show (toldS s).sY = s.saved.y from rfl]
      rw [show (toldS s).sX = s.saved.x from rfl, show (toldS s).sY = s.saved.y from rfl] at e
      rw [e, bnd_some]
      rfl
    rw [beqF c5, cond_false, if_neg c5]
    by_cases c6 : b = 99
    · subst c6
      simp only [beq_self_eq_true, cond_true, bnd_some, if_true]
      rw [size_g h, show (toldS s).g.w = (W : Int) from h.gw, rsnew_eq, bnd_some]
      rfl
    rw [beqF c6, cond_false, if_neg c6]
    rfl
  rw [beqF h3, cond_false, if_neg h3, if_neg h3]
  by_cases h4 : a.kind = 4
  · rw [beqT h4, cond_true, if_pos h4, if_pos h4]
    cases hp : a.private_ with
    | false =>
      rw [Bool.not_false, cond_true, command_q h a.byte a.nums hl, if_neg (by simp), if_neg (by simp)]
      rfl
    | true =>
      rw [Bool.not_true, cond_false, if_pos rfl, if_pos rfl, show p_ref11_num a.nums 0 0 = _ from rnum_seq a.nums 0 0, bnd_some, eqb_or]
      unfold pvS
      by_cases c : atS a.nums 0 0 = 7
      · rw [beqT c, cond_true, bnd_some]
        by_cases c2 : a.byte = 104 ∨ a.byte = 108
        · rw [decide_eq_true c2, cond_true, if_pos ⟨c, c2⟩]; rfl
        · rw [decide_eq_false c2, cond_false, if_neg (fun e => c2 e.2)]; rfl
      · rw [beqF c, cond_false, bnd_some, cond_false, if_neg (fun e => c e.1)]; rfl
  rw [beqF h4, cond_false, if_neg h4, if_neg h4]
  by_cases h5 : a.kind = 5
  · rw [beqT h5, cond_true, if_pos h5]; rfl
  rw [beqF h5, cond_false, if_neg h5]
  rfl
/-! another size -/
def roN (s : ScreenScreen) (h : Int) : Int := max 0 (s.spot.y - ((szN h : Int) - 1))
def rzS (s : ScreenScreen) (w h : Int) : ScreenScreen := let t : ScreenScreen := mvS ⟨⟨(szN w : Int), rzL (szN w) s.g.l (loS s.g.l (roN s h)) (szN h)⟩, s.spot, s.saved, s.waiting, s.top, s.bottom, s.wraps, s.title⟩ s.spot.x (s.spot.y - roN s h); ⟨t.g, t.spot, t.saved, t.waiting, 0, (szN h : Int) - 1, t.wraps, t.title⟩
def rzF (s : ScreenScreen) (h : Int) : List RowRow := s.g.l.take (loS s.g.l (roN s h))
theorem sresize_p (h : SJ W s) (w k : Int) : p_screen_Screen_Resize s w k = some (rzF s k, rzS s w k) := by
  have hy := yr h
  have h1 := szN_pos k
  have h2 := szN_le k
  have h3 := szN_pos w
  have h4 := szN_le w
  have hl := h.gi.len
  unfold p_screen_Screen_Resize
  rw [sclip_eq, bnd_some, show max 1 (min k 1000) = (szN k : Int) by rw [← szN_eq, imax_eq, imin_eq], w64 (x := (szN k : Int) - 1) (by omega) (by omega), w64 (x := s.spot.y - ((szN k : Int) - 1)) (by omega) (by omega), imax_eq, ← roN]
  have e := resizeG_eq s.g.w s.g.l w k (roN s k) h.gi.l1 (by have := h.gi.l2; omega) hl
  rw [show (GridGrid.mk s.g.w s.g.l) = s.g from rfl] at e
  rw [e, bnd_some, w64 (x := s.spot.y - roN s k) (by unfold roN; omega) (by unfold roN; omega)]
  dsimp only
  have hl2 := rzL_length (szN w) s.g.l (loS s.g.l (roN s k)) (szN k)
  have em : ∀ (g : GridGrid) (q : ScreenScreen), q.g = g → g.w ≤ 1000 → 1 ≤ g.w → g.l.length ≤ 1000 → ∀ x y, p_screen_Screen_move q x y = some (mvS q x y) := by
    intro g q e1 e2 e3 e4 x y
    unfold p_screen_Screen_move p_screen_Screen_last
    rw [e1, gsz_eq, bnd_some, bnd_some]
    dsimp only
    rw [w64 (by omega) (by omega), w64 (by omega) (by omega), sclip_eq, bnd_some, sclip_eq, bnd_some]
    unfold mvS
    rw [e1]
  rw [em _ _ rfl (by dsimp only; omega) (by dsimp only; omega) (by dsimp only; omega), bnd_some]
  unfold p_screen_Screen_last
  rw [gsz_eq, bnd_some, bnd_some]
  simp only [mvS, hl2]
  rw [w64 (by omega) (by omega)]
  simp only [rzF, rzS, mvS, hl2]
theorem SI_rzS (h : SJ W s) (w k : Int) : SI (szN w) (rzS s w k) := by
  have h1 := szN_pos k
  have h2 := szN_le k
  have h3 := szN_pos w
  have h4 := szN_le w
  have hl2 := rzL_length (szN w) s.g.l (loS s.g.l (roN s k)) (szN k)
  have hg : GI (szN w) (rzL (szN w) s.g.l (loS s.g.l (roN s k)) (szN k)) := GI_rz (W := W) (fun r hr => (h.gi.rs r hr).2) _ _ _ h3 h4 h1 h2
  refine ⟨⟨rfl, hg, ?_, ?_, ?_, ?_, ?_, ?_, ?_⟩, fun e => by cases e⟩
  all_goals simp only [rzS, mvS, hl2]
  all_goals omega
theorem rzF_ok (h : SJ W s) (k : Int) : off2 W (rzF s k) := by
  refine ⟨?_, fun r hr => h.gi.rs r (List.mem_of_mem_take hr)⟩
  have := h.gi.l2
  simp only [rzF, List.length_take]
  omega
end
end Go.Tw.X

set_option linter.unusedVariables false
set_option linter.unusedSimpArgs false
namespace Go.Tw.X
open Go Go.Tw
theorem scut_szI (s : ByteArray) {lo hi : Int} (h0 : 0 ≤ lo) (h1 : lo ≤ hi) (h2 : hi ≤ s.size) : (scut s lo hi).size = (hi - lo).toNat := by
  unfold scut
  rw [ByteArray.size_extract]
  omega
def okA (a : Ref07Action) : Prop := rok a.rune ∧ 0 ≤ a.byte ∧ a.byte < 256 ∧ a.nums.length ≤ 18
end Go.Tw.X

set_option linter.unusedVariables false
set_option linter.unusedSimpArgs false
set_option maxHeartbeats 1000000
namespace Go.Tw.X
open Go Go.Tw
def roks (l : List Int) : Prop := ∀ x ∈ l, rok x
end Go.Tw.X

set_option linter.unusedVariables false
set_option linter.unusedSimpArgs false
namespace Go.Tw.X
open Go Go.Tw
theorem ok_cut1 (s : ByteArray) {n : Int} (h : 0 ≤ n) : okO (p_law01_Cut s n) (fun r => (r.size : Int) ≤ n) := by
  unfold p_law01_Cut
  refine ok_if (fun hc => ?_) fun hc => ok_some (by omega)
  refine ok_bind (ok_cut (by omega) h (by omega)) fun _ _ => ok_some ?_
  rw [scut_szI _ (by omega) h (by omega)]
  omega
theorem lrows2 {W : Nat} {off : List RowRow} (h : off2 W off) (hW : W ≤ 1000) : p_law10_Rows off (off.map told) = some true :=
  lrows_eq off (by have := h.1; omega) fun r hr => ⟨by have := (h.2 r hr).1; omega, (h.2 r hr).2⟩
theorem w32i {x : Int} (h : rok x) : IntKind.i32.wrap x = x := by
  have h1 := h.1
  have h2 := h.2
  rw [IntKind.wrap_i32]
  omega
theorem own11_eq {a : Ref07Action} (h : okA a) : p_law11_Own a = some (ownA a) := by
  obtain ⟨h1, h2, h3, h4⟩ := h
  unfold p_law11_Own
  rw [apok_true (by simp; omega), bnd_some, w32i h1, u8id h2 h3]
  rfl
section
variable {W : Nat} {s : ScreenScreen}
/-- one action, of both -/
theorem both_eq (h : SI W s) {a : Ref07Action} (ha : okA a) : p_ref11_Do (toldS s) a = some (toldS (acS W s (ownA a)), (acF W s (ownA a)).map told) ∧ p_law11_Own a = some (ownA a) ∧ p_screen_Screen_Do s (ownA a) = some (acF W s (ownA a), acS W s (ownA a)) ∧ p_law10_Rows (acF W s (ownA a)) ((acF W s (ownA a)).map told) = some true ∧ SI W (acS W s (ownA a)) :=
  ⟨do_q h.toSJ a ha.1 (by have := ha.2.2.2; omega), own11_eq ha, do_p h.toSJ _ (by have := ha.2.2.2; show a.nums.length ≤ _; omega), lrows2 (acF_ok h.toSJ _) h.gi.w2, SI_ac h _ ha.1⟩
theorem sgrid_eq (h : SJ W s) : p_screen_Screen_Grid s = some (s.g, s) := by
  unfold p_screen_Screen_Grid
  have e := gclones_eq s.g.w s.g.l (by have := h.gi.l2; omega) h.gi.len
  rw [show (GridGrid.mk s.g.w s.g.l) = s.g from rfl] at e
  rw [e]
  rfl
theorem scrclone_eq (h : SJ W s) : p_screen_Screen_Clone s = some (s, s) := by
  unfold p_screen_Screen_Clone
  have e := gclones_eq s.g.w s.g.l (by have := h.gi.l2; omega) h.gi.len
  rw [show (GridGrid.mk s.g.w s.g.l) = s.g from rfl] at e
  rw [e]
  rfl
end
end Go.Tw.X

set_option linter.unusedVariables false
set_option linter.unusedSimpArgs false
set_option maxRecDepth 20000
set_option maxHeartbeats 1000000
namespace Go.Tw.X
open Go Go.Tw
/-! ### bytes to runes, one by one -/
theorem all256 {P : Int → Prop} (h : ∀ n : Nat, n < 256 → P n) {b : Int} (h0 : 0 ≤ b) (h1 : b < 256) : P b := by
  have := h b.toNat (by omega)
  rwa [Int.toNat_of_nonneg h0] at this
def need5 (b : Int) : Int × Int × Int := if 194 ≤ b ∧ b ≤ 223 then (1, 128, 191) else if b = 224 then (2, 160, 191) else if b = 237 then (2, 128, 159) else if 225 ≤ b ∧ b ≤ 239 then (2, 128, 191) else if b = 240 then (3, 144, 191) else if b = 244 then (3, 128, 143) else if 241 ≤ b ∧ b ≤ 243 then (3, 128, 191) else (0, 0, 0)
theorem need5_is (b : Int) : ((need5 b).1 = 0 ∨ (need5 b).1 = 1 ∨ (need5 b).1 = 2 ∨ (need5 b).1 = 3) ∧ ((need5 b).1 ≠ 0 → 194 ≤ b ∧ b ≤ 244) := by
  unfold need5
  repeat' split
  all_goals simp
  all_goals omega
def fndo (l : List GlyphLead) (b : Int) : Option GlyphLead := l.find? fun x => decide (x.first ≤ b) && decide (b ≤ x.last)
def fnd (b : Int) : GlyphLead × Bool := match fndo t_glyph_leads b with
  | some x => (x, true)
  | none => (⟨0, 0, 0, 0, 0⟩, false)
theorem fnd_need {b : Int} (h0 : 0 ≤ b) (h1 : b < 256) : (fnd b).2 = decide ((need5 b).1 ≠ 0) ∧ (fnd b).1.need = (need5 b).1 ∧ (fnd b).1.low = (need5 b).2.1 ∧ (fnd b).1.high = (need5 b).2.2 :=
  all256 (P := fun b => (fnd b).2 = decide ((need5 b).1 ≠ 0) ∧ (fnd b).1.need = (need5 b).1 ∧ (fnd b).1.low = (need5 b).2.1 ∧ (fnd b).1.high = (need5 b).2.2) (by decide) h0 h1
theorem gfind_eq (b : Int) : p_glyph_find b = some (fnd b) := by
  unfold p_glyph_find
  have key : ∀ k i : Nat, i + k = 8 → iter (σ := Int) (ρ := Unit ⊕ (GlyphLead × Bool)) (fun s57 => (bif (decide (s57 < 8)) then (Option.bind (idx t_glyph_leads s57) fun x106 => (Option.bind ((bif (decide (b ≥ x106.first)) then some (decide (b ≤ x106.last)) else some false) : Option Bool) fun e113 => (bif e113 then (inrr (some (x106, true))) else some (.inl (IntKind.i64.wrap (s57 + 1)))))) else some (.inr (.inl ())))) (i : Int) = some (match fndo (t_glyph_leads.drop i) b with
      | some x => .inr (x, true)
      | none => .inl ()) := by
    intro k
    induction k with
    | zero =>
      intro i hi
      obtain rfl : i = 8 := by omega
      rw [iter_inr (r := .inl ()) rfl]
      rfl
    | succ k ih =>
      intro i hi
      have hlt : i < t_glyph_leads.length := by show i < 8; omega
      have hd : t_glyph_leads.drop i = t_glyph_leads[i] :: t_glyph_leads.drop (i + 1) := List.drop_eq_getElem_cons hlt
      rw [iter_eq, hd]
      simp only [idx_get _ i hlt, Option.bind_some, decide_eq_true (show (i : Int) < 8 by omega), cond_true]
      generalize t_glyph_leads[i] = x
      have hw : IntKind.i64.wrap ((i : Int) + 1) = ((i + 1 : Nat) : Int) := by rw [w64 (by omega) (by omega)]; omega
      by_cases h1 : x.first ≤ b
      · by_cases h2 : b ≤ x.last
        · simp [h1, h2, fndo, inrr]
        · have := ih (i + 1) (by omega)
          simp [h1, h2, fndo, hw] at this ⊢
          exact this
      · have := ih (i + 1) (by omega)
        simp [h1, fndo, hw] at this ⊢
        exact this
  have := key 8 0 rfl
  simp only [Int.natCast_zero] at this
  rw [this]
  unfold fnd
  rw [List.drop_zero]
  cases fndo t_glyph_leads b <;> rfl
theorem and63 {b : Int} (h0 : 0 ≤ b) (h1 : b < 256) : Go.bits .and .i32 (IntKind.i32.wrap b) 63 = b % 64 := by
  rw [w32i ⟨by omega, by omega⟩]
  exact m63 b h0 (by omega)
theorem andn {b : Int} (h0 : 0 ≤ b) (h1 : b < 256) : Go.bits .and .i32 (IntKind.i32.wrap b) ((63 : Int).fdiv (2 ^ (min (1 : Int).toNat 32))) = b % 32 ∧ Go.bits .and .i32 (IntKind.i32.wrap b) ((63 : Int).fdiv (2 ^ (min (2 : Int).toNat 32))) = b % 16 ∧ Go.bits .and .i32 (IntKind.i32.wrap b) ((63 : Int).fdiv (2 ^ (min (3 : Int).toNat 32))) = b % 8 := by
  rw [w32i ⟨by omega, by omega⟩]
  have g5 := bits_mask .i32 31 (by decide) wraps_i32 5 (by decide) b h0 (by omega)
  have g4 := bits_mask .i32 31 (by decide) wraps_i32 4 (by decide) b h0 (by omega)
  have g3 := bits_mask .i32 31 (by decide) wraps_i32 3 (by decide) b h0 (by omega)
  exact ⟨g5, g4, g3⟩
theorem or64 {r b : Int} (h0 : 0 ≤ r) (h1 : r < 1000000) (hb0 : 0 ≤ b) (hb1 : b < 64) : Go.bits .or .i32 (IntKind.i32.wrap (r * 2 ^ (min 6 32))) b = r * 64 + b := by
  have e : (r * 2 ^ (min 6 32) : Int) = r * 64 := rfl
  rw [e, w32i ⟨by omega, by omega⟩]
  exact bits_join .i32 31 (by decide) wraps_i32 6 (r * 64) b (by omega) (by show r * 64 % 64 = 0; omega) (by omega) hb0 (by omega) (by omega)
def d0 : GlyphDecoder := ⟨0, 0, 0⟩
def low5 (b : Int) : Int := if (need5 b).1 = 1 then b % 32 else if (need5 b).1 = 2 then b % 16 else b % 8
def dbeg (b : Int) : GlyphDecoder × List Int := if b < 128 then (d0, [b]) else if (need5 b).1 = 0 then (d0, [65533]) else (⟨b, low5 b, (need5 b).1⟩, [])
theorem begin_eq {b : Int} (h0 : 0 ≤ b) (h1 : b < 256) : p_glyph_begin b = some (dbeg b) := by
  unfold p_glyph_begin dbeg
  by_cases hb : b < 128
  · rw [decide_eq_true hb, cond_true, if_pos hb, w32i ⟨by omega, by omega⟩]; rfl
  · rw [decide_eq_false hb, cond_false, if_neg hb, gfind_eq, Option.bind_some]
    obtain ⟨f1, f2, f3, f4⟩ := fnd_need h0 h1
    rw [f1, f2]
    have hn := need5_is b
    by_cases hz : (need5 b).1 = 0
    · rw [if_pos hz, hz]; rfl
    · rw [if_neg hz, decide_eq_true hz]
      obtain ⟨a1, a2, a3⟩ := andn h0 h1
      have hk : ∀ n : Int, n = 1 ∨ n = 2 ∨ n = 3 → (Option.bind (chk (shk n)) fun _ => some ((GlyphDecoder.mk b (Go.bits .and .i32 (IntKind.i32.wrap b) ((63 : Int).fdiv (2 ^ (min n.toNat 32)))) n), ([] : List Int))) = some (⟨b, if n = 1 then b % 32 else if n = 2 then b % 16 else b % 8, n⟩, []) := by
        rintro n (rfl | rfl | rfl)
        · rw [a1]; rfl
        · rw [a2]; rfl
        · rw [a3]; rfl
      exact hk _ (by omega)
def dfit (d : GlyphDecoder) (b : Int) : Bool := if d.need < (need5 d.lead).1 then decide (128 ≤ b ∧ b ≤ 191) else decide ((need5 d.lead).2.1 ≤ b ∧ b ≤ (need5 d.lead).2.2)
theorem fits_eq {d : GlyphDecoder} (h0 : 0 ≤ d.lead) (h1 : d.lead < 256) (b : Int) : p_glyph_Decoder_fits d b = some (dfit d b) := by
  unfold p_glyph_Decoder_fits dfit
  rw [gfind_eq, Option.bind_some]
  obtain ⟨f1, f2, f3, f4⟩ := fnd_need h0 h1
  rw [f2, f3, f4]
  by_cases h : d.need < (need5 d.lead).1
  · rw [if_pos h, decide_eq_true h, cond_true]
    by_cases ha : 128 ≤ b <;> simp [ha]
  · rw [if_neg h, decide_eq_false h, cond_false]
    by_cases ha : (need5 d.lead).2.1 ≤ b <;> simp [ha]
def dnext (d : GlyphDecoder) (b : Int) : GlyphDecoder × List Int := if d.need ≤ 0 then dbeg b else if dfit d b then (if d.need = 1 then (d0, [d.rune * 64 + b % 64]) else (⟨d.lead, d.rune * 64 + b % 64, d.need - 1⟩, [])) else ((dbeg b).1, 65533 :: (dbeg b).2)
/-- what is so of a sequence that isn't whole -/
def DI (d : GlyphDecoder) : Prop := d = d0 ∨ (0 ≤ d.lead ∧ d.lead < 256 ∧ 1 ≤ d.need ∧ d.need ≤ (need5 d.lead).1 ∧ 0 ≤ d.rune ∧ (d.need = 3 → d.rune < 8) ∧ (d.need = 2 → d.rune < 512) ∧ (d.need = 1 → d.rune < 32768))
theorem DI0 : DI d0 := .inl rfl
theorem dbeg_ok {b : Int} (h0 : 0 ≤ b) (h1 : b < 256) : DI (dbeg b).1 ∧ (dbeg b).2.length ≤ 1 ∧ roks (dbeg b).2 := by
  unfold dbeg
  have hn := need5_is b
  split
  · refine ⟨DI0, by simp, fun x hx => ?_⟩
    rw [List.mem_singleton.1 hx]
    exact ⟨by omega, by omega⟩
  · split
    · refine ⟨DI0, by simp, fun x hx => ?_⟩
      rw [List.mem_singleton.1 hx]
      exact ⟨by decide, by decide⟩
    · rename_i hz
      refine ⟨.inr ⟨h0, h1, by dsimp only; omega, Int.le_refl _, ?_, ?_, ?_, ?_⟩, by simp, fun x hx => by cases hx⟩
      all_goals (dsimp only; unfold low5; intros; split <;> (try split) <;> omega)
theorem dnext_ok {d : GlyphDecoder} (h : DI d) {b : Int} (h0 : 0 ≤ b) (h1 : b < 256) : p_glyph_Decoder_Next d b = some (dnext d b) ∧ DI (dnext d b).1 ∧ (dnext d b).2.length ≤ 2 ∧ roks (dnext d b).2 := by
  obtain ⟨k1, k2, k3⟩ := dbeg_ok h0 h1
  unfold p_glyph_Decoder_Next dnext
  by_cases hd : d.need ≤ 0
  · rw [decide_eq_true hd, cond_true, begin_eq h0 h1, if_pos hd]
    exact ⟨rfl, k1, by omega, k3⟩
  · rcases h with rfl | ⟨l0, l1, n1, n2, r0, r3, r2, r1⟩
    · exact absurd (by decide) hd
    rw [decide_eq_false hd, cond_false, if_neg hd, fits_eq l0 l1, Option.bind_some]
    have hn := need5_is d.lead
    have hrb : d.rune < 32768 := by
      have : d.need = 1 ∨ d.need = 2 ∨ d.need = 3 := by omega
      rcases this with h | h | h
      · exact r1 h
      · have := r2 h; omega
      · have := r3 h; omega
    cases hf : dfit d b with
    | false =>
      simp only [Bool.not_false, cond_true, begin_eq h0 h1, Option.bind_some, Bool.false_eq_true, if_false]
      refine ⟨by rw [apok_true (by simp; omega)]; rfl, k1, by simp; omega, fun x hx => ?_⟩
      rcases List.mem_cons.1 hx with rfl | hx
      · exact ⟨by decide, by decide⟩
      · exact k3 x hx
    | true =>
      have hor : Go.bits .or .i32 (IntKind.i32.wrap (d.rune * 2 ^ (min 6 32))) (Go.bits .and .i32 (IntKind.i32.wrap b) 63) = d.rune * 64 + b % 64 := by
        rw [and63 h0 h1]
        exact or64 r0 (by omega) (by omega) (by omega)
      simp only [Bool.not_true, cond_false, if_true, hor]
      rw [w64 (x := d.need - 1) (by omega) (by omega)]
      by_cases h1' : d.need = 1
      · rw [if_pos h1', h1']
        refine ⟨rfl, DI0, by simp, fun x hx => ?_⟩
        rw [List.mem_singleton.1 hx]
        have := r1 h1'
        exact ⟨by omega, by omega⟩
      · have he : (d.need - 1 == 0) = false := by
          have : ¬ d.need - 1 = 0 := by omega
          simpa using this
        rw [if_neg h1', he, cond_false]
        refine ⟨rfl, .inr ⟨l0, l1, by dsimp only; omega, by dsimp only; omega, by dsimp only; omega, ?_, ?_, ?_⟩, by simp, fun x hx => by cases hx⟩
        · dsimp only; intro e; omega
        · dsimp only; intro e; have := r3 (by omega); omega
        · dsimp only; intro e; have := r2 (by omega); omega
end Go.Tw.X

set_option linter.unusedVariables false
set_option linter.unusedSimpArgs false
set_option maxHeartbeats 1000000
namespace Go.Tw.X
open Go Go.Tw
theorem ok_sidx' {s : ByteArray} {i : Int} (h0 : 0 ≤ i) (h1 : i < s.size) : okO (sidx s i) (fun b => (0 ≤ b ∧ b < 256) ∧ (sbs s).drop i.toNat = b :: (sbs s).drop (i.toNat + 1)) := by
  have hl : i.toNat < (sbs s).length := by rw [sbs_length]; omega
  have e := sidx_get s i.toNat hl
  rw [Int.toNat_of_nonneg h0] at e
  exact ⟨_, e, sbs_byte s _ (List.getElem_mem hl), List.drop_eq_getElem_cons hl⟩
end Go.Tw.X

set_option linter.unusedVariables false
set_option linter.unusedSimpArgs false
set_option maxHeartbeats 1000000
namespace Go.Tw.X
open Go Go.Tw
/-! ### the parser, a byte at a time -/
def tellP (p : SeqParser) (a : SeqAction) : SeqParser := ⟨p.state, p.order, p.text, p.runes, p.out ++ [a]⟩
def prA (r : Int) : SeqAction := ⟨1, r, 0, false, [], ByteArray.mk #[]⟩
def printP (p : SeqParser) (l : List Int) : SeqParser := ⟨p.state, p.order, p.text, p.runes, p.out ++ l.map prA⟩
def stP (p : SeqParser) (s : Int) : SeqParser := ⟨s, p.order, p.text, p.runes, p.out⟩
def ctA (b : Int) : SeqAction := ⟨2, 0, b, false, [], ByteArray.mk #[]⟩
def commonP (p : SeqParser) (b : Int) : Bool × SeqParser := if b = 24 ∨ b = 26 then (true, stP p 0) else if b = 27 then (true, stP p 1) else if b < 32 then (true, tellP p (ctA b)) else (b == 127, p)
def endD (d : GlyphDecoder) : List Int := if d.need ≤ 0 then [] else [65533]
def groundP (p : SeqParser) (b : Int) : SeqParser := if b < 32 ∨ b = 127 then (commonP ⟨p.state, p.order, p.text, d0, p.out ++ (endD p.runes).map prA⟩ b).2 else printP ⟨p.state, p.order, p.text, (dnext p.runes b).1, p.out⟩ (dnext p.runes b).2
def o0 : SeqOrder := ⟨false, false, false, false, 0, []⟩
def escA (b : Int) : SeqAction := ⟨3, 0, b, false, [], ByteArray.mk #[]⟩
def escapeP (p : SeqParser) (b : Int) : SeqParser :=
  if (commonP p b).1 then (commonP p b).2 else
  if b = 91 then ⟨3, o0, p.text, p.runes, p.out⟩ else if b = 93 then ⟨4, p.order, ByteArray.mk #[], p.runes, p.out⟩ else if b < 48 then stP p 2 else if b < 127 then stP (tellP p (escA b)) 0 else stP p 0
def skipP (p : SeqParser) (b : Int) : SeqParser := if (commonP p b).1 then (commonP p b).2 else if 48 ≤ b then stP p 0 else p
def pushO (o : SeqOrder) : SeqOrder := ⟨o.private_, o.wrong, o.any, o.some, 0, if o.nums.length < 16 then o.nums ++ [o.n] else o.nums⟩
def cmA (o : SeqOrder) (b : Int) : SeqAction := ⟨4, 0, b, o.private_, o.nums, ByteArray.mk #[]⟩
def finishP (p : SeqParser) (b : Int) : SeqParser := if p.order.wrong then stP p 0 else
  let o := if p.order.some then pushO p.order else p.order
  ⟨0, o, p.text, p.runes, p.out ++ [cmA o b]⟩
def anyO (o : SeqOrder) : SeqOrder := ⟨o.private_, o.wrong, true, o.some, o.n, o.nums⟩
def commandO (o : SeqOrder) (b : Int) : SeqOrder :=
  if 48 ≤ b ∧ b ≤ 57 then ⟨o.private_, o.wrong, true, true, imin (10 * o.n + (b - 48)) 9999, o.nums⟩ else
  if b = 59 ∨ b = 58 then ⟨o.private_, o.wrong, true, true, 0, (pushO o).nums⟩ else
  if b = 63 ∧ o.any = false then ⟨true, o.wrong, true, o.some, o.n, o.nums⟩ else
  ⟨o.private_, true, true, o.some, o.n, o.nums⟩
def commandP (p : SeqParser) (b : Int) : SeqParser := if (commonP p b).1 then (commonP p b).2 else
  if 64 ≤ b ∧ b < 127 then finishP ⟨p.state, anyO p.order, p.text, p.runes, p.out⟩ b else ⟨p.state, commandO p.order b, p.text, p.runes, p.out⟩
theorem tell_eq {p : SeqParser} (h : p.out.length ≤ 1000000) (a : SeqAction) : p_seq_Parser_tell p a = some (tellP p a) := by
  unfold p_seq_Parser_tell
  rw [apok_true (by simp; omega)]
  rfl
theorem tell2_eq {p : SeqParser} (h : p.out.length ≤ 1000000) (a : SeqAction) : p_seq_Parser_tell_v2 p a = some (tellP p a) := by
  unfold p_seq_Parser_tell_v2
  rw [apok_true (by simp; omega)]
  rfl
theorem okE {α : Type _} {x : Option α} {r : α} (h : okO x (fun y => y = r)) : x = some r := by
  obtain ⟨y, e, rfl⟩ := h
  exact e
theorem print_eq {p : SeqParser} {l : List Int} (h : p.out.length + l.length ≤ 1000000) : p_seq_Parser_print p l = some (printP p l) := by
  unfold p_seq_Parser_print
  refine okE (ok_bind (P := fun y => y = printP p l) ?_ fun r hr => ok_some hr)
  refine ok_iter (fun z : SeqParser × Int => 0 ≤ z.2 ∧ z.2 ≤ l.length ∧ z.1 = printP p (l.take z.2.toNat)) (fun z => l.length - z.2.toNat) ⟨Int.le_refl 0, by dsimp only; omega, by simp [printP]⟩ ?_
  rintro ⟨q, i⟩ ⟨h0, h1, h2⟩
  dsimp only at h0 h1 h2 ⊢
  subst h2
  refine ok_if (fun hi => ?_) fun hi => ok_some (by rw [List.take_of_length_le (by omega)])
  obtain ⟨k, rfl⟩ : ∃ k : Nat, i = k := ⟨i.toNat, by omega⟩
  have hk : k < l.length := by omega
  refine ok_bind (P := fun x => x = l[k]) ⟨_, idx_get l k hk, rfl⟩ fun x hx => ?_
  subst hx
  refine ok_bind (P := fun x => x = printP p (l.take (k + 1))) ?_ fun x hx => ?_
  · rw [tell_eq (by simp [printP]; omega)]
    refine ok_some ?_
    simp only [printP, tellP, Int.toNat_natCast, List.take_add_one, List.getElem?_eq_getElem hk, Option.toList_some, List.map_append, List.map_cons, List.map_nil, List.append_assoc, prA]
  · subst hx
    rw [w64 (by omega) (by omega)]
    refine ok_some ⟨⟨by dsimp only; omega, by dsimp only; omega, ?_⟩, by dsimp only; omega⟩
    dsimp only
    rw [show ((k : Int) + 1).toNat = k + 1 by omega]
theorem common_eq {p : SeqParser} (h : p.out.length ≤ 1000000) (b : Int) : p_seq_Parser_common p b = some (commonP p b) := by
  unfold p_seq_Parser_common commonP
  by_cases h1 : b = 24
  · subst h1; rfl
  · by_cases h2 : b = 26
    · subst h2; rfl
    · by_cases h3 : b = 27
      · subst h3; rfl
      · have e1 : (b == 24) = false := by simpa using h1
        have e2 : (b == 26) = false := by simpa using h2
        have e3 : (b == 27) = false := by simpa using h3
        rw [if_neg (by omega), if_neg h3, e1, e2, e3]
        by_cases h4 : b < 32
        · rw [if_pos h4, decide_eq_true h4]
          simp only [cond_false, cond_true, Option.bind_some, tell_eq h]
          rfl
        · rw [if_neg h4, decide_eq_false h4]
          rfl
theorem ground_eq {p : SeqParser} (h : p.out.length ≤ 999990) (hd : DI p.runes) {b : Int} (h0 : 0 ≤ b) (h1 : b < 256) : p_seq_Parser_onGround p b = some (groundP p b) := by
  unfold p_seq_Parser_onGround groundP
  have hl : (endD p.runes).length ≤ 1 := by unfold endD; split <;> simp
  have he : p_glyph_Decoder_End p.runes = some (endD p.runes) := by
    unfold p_glyph_Decoder_End endD
    by_cases hn : p.runes.need ≤ 0
    · rw [decide_eq_true hn, if_pos hn]; rfl
    · rw [decide_eq_false hn, if_neg hn]; rfl
  by_cases hb : b < 32 ∨ b = 127
  · have e : ((bif (decide (b < 32)) then some true else some (b == 127)) : Option Bool) = some true := by
      rcases hb with hb | hb
      · rw [decide_eq_true hb]; rfl
      · subst hb; rfl
    rw [if_pos hb, e, Option.bind_some, cond_true, he, Option.bind_some, print_eq (by omega), Option.bind_some, common_eq (by simp [printP]; omega)]
    rfl
  · have e : ((bif (decide (b < 32)) then some true else some (b == 127)) : Option Bool) = some false := by
      rw [decide_eq_false (by omega), cond_false]
      have : ¬ b = 127 := by omega
      simpa using this
    obtain ⟨n1, n2, n3, n4⟩ := dnext_ok hd h0 h1
    rw [if_neg hb, e, Option.bind_some, cond_false, n1, Option.bind_some, print_eq (by dsimp only; omega)]
    rfl
theorem escape_eq {p : SeqParser} (h : p.out.length ≤ 999990) (b : Int) : p_seq_Parser_onEscape p b = some (escapeP p b) := by
  unfold p_seq_Parser_onEscape escapeP
  rw [common_eq (by omega), Option.bind_some]
  cases hc : (commonP p b).1 with
  | true => rfl
  | false =>
    have hp : (commonP p b).2 = p := by
      unfold commonP at hc ⊢
      split
      · rename_i hh; rw [if_pos hh] at hc; cases hc
      · rename_i h1; rw [if_neg h1] at hc
        split
        · rename_i hh; rw [if_pos hh] at hc; cases hc
        · rename_i h2; rw [if_neg h2] at hc
          split
          · rename_i hh; rw [if_pos hh] at hc; cases hc
          · rfl
    rw [hp]
    simp only [cond_false, Bool.false_eq_true, if_false]
    by_cases h1 : b = 91
    · subst h1; rfl
    · have e1 : (b == 91) = false := by simpa using h1
      rw [if_neg h1, e1]
      by_cases h2 : b = 93
      · subst h2; rfl
      · have e2 : (b == 93) = false := by simpa using h2
        rw [if_neg h2, e2]
        by_cases h3 : b < 48
        · rw [if_pos h3, decide_eq_true h3]; rfl
        · rw [if_neg h3, decide_eq_false h3]
          by_cases h4 : b < 127
          · rw [if_pos h4, decide_eq_true h4]
            simp only [cond_false, cond_true, tell_eq (show p.out.length ≤ 1000000 by omega), Option.bind_some]
            rfl
          · rw [if_neg h4, decide_eq_false h4]; rfl
theorem common_none {p : SeqParser} {b : Int} (hc : (commonP p b).1 = false) : (commonP p b).2 = p := by
  unfold commonP at hc ⊢
  split
  · rename_i hh; rw [if_pos hh] at hc; cases hc
  · rename_i h1; rw [if_neg h1] at hc
    split
    · rename_i hh; rw [if_pos hh] at hc; cases hc
    · rename_i h2; rw [if_neg h2] at hc
      split
      · rename_i hh; rw [if_pos hh] at hc; cases hc
      · rfl
theorem pskip_eq {p : SeqParser} (h : p.out.length ≤ 999990) (b : Int) : p_seq_Parser_onSkip p b = some (skipP p b) := by
  unfold p_seq_Parser_onSkip skipP
  rw [common_eq (by omega), Option.bind_some]
  cases hc : (commonP p b).1 with
  | true => rfl
  | false =>
    rw [common_none hc]
    by_cases hb : 48 ≤ b
    · simp [hb, stP]
    · simp [hb]
theorem push_eq {p : SeqParser} (h : p.order.nums.length ≤ 16) : p_seq_order_push p = some ⟨p.state, pushO p.order, p.text, p.runes, p.out⟩ := by
  unfold p_seq_order_push pushO
  by_cases hl : p.order.nums.length < 16
  · rw [decide_eq_true (by omega), cond_true, apok_true (by simp; omega), if_pos hl]; rfl
  · rw [decide_eq_false (by omega), cond_false, if_neg hl]; rfl
theorem finish_eq {p : SeqParser} (h : p.out.length ≤ 999990) (hn : p.order.nums.length ≤ 16) (b : Int) : p_seq_Parser_finish p b = some (finishP p b) := by
  unfold p_seq_Parser_finish finishP
  cases hw : p.order.wrong with
  | true => rfl
  | false =>
    simp only [cond_false, Bool.false_eq_true, if_false]
    cases hs : p.order.some with
    | true =>
      simp only [cond_true, if_true]
      rw [push_eq (by exact hn), Option.bind_some, Option.bind_some, tell2_eq (by dsimp only; omega)]
      rfl
    | false =>
      simp only [cond_false, Bool.false_eq_true, if_false]
      rw [Option.bind_some, tell2_eq (by dsimp only; omega)]
      rfl
theorem command_eq {p : SeqParser} (h : p.out.length ≤ 999990) (h3 : p.state = 3) (hn : p.order.nums.length ≤ 16) (hN : 0 ≤ p.order.n ∧ p.order.n ≤ 9999) {b : Int} (h0 : 0 ≤ b) (h1 : b < 256) : p_seq_Parser_onCommand p b = some (commandP p b) := by
  unfold p_seq_Parser_onCommand commandP
  rw [common_eq (by omega), Option.bind_some]
  cases hc : (commonP p b).1 with
  | true => rfl
  | false =>
    rw [common_none hc]
    simp only [cond_false, Bool.false_eq_true, if_false]
    have hchk : chk (p.state == (3 : Int)) = some () := by rw [h3]; rfl
    by_cases a1 : 48 ≤ b ∧ b ≤ 57
    · have e : ((bif (decide (b ≥ 48)) then some (decide (b ≤ 57)) else some false) : Option Bool) = some true := by rw [decide_eq_true a1.1, decide_eq_true a1.2]; rfl
      have w1 : IntKind.u8.wrap (b - 48) = b - 48 := by simp [IntKind.wrap, IntKind.bits, IntKind.signed]; omega
      rw [e, Option.bind_some, cond_true, w1, w64 (x := b - 48) (by omega) (by omega), w64 (x := 10 * p.order.n) (by omega) (by omega), w64 (by omega) (by omega), if_neg (by omega)]
      unfold commandO
      rw [if_pos a1]
    · have e : ((bif (decide (b ≥ 48)) then some (decide (b ≤ 57)) else some false) : Option Bool) = some false := by
        by_cases hh : 48 ≤ b
        · rw [decide_eq_true hh, decide_eq_false (by omega)]; rfl
        · rw [decide_eq_false hh]; rfl
      rw [e, Option.bind_some, cond_false]
      by_cases a2 : b = 59 ∨ b = 58
      · have e2 : ((bif (b == 59) then some true else some (b == 58)) : Option Bool) = some true := by rcases a2 with rfl | rfl <;> rfl
        rw [e2, Option.bind_some, cond_true, hchk, Option.bind_some, push_eq (by exact hn), Option.bind_some, if_neg (by omega)]
        unfold commandO
        rw [if_neg a1, if_pos a2]
        rfl
      · have e2 : ((bif (b == 59) then some true else some (b == 58)) : Option Bool) = some false := by
          have x1 : (b == 59) = false := by simpa using (show ¬ b = 59 by omega)
          have x2 : (b == 58) = false := by simpa using (show ¬ b = 58 by omega)
          rw [x1, x2]; rfl
        rw [e2, Option.bind_some, cond_false]
        by_cases a3 : b = 63 ∧ p.order.any = false
        · have e3 : ((bif (b == 63) then some (!p.order.any) else some false) : Option Bool) = some true := by rw [a3.1, a3.2]; rfl
          rw [e3, Option.bind_some, cond_true, if_neg (by omega)]
          unfold commandO
          rw [if_neg a1, if_neg a2, if_pos a3]
        · have e3 : ((bif (b == 63) then some (!p.order.any) else some false) : Option Bool) = some false := by
            by_cases hh : b = 63
            · cases ha : p.order.any with
              | true => rw [hh]; rfl
              | false => exact absurd ⟨hh, ha⟩ a3
            · have : (b == 63) = false := by simpa using hh
              rw [this]; rfl
          rw [e3, Option.bind_some, cond_false]
          by_cases a4 : 64 ≤ b ∧ b < 127
          · have e4 : ((bif (decide (b ≥ 64)) then some (decide (b < 127)) else some false) : Option Bool) = some true := by rw [decide_eq_true a4.1, decide_eq_true a4.2]; rfl
            rw [e4, Option.bind_some, cond_true, hchk, Option.bind_some, if_pos a4, finish_eq (by exact h) (by exact hn)]
            rfl
          · have e4 : ((bif (decide (b ≥ 64)) then some (decide (b < 127)) else some false) : Option Bool) = some false := by
              by_cases hh : 64 ≤ b
              · rw [decide_eq_true hh, decide_eq_false (by omega)]; rfl
              · rw [decide_eq_false hh]; rfl
            rw [e4, Option.bind_some, cond_false, if_neg a4]
            unfold commandO
            rw [if_neg a1, if_neg a2, if_neg a3]
end Go.Tw.X

set_option linter.unusedVariables false
set_option linter.unusedSimpArgs false
set_option maxHeartbeats 1000000
namespace Go.Tw.X
open Go Go.Tw
/-! ### titles; one byte; what is so of a parser -/
def tiA (t : ByteArray) : SeqAction := ⟨5, 0, 0, false, [], scut t 2 t.size⟩
def ttl (t : ByteArray) : List SeqAction := match sbs t with
  | x :: y :: _ => if (x = 48 ∨ x = 50) ∧ y = 59 then [tiA t] else []
  | _ => []
theorem ttl_len (t : ByteArray) : (ttl t).length ≤ 1 := by
  unfold ttl
  split
  · split <;> simp
  · simp
def overP (p : SeqParser) : SeqParser := ⟨0, p.order, p.text, p.runes, p.out ++ ttl p.text⟩
def isH (c : Int) (t : ByteArray) : Bool := decide ((sbs t).take 2 = [c, 59])
theorem isH_no {c : Int} {t : ByteArray} (h : t.size < 2) : isH c t = false := by
  refine decide_eq_false fun e => ?_
  have := congrArg List.length e
  simp [sbs_length] at this
  omega
theorem cutpre_eq (t h : ByteArray) (c : Int) (hh : sbs h = [c, 59]) : p_strings_CutPrefix t h = some (if isH c t then (scut t 2 t.size, true) else (t, false)) := by
  have hs : h.size = 2 := by rw [← sbs_length, hh]; rfl
  have hp : p_stringslite_HasPrefix t h = some (isH c t) := by
    unfold p_stringslite_HasPrefix
    rw [hs]
    by_cases h2 : 2 ≤ t.size
    · rw [decide_eq_true (show (t.size : Int) ≥ ((2 : Nat) : Int) by omega), cond_true, cutok_true (by decide) (by decide) (by omega), Option.bind_some, Option.bind_some, str_eqb]
      congr 1
      unfold isH
      refine decide_eq_decide.2 ⟨fun e => ?_, fun e => ?_⟩
      · have := congrArg sbs e
        rw [show ((0 : Int)) = ((0 : Nat) : Int) from rfl, sbs_scut, hh] at this
        simpa using this
      · apply sbs_inj
        rw [show ((0 : Int)) = ((0 : Nat) : Int) from rfl, sbs_scut, hh]
        simpa using e
    · rw [decide_eq_false (show ¬ (t.size : Int) ≥ ((2 : Nat) : Int) by omega), cond_false, Option.bind_some, isH_no (by omega)]
  unfold p_strings_CutPrefix p_stringslite_CutPrefix
  rw [hp, Option.bind_some, hs]
  cases hi : isH c t with
  | false => rfl
  | true =>
    have h2 : 2 ≤ t.size := by
      by_cases h2 : 2 ≤ t.size
      · exact h2
      · rw [isH_no (by omega)] at hi; cases hi
    simp only [Bool.not_true, cond_false, if_true]
    rw [cutok_true (by omega) (by omega) (by omega)]
    rfl
theorem ttl_is (t : ByteArray) : ttl t = (if isH 48 t then [tiA t] else []) ++ (if isH 50 t then [tiA t] else []) := by
  unfold ttl isH
  match h : sbs t with
  | [] => simp
  | [x] => simp
  | x :: y :: r =>
    simp only [List.take_succ_cons, List.take_zero, List.cons.injEq, and_true, decide_eq_true_eq]
    by_cases hy : y = 59
    · by_cases h1 : x = 48
      · subst h1; simp [hy]
      · by_cases h2 : x = 50
        · subst h2; simp [hy]
        · simp [h1, h2]
    · simp [hy]
theorem over_eq {p : SeqParser} (h : p.out.length ≤ 999990) : p_seq_Parser_over p = some (overP p) := by
  unfold p_seq_Parser_over
  have c1 := cutpre_eq p.text (ByteArray.mk #[48, 59]) 48 rfl
  have c2 := cutpre_eq p.text (ByteArray.mk #[50, 59]) 50 rfl
  refine okE (ok_bind (P := fun y => y = overP p) ?_ fun r hr => ok_some hr)
  refine ok_iter (fun z : SeqParser × Int => z.2 = 0 ∧ z.1 = stP p 0 ∨ z.2 = 1 ∧ z.1 = ⟨0, p.order, p.text, p.runes, p.out ++ (if isH 48 p.text then [tiA p.text] else [])⟩ ∨ z.2 = 2 ∧ z.1 = overP p) (fun z => 2 - z.2.toNat) (.inl ⟨rfl, rfl⟩) ?_
  rintro ⟨q, i⟩ (⟨h1, h2⟩ | ⟨h1, h2⟩ | ⟨h1, h2⟩)
  · dsimp only at h1 h2
    subst h1 h2
    refine ok_if (fun _ => ?_) fun hh => absurd (show (0 : Int) < 2 from by decide) hh
    refine ok_bind (P := fun y => y = (⟨0, p.order, p.text, p.runes, p.out ++ (if isH 48 p.text then [tiA p.text] else [])⟩ : SeqParser)) ?_ fun y hy => ?_
    · refine ok_bind (P := fun x => x = ByteArray.mk #[48, 59]) ⟨_, rfl, rfl⟩ fun x hx => ?_
      subst hx
      rw [show (stP p 0).text = p.text from rfl, c1]
      cases hi : isH 48 p.text with
      | true =>
        simp only [if_true, Option.bind_some, cond_true]
        rw [tell_eq (by show p.out.length ≤ _; omega)]
        exact ok_some rfl
      | false =>
        simp only [Bool.false_eq_true, if_false, Option.bind_some, cond_false]
        exact ok_some (by simp [stP])
    · subst hy
      exact ok_some ⟨.inr (.inl ⟨show IntKind.i64.wrap (0 + 1) = 1 from by decide, rfl⟩), show 2 - (IntKind.i64.wrap (0 + 1)).toNat < 2 - (0 : Int).toNat from by decide⟩
  · dsimp only at h1 h2
    subst h1 h2
    refine ok_if (fun _ => ?_) fun hh => absurd (show (1 : Int) < 2 from by decide) hh
    refine ok_bind (P := fun y => y = overP p) ?_ fun y hy => ?_
    · refine ok_bind (P := fun x => x = ByteArray.mk #[50, 59]) ⟨_, rfl, rfl⟩ fun x hx => ?_
      subst hx
      dsimp only
      rw [c2]
      have hl : ((if isH 48 p.text then [tiA p.text] else []) : List SeqAction).length ≤ 1 := by split <;> simp
      cases hi : isH 50 p.text with
      | true =>
        simp only [if_true, Option.bind_some, cond_true]
        rw [tell_eq (by simp only [List.length_append]; omega)]
        refine ok_some ?_
        simp only [tellP, overP, ttl_is, hi, if_true, List.append_assoc]
        rfl
      | false =>
        simp only [Bool.false_eq_true, if_false, Option.bind_some, cond_false]
        refine ok_some ?_
        simp only [overP, ttl_is, hi, Bool.false_eq_true, if_false, List.append_nil]
    · subst hy
      exact ok_some ⟨.inr (.inr ⟨show IntKind.i64.wrap (1 + 1) = 2 from by decide, rfl⟩), show 2 - (IntKind.i64.wrap (1 + 1)).toNat < 2 - (1 : Int).toNat from by decide⟩
  · dsimp only at h1 h2
    subst h1 h2
    exact ok_if (fun hh => absurd hh (show ¬ (2 : Int) < 2 from by decide)) fun _ => ok_some rfl
def titleP (p : SeqParser) (b : Int) : SeqParser := if b = 7 then overP p else if b = 24 ∨ b = 26 then stP p 0 else if b = 27 then stP p 5 else if p.text.size < 200 then ⟨p.state, p.order, p.text ++ bstr [b], p.runes, p.out⟩ else p
theorem title_eq {p : SeqParser} (h : p.out.length ≤ 999990) (b : Int) : p_seq_Parser_onTitle p b = some (titleP p b) := by
  unfold p_seq_Parser_onTitle titleP
  by_cases h1 : b = 7
  · subst h1
    rw [if_pos rfl, over_eq h]
    rfl
  · have e1 : (b == 7) = false := by simpa using h1
    rw [if_neg h1, e1, cond_false]
    by_cases h2 : b = 24 ∨ b = 26
    · have e2 : ((bif (b == 24) then some true else some (b == 26)) : Option Bool) = some true := by rcases h2 with rfl | rfl <;> rfl
      rw [if_pos h2, e2]; rfl
    · have e2 : ((bif (b == 24) then some true else some (b == 26)) : Option Bool) = some false := by
        have x1 : (b == 24) = false := by simpa using (show ¬ b = 24 by omega)
        have x2 : (b == 26) = false := by simpa using (show ¬ b = 26 by omega)
        rw [x1, x2]; rfl
      rw [if_neg h2, e2, Option.bind_some, cond_false]
      by_cases h3 : b = 27
      · subst h3; rfl
      · have e3 : (b == 27) = false := by simpa using h3
        rw [if_neg h3, e3, cond_false]
        by_cases h4 : p.text.size < 200
        · rw [if_pos h4, decide_eq_true (by omega), cond_true, sadd_true (by rw [bstr_size]; simp; omega)]; rfl
        · rw [if_neg h4, decide_eq_false (by omega)]; rfl
def oneP (p : SeqParser) (b : Int) : SeqParser :=
  if p.state = 0 then groundP p b else if p.state = 1 then escapeP p b else if p.state = 2 then skipP p b else if p.state = 3 then commandP p b else if p.state = 4 then titleP p b else if b = 92 then overP p else escapeP (stP p 1) b
/-- what is so of a parser -/
structure PI (p : SeqParser) : Prop where
  di : DI p.runes
  gr : p.state ≠ 0 → p.runes = d0
  nu : p.order.nums.length ≤ 16
  n0 : 0 ≤ p.order.n
  n1 : p.order.n ≤ 9999
  tx : p.text.size ≤ 200
theorem pone_eq {p : SeqParser} (hp : PI p) (h : p.out.length ≤ 999990) {b : Int} (h0 : 0 ≤ b) (h1 : b < 256) : p_seq_Parser_one p b = some (oneP p b) := by
  unfold p_seq_Parser_one oneP
  by_cases s0 : p.state = 0
  · rw [if_pos s0, s0, ground_eq h hp.di h0 h1]; rfl
  · have e0 : (p.state == 0) = false := by simpa using s0
    rw [if_neg s0, e0, cond_false]
    by_cases s1 : p.state = 1
    · rw [if_pos s1, s1, escape_eq h]; rfl
    · have e1 : (p.state == 1) = false := by simpa using s1
      rw [if_neg s1, e1, cond_false]
      by_cases s2 : p.state = 2
      · rw [if_pos s2, s2, pskip_eq h]; rfl
      · have e2 : (p.state == 2) = false := by simpa using s2
        rw [if_neg s2, e2, cond_false]
        by_cases s3 : p.state = 3
        · have e3 : (p.state == 3) = true := by simpa using s3
          rw [if_pos s3, e3, cond_true, command_eq h s3 hp.nu ⟨hp.n0, hp.n1⟩ h0 h1]; rfl
        · have e3 : (p.state == 3) = false := by simpa using s3
          rw [if_neg s3, e3, cond_false]
          by_cases s4 : p.state = 4
          · rw [if_pos s4, s4, title_eq h]; rfl
          · have e4 : (p.state == 4) = false := by simpa using s4
            rw [if_neg s4, e4, cond_false]
            by_cases hb : b = 92
            · subst hb
              rw [if_pos rfl, over_eq h]; rfl
            · have e5 : (b == 92) = false := by simpa using hb
              rw [if_neg hb, e5, cond_false, show SeqParser.mk 1 p.order p.text p.runes p.out = stP p 1 from rfl, escape_eq (by exact h)]; rfl
end Go.Tw.X

set_option linter.unusedVariables false
set_option linter.unusedSimpArgs false
set_option maxHeartbeats 1000000
namespace Go.Tw.X
open Go Go.Tw
/-! ### many bytes; what is told is told behind what was -/
def clr (p : SeqParser) : SeqParser := ⟨p.state, p.order, p.text, p.runes, []⟩
def addO (l : List SeqAction) (q : SeqParser) : SeqParser := ⟨q.state, q.order, q.text, q.runes, l ++ q.out⟩
theorem common_add (p : SeqParser) (b : Int) : commonP p b = ((commonP (clr p) b).1, addO p.out (commonP (clr p) b).2) := by
  unfold commonP
  repeat' split
  all_goals simp [addO, clr, stP, tellP]
theorem finish_add (p : SeqParser) (b : Int) : finishP p b = addO p.out (finishP (clr p) b) := by
  unfold finishP
  rw [show (clr p).order = p.order from rfl]
  split
  all_goals simp [addO, clr, stP]
theorem ground_add (p : SeqParser) (b : Int) : groundP p b = addO p.out (groundP (clr p) b) := by
  unfold groundP
  split
  · rw [common_add]
    rw [common_add (SeqParser.mk (clr p).state (clr p).order (clr p).text d0 ((clr p).out ++ (endD (clr p).runes).map prA))]
    simp [addO, clr]
  · simp [addO, clr, printP]
theorem escape_add (p : SeqParser) (b : Int) : escapeP p b = addO p.out (escapeP (clr p) b) := by
  unfold escapeP
  rw [common_add p b]
  dsimp only
  split
  · rfl
  · repeat' split
    all_goals simp [addO, clr, stP, tellP]
theorem skip_add (p : SeqParser) (b : Int) : skipP p b = addO p.out (skipP (clr p) b) := by
  unfold skipP
  rw [common_add p b]
  dsimp only
  split
  · rfl
  · split
    all_goals simp [addO, clr, stP]
theorem command_add (p : SeqParser) (b : Int) : commandP p b = addO p.out (commandP (clr p) b) := by
  unfold commandP
  rw [common_add p b]
  dsimp only
  split
  · rfl
  · split
    · exact finish_add _ b
    · simp [addO, clr]
theorem over_add (p : SeqParser) : overP p = addO p.out (overP (clr p)) := by simp [overP, addO, clr]
theorem title_add (p : SeqParser) (b : Int) : titleP p b = addO p.out (titleP (clr p) b) := by
  unfold titleP
  rw [show (clr p).text = p.text from rfl]
  split
  · exact over_add p
  · repeat' split
    all_goals simp [addO, clr, stP]
theorem one_add (p : SeqParser) (b : Int) : oneP p b = addO p.out (oneP (clr p) b) := by
  unfold oneP
  rw [show (clr p).state = p.state from rfl]
  split
  · exact ground_add p b
  · split
    · exact escape_add p b
    · split
      · exact skip_add p b
      · split
        · exact command_add p b
        · split
          · exact title_add p b
          · split
            · exact over_add p
            · exact escape_add (stP p 1) b
def prun (p : SeqParser) (bs : List Int) : SeqParser := bs.foldl oneP p
theorem addO_add (a b : List SeqAction) (q : SeqParser) : addO a (addO b q) = addO (a ++ b) q := by simp [addO]
theorem clr_addO (a : List SeqAction) (q : SeqParser) : clr (addO a q) = clr q := rfl
theorem addO_clr (q : SeqParser) : addO q.out (clr q) = q := by simp [addO, clr]
theorem prun_add : ∀ (bs : List Int) (p : SeqParser), prun p bs = addO p.out (prun (clr p) bs)
  | [], p => (addO_clr p).symm
  | b :: bs, p => by
    show prun (oneP p b) bs = addO p.out (prun (oneP (clr p) b) bs)
    rw [prun_add bs (oneP p b), prun_add bs (oneP (clr p) b), one_add p b, addO_add, clr_addO]
    rfl
theorem prun_app (p : SeqParser) (a b : List Int) : prun p (a ++ b) = prun (prun p a) b := List.foldl_append ..
/-! what is so stays so -/
theorem common_PI {p : SeqParser} (h : PI p) (hr : p.runes = d0) (b : Int) : PI (commonP p b).2 ∧ (commonP p b).2.out.length ≤ p.out.length + 1 := by
  unfold commonP
  split
  · exact ⟨⟨h.di, fun _ => hr, h.nu, h.n0, h.n1, h.tx⟩, Nat.le_succ _⟩
  · split
    · exact ⟨⟨h.di, fun _ => hr, h.nu, h.n0, h.n1, h.tx⟩, Nat.le_succ _⟩
    · split
      · exact ⟨⟨h.di, fun _ => hr, h.nu, h.n0, h.n1, h.tx⟩, by simp [tellP]⟩
      · exact ⟨h, Nat.le_succ _⟩
theorem ground_PI {p : SeqParser} (h : PI p) (hs : p.state = 0) {b : Int} (h0 : 0 ≤ b) (h1 : b < 256) : PI (groundP p b) ∧ (groundP p b).out.length ≤ p.out.length + 2 := by
  unfold groundP
  have hl : (endD p.runes).length ≤ 1 := by unfold endD; split <;> simp
  split
  · have := common_PI (p := ⟨p.state, p.order, p.text, d0, p.out ++ (endD p.runes).map prA⟩) ⟨DI0, fun _ => rfl, h.nu, h.n0, h.n1, h.tx⟩ rfl b
    refine ⟨this.1, Nat.le_trans this.2 ?_⟩
    simp
    omega
  · obtain ⟨n1, n2, n3, n4⟩ := dnext_ok h.di h0 h1
    exact ⟨⟨n2, fun hh => absurd hs hh, h.nu, h.n0, h.n1, h.tx⟩, by simp [printP]; omega⟩
theorem escape_PI {p : SeqParser} (h : PI p) (hr : p.runes = d0) (b : Int) : PI (escapeP p b) ∧ (escapeP p b).out.length ≤ p.out.length + 1 := by
  unfold escapeP
  split
  · exact common_PI h hr b
  · split
    · exact ⟨⟨h.di, fun _ => hr, by simp [o0], by simp [o0], by simp [o0], h.tx⟩, Nat.le_succ _⟩
    · split
      · exact ⟨⟨h.di, fun _ => hr, h.nu, h.n0, h.n1, by simp [ByteArray.size]⟩, Nat.le_succ _⟩
      · split
        · exact ⟨⟨h.di, fun _ => hr, h.nu, h.n0, h.n1, h.tx⟩, Nat.le_succ _⟩
        · split
          · exact ⟨⟨h.di, fun _ => hr, h.nu, h.n0, h.n1, h.tx⟩, by simp [tellP, stP]⟩
          · exact ⟨⟨h.di, fun _ => hr, h.nu, h.n0, h.n1, h.tx⟩, Nat.le_succ _⟩
theorem skip_PI {p : SeqParser} (h : PI p) (hr : p.runes = d0) (b : Int) : PI (skipP p b) ∧ (skipP p b).out.length ≤ p.out.length + 1 := by
  unfold skipP
  split
  · exact common_PI h hr b
  · split
    · exact ⟨⟨h.di, fun _ => hr, h.nu, h.n0, h.n1, h.tx⟩, Nat.le_succ _⟩
    · exact ⟨h, Nat.le_succ _⟩
theorem push_nums {o : SeqOrder} (h : o.nums.length ≤ 16) : (pushO o).nums.length ≤ 16 := by
  unfold pushO
  dsimp only
  split
  · simp; omega
  · exact h
theorem finish_PI {p : SeqParser} (h : PI p) (hr : p.runes = d0) (b : Int) : PI (finishP p b) ∧ (finishP p b).out.length ≤ p.out.length + 1 := by
  unfold finishP
  cases p.order.wrong with
  | true => exact ⟨⟨h.di, fun _ => hr, h.nu, h.n0, h.n1, h.tx⟩, Nat.le_succ _⟩
  | false =>
    cases p.order.some with
    | true => exact ⟨⟨h.di, fun _ => hr, push_nums h.nu, Int.le_refl 0, show (0 : Int) ≤ 9999 from by decide, h.tx⟩, by simp⟩
    | false => exact ⟨⟨h.di, fun _ => hr, h.nu, h.n0, h.n1, h.tx⟩, by simp⟩
theorem command_PI {p : SeqParser} (h : PI p) (hr : p.runes = d0) {b : Int} (h0 : 0 ≤ b) : PI (commandP p b) ∧ (commandP p b).out.length ≤ p.out.length + 1 := by
  unfold commandP
  split
  · exact common_PI h hr b
  · split
    · exact finish_PI (p := ⟨p.state, anyO p.order, p.text, p.runes, p.out⟩) ⟨h.di, fun _ => hr, h.nu, h.n0, h.n1, h.tx⟩ hr b
    · refine ⟨⟨h.di, fun _ => hr, ?_, ?_, ?_, h.tx⟩, Nat.le_succ _⟩
      all_goals (dsimp only; unfold commandO; split)
      · exact h.nu
      · split
        · exact push_nums h.nu
        · split <;> exact h.nu
      · rename_i hh
        have := h.n0
        unfold imin
        dsimp only
        split <;> omega
      · split
        · exact Int.le_refl 0
        · split <;> exact h.n0
      · rename_i hh
        unfold imin
        dsimp only
        split <;> omega
      · split
        · show (0 : Int) ≤ 9999; decide
        · split <;> exact h.n1
theorem over_PI {p : SeqParser} (h : PI p) (hr : p.runes = d0) : PI (overP p) ∧ (overP p).out.length ≤ p.out.length + 1 := ⟨⟨h.di, fun _ => hr, h.nu, h.n0, h.n1, h.tx⟩, by have := ttl_len p.text; simp [overP]; omega⟩
theorem title_PI {p : SeqParser} (h : PI p) (hr : p.runes = d0) (b : Int) : PI (titleP p b) ∧ (titleP p b).out.length ≤ p.out.length + 1 := by
  unfold titleP
  split
  · exact over_PI h hr
  · split
    · exact ⟨⟨h.di, fun _ => hr, h.nu, h.n0, h.n1, h.tx⟩, Nat.le_succ _⟩
    · split
      · exact ⟨⟨h.di, fun _ => hr, h.nu, h.n0, h.n1, h.tx⟩, Nat.le_succ _⟩
      · split
        · rename_i ht
          refine ⟨⟨h.di, fun _ => hr, h.nu, h.n0, h.n1, ?_⟩, Nat.le_succ _⟩
          dsimp only
          have e : (p.text ++ bstr [b]).size = p.text.size + 1 := by rw [← sbs_length, sbs_append, List.length_append, sbs_length, sbs_length, bstr_size]; rfl
          omega
        · exact ⟨h, Nat.le_succ _⟩
theorem one_PI {p : SeqParser} (h : PI p) {b : Int} (h0 : 0 ≤ b) (h1 : b < 256) : PI (oneP p b) ∧ (oneP p b).out.length ≤ p.out.length + 2 := by
  unfold oneP
  split
  · rename_i hs; exact ground_PI h hs h0 h1
  · rename_i hs
    have hr := h.gr hs
    have up : ∀ q : SeqParser, PI q ∧ q.out.length ≤ p.out.length + 1 → PI q ∧ q.out.length ≤ p.out.length + 2 := fun q hq => ⟨hq.1, by omega⟩
    split
    · exact up _ (escape_PI h hr b)
    · split
      · exact up _ (skip_PI h hr b)
      · split
        · exact up _ (command_PI h hr h0)
        · split
          · exact up _ (title_PI h hr b)
          · split
            · exact up _ (over_PI h hr)
            · exact up _ (escape_PI (p := stP p 1) ⟨h.di, fun _ => hr, h.nu, h.n0, h.n1, h.tx⟩ hr b)
theorem prun_PI : ∀ (bs : List Int) {p : SeqParser}, PI p → (∀ b ∈ bs, 0 ≤ b ∧ b < 256) → PI (prun p bs) ∧ (prun p bs).out.length ≤ p.out.length + 2 * bs.length
  | [], p, h, _ => ⟨h, by simp [prun]⟩
  | b :: bs, p, h, hb => by
    obtain ⟨b0, b1⟩ := hb b List.mem_cons_self
    obtain ⟨k1, k2⟩ := one_PI h b0 b1
    obtain ⟨k3, k4⟩ := prun_PI bs k1 fun x hx => hb x (List.mem_cons_of_mem _ hx)
    exact ⟨k3, by show (prun (oneP p b) bs).out.length ≤ _; simp; omega⟩
theorem feed_eq {p : SeqParser} (h : PI p) {s : ByteArray} (hs : s.size ≤ 400000) : p_seq_Parser_Feed p s = some ((prun (clr p) (sbs s)).out, clr (prun (clr p) (sbs s))) := by
  unfold p_seq_Parser_Feed
  have hc : PI (clr p) := ⟨h.di, h.gr, h.nu, h.n0, h.n1, h.tx⟩
  refine okE (ok_bind (P := fun y => y = prun (clr p) (sbs s)) ?_ fun r hr => by subst hr; exact ok_some rfl)
  refine ok_iter (fun z : SeqParser × Int => 0 ≤ z.2 ∧ z.2 ≤ s.size ∧ z.1 = prun (clr p) ((sbs s).take z.2.toNat)) (fun z => s.size - z.2.toNat) ⟨Int.le_refl 0, by dsimp only; omega, rfl⟩ ?_
  rintro ⟨q, i⟩ ⟨h0, h1, h2⟩
  dsimp only at h0 h1 h2 ⊢
  subst h2
  have hby : ∀ b ∈ (sbs s).take i.toNat, 0 ≤ b ∧ b < 256 := fun b hb => sbs_byte s b (List.mem_of_mem_take hb)
  obtain ⟨k1, k2⟩ := prun_PI _ hc hby
  refine ok_if (fun hi => ?_) fun hi => ok_some (by rw [List.take_of_length_le (by rw [sbs_length]; omega)])
  refine ok_bind (ok_sidx' h0 hi) fun b hb => ?_
  obtain ⟨⟨b0, b1⟩, hbd⟩ := hb
  have hlen : ((sbs s).take i.toNat).length = i.toNat := by rw [List.length_take, sbs_length]; omega
  have hco : (clr p).out.length = 0 := rfl
  rw [pone_eq k1 (by omega) b0 b1, w64 (by omega) (by omega)]
  refine ok_some ⟨⟨by dsimp only; omega, by dsimp only; omega, ?_⟩, by dsimp only; omega⟩
  dsimp only
  have ht : (sbs s).take (i + 1).toNat = (sbs s).take i.toNat ++ [b] := by
    rw [show (i + 1).toNat = i.toNat + 1 by omega, List.take_add_one]
    congr 1
    have := congrArg (fun l => l[0]?) hbd
    simp only [List.getElem?_drop, Nat.add_zero, List.getElem?_cons_zero] at this
    rw [this]
    rfl
  rw [ht, prun_app]
  rfl
end Go.Tw.X

set_option linter.unusedVariables false
set_option linter.unusedSimpArgs false
set_option maxHeartbeats 1000000
namespace Go.Tw.X
open Go Go.Tw
/-! ### titles and commands, as the document has them -/
def tA (a : SeqAction) : Ref07Action := ⟨a.kind, a.rune, a.byte, a.private_, a.nums, a.text⟩
/-! commands -/
def finO (o : SeqOrder) : SeqOrder := if o.some then pushO o else o
def ordA (o : SeqOrder) (b : Int) : List SeqAction := if o.wrong then [] else [cmA (finO o) b]
theorem finish_is (p : SeqParser) (b : Int) : (finishP p b).out = p.out ++ ordA p.order b := by
  unfold finishP ordA finO
  cases p.order.wrong <;> simp [stP]
end Go.Tw.X

set_option linter.unusedVariables false
set_option linter.unusedSimpArgs false
set_option maxHeartbeats 2000000
namespace Go.Tw.X
open Go Go.Tw
def p0 : SeqParser := ⟨0, o0, ByteArray.mk #[], d0, []⟩
theorem p0_PI : PI p0 := ⟨DI0, fun h => absurd rfl h, by simp [p0, o0], by simp [p0, o0], by simp [p0, o0], by simp [p0, ByteArray.size]⟩
theorem ordA_any (o : SeqOrder) (b : Int) : ordA (anyO o) b = ordA o b := by
  unfold ordA finO anyO pushO
  cases o.some <;> rfl
end Go.Tw.X

set_option linter.unusedVariables false
set_option linter.unusedSimpArgs false
set_option maxHeartbeats 1000000
namespace Go.Tw.X
open Go Go.Tw
/-! ### what is told is fit for a screen -/
def aOk (a : SeqAction) : Prop := rok a.rune ∧ 0 ≤ a.byte ∧ a.byte < 256 ∧ a.nums.length ≤ 16
def asOk (l : List SeqAction) : Prop := ∀ a ∈ l, aOk a
theorem asOk_app {a b : List SeqAction} (ha : asOk a) (hb : asOk b) : asOk (a ++ b) := fun x h => (List.mem_append.1 h).elim (ha x) (hb x)
theorem asOk_one {a : SeqAction} (h : aOk a) : asOk [a] := fun x hx => by rw [List.mem_singleton.1 hx]; exact h
theorem asOk_pr {l : List Int} (h : roks l) : asOk (l.map prA) := fun x hx => by
  obtain ⟨r, hr, rfl⟩ := List.mem_map.1 hx
  exact ⟨h r hr, by show (0 : Int) ≤ 0; decide, by show (0 : Int) < 256; decide, by show 0 ≤ 16; decide⟩
theorem asOk_ttl (t : ByteArray) : asOk (ttl t) := by
  have hz : rok 0 := ⟨by decide, by decide⟩
  unfold ttl
  split
  · split
    · exact asOk_one ⟨hz, by show (0 : Int) ≤ 0; decide, by show (0 : Int) < 256; decide, by show 0 ≤ 16; decide⟩
    · exact fun x hx => by cases hx
  · exact fun x hx => by cases hx
theorem common_as {p : SeqParser} (h : asOk p.out) {b : Int} (h0 : 0 ≤ b) (h1 : b < 256) : asOk (commonP p b).2.out := by
  have hz : rok 0 := ⟨by decide, by decide⟩
  unfold commonP
  split
  · exact h
  · split
    · exact h
    · split
      · exact asOk_app h (asOk_one ⟨hz, h0, h1, by show 0 ≤ 16; decide⟩)
      · exact h
theorem one_as {p : SeqParser} (hp : PI p) (h : asOk p.out) {b : Int} (h0 : 0 ≤ b) (h1 : b < 256) : asOk (oneP p b).out := by
  have hz : rok 0 := ⟨by decide, by decide⟩
  have hesc : ∀ q : SeqParser, asOk q.out → asOk (escapeP q b).out := fun q hq => by
    unfold escapeP
    split
    · exact common_as hq h0 h1
    · repeat' split
      all_goals first | exact hq | exact asOk_app hq (asOk_one ⟨hz, h0, h1, by show 0 ≤ 16; decide⟩)
  have hov : ∀ q : SeqParser, asOk q.out → asOk (overP q).out := fun q hq => asOk_app hq (asOk_ttl _)
  unfold oneP
  split
  · unfold groundP
    split
    · refine common_as (asOk_app h (asOk_pr fun x hx => ?_)) h0 h1
      unfold endD at hx
      split at hx
      · cases hx
      · rw [List.mem_singleton.1 hx]; exact ⟨by decide, by decide⟩
    · exact asOk_app h (asOk_pr (dnext_ok hp.di h0 h1).2.2.2)
  · split
    · exact hesc p h
    · split
      · unfold skipP
        split
        · exact common_as h h0 h1
        · split <;> exact h
      · split
        · unfold commandP
          split
          · exact common_as h h0 h1
          · split
            · rw [finish_is, ordA_any]
              refine asOk_app h ?_
              unfold ordA
              split
              · exact fun x hx => by cases hx
              · refine asOk_one ⟨hz, h0, h1, ?_⟩
                show (finO p.order).nums.length ≤ 16
                unfold finO
                split
                · exact push_nums hp.nu
                · exact hp.nu
            · exact h
        · split
          · unfold titleP
            repeat' split
            all_goals first | exact h | exact hov p h
          · split
            · exact hov p h
            · exact hesc (stP p 1) h
theorem prun_as : ∀ (bs : List Int) {p : SeqParser}, PI p → asOk p.out → (∀ b ∈ bs, 0 ≤ b ∧ b < 256) → asOk (prun p bs).out
  | [], p, _, h, _ => h
  | b :: bs, p, hp, h, hb => by
    obtain ⟨b0, b1⟩ := hb b List.mem_cons_self
    exact prun_as bs (one_PI hp b0 b1).1 (one_as hp h b0 b1) fun x hx => hb x (List.mem_cons_of_mem _ hx)
theorem own_tA {a : SeqAction} (h : aOk a) : ownA (tA a) = a ∧ okA (tA a) := by
  obtain ⟨h1, h2, h3, h4⟩ := h
  refine ⟨?_, h1, h2, h3, by show a.nums.length ≤ 18; omega⟩
  have w8 : IntKind.u8.wrap a.byte = a.byte := by simp [IntKind.wrap, IntKind.bits, IntKind.signed]; omega
  unfold ownA tA
  simp only [w32i h1, w8]
end Go.Tw.X

set_option linter.unusedVariables false
set_option linter.unusedSimpArgs false
set_option maxHeartbeats 1000000
namespace Go.Tw.X
open Go Go.Tw
/-! ### actions go through screen and book -/
theorem trimN_mem : ∀ (n : Nat) (l : List RowCell), ∀ x ∈ trimN n l, x ∈ l
  | 0, l, x, h => h
  | n + 1, l, x, h => by
    unfold trimN at h
    split at h
    · exact List.dropLast_subset l (trimN_mem n _ x h)
    · exact h
theorem glyR_mem {r : RowRow} {g : RowGlyph} (h : g ∈ glyR r) : ∃ c ∈ r.cells, g.rune = c.rune := by
  unfold glyR glyS at h
  obtain ⟨c, hc, rfl⟩ := List.mem_map.1 h
  have hc2 := (List.mem_filter.1 hc).1
  split at hc2
  · exact ⟨c, hc2, rfl⟩
  · exact ⟨c, trimN_mem _ _ c hc2, rfl⟩
/-- what actions make of a screen and a book -/
def stepA (W : Nat) (y : ScreenScreen × (List (List RowGlyph) × List RowGlyph)) (a : SeqAction) : ScreenScreen × (List (List RowGlyph) × List RowGlyph) := (acS W y.1 a, (acF W y.1 a).foldl addR y.2)
theorem rowOk_of {W : Nat} {r : RowRow} (h : gok W r) (hW : W ≤ 1000) : rowOk r := ⟨by rw [h.1]; exact hW, fun g hg => by
  obtain ⟨c, hc, e⟩ := glyR_mem hg
  rw [e]
  exact h.2 c hc⟩
end Go.Tw.X

set_option linter.unusedVariables false
set_option linter.unusedSimpArgs false
set_option maxHeartbeats 1000000
namespace Go.Tw.X
open Go Go.Tw
/-! ### bytes go through the program's model -/
theorem stepA_ok {W k : Nat} {y : ScreenScreen × (List (List RowGlyph) × List RowGlyph)} (hs : SI W y.1) (hz : ZI k y.2) {a : SeqAction} (ha : aOk a) : SI W (stepA W y a).1 ∧ ZI (k + 4000) (stepA W y a).2 := by
  have ho := acF_ok hs.toSJ a
  have hW := hs.gi.w2
  have h2 := addR_fold (acF W y.1 a) hz fun r hr => rowOk_of (ho.2 r hr) hW
  refine ⟨SI_ac hs a ha.1, ?_⟩
  have h3 := ho.1
  exact ⟨by have := h2.n; show ((acF W y.1 a).foldl addR y.2).1.length ≤ _; omega, h2.b, h2.g, h2.ls⟩
theorem stepsA_ok {W : Nat} : ∀ (l : List SeqAction) {k : Nat} {y : ScreenScreen × (List (List RowGlyph) × List RowGlyph)}, SI W y.1 → ZI k y.2 → asOk l → SI W (l.foldl (stepA W) y).1 ∧ ZI (k + 4000 * l.length) (l.foldl (stepA W) y).2
  | [], k, y, hs, hz, _ => ⟨hs, hz⟩
  | a :: l, k, y, hs, hz, h => by
    obtain ⟨h1, h2⟩ := stepA_ok hs hz (h a List.mem_cons_self)
    have := stepsA_ok l (k := k + 4000) h1 h2 fun x hx => h x (List.mem_cons_of_mem _ hx)
    rw [show k + 4000 * (a :: l).length = k + 4000 + 4000 * l.length by simp; omega]
    exact this
theorem sdo_eq {W : Nat} {s : ScreenScreen} (h : SI W s) {a : SeqAction} (ha : aOk a) : p_screen_Screen_Do s a = some (acF W s a, acS W s a) := by
  obtain ⟨e, ho⟩ := own_tA ha
  have := (both_eq h ho).2.2.1
  rw [e] at this
  exact this
theorem off1_eq {W k : Nat} {m : ModelModel} {z : List (List RowGlyph) × List RowGlyph} (hs : SI W m.screen) (hz : ZI k z) (hp : PI m.parser) {t : ByteArray} (ht : t.size ≤ 1000) (hk : k ≤ 50000000) :
    p_model_Model_off_1 (fun s417 x369 => (Option.bind (p_book_Book_Add s417 x369) fun r421 => some (r421.2, true))) (bookOf z) m t = some (bookOf ((prun (clr m.parser) (sbs t)).out.foldl (stepA W) (m.screen, z)).2, ⟨m.book, clr (prun (clr m.parser) (sbs t)), ((prun (clr m.parser) (sbs t)).out.foldl (stepA W) (m.screen, z)).1, m.k⟩) := by
  unfold p_model_Model_off_1
  rw [feed_eq hp (by omega), Option.bind_some]
  have hc : PI (clr m.parser) := ⟨hp.di, hp.gr, hp.nu, hp.n0, hp.n1, hp.tx⟩
  have hpr := prun_PI (sbs t) hc (sbs_byte t)
  have has := prun_as (sbs t) hc (fun x hx => by cases hx) (sbs_byte t)
  have hlen := hpr.2
  rw [sbs_length] at hlen
  have hc0 : (clr m.parser).out.length = 0 := rfl
  generalize prun (clr m.parser) (sbs t) = q at hpr has hlen
  dsimp only
  refine okE (ok_bind (P := fun | .inl y => y = (((q.out.foldl (stepA W) (m.screen, z)).1, bookOf (q.out.foldl (stepA W) (m.screen, z)).2) : ScreenScreen × BookBook) | .inr _ => False) ?_ ?_)
  · refine ok_iter (fun y : ScreenScreen × Int × BookBook => 0 ≤ y.2.1 ∧ y.2.1 ≤ q.out.length ∧ y.1 = ((q.out.take y.2.1.toNat).foldl (stepA W) (m.screen, z)).1 ∧ y.2.2 = bookOf ((q.out.take y.2.1.toNat).foldl (stepA W) (m.screen, z)).2) (fun y => q.out.length - y.2.1.toNat) ⟨Int.le_refl 0, by dsimp only; omega, rfl, rfl⟩ ?_
    rintro ⟨s, i, b⟩ ⟨h0, h1, h2, h3⟩
    dsimp only at h0 h1 h2 h3 ⊢
    subst h2 h3
    refine ok_if (fun hi => ?_) fun hi => ?_
    · obtain ⟨j, rfl⟩ : ∃ j : Nat, i = j := ⟨i.toNat, by omega⟩
      have hj : j < q.out.length := by omega
      rw [show ((j : Int)).toNat = j from rfl]
      have hst := stepsA_ok (W := W) (q.out.take j) (k := k) (y := (m.screen, z)) hs hz fun x hx => has x (List.mem_of_mem_take hx)
      rw [List.length_take] at hst
      have ha := has q.out[j] (List.getElem_mem hj)
      have hnext : (q.out.take (j + 1)).foldl (stepA W) (m.screen, z) = stepA W ((q.out.take j).foldl (stepA W) (m.screen, z)) q.out[j] := by
        rw [List.take_add_one, List.getElem?_eq_getElem hj, Option.toList_some, List.foldl_append]
        rfl
      generalize (q.out.take j).foldl (stepA W) (m.screen, z) = y at hst hnext
      have ho := acF_ok hst.1.toSJ q.out[j]
      have hW := hst.1.gi.w2
      have hol := ho.1
      rw [idx_get _ j hj, Option.bind_some, sdo_eq hst.1 ha, Option.bind_some]
      obtain ⟨r, hr1, hr2⟩ := add_eq hst.2 (rows := acF W y.1 q.out[j]) (fun r hr => rowOk_of (ho.2 r hr) hW) (by omega)
      rw [hr1]
      simp only [Option.bind_some, Bool.not_true, cond_false]
      rw [w64 (by omega) (by omega)]
      refine ok_some ⟨⟨by dsimp only; omega, by dsimp only; omega, ?_, ?_⟩, by dsimp only; omega⟩
      · dsimp only
        rw [show ((j : Int) + 1).toNat = j + 1 by omega, hnext]
        rfl
      · dsimp only
        rw [show ((j : Int) + 1).toNat = j + 1 by omega, hnext, hr2]
        rfl
    · refine ok_some ?_
      rw [List.take_of_length_le (by omega)]
  · rintro (y | y) h
    · subst h
      exact ok_some rfl
    · exact h.elim
end Go.Tw.X

set_option linter.unusedVariables false
set_option linter.unusedSimpArgs false
set_option maxHeartbeats 1000000
namespace Go.Tw.X
open Go Go.Tw
theorem news (a t : ByteArray) : (prun p0 (sbs (a ++ t))).out = (prun p0 (sbs a)).out ++ (prun (clr (prun p0 (sbs a))) (sbs t)).out ∧ clr (prun p0 (sbs (a ++ t))) = clr (prun (clr (prun p0 (sbs a))) (sbs t)) := by
  rw [sbs_append, prun_app, prun_add (sbs t) (prun p0 (sbs a))]
  exact ⟨rfl, rfl⟩
end Go.Tw.X

set_option linter.unusedVariables false
set_option linter.unusedSimpArgs false
set_option maxHeartbeats 1000000
namespace Go.Tw.X
open Go Go.Tw
/-! ### what is told: runes that are, and short texts -/
def ru (x : Int) : Prop := 0 ≤ x ∧ x ≤ 1114111
def rus (l : List Int) : Prop := ∀ x ∈ l, ru x
structure D2 (d : GlyphDecoder) : Prop where
  r0 : 0 ≤ d.rune
  r3 : d.need = 3 → d.rune ≤ 4 ∧ (d.rune = 4 → d.lead = 244)
  r2 : d.need = 2 → d.rune ≤ 271
  r1 : d.need = 1 → d.rune ≤ 17407
theorem D20 : D2 d0 := ⟨by decide, by decide, by decide, by decide⟩
theorem ru_one {x : Int} (h : ru x) : rus [x] := fun y hy => by rw [List.mem_singleton.1 hy]; exact h
theorem ru_bad : ru 65533 := ⟨by decide, by decide⟩
theorem low_is {b : Int} (h0 : 0 ≤ b) (h1 : b < 256) : 0 ≤ low5 b ∧ ((need5 b).1 = 3 → low5 b ≤ 4 ∧ (low5 b = 4 → b = 244)) ∧ ((need5 b).1 = 2 → low5 b ≤ 15) ∧ ((need5 b).1 = 1 → low5 b ≤ 31) := by
  unfold low5 need5
  repeat' split
  all_goals simp_all
  all_goals omega
theorem dbeg2 {b : Int} (h0 : 0 ≤ b) (h1 : b < 256) : D2 (dbeg b).1 ∧ rus (dbeg b).2 := by
  unfold dbeg
  obtain ⟨l0, l3, l2, l1⟩ := low_is h0 h1
  split
  · exact ⟨D20, ru_one ⟨h0, by omega⟩⟩
  · split
    · exact ⟨D20, ru_one ru_bad⟩
    · refine ⟨⟨l0, l3, fun e => ?_, fun e => ?_⟩, fun x hx => by cases hx⟩
      · have := l2 e; show low5 b ≤ 271; omega
      · have := l1 e; show low5 b ≤ 17407; omega
theorem dfit_is {d : GlyphDecoder} {b : Int} (h0 : 0 ≤ b) (hn : (need5 d.lead).1 = d.need) (h3 : d.need = 3) (h4 : d.lead = 244) (hf : dfit d b = true) : b % 64 ≤ 15 := by
  unfold dfit at hf
  rw [if_neg (by omega), h4] at hf
  have e : need5 244 = (3, 128, 143) := by decide
  rw [e] at hf
  have := of_decide_eq_true hf
  dsimp only at this
  omega
theorem dnext2 {d : GlyphDecoder} (hd : DI d) (h : D2 d) {b : Int} (h0 : 0 ≤ b) (h1 : b < 256) : D2 (dnext d b).1 ∧ rus (dnext d b).2 := by
  unfold dnext
  obtain ⟨k1, k2⟩ := dbeg2 h0 h1
  split
  · exact ⟨k1, k2⟩
  · rename_i hn
    rcases hd with rfl | ⟨l0, l1, n1, n2, r0, r3, r2, r1⟩
    · exact absurd (by decide) hn
    have hk := (need5_is d.lead).1
    split
    · rename_i hf
      split
      · rename_i hn1
        have := h.r1 hn1
        exact ⟨D20, ru_one ⟨by omega, by omega⟩⟩
      · rename_i hn1
        refine ⟨⟨by show 0 ≤ d.rune * 64 + b % 64; omega, fun e => ?_, fun e => ?_, fun e => ?_⟩, fun x hx => by cases hx⟩
        · change d.need - 1 = 3 at e; omega
        · change d.need - 1 = 2 at e
          show d.rune * 64 + b % 64 ≤ 271
          have h3 : d.need = 3 := by omega
          obtain ⟨a1, a2⟩ := h.r3 h3
          by_cases c : d.rune = 4
          · have := dfit_is h0 (by omega) h3 (a2 c) hf; omega
          · omega
        · change d.need - 1 = 1 at e
          show d.rune * 64 + b % 64 ≤ 17407
          have := h.r2 (by omega)
          omega
    · refine ⟨k1, fun x hx => ?_⟩
      rcases List.mem_cons.1 hx with rfl | hx
      · exact ru_bad
      · exact k2 x hx
/-- an action that may be -/
def aGd (a : SeqAction) : Prop := ru a.rune ∧ a.text.size ≤ 200
def asGd (l : List SeqAction) : Prop := ∀ a ∈ l, aGd a
theorem asGd_app {a b : List SeqAction} (ha : asGd a) (hb : asGd b) : asGd (a ++ b) := fun x h => (List.mem_append.1 h).elim (ha x) (hb x)
theorem asGd_one {a : SeqAction} (h : aGd a) : asGd [a] := fun x hx => by rw [List.mem_singleton.1 hx]; exact h
theorem z200 : (ByteArray.mk #[]).size ≤ 200 := by decide
theorem ru0 : ru 0 := ⟨by decide, by decide⟩
theorem asGd_pr {l : List Int} (h : rus l) : asGd (l.map prA) := fun x hx => by
  obtain ⟨r, hr, rfl⟩ := List.mem_map.1 hx
  exact ⟨h r hr, z200⟩
theorem asGd_ttl {t : ByteArray} (h : t.size ≤ 200) : asGd (ttl t) := by
  have hg : 2 ≤ t.size → aGd (tiA t) := fun h2 => ⟨ru0, by show (scut t 2 t.size).size ≤ 200; rw [scut_szI _ (by omega) (by omega) (by omega)]; omega⟩
  unfold ttl
  split
  · rename_i x y l e
    have : 2 ≤ t.size := by have := congrArg List.length e; rw [sbs_length] at this; simp at this; omega
    split
    · exact asGd_one (hg this)
    · exact fun x hx => by cases hx
  · exact fun x hx => by cases hx
theorem common_gd {p : SeqParser} (h : asGd p.out) (b : Int) : asGd (commonP p b).2.out := by
  unfold commonP
  split
  · exact h
  · split
    · exact h
    · split
      · exact asGd_app h (asGd_one ⟨ru0, z200⟩)
      · exact h
theorem one_gd {p : SeqParser} (hp : PI p) (hd : D2 p.runes) (h : asGd p.out) {b : Int} (h0 : 0 ≤ b) (h1 : b < 256) : asGd (oneP p b).out := by
  have hesc : ∀ q : SeqParser, asGd q.out → asGd (escapeP q b).out := fun q hq => by
    unfold escapeP
    split
    · exact common_gd hq b
    · repeat' split
      all_goals first | exact hq | exact asGd_app hq (asGd_one ⟨ru0, z200⟩)
  have hov : asGd (overP p).out := asGd_app h (asGd_ttl hp.tx)
  unfold oneP
  split
  · unfold groundP
    split
    · refine common_gd (asGd_app h (asGd_pr fun x hx => ?_)) b
      unfold endD at hx
      split at hx
      · cases hx
      · rw [List.mem_singleton.1 hx]; exact ru_bad
    · exact asGd_app h (asGd_pr (dnext2 hp.di hd h0 h1).2)
  · split
    · exact hesc p h
    · split
      · unfold skipP
        split
        · exact common_gd h b
        · split <;> exact h
      · split
        · unfold commandP
          split
          · exact common_gd h b
          · split
            · rw [finish_is, ordA_any]
              refine asGd_app h ?_
              unfold ordA
              split
              · exact fun x hx => by cases hx
              · exact asGd_one ⟨ru0, z200⟩
            · exact h
        · split
          · unfold titleP
            repeat' split
            all_goals first | exact h | exact hov
          · split
            · exact hov
            · exact hesc (stP p 1) h
theorem common_runes (p : SeqParser) (b : Int) : (commonP p b).2.runes = p.runes := by
  unfold commonP
  repeat' split
  all_goals rfl
theorem escape_runes (p : SeqParser) (b : Int) : (escapeP p b).runes = p.runes := by
  unfold escapeP
  split
  · exact common_runes p b
  · repeat' split
    all_goals rfl
theorem one_d2 {p : SeqParser} (hp : PI p) (hd : D2 p.runes) {b : Int} (h0 : 0 ≤ b) (h1 : b < 256) : D2 (oneP p b).runes := by
  unfold oneP
  split
  · unfold groundP
    split
    · rw [common_runes]; exact D20
    · exact (dnext2 hp.di hd h0 h1).1
  · split
    · rw [escape_runes]; exact hd
    · split
      · unfold skipP
        split
        · rw [common_runes]; exact hd
        · split <;> exact hd
      · split
        · unfold commandP
          split
          · rw [common_runes]; exact hd
          · split
            · unfold finishP
              split <;> exact hd
            · exact hd
        · split
          · unfold titleP
            repeat' split
            all_goals exact hd
          · split
            · exact hd
            · rw [escape_runes]; exact hd
theorem prun_gd : ∀ (bs : List Int) {p : SeqParser}, PI p → D2 p.runes → asGd p.out → (∀ b ∈ bs, 0 ≤ b ∧ b < 256) → asGd (prun p bs).out ∧ D2 (prun p bs).runes
  | [], p, _, hd, h, _ => ⟨h, hd⟩
  | b :: bs, p, hp, hd, h, hb => by
    obtain ⟨b0, b1⟩ := hb b List.mem_cons_self
    exact prun_gd bs (one_PI hp b0 b1).1 (one_d2 hp hd b0 b1) (one_gd hp hd h b0 b1) fun x hx => hb x (List.mem_cons_of_mem _ hx)
end Go.Tw.X

set_option linter.unusedVariables false
set_option linter.unusedSimpArgs false
set_option maxHeartbeats 1000000
namespace Go.Tw.X
open Go Go.Tw
/-! ### cells that may be, through all that a screen does -/
def sy (x : Int) : Prop := 0 ≤ x ∧ x ≤ 647
def cOk (c : RowCell) : Prop := ru c.rune ∧ sy c.style ∧ 0 ≤ c.part ∧ c.part ≤ 3
theorem num_sy (s : StyleStyle) : sy (numS s) := by
  unfold numS sy
  split
  · unfold bN
    repeat' split
    all_goals omega
  · omega
theorem ru32 : ru 32 := ⟨by decide, by decide⟩
theorem cOk_blk {s : Int} (h : sy s) : cOk (blk s) := ⟨ru32, h, by show (0 : Int) ≤ 0; decide, by show (0 : Int) ≤ 3; decide⟩
theorem sy0 : sy 0 := ⟨by decide, by decide⟩
def cR (l : List RowCell) : Prop := ∀ c ∈ l, cOk c
theorem cR_nil : cR [] := fun c h => by cases h
theorem cR_mend : ∀ (l : List RowCell) (p : Int), cR l → cR (mendS p l)
  | [], _, _ => fun c hc => by cases hc
  | c :: r, p, h => by
    intro d hd
    simp only [mendS, List.mem_cons] at hd
    rcases hd with rfl | hd
    · unfold fixS
      cases badS p c r with
      | true => exact cOk_blk (h c (by simp)).2.1
      | false => exact h c (by simp)
    · exact cR_mend r _ (fun e he => h e (by simp [he])) d hd
theorem cR_set {l : List RowCell} (h : cR l) (i : Nat) {c : RowCell} (hc : cOk c) : cR (l.set i c) := by
  intro d hd
  rcases List.mem_or_eq_of_mem_set hd with hd | rfl
  · exact h d hd
  · exact hc
theorem cR_put {l : List RowCell} (h : cR l) (at_ : Int) {s x : Int} (hx : ru x) (hs : sy s) : cR (putL l at_ x s) := by
  have m : ∀ p : Int, 0 ≤ p → p ≤ 3 → cOk ⟨x, s, p⟩ := fun p a b => ⟨hx, hs, a, b⟩
  unfold putL
  split
  · exact h
  · split
    · exact cR_set h _ (m 0 (by decide) (by decide))
    · unfold putR
      have h1 := cR_set (cR_set h at_.toNat (m 1 (by decide) (by decide))) (at_.toNat + 1) (m 2 (by decide) (by decide))
      split
      · rename_i c hc
        have hcm : cOk c := by
          split at hc
          · exact h1 c (List.mem_of_getElem? hc)
          · cases hc
        split
        · exact cR_set h1 _ (cOk_blk hcm.2.1)
        · exact h1
      · exact h1
theorem cR_rep (n : Nat) {s : Int} (h : sy s) : cR (List.replicate n (blk s)) := fun c hc => by rw [List.eq_of_mem_replicate hc]; exact cOk_blk h
theorem cR_app {a b : List RowCell} (ha : cR a) (hb : cR b) : cR (a ++ b) := fun c hc => (List.mem_append.1 hc).elim (ha c) (hb c)
theorem cR_take {a : List RowCell} (ha : cR a) (n : Nat) : cR (a.take n) := fun c hc => ha c (List.mem_of_mem_take hc)
theorem cR_drop {a : List RowCell} (ha : cR a) (n : Nat) : cR (a.drop n) := fun c hc => ha c (List.mem_of_mem_drop hc)
theorem cR_erase (a b : Int) {s : Int} (hs : sy s) : ∀ {l : List RowCell} (i : Int), cR l → cR (eraseL a b s i l)
  | [], _, _ => fun c hc => by cases hc
  | c :: r, i, h => by
    intro d hd
    simp only [eraseL, List.mem_cons] at hd
    rcases hd with rfl | hd
    · split
      · exact cOk_blk hs
      · exact h c (by simp)
    · exact cR_erase a b hs (i + 1) (fun e he => h e (by simp [he])) d hd
theorem cR_fill {l : List RowCell} (h : cR l) {q : Int} (hq : sy q) : cR (fillL l q) := cR_set h _ ⟨ru32, hq, by show (0 : Int) ≤ 3; decide, by show (3 : Int) ≤ 3; decide⟩
theorem cR_ins {l : List RowCell} (h : cR l) (a n : Int) {q : Int} (hq : sy q) : cR (ins l a n q) := by
  unfold ins
  split
  · exact h
  · exact cR_take (cR_app (cR_app (cR_take h _) (cR_rep _ hq)) (cR_drop h _)) _
theorem cR_del {l : List RowCell} (h : cR l) (a n : Int) {q : Int} (hq : sy q) : cR (del l a n q) := by
  unfold del
  split
  · exact h
  · exact cR_app (cR_app (cR_take h _) (cR_drop h _)) (cR_rep _ hq)
def gR2 (l : List RowRow) : Prop := ∀ r ∈ l, cR r.cells
theorem gR2_app {a b : List RowRow} (ha : gR2 a) (hb : gR2 b) : gR2 (a ++ b) := fun c hc => (List.mem_append.1 hc).elim (ha c) (hb c)
theorem gR2_take {a : List RowRow} (ha : gR2 a) (n : Nat) : gR2 (a.take n) := fun c hc => ha c (List.mem_of_mem_take hc)
theorem gR2_drop {a : List RowRow} (ha : gR2 a) (n : Nat) : gR2 (a.drop n) := fun c hc => ha c (List.mem_of_mem_drop hc)
theorem gR2_rep (k W : Nat) {s : Int} (h : sy s) : gR2 (List.replicate k (rowB W s)) := fun c hc => by rw [List.eq_of_mem_replicate hc]; exact cR_rep W h
theorem gR2_nil : gR2 [] := fun c h => by cases h
theorem cR_row {l : List RowRow} (h : gR2 l) (y : Int) : cR (rowS l y).cells := by
  unfold rowS
  split
  · rename_i hy
    rw [List.getElem?_eq_getElem (by omega)]
    exact h _ (List.getElem_mem _)
  · exact cR_nil
theorem cR_rsz (W : Nat) {r : RowRow} (h : cR r.cells) : cR (rsz W r).cells := by
  unfold rsz
  split
  · exact h
  · exact cR_mend _ _ (cR_app (cR_take h _) (cR_rep _ sy0))
theorem gR2_set (W : Nat) {l : List RowRow} (h : gR2 l) (y : Int) {r : RowRow} (hr : cR r.cells) : gR2 (setS W l y r) := by
  unfold setS
  split
  · intro q hq
    rcases List.mem_or_eq_of_mem_set hq with hq | hq
    · exact h q hq
    · rw [hq]; exact cR_rsz W hr
  · exact h
theorem gR2_up (W : Nat) {l : List RowRow} (h : gR2 l) (t b n : Int) {s : Int} (hs : sy s) : gR2 (upL W l t b n s) := by
  unfold upL
  split
  · exact h
  · exact gR2_app (gR2_app (gR2_take h _) (gR2_app (gR2_drop (gR2_drop (gR2_take h _) _) _) (gR2_rep _ _ hs))) (gR2_drop h _)
theorem gR2_upO {l : List RowRow} (h : gR2 l) (t b n : Int) : gR2 (upO l t b n) := by
  unfold upO
  split
  · exact gR2_nil
  · exact gR2_take (gR2_drop (gR2_take h _) _) _
theorem gR2_down (W : Nat) {l : List RowRow} (h : gR2 l) (t b n : Int) {s : Int} (hs : sy s) : gR2 (downL W l t b n s) := by
  unfold downL
  split
  · exact h
  · exact gR2_app (gR2_app (gR2_take h _) (gR2_app (gR2_rep _ _ hs) (gR2_take (gR2_drop (gR2_take h _) _) _))) (gR2_drop h _)
/-! ### screens -/
structure SC (s : ScreenScreen) : Prop where
  g : gR2 s.g.l
  t : s.title.size ≤ 200
variable {W : Nat} {s : ScreenScreen}
theorem SC_ite {p : Prop} [Decidable p] {a b : ScreenScreen} (ha : SC a) (hb : SC b) : SC (if p then a else b) := by split <;> assumption
theorem gR2_ite {p : Prop} [Decidable p] {a b : List RowRow} (ha : gR2 a) (hb : gR2 b) : gR2 (if p then a else b) := by split <;> assumption
theorem SC_mv (h : SC s) (x y : Int) : SC (mvS s x y) := ⟨h.g, h.t⟩
theorem SC_nw (h : SC s) : SC (nwS s) := ⟨h.g, h.t⟩
theorem SC_x (h : SC s) (x : Int) : SC (xS s x) := ⟨h.g, h.t⟩
theorem SC_se (h : SC s) (y : Int) {r : RowRow} (hr : cR r.cells) : SC (seS W s y r) := ⟨gR2_set W h.g y hr, h.t⟩
theorem SC_up (h : SC s) (n : Int) : SC (upS W s n) := ⟨gR2_up W h.g _ _ _ (num_sy _), h.t⟩
theorem SC_upT (h : SC s) (t b n : Int) : SC (upT W s t b n) := ⟨gR2_up W h.g _ _ _ (num_sy _), h.t⟩
theorem SC_dn (h : SC s) (t b n : Int) : SC (dnS W s t b n) := ⟨gR2_down W h.g _ _ _ (num_sy _), h.t⟩
theorem gR2_upF (h : SC s) (n : Int) : gR2 (upF s n) := gR2_ite gR2_nil (gR2_upO h.g _ _ _)
theorem SC_li (h : SC s) : SC (liS W s) := SC_ite (SC_up (SC_nw h) 1) (SC_mv (SC_nw h) _ _)
theorem gR2_li (h : SC s) : gR2 (liF s) := gR2_ite (gR2_upF (SC_nw h) 1) gR2_nil
theorem cR_r2 (h : SC s) : cR (r2S s).cells := cR_mend _ _ (cR_fill (cR_row h.g _) (num_sy _))
theorem cR_r3 (h : SC s) {r : Int} (hr : ru r) : cR (r3S s r).cells := cR_mend _ _ (cR_put (cR_row h.g _) _ hr (num_sy _))
theorem SC_a (h : SC s) : SC (aS W s) ∧ gR2 (aF W s) := by
  have k : SC (xS (seS W s s.spot.y (r1S s)) 0) := SC_x (SC_se h _ (r := r1S s) (cR_row h.g _)) 0
  exact ⟨SC_ite (SC_li k) h, gR2_ite (gR2_li k) gR2_nil⟩
theorem SC_b (h : SC s) (n : Int) : SC (bS W s n) ∧ gR2 (bF W s n) := by
  have k : SC (xS (seS W s s.spot.y (r2S s)) 0) := SC_x (SC_se h _ (cR_r2 h)) 0
  exact ⟨SC_ite (SC_ite (SC_li k) (SC_x h _)) h, gR2_ite (gR2_ite (gR2_li k) gR2_nil) gR2_nil⟩
theorem SC_pr (h : SC s) {r : Int} (hr : ru r) : SC (prS W s r) ∧ gR2 (prF W s r) := by
  obtain ⟨a1, a2⟩ := SC_a (W := W) h
  obtain ⟨b1, b2⟩ := SC_b (W := W) a1 (ofS r)
  exact ⟨SC_ite h ⟨gR2_set W b1.g _ (cR_r3 b1 hr), b1.t⟩, gR2_ite gR2_nil (gR2_app a2 b2)⟩
theorem SC_ct (h : SC s) (b : Int) : SC (ctS W s b) ∧ gR2 (ctF s b) :=
  ⟨SC_ite (SC_mv h _ _) (SC_ite (SC_mv h _ _) (SC_ite (SC_li h) (SC_ite (SC_mv h _ _) h))), gR2_ite (gR2_li h) gR2_nil⟩
theorem SC_ba (h : SC s) : SC (baS W s) := SC_ite (SC_dn (SC_nw h) _ _ _) (SC_mv (SC_nw h) _ _)
theorem SC_newT (w h : Int) : SC (newT w h) := ⟨gR2_rep _ _ sy0, by show (ByteArray.mk #[]).size ≤ 200; decide⟩
theorem SC_es (h : SC s) (b : Int) : SC (esS W s b) ∧ gR2 (esF s b) :=
  ⟨SC_ite (SC_li (SC_x h 0)) (SC_ite (SC_li h) (SC_ite (SC_ba h) (SC_ite ⟨h.g, h.t⟩ (SC_ite (SC_mv (s := e8S s) ⟨h.g, h.t⟩ _ _) (SC_ite (SC_newT _ _) h))))), gR2_ite (gR2_li (SC_x h 0)) (gR2_ite (gR2_li h) gR2_nil)⟩
theorem SC_er (h : SC s) (y a b : Int) : SC (erS W s y a b) := SC_se h y (cR_mend _ _ (cR_erase _ _ (num_sy _) _ (cR_row h.g _)))
theorem SC_pa (h : SC s) (n : Int) : SC (paS W s n) := SC_ite h (SC_nw (SC_er h _ _ _))
theorem SC_wp (h : SC s) (n : Int) : ∀ k, SC (wpS W s n k)
  | 0 => h
  | k + 1 => by
    unfold wpS
    split
    · exact SC_er (SC_wp h n k) _ _ _
    · exact SC_wp h n k
theorem SC_cl (h : SC s) (n : Int) : SC (clS s n) := SC_mv h _ _
theorem SC_clr (h : SC s) (n : Int) (all : Bool) : SC (clrS W s n all) := SC_pa (SC_ite (SC_wp h _ _) h) n
theorem cR_ite {p : Prop} [Decidable p] {a b : List RowCell} (ha : cR a) (hb : cR b) : cR (if p then a else b) := by split <;> assumption
theorem SC_ce (h : SC s) (b n : Int) : SC (ceS W s b n) :=
  SC_nw (SC_se h _ (cR_mend _ _ (cR_ite (cR_ins (cR_row h.g _) _ _ (num_sy _)) (cR_ite (cR_del (cR_row h.g _) _ _ (num_sy _)) (cR_erase _ _ (num_sy _) _ (cR_row h.g _))))))
theorem SC_sh (h : SC s) (b n : Int) : SC (shS W s b n) := SC_ite h (SC_ite (SC_mv (SC_dn h _ _ _) _ _) (SC_mv (SC_upT h _ _ _) _ _))
theorem SC_re (h : SC s) (l : List Int) : SC (reS s l) := SC_ite (SC_mv (s := rnS s (rgT s l) (rgU s l)) ⟨h.g, h.t⟩ _ _) h
theorem SC_or (h : SC s) (b : Int) (l : List Int) : SC (orS W s b l) ∧ gR2 (orF s b l) := by
  refine ⟨?_, gR2_ite (gR2_upF (SC_nw h) _) gR2_nil⟩
  unfold orS
  refine SC_ite (SC_cl h _) (SC_ite (SC_x (SC_cl h _) 0) (SC_ite (SC_cl h _) (SC_ite (SC_x (SC_cl h _) 0) (SC_ite (SC_mv h _ _) (SC_ite (SC_mv h _ _) (SC_ite (SC_mv h _ _) (SC_ite (SC_mv h _ _) (SC_ite (SC_mv h _ _) (SC_ite (SC_clr h _ _) (SC_ite (SC_clr h _ _) (SC_ite (SC_ce h _ _) (SC_ite (SC_sh h _ _) (SC_ite (SC_up (SC_nw h) _) (SC_ite (SC_dn (SC_nw h) _ _ _) (SC_ite ⟨h.g, h.t⟩ (SC_ite (SC_re h l) h))))))))))))))))
theorem SC_ac (h : SC s) {a : SeqAction} (ha : aGd a) : SC (acS W s a) ∧ gR2 (acF W s a) := by
  obtain ⟨p1, p2⟩ := SC_pr (W := W) h ha.1
  obtain ⟨c1, c2⟩ := SC_ct (W := W) h a.byte
  obtain ⟨e1, e2⟩ := SC_es (W := W) h a.byte
  obtain ⟨o1, o2⟩ := SC_or (W := W) h a.byte a.nums
  exact ⟨SC_ite p1 (SC_ite c1 (SC_ite e1 (SC_ite (SC_ite (SC_ite ⟨h.g, h.t⟩ h) o1) (SC_ite ⟨h.g, ha.2⟩ h)))), gR2_ite p2 (gR2_ite c2 (gR2_ite e2 (gR2_ite (gR2_ite gR2_nil o2) gR2_nil)))⟩
end Go.Tw.X

set_option linter.unusedVariables false
set_option linter.unusedSimpArgs false
set_option maxHeartbeats 1000000
namespace Go.Tw.X
open Go Go.Tw
/-! ### may an event be? -/
def ck18 (k : Int) (n : Nat) (w h : Int) : Int := if k = 0 then (if 1048576 < n then 3 else 0) else if k = 1 then (if w < 1 ∨ w > 1000 ∨ h < 1 ∨ h > 1000 then 6 else 0) else 5
theorem size_or (w h : Int) : ((bif (decide (w < 1)) then some true else (bif (decide (w > 1000)) then some true else (bif (decide (h < 1)) then some true else some (decide (h > 1000))))) : Option Bool) = some (decide (w < 1 ∨ w > 1000 ∨ h < 1 ∨ h > 1000)) := by
  by_cases a : w < 1
  · simp [a]
  · by_cases b : w > 1000
    · simp [a, b]
    · by_cases c : h < 1
      · simp [a, b, c]
      · simp [a, b, c]
theorem mcheck_eq (e : ModelEvent) : p_model_Event_Check e = some (ck18 e.kind e.text.size e.w e.h) := by
  unfold p_model_Event_Check ck18
  by_cases k0 : e.kind = 0
  · have e0 : (e.kind == 0) = true := by simpa using k0
    rw [if_pos k0, e0, cond_true]
    by_cases hs : 1048576 < e.text.size
    · rw [if_pos hs, decide_eq_true (by omega)]; rfl
    · rw [if_neg hs, decide_eq_false (by omega)]; rfl
  · have e0 : (e.kind == 0) = false := by simpa using k0
    rw [if_neg k0, e0, cond_false]
    by_cases k1 : e.kind = 1
    · have e1 : (e.kind == 1) = true := by simpa using k1
      rw [if_pos k1, e1, cond_true, size_or, Option.bind_some]
      by_cases hs : e.w < 1 ∨ e.w > 1000 ∨ e.h < 1 ∨ e.h > 1000
      · rw [if_pos hs, decide_eq_true hs]; rfl
      · rw [if_neg hs, decide_eq_false hs]; rfl
    · have e1 : (e.kind == 1) = false := by simpa using k1
      rw [if_neg k1, e1]; rfl
end Go.Tw.X

set_option linter.unusedVariables false
set_option linter.unusedSimpArgs false
set_option maxHeartbeats 1000000
namespace Go.Tw.X
open Go Go.Tw
/-! ### a model is the document's; one event -/
structure MX (W k N : Nat) (z : List (List RowGlyph) × List RowGlyph) (m : ModelModel) (x : Ref18Model) : Prop where
  si : SI W m.screen
  zi : ZI k z
  bk : m.book = bookOf z
  xs : x.s = toldS m.screen
  xb : x.b = toldBk z
  pa : m.parser = clr (prun p0 (sbs x.all))
  ac : x.acts = ((prun p0 (sbs x.all)).out.length : Int)
  ke : m.k = x.k
  k0 : 0 ≤ m.k
  kN : m.k ≤ N
  al : x.all.size ≤ 1000 * N
end Go.Tw.X

set_option linter.unusedVariables false
set_option linter.unusedSimpArgs false
set_option maxHeartbeats 1000000
namespace Go.Tw.X
open Go Go.Tw
theorem mx_bytes {W k N : Nat} {z : List (List RowGlyph) × List RowGlyph} {m : ModelModel} {x : Ref18Model} (h : MX W k N z m x) {t : ByteArray} (ht : t.size ≤ 1000) :
    MX W (k + 8000 * t.size) (N + 1) ((prun m.parser (sbs t)).out.foldl (stepA W) (m.screen, z)).2 ⟨bookOf ((prun m.parser (sbs t)).out.foldl (stepA W) (m.screen, z)).2, clr (prun m.parser (sbs t)), ((prun m.parser (sbs t)).out.foldl (stepA W) (m.screen, z)).1, m.k + 1⟩ ⟨toldS ((prun m.parser (sbs t)).out.foldl (stepA W) (m.screen, z)).1, toldBk ((prun m.parser (sbs t)).out.foldl (stepA W) (m.screen, z)).2, x.all ++ t, ((prun p0 (sbs (x.all ++ t))).out.length : Int), m.k + 1⟩ := by
  have hp : PI m.parser := by
    rw [h.pa]
    have := (prun_PI (sbs x.all) p0_PI (sbs_byte x.all)).1
    exact ⟨this.di, this.gr, this.nu, this.n0, this.n1, this.tx⟩
  have hlen := (prun_PI (sbs t) hp (sbs_byte t)).2
  have hm0 : m.parser.out.length = 0 := by rw [h.pa]; rfl
  rw [sbs_length] at hlen
  have has := prun_as (sbs t) hp (by rw [h.pa]; exact fun x hx => by cases hx) (sbs_byte t)
  have hst := stepsA_ok (W := W) (prun m.parser (sbs t)).out (k := k) (y := (m.screen, z)) h.si h.zi has
  have hk0 := h.k0
  have hkN := h.kN
  have hal := h.al
  have hz : (x.all ++ t).size = x.all.size + t.size := by rw [← sbs_length, sbs_append, List.length_append, sbs_length, sbs_length]
  have hzn := hst.2.n
  refine ⟨hst.1, ⟨by omega, hst.2.b, hst.2.g, hst.2.ls⟩, rfl, rfl, rfl, ?_, rfl, rfl, by dsimp only; omega, by dsimp only; omega, by dsimp only; omega⟩
  dsimp only
  rw [(news x.all t).2, ← h.pa]
end Go.Tw.X

set_option linter.unusedVariables false
set_option linter.unusedSimpArgs false
set_option maxHeartbeats 1000000
namespace Go.Tw.X
open Go Go.Tw
theorem mdo_bad (m : ModelModel) (e : ModelEvent) (h : ck18 e.kind e.text.size e.w e.h ≠ 0) : p_model_Model_Do m e = some (ck18 e.kind e.text.size e.w e.h, m) := by
  unfold p_model_Model_Do
  have e1 : (ck18 e.kind e.text.size e.w e.h != 0) = true := by simpa using h
  rw [mcheck_eq, Option.bind_some, e1, cond_true]
end Go.Tw.X

set_option linter.unusedVariables false
set_option linter.unusedSimpArgs false
set_option maxHeartbeats 1000000
namespace Go.Tw.X
open Go Go.Tw
def mNew (w h : Int) : ModelModel := ⟨bookOf ([], []), p0, newT w h, 0⟩
def xNew (w h : Int) : Ref18Model := ⟨toldS (newT w h), toldBk ([], []), ByteArray.mk #[], 0, 0⟩
theorem mnew_eq (w h : Int) : p_model_New w h = some (mNew w h) := by
  unfold p_model_New
  rw [show p_book_New = some (BookBook.mk [] [0] []) from rfl, Option.bind_some, snew_eq, Option.bind_some]
  rfl
theorem mx_new (w h : Int) : MX (szN w) 0 0 ([], []) (mNew w h) (xNew w h) :=
  ⟨SI_newT w h, ⟨Nat.le_refl 0, by show 0 < 1024; decide, fun x hx => (by cases hx), fun x hx => (by cases hx)⟩, rfl, rfl, rfl, rfl, rfl, rfl, Int.le_refl 0, Int.le_refl 0, Nat.le_refl 0⟩
theorem mdo_size {W k N : Nat} {z : List (List RowGlyph) × List RowGlyph} {m : ModelModel} {x : Ref18Model} (h : MX W k N z m x) (hk : k ≤ 50000000) (hN : N ≤ 90) {t : ByteArray} {w h' : Int} (hc : ck18 1 t.size w h' = 0) :
    p_model_Model_Do m ⟨1, t, w, h'⟩ = some (0, ⟨bookOf ((rzF m.screen h').foldl addR z), m.parser, rzS m.screen w h', m.k + 1⟩) := by
  have hk0 := h.k0
  have hkN := h.kN
  have ho := rzF_ok h.si.toSJ h'
  have hW := h.si.gi.w2
  have hol := ho.1
  obtain ⟨r, hr1, hr2⟩ := add_eq h.zi (rows := rzF m.screen h') (fun r hr => rowOk_of (ho.2 r hr) hW) (by omega)
  unfold p_model_Model_Do
  rw [mcheck_eq]
  dsimp only
  rw [hc, Option.bind_some, show ((0 : Int) != 0) = false from rfl, show ((1 : Int) == 1) = true from rfl, cond_false, cond_true, sresize_p h.si.toSJ, Option.bind_some, h.bk, hr1]
  simp only [Option.bind_some]
  rw [hr2, w64 (by omega) (by omega)]
end Go.Tw.X

set_option linter.unusedVariables false
set_option linter.unusedSimpArgs false
set_option maxHeartbeats 1000000
namespace Go.Tw.X
open Go Go.Tw
theorem mx_size {W k N : Nat} {z : List (List RowGlyph) × List RowGlyph} {m : ModelModel} {x : Ref18Model} (h : MX W k N z m x) (w h' : Int) :
    MX (szN w) (k + 4000) (N + 1) ((rzF m.screen h').foldl addR z) ⟨bookOf ((rzF m.screen h').foldl addR z), m.parser, rzS m.screen w h', m.k + 1⟩ ⟨toldS (rzS m.screen w h'), toldBk ((rzF m.screen h').foldl addR z), x.all, x.acts, m.k + 1⟩ := by
  have hk0 := h.k0
  have hkN := h.kN
  have hal := h.al
  have ho := rzF_ok h.si.toSJ h'
  have hW := h.si.gi.w2
  have hol := ho.1
  have h2 := addR_fold (rzF m.screen h') h.zi fun r hr => rowOk_of (ho.2 r hr) hW
  have h2n := h2.n
  exact ⟨SI_rzS h.si.toSJ w h', ⟨by omega, h2.b, h2.g, h2.ls⟩, rfl, rfl, rfl, h.pa, h.ac, rfl, by dsimp only; omega, by dsimp only; omega, by dsimp only; omega⟩
end Go.Tw.X

set_option linter.unusedVariables false
set_option linter.unusedSimpArgs false
set_option maxHeartbeats 1000000
namespace Go.Tw.X
open Go Go.Tw
/-! ### glyphs that may be, in the book -/
def gOk (g : RowGlyph) : Prop := ru g.rune ∧ sy g.style
def gls (l : List RowGlyph) : Prop := ∀ g ∈ l, gOk g
theorem gls_app {a b : List RowGlyph} (ha : gls a) (hb : gls b) : gls (a ++ b) := fun c hc => (List.mem_append.1 hc).elim (ha c) (hb c)
theorem gls_take {a : List RowGlyph} (ha : gls a) (n : Nat) : gls (a.take n) := fun c hc => ha c (List.mem_of_mem_take hc)
theorem gls_drop {a : List RowGlyph} (ha : gls a) (n : Nat) : gls (a.drop n) := fun c hc => ha c (List.mem_of_mem_drop hc)
theorem gls_nil : gls [] := fun c h => by cases h
structure ZG (z : List (List RowGlyph) × List RowGlyph) : Prop where
  b : gls z.2
  l : ∀ x ∈ z.1, gls x
theorem glyR_gls {r : RowRow} (h : cR r.cells) : gls (glyR r) := by
  intro g hg
  unfold glyR glyS at hg
  obtain ⟨c, hc, rfl⟩ := List.mem_map.1 hg
  have hc2 := (List.mem_filter.1 hc).1
  have : c ∈ r.cells := by
    split at hc2
    · exact hc2
    · exact trimN_mem _ _ c hc2
  exact ⟨(h c this).1, (h c this).2.1⟩
theorem cutL_gls : ∀ (n : Nat) (g : List RowGlyph), g.length ≤ n → gls g → gls (cutL g).2 ∧ ∀ x ∈ (cutL g).1, gls x
  | 0, g, h, hg => by
    rw [cutL_lt (by omega)]
    exact ⟨hg, fun x hx => by cases hx⟩
  | n + 1, g, h, hg => by
    by_cases c : 1024 ≤ g.length
    · rw [cutL_ge c]
      obtain ⟨a, b⟩ := cutL_gls n (g.drop 1024) (by rw [List.length_drop]; omega) (gls_drop hg _)
      refine ⟨a, fun x hx => ?_⟩
      rcases List.mem_cons.1 hx with rfl | hx
      · exact gls_take hg _
      · exact b x hx
    · rw [cutL_lt c]
      exact ⟨hg, fun x hx => by cases hx⟩
theorem ZG_add {z : List (List RowGlyph) × List RowGlyph} (h : ZG z) {r : RowRow} (hr : cR r.cells) : ZG (addR z r) := by
  obtain ⟨a, b⟩ := cutL_gls _ (z.2 ++ glyR r) (Nat.le_refl _) (gls_app h.b (glyR_gls hr))
  unfold addR
  dsimp only
  split
  · exact ⟨a, fun x hx => (List.mem_append.1 hx).elim (h.l x) (b x)⟩
  · refine ⟨gls_nil, fun x hx => ?_⟩
    rcases List.mem_append.1 hx with hx | hx
    · exact (List.mem_append.1 hx).elim (h.l x) (b x)
    · rw [List.mem_singleton.1 hx]; exact a
theorem ZG_fold : ∀ (rows : List RowRow) {z : List (List RowGlyph) × List RowGlyph}, ZG z → gR2 rows → ZG (rows.foldl addR z)
  | [], _, h, _ => h
  | r :: rows, z, h, hr => ZG_fold rows (ZG_add h (hr r List.mem_cons_self)) fun q hq => hr q (List.mem_cons_of_mem _ hq)
theorem steps_gd {W : Nat} : ∀ (l : List SeqAction) {y : ScreenScreen × (List (List RowGlyph) × List RowGlyph)}, SC y.1 → ZG y.2 → asGd l → SC (l.foldl (stepA W) y).1 ∧ ZG (l.foldl (stepA W) y).2
  | [], _, h1, h2, _ => ⟨h1, h2⟩
  | a :: l, y, h1, h2, h3 => by
    obtain ⟨k1, k2⟩ := SC_ac (W := W) h1 (h3 a List.mem_cons_self)
    exact steps_gd l (y := stepA W y a) k1 (ZG_fold _ h2 k2) fun q hq => h3 q (List.mem_cons_of_mem _ hq)
/-- what is so of a model besides -/
structure MG (m : ModelModel) (z : List (List RowGlyph) × List RowGlyph) : Prop where
  sc : SC m.screen
  zg : ZG z
  d2 : D2 m.parser.runes
theorem mg_new (w h : Int) : MG (mNew w h) ([], []) := ⟨SC_newT w h, ⟨gls_nil, fun x hx => by cases hx⟩, D20⟩
theorem mx_PI {W k N : Nat} {z : List (List RowGlyph) × List RowGlyph} {m : ModelModel} {x : Ref18Model} (h : MX W k N z m x) : PI m.parser ∧ m.parser.out = [] := by
  rw [h.pa]
  have := (prun_PI (sbs x.all) p0_PI (sbs_byte x.all)).1
  exact ⟨⟨this.di, this.gr, this.nu, this.n0, this.n1, this.tx⟩, rfl⟩
theorem mg_bytes {W k N : Nat} {z : List (List RowGlyph) × List RowGlyph} {m : ModelModel} {x : Ref18Model} (h : MX W k N z m x) (g : MG m z) (t : ByteArray) (k' : Int) (b' : BookBook) :
    MG ⟨b', clr (prun m.parser (sbs t)), ((prun m.parser (sbs t)).out.foldl (stepA W) (m.screen, z)).1, k'⟩ ((prun m.parser (sbs t)).out.foldl (stepA W) (m.screen, z)).2 := by
  obtain ⟨hp, ho⟩ := mx_PI h
  obtain ⟨p1, p2⟩ := prun_gd (sbs t) hp g.d2 (by rw [ho]; exact fun x hx => by cases hx) (sbs_byte t)
  obtain ⟨s1, s2⟩ := steps_gd (W := W) _ (y := (m.screen, z)) g.sc g.zg p1
  exact ⟨s1, s2, p2⟩
theorem mdo_bytes2 {W k N : Nat} {z : List (List RowGlyph) × List RowGlyph} {m : ModelModel} {x : Ref18Model} (h : MX W k N z m x) (hk : k ≤ 50000000) (hN : N ≤ 1000000) {t : ByteArray} (ht : t.size ≤ 1000) (w h' : Int) :
    p_model_Model_Do m ⟨0, t, w, h'⟩ = some (0, ⟨bookOf ((prun m.parser (sbs t)).out.foldl (stepA W) (m.screen, z)).2, clr (prun m.parser (sbs t)), ((prun m.parser (sbs t)).out.foldl (stepA W) (m.screen, z)).1, m.k + 1⟩) := by
  have hp : PI m.parser := (mx_PI h).1
  have hcl : clr m.parser = m.parser := by rw [h.pa]; rfl
  have e1 := off1_eq (m := m) h.si h.zi hp ht hk
  rw [hcl] at e1
  have hk0 := h.k0
  have hkN := h.kN
  unfold p_model_Model_Do
  rw [mcheck_eq]
  have hck : ck18 0 t.size w h' = 0 := by unfold ck18; rw [if_pos rfl, if_neg (by omega)]
  dsimp only
  rw [hck, Option.bind_some, show ((0 : Int) != 0) = false from rfl, show ((0 : Int) == 1) = false from rfl, cond_false, cond_false, show p_model_Model_off m t = some t from rfl, Option.bind_some, h.bk, e1]
  simp only [Option.bind_some]
  rw [w64 (by omega) (by omega)]
/-! ### the snap -/
def sOf (m : ModelModel) (z : List (List RowGlyph) × List RowGlyph) : SnapSnap := ⟨m.k + 1, m.screen.g.w, (m.screen.g.l.length : Int), m.screen.spot.x, m.screen.spot.y, m.screen.title, m.screen.g.l, (z.1.length : Int), chainC z.1, z.2⟩
theorem gls_rok {l : List RowGlyph} (h : gls l) : ∀ g ∈ l, rok g.rune := fun g hg => by
  obtain ⟨⟨a, b⟩, _⟩ := h g hg
  exact ⟨by omega, by omega⟩
section
variable {W k N : Nat} {z : List (List RowGlyph) × List RowGlyph} {m : ModelModel} {x : Ref18Model}
theorem bkch_eq (l : List (List RowGlyph)) (g : List RowGlyph) (h : l.length ≤ 1000000000) : p_book_Book_Chain (bookOf (l, g)) (l.length : Int) = some (chainC l) := by
  unfold p_book_Book_Chain bookOf
  dsimp only
  rw [imin_eq, imax_eq, show max 0 (min (l.length : Int) (l.length : Int)) = ((l.length : Nat) : Int) by omega, chs_get _ _ (Nat.le_refl _), List.take_length]
  rfl
theorem msnap_eq (h : MX W k N z m x) (hk : k ≤ 100000000) (hN : N ≤ 1000000) : p_model_Model_Snap m = some (sOf m z, m) := by
  have hk0 := h.k0
  have hkN := h.kN
  have hzn := h.zi.n
  have hzb := h.zi.b
  unfold p_model_Model_Snap p_snap_Of
  rw [w64 (by omega) (by omega)]
  rw [show (ScreenScreen.mk m.screen.g m.screen.spot m.screen.saved m.screen.waiting m.screen.top m.screen.bottom m.screen.wraps m.screen.title) = m.screen from rfl, sgrid_eq h.si.toSJ, bnd_some]
  dsimp only
  have hr := rows_eq m.screen.g.w m.screen.g.l (by have := h.si.gi.l2; omega) h.si.gi.len
  rw [show (GridGrid.mk m.screen.g.w m.screen.g.l) = m.screen.g from rfl] at hr
  rw [show p_screen_Screen_Title (ScreenScreen.mk m.screen.g m.screen.spot m.screen.saved m.screen.waiting m.screen.top m.screen.bottom m.screen.wraps m.screen.title) = some m.screen.title from rfl, bnd_some, hr, bnd_some]
  rw [h.bk, show ∀ b, p_book_Book_Len b = some (b.l.length : Int) from fun b => rfl, bnd_some, bnd_some]
  dsimp only
  have hc := bkch_eq z.1 z.2 (by omega)
  rw [show (bookOf z).l = z.1 from rfl, show bookOf (z.1, z.2) = bookOf z from rfl] at *
  rw [hc, bnd_some]
  have hb : p_book_Book_Begun (bookOf z) = some z.2 := by
    unfold p_book_Book_Begun
    rw [lclone_eq _ (by show z.2.length ≤ _; omega)]
    rfl
  rw [hb, bnd_some, show ∀ g, p_grid_Grid_Size g = some (g.w, (g.l.length : Int)) from fun g => rfl, bnd_some, show ∀ s, p_screen_Screen_Cursor s = some (s.spot.x, s.spot.y) from fun s => rfl, bnd_some, bnd_some, ← h.bk]
  rfl
theorem sOf_SW (h : MX W k N z m x) (g : MG m z) : SW (sOf m z) := by
  have h1 := h.si.gi.w2
  have h2 := h.si.gi.l2
  have h3 := h.si.gw
  have h4 := h.zi.b
  have h5 := g.sc.t
  refine ⟨?_, ?_, gls_rok g.zg.b, fun r hr => ?_, h2, by show z.2.length ≤ 2000; omega, by show m.screen.title.size ≤ 1000; omega⟩
  · show -9223372036854775808 ≤ m.screen.g.w ∧ m.screen.g.w ≤ 9223372036854775807
    omega
  · show -9223372036854775808 ≤ (m.screen.g.l.length : Int) ∧ (m.screen.g.l.length : Int) ≤ 9223372036854775807
    omega
  · have hg := h.si.gi.rs r hr
    exact ⟨hg.2, by have := hg.1; omega⟩
end
end Go.Tw.X

set_option linter.unusedVariables false
set_option linter.unusedSimpArgs false
set_option maxHeartbeats 1000000
namespace Go.Tw.X
open Go Go.Tw
/-! ### a model is the document's: as the law sees it -/
section
variable {W k N : Nat} {z : List (List RowGlyph) × List RowGlyph} {m : ModelModel} {x : Ref18Model}
theorem bkline_eq {z : List (List RowGlyph) × List RowGlyph} (hl : ∀ x ∈ z.1, lineOk x) (i : Nat) (hi : i < z.1.length) : p_book_Book_Line (bookOf z) i = some (z.1[i], true) := by
  unfold p_book_Book_Line
  rw [show (bookOf z).l = z.1 from rfl, decide_eq_false (by omega), cond_false, bnd_some, decide_eq_false (by omega), cond_false, idx_get z.1 i hi, bnd_some, lclone_eq _ (by have := (hl _ (List.getElem_mem hi)).1; omega)]
  rfl
theorem mscreen_eq (h : MX W k N z m x) : p_model_Model_Screen m = some (m.screen, m) := by
  unfold p_model_Model_Screen
  rw [scrclone_eq h.si.toSJ]
  rfl
theorem MX.mono (h : MX W k N z m x) {k' N' : Nat} (h1 : k ≤ k') (h2 : N ≤ N') : MX W k' N' z m x :=
  ⟨h.si, ⟨by have := h.zi.n; omega, h.zi.b, h.zi.g, h.zi.ls⟩, h.bk, h.xs, h.xb, h.pa, h.ac, h.ke, h.k0, by have := h.kN; omega, by have := h.al; omega⟩
end
theorem addR_pre (z : List (List RowGlyph) × List RowGlyph) (r : RowRow) : z.1 <+: (addR z r).1 := by
  unfold addR
  dsimp only
  split
  · exact List.prefix_append _ _
  · rw [List.append_assoc]; exact List.prefix_append _ _
theorem addRs_pre : ∀ (rows : List RowRow) (z : List (List RowGlyph) × List RowGlyph), z.1 <+: (rows.foldl addR z).1
  | [], z => List.prefix_refl _
  | r :: rows, z => (addR_pre z r).trans (addRs_pre rows (addR z r))
theorem steps_pre (W : Nat) : ∀ (l : List SeqAction) (y : ScreenScreen × (List (List RowGlyph) × List RowGlyph)), y.2.1 <+: (l.foldl (stepA W) y).2.1
  | [], y => List.prefix_refl _
  | a :: l, y => (addRs_pre _ y.2).trans (steps_pre W l (stepA W y a))
/-! ### one behind the other -/
noncomputable def runM : ModelModel → List ModelEvent → Option ModelModel
  | m, [] => some m
  | m, e :: l => Option.bind (p_model_Model_Do m e) fun r => runM r.2 l
theorem mrun_eq {w h : Int} {l : List ModelEvent} (hl : l.length ≤ 1000000) {M : ModelModel} (hM : runM (mNew w h) l = some M) : p_model_Run w h l = some M := by
  unfold p_model_Run
  rw [mnew_eq, bnd_some]
  refine bind_inv (fun s : ModelModel × Int => 0 ≤ s.2 ∧ s.2 ≤ l.length ∧ runM s.1 (l.drop s.2.toNat) = some M) (fun s => l.length - s.2.toNat) (fun r => r = M) ⟨Int.le_refl 0, by dsimp only; omega, hM⟩ ?_ ?_
  · rintro ⟨q, i⟩ ⟨h0, h1, h2⟩
    dsimp only at h0 h1 h2 ⊢
    obtain ⟨n, rfl⟩ := Int.eq_ofNat_of_zero_le h0
    rw [Int.toNat_natCast] at h2
    by_cases c : n < l.length
    · left
      rw [decide_eq_true (by omega), cond_true, idx_get l n c, bnd_some, w64 (by omega) (by omega)]
      rw [List.drop_eq_getElem_cons c] at h2
      change Option.bind (p_model_Model_Do q l[n]) (fun r => runM r.2 (l.drop (n + 1))) = some M at h2
      cases hd : p_model_Model_Do q l[n] with
      | none => rw [hd] at h2; cases h2
      | some r =>
        rw [hd] at h2
        refine ⟨_, rfl, ⟨by dsimp only; omega, by dsimp only; omega, ?_⟩, by dsimp only; omega⟩
        dsimp only
        rw [show ((n : Int) + 1).toNat = n + 1 by omega]
        exact h2
    · right
      rw [decide_eq_false (by omega), cond_false]
      refine ⟨_, rfl, ?_⟩
      rw [List.drop_eq_nil_of_le (by omega)] at h2
      exact (Option.some.inj h2)
  · rintro r rfl
    rfl
end Go.Tw.X

set_option linter.unusedVariables false
set_option linter.unusedSimpArgs false
set_option maxHeartbeats 1000000
set_option maxRecDepth 10000
namespace Go.Tw.X
open Go Go.Tw
/-! ### awake -/
def aw18T : ByteArray := ByteArray.mk #[97, 13, 10, 98]
def aw18a : ScreenScreen := acS 3 (newT 3 1) (prA 97)
def aw18b : ScreenScreen := acS 3 aw18a (ctA 13)
def aw18c : ScreenScreen := acS 3 aw18b (ctA 10)
def aw18d : ScreenScreen := acS 3 aw18c (prA 98)
theorem aw18_out : (prun p0 (sbs aw18T)).out = [prA 97, ctA 13, ctA 10, prA 98] := by decide
theorem aw18_add : addR ([], []) ⟨[⟨97, 0, 0⟩, blk 0, blk 0], false⟩ = ([[⟨97, 0⟩]], []) := by
  unfold addR
  have e : ([] : List RowGlyph) ++ glyR ⟨[⟨97, 0, 0⟩, blk 0, blk 0], false⟩ = [⟨97, 0⟩] := by decide
  dsimp only
  rw [e, cutL_lt (by decide)]
  rfl
theorem aw18_Y : (prun p0 (sbs aw18T)).out.foldl (stepA 3) (newT 3 1, ([], [])) = (aw18d, ([[⟨97, 0⟩]], [])) := by
  rw [aw18_out]
  have f1 : acF 3 (newT 3 1) (prA 97) = [] := by decide
  have f2 : acF 3 aw18a (ctA 13) = [] := by decide
  have f3 : acF 3 aw18b (ctA 10) = [⟨[⟨97, 0, 0⟩, blk 0, blk 0], false⟩] := by decide
  have f4 : acF 3 aw18c (prA 98) = [] := by decide
  simp only [List.foldl, stepA]
  rw [f1, ← aw18a, f2, ← aw18b, f3, ← aw18c, f4, ← aw18d]
  simp only [List.foldl]
  rw [aw18_add]
theorem awake18_eq : p_law18_awake = some true := by
  have h0 := mx_new 3 1
  have hW : szN 3 = 3 := by decide
  rw [hW] at h0
  have e0 := mdo_bytes2 h0 (by decide) (by decide) (t := aw18T) (by decide) 0 0
  have h1 := mx_bytes h0 (t := aw18T) (by decide)
  rw [show (mNew 3 1).parser = p0 from rfl, show (mNew 3 1).screen = newT 3 1 from rfl, aw18_Y] at e0 h1
  have hc1 : ck18 1 (ByteArray.mk #[]).size 0 0 = 6 := by decide
  have hc2 : ck18 1 (ByteArray.mk #[]).size 4 2 = 0 := by decide
  have e1 := mdo_bad ⟨bookOf ([[⟨97, 0⟩]], []), clr (prun p0 (sbs aw18T)), aw18d, (mNew 3 1).k + 1⟩ ⟨1, ByteArray.mk #[], 0, 0⟩ (by dsimp only; rw [hc1]; decide)
  have e2 := mdo_size h1 (by decide) (by decide) hc2
  have h2 := mx_size h1 4 2
  have g1 : rzF aw18d 2 = [] := by decide
  dsimp only at e1 e2 h1 h2
  rw [g1] at e2 h2
  simp only [List.foldl] at e2 h2
  have hr : runM (mNew 3 1) [⟨0, aw18T, 0, 0⟩, ⟨1, ByteArray.mk #[], 0, 0⟩, ⟨1, ByteArray.mk #[], 4, 2⟩] = some ⟨bookOf ([[⟨97, 0⟩]], []), clr (prun p0 (sbs aw18T)), rzS aw18d 4 2, (mNew 3 1).k + 1 + 1⟩ := by
    simp only [runM]
    rw [e0, Option.bind_some, e1, Option.bind_some]
    dsimp only
    rw [e2]
    rfl
  have hx := mrun_eq (by decide) hr
  have hs := msnap_eq h2 (by decide) (by decide)
  have hl := bkline_eq h2.zi.ls 0 (by decide)
  unfold p_law18_awake
  rw [show (ByteArray.mk #[97, 13, 10, 98]) = aw18T from rfl, hx, bnd_some, mscreen_eq h2, bnd_some]
  dsimp only at hs hl ⊢
  rw [show ((0 : Nat) : Int) = 0 from rfl] at hl
  rw [hl, bnd_some, hs, bnd_some]
  dsimp only [sOf]
  rw [show (rzS aw18d 4 2).g.w = 4 by decide, show (rzS aw18d 4 2).g.l.length = 2 by decide]
  rfl
end Go.Tw.X

set_option linter.unusedVariables false
set_option linter.unusedSimpArgs false
set_option maxHeartbeats 1000000
namespace Go.Tw.X
open Go Go.Tw
theorem bneF {a : Int} : (a != a) = false := by simp
end Go.Tw.X

set_option linter.unusedVariables false
set_option linter.unusedSimpArgs false
set_option maxHeartbeats 1000000
namespace Go.Tw.X
open Go Go.Tw
theorem sbs_ext {a b : ByteArray} (h : sbs a = sbs b) : a = b := by
  rw [← bstr_sbs a, h, bstr_sbs]
theorem scut_join (s : ByteArray) (k : Nat) (h : k ≤ s.size) : scut s 0 (k : Int) ++ scut s (k : Int) (s.size : Int) = s := by
  refine sbs_ext ?_
  have e := sbs_scut s 0 k
  rw [show ((0 : Nat) : Int) = 0 from rfl] at e
  rw [sbs_append, e, sbs_scut]
  have : (sbs s).length = s.size := sbs_length s
  rw [List.drop_zero, List.take_of_length_le (l := sbs s) (i := s.size) (by omega), List.take_append_drop]
theorem noS_str' (s : ByteArray) : (s.toList == (ByteArray.mk #[]).toList) = decide (s = noS) := str_eqb s noS
abbrev Zt := List (List RowGlyph) × List RowGlyph
def lensL (l : List (List RowGlyph)) : List Int := l.map fun g => (g.length : Int)
theorem cut200 (s : ByteArray) : okO (p_law01_Cut s 200) (fun r => r.size ≤ 200) := ok_mono (ok_cut1 s (n := 200) (by decide)) fun r hr => by omega
/-- what came of bytes alone -/
def from18 (m : ModelModel) (z : List (List RowGlyph) × List RowGlyph) (t : ByteArray) : Prop := (m.screen, z) = (prun p0 (sbs t)).out.foldl (stepA 7) (newT 7 3, ([], []))
structure PP (t : ByteArray) (m : ModelModel) (left : ByteArray) (seen : List Int) : Prop where
  ex : ∃ (N : Nat) (z : Zt) (x : Ref18Model), N ≤ x.all.size ∧ MX 7 (8000 * x.all.size) N z m x ∧ MG m z ∧ from18 m z x.all ∧ x.all ++ left = t ∧ seen = lensL z.1
theorem one18 {t : ByteArray} (ht : t.size ≤ 200) {m : ModelModel} {left : ByteArray} {seen : List Int} (h : PP t m left seen) {k : Nat} (h1 : 1 ≤ k) (h2 : k ≤ left.size) :
    ∃ (N : Int) (z : Zt) (m' : ModelModel) (z' : Zt), p_model_Model_Do m ⟨0, scut left 0 (k : Int), 0, 0⟩ = some (0, m') ∧ seen = lensL z.1 ∧ z.1 <+: z'.1 ∧ m'.book = bookOf z' ∧ (∀ x ∈ z'.1, lineOk x) ∧ z'.1.length ≤ 2000000 ∧
      (z'.1.length : Int) ≤ N ∧ PP t m' (scut left (k : Int) (left.size : Int)) (lensL z'.1) := by
  obtain ⟨N, z, x, hN, hM, hG, hF, hA, hS⟩ := h.ex
  have hsz : x.all.size + left.size = t.size := by rw [← hA, ← sbs_length (x.all ++ left), sbs_append, List.length_append, sbs_length, sbs_length]
  have hz : (scut left 0 (k : Int)).size = k := by rw [scut_szI _ (by omega) (by omega) (by omega)]; omega
  have e := mdo_bytes2 hM (by omega) (by omega) (t := scut left 0 (k : Int)) (by omega) 0 0
  have hM' := mx_bytes hM (t := scut left 0 (k : Int)) (by omega)
  have hG' := mg_bytes hM hG (scut left 0 (k : Int)) (m.k + 1) (bookOf ((prun m.parser (sbs (scut left 0 (k : Int)))).out.foldl (stepA 7) (m.screen, z)).2)
  have hz2 : (x.all ++ scut left 0 (k : Int)).size = x.all.size + k := by rw [← sbs_length, sbs_append, List.length_append, sbs_length, sbs_length, hz]
  have hzn := hM'.zi.n
  rw [hz] at hM' hzn
  refine ⟨2000000, z, _, _, e, hS, steps_pre 7 _ (m.screen, z), rfl, hM'.zi.ls, by omega, by omega, ⟨N + 1, _, _, ?_, hM'.mono (by dsimp only; omega) (Nat.le_refl _), hG', ?_, ?_, rfl⟩⟩
  · dsimp only; omega
  · unfold from18 at hF ⊢
    dsimp only
    rw [(news x.all (scut left 0 (k : Int))).1, List.foldl_append, ← hF, ← hM.pa]
  · dsimp only
    rw [← hA, ByteArray.append_assoc, scut_join _ _ h2]
theorem lens_take (l : List (List RowGlyph)) (i : Nat) (h : i < l.length) : lensL (l.take (i + 1)) = lensL (l.take i) ++ [((l[i]).length : Int)] := by
  unfold lensL
  rw [List.take_succ_eq_append_getElem h, List.map_append]
  rfl
theorem pure_ModelParts {text : ByteArray} {cuts : List Int} (a0 : text.size ≤ maxLen) (a1 : ∀ x ∈ cuts, inK .i64 x) : p_law18_ModelParts text cuts = some true := by
  unfold p_law18_ModelParts
  obtain ⟨t, et, ht⟩ := cut200 text
  have h0 := mx_new 7 3
  rw [show szN 7 = 7 by decide] at h0
  have e0 := mdo_bytes2 h0 (by decide) (by decide) (t := t) (by omega) 0 0
  have hM0 := mx_bytes h0 (t := t) (by omega)
  have hG0 := mg_bytes h0 (mg_new 7 3) t ((mNew 7 3).k + 1) (bookOf ((prun (mNew 7 3).parser (sbs t)).out.foldl (stepA 7) ((mNew 7 3).screen, ([], []))).2)
  have er := mrun_eq (w := 7) (h := 3) (l := [⟨0, t, 0, 0⟩]) (by simp) (by simp only [runM]; rw [e0]; rfl)
  rw [awake18_eq, bnd_some, Bool.not_true, cond_false, et, bnd_some, mnew_eq, bnd_some, er, bnd_some]
  refine bind_inv (fun s : ModelModel × ByteArray × List Int × Int => PP t s.1 s.2.1 s.2.2.1 ∧ 0 ≤ s.2.2.2 ∧ s.2.2.2 + s.2.1.size ≤ 200) (fun s => s.2.1.size)
    (fun r => ∃ m N z x, r = .inl m ∧ N ≤ 200 ∧ MX 7 1600000 N z m x ∧ MG m z ∧ from18 m z t) ⟨⟨0, ([], []), xNew 7 3, Nat.zero_le _, h0, mg_new 7 3, rfl, by show ByteArray.mk #[] ++ t = t; exact ByteArray.empty_append, rfl⟩, Int.le_refl 0, by dsimp only; omega⟩ ?_ ?_
  · rintro ⟨m, left, seen, i⟩ ⟨hP, hi0, hi1⟩
    dsimp only at hP hi0 hi1 ⊢
    rw [noS_str']
    by_cases hl : left = noS
    · right
      rw [decide_eq_true hl, Bool.not_true, cond_false]
      obtain ⟨N, z, x, hN, hM, hG, hF, hA, hS⟩ := hP.ex
      have hx : x.all = t := by rw [← hA, hl]; exact ByteArray.append_empty.symm
      exact ⟨_, rfl, m, N, z, x, rfl, by rw [hx] at hN; omega, hM.mono (by rw [hx]; omega) (Nat.le_refl _), hG, by rw [← hx]; exact hF⟩
    · left
      rw [decide_eq_false hl, Bool.not_false, cond_true]
      have hls : 1 ≤ left.size := by
        rcases Nat.eq_zero_or_pos left.size with h | h
        · exact absurd (sbs_ext (List.eq_nil_of_length_eq_zero (l := sbs left) (by rw [sbs_length]; exact h))) hl
        · exact h
      have hk : ∃ k : Nat, ((bif (decide (i < (cuts.length : Int))) then (Option.bind (idx cuts i) fun x2818 => some (imin (left.size : Int) (IntKind.i64.wrap (1 + (Go.bits .and .i64 x2818 15))))) else some (left.size : Int)) : Option Int) = some (k : Int) ∧ 1 ≤ k ∧ k ≤ left.size := by
        by_cases c : i < (cuts.length : Int)
        · obtain ⟨a, ea, _⟩ := idx_in cuts hi0 c
          have h15 := and_low a 15 (by decide)
          rw [show ((15 : Nat) : Int) = 15 from rfl] at h15
          rw [decide_eq_true c, cond_true, ea, bnd_some, w64 (by omega) (by omega), imin_eq]
          refine ⟨(min (left.size : Int) (1 + Go.bits .and .i64 a 15)).toNat, ?_, ?_, ?_⟩
          · rw [Int.toNat_of_nonneg (by omega)]
          · omega
          · omega
        · rw [decide_eq_false c, cond_false]
          exact ⟨left.size, rfl, hls, Nat.le_refl _⟩
      obtain ⟨k, ek, k1, k2⟩ := hk
      obtain ⟨N, z, m', z', e1, e2, e3, e4, e5, e6, e7, hP'⟩ := one18 ht hP k1 k2
      rw [ek, bnd_some, cutok_true (by omega) (by omega) (by omega), bnd_some, e1, bnd_some, cutok_true (by omega) (by omega) (by omega), bnd_some]
      dsimp only
      rw [show p_book_Book_Len m'.book = some (m'.book.l.length : Int) from rfl, bnd_some, e4, show (bookOf z').l = z'.1 from rfl]
      have hpl := e3.length_le
      have hs0 : seen = lensL (z'.1.take z.1.length) := by
        rw [e2]
        exact congrArg lensL (List.prefix_iff_eq_take.1 e3)
      have hnl : ∀ j : Nat, (lensL (z'.1.take j)).length = min j z'.1.length := fun j => by unfold lensL; rw [List.length_map, List.length_take]
      refine ⟨_, bind_to (fun j : Nat => ((j : Int), lensL (z'.1.take (max z.1.length j)))) z'.1.length (.inl (lensL z'.1)) ?_ ?_ ?_ rfl, ⟨hP', by dsimp only; rw [w64 (by omega) (by omega)]; omega, ?_⟩, ?_⟩
      · rw [hs0]
        show _ = (((0 : Nat) : Int), lensL (z'.1.take (max z.1.length 0)))
        rw [Nat.max_zero]
        rfl
      · intro j hj
        dsimp only
        rw [decide_eq_true (by omega), cond_true, bkline_eq e5 j hj, bnd_some]
        dsimp only
        rw [hnl]
        by_cases c : j < z.1.length
        · have hx : idx (lensL (z'.1.take (max z.1.length j))) (j : Int) = some ((z'.1[j]).length : Int) := by
            rw [idx_get _ j (by rw [hnl]; omega)]
            simp [lensL]
          rw [decide_eq_true (by omega), cond_true, hx, bnd_some, bneF, cond_false, bnd_some, w64 (by omega) (by omega), show max z.1.length (j + 1) = max z.1.length j by omega]
          rfl
        · rw [decide_eq_false (by omega), cond_false, apok_true (by simp only [List.length_singleton]; omega), bnd_some, bnd_some, w64 (by omega) (by omega), show max z.1.length (j + 1) = j + 1 by omega, show max z.1.length j = j by omega, lens_take _ j hj]
          rfl
      · dsimp only
        rw [decide_eq_false (by omega), cond_false, show max z.1.length z'.1.length = z'.1.length by omega, List.take_length]
      · dsimp only
        rw [w64 (by omega) (by omega), scut_szI _ (by omega) (by omega) (by omega)]
        omega
      · dsimp only
        rw [scut_szI _ (by omega) (by omega) (by omega)]
        omega
  · rintro r ⟨m, N, z, x, rfl, hN, hM, hG, hF⟩
    dsimp only
    rw [msnap_eq hM (by omega) (by omega), bnd_some, msnap_eq hM0 (by omega) (by omega), bnd_some]
    dsimp only
    have hw1 := sOf_SW hM hG
    unfold from18 at hF
    rw [show (mNew 7 3).parser = p0 from rfl, show (mNew 7 3).screen = newT 7 3 from rfl, ← hF]
    have he : (SnapSnap.mk 1 (sOf m z).w (sOf m z).h (sOf m z).x (sOf m z).y (sOf m z).title (sOf m z).rows (sOf m z).len (sOf m z).chain (sOf m z).begun) = (SnapSnap.mk 1 m.screen.g.w (m.screen.g.l.length : Int) m.screen.spot.x m.screen.spot.y m.screen.title m.screen.g.l (z.1.length : Int) (chainC z.1) z.2) := rfl
    have hw : SW (SnapSnap.mk 1 m.screen.g.w (m.screen.g.l.length : Int) m.screen.spot.x m.screen.spot.y m.screen.title m.screen.g.l (z.1.length : Int) (chainC z.1) z.2) := ⟨hw1.w1, hw1.h1, hw1.gl, hw1.ro, hw1.rl, hw1.bl, hw1.tl⟩
    rw [he]
    dsimp only [sOf]
    rw [ssame_eq _ _ hw, bnd_some, decide_eq_true rfl, cond_true, beq_self_eq_true, bnd_some]
end Go.Tw.X

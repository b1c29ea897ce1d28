import Derived.Test.YtojpockgiaihoaaDoorRwQ8
set_option linter.unusedVariables false
set_option linter.unusedSimpArgs false
namespace Go.Tw.Rw
open Go Go.Tw
def hasR (Z : List Arr2Int) (r : Int) : Bool := Z.any fun x => decide (x.e0 ≤ r ∧ r ≤ x.e1)
theorem scan_eq (Z : List Arr2Int) (r v : Int) (h : Z.length ≤ 1000) : iter (σ := Int) (ρ := Unit ⊕ Int) (fun s69 => (bif (decide (s69 < (Z.length : Int))) then (Option.bind (idx Z s69) fun x118 => (Option.bind ((bif (decide (r ≥ x118.e0)) then some (decide (r ≤ x118.e1)) else some false) : Option Bool) fun e125 => (bif e125 then (inrr (some v)) else some (.inl (IntKind.i64.wrap (s69 + 1)))))) else some (.inr (.inl ())))) 0 = some (if hasR Z r then .inr v else .inl ()) := by
  have key : ∀ (b d : List Arr2Int), d ++ b = Z → iter (σ := Int) (ρ := Unit ⊕ Int) (fun s69 => (bif (decide (s69 < (Z.length : Int))) then (Option.bind (idx Z s69) fun x118 => (Option.bind ((bif (decide (r ≥ x118.e0)) then some (decide (r ≤ x118.e1)) else some false) : Option Bool) fun e125 => (bif e125 then (inrr (some v)) else some (.inl (IntKind.i64.wrap (s69 + 1)))))) else some (.inr (.inl ())))) (d.length : Int) = some (if hasR b r then .inr v else .inl ()) := by
    intro b
    induction b with
    | nil =>
      intro d hd
      simp at hd
      subst hd
      rw [iter_inr (r := .inl ())]
      · rfl
      · simp
    | cons c b ih =>
      intro d hd
      have hl : Z.length = d.length + b.length + 1 := by rw [← hd]; simp; omega
      have hc : decide ((d.length : Int) < (Z.length : Int)) = true := by simp; omega
      have hx : idx Z (d.length : Int) = some c := by rw [← hd]; exact idx_mid d b c
      have hin : ((bif (decide (r ≥ c.e0)) then some (decide (r ≤ c.e1)) else some false) : Option Bool) = some (decide (c.e0 ≤ r ∧ r ≤ c.e1)) := by
        by_cases h1 : c.e0 ≤ r <;> by_cases h2 : r ≤ c.e1 <;> simp [h1, h2]
      by_cases hh : c.e0 ≤ r ∧ r ≤ c.e1
      · rw [iter_inr (r := .inr v)]
        · have : hasR (c :: b) r = true := by unfold hasR; rw [List.any_cons, decide_eq_true hh, Bool.true_or]
          rw [this]
          rfl
        · simp only [hc, cond_true, hx, bnd_some, hin]
          rw [decide_eq_true hh]
          rfl
      · rw [iter_inl (s' := ((d ++ [c]).length : Int))]
        · rw [ih (d ++ [c]) (by simpa using hd)]
          have : hasR (c :: b) r = hasR b r := by unfold hasR; rw [List.any_cons, decide_eq_false hh, Bool.false_or]
          rw [this]
        · simp only [hc, cond_true, hx, bnd_some, hin]
          rw [decide_eq_false hh, cond_false, w64 (by omega) (by omega)]
          simp
  exact key Z [] rfl
theorem rof_eq (x : Int) (h0 : -2147483648 ≤ x) (h1 : x ≤ 2147483647) : p_ref06_Of x = some (ofS x) := by
  unfold p_ref06_Of
  rw [scan_eq _ x 0 (by decide), scan_eq _ x 2 (by decide)]
  have e8 : ((bif (decide (x < 32)) then some true else some (decide (x > 1114111))) : Option Bool) = some (decide (x < 32 ∨ x > 1114111)) := by
    by_cases h2 : x < 32 <;> by_cases h3 : x > 1114111 <;> simp [h2, h3]
  rw [e8, bnd_some]
  have en : inS nones x = (decide (x < 32 ∨ x > 1114111) || hasR [⟨127, 159⟩, ⟨768, 879⟩, ⟨6832, 6911⟩, ⟨7616, 7679⟩, ⟨8203, 8207⟩, ⟨8400, 8447⟩, ⟨55296, 57343⟩, ⟨65024, 65039⟩, ⟨65056, 65071⟩, ⟨65279, 65279⟩, ⟨917760, 917999⟩] x) := by
    rw [Bool.eq_iff_iff]
    simp only [inS, nones, hasR, List.any_cons, List.any_nil, Bool.or_eq_true, decide_eq_true_eq, Bool.false_eq_true, or_false]
    constructor
    · rintro (h | h | h | h | h | h | h | h | h | h | h | h | h) <;> omega
    · omega
  have et : inS twos x = hasR [⟨4352, 4447⟩, ⟨11904, 12350⟩, ⟨12353, 13311⟩, ⟨13312, 19903⟩, ⟨19968, 40959⟩, ⟨40960, 42191⟩, ⟨44032, 55203⟩, ⟨63744, 64255⟩, ⟨65072, 65135⟩, ⟨65280, 65376⟩, ⟨65504, 65510⟩, ⟨127744, 128591⟩, ⟨129280, 129535⟩, ⟨131072, 262141⟩] x := by
    simp only [inS, twos, hasR, List.any_cons, List.any_nil]
  unfold ofS
  rw [en, et]
  cases decide (x < 32 ∨ x > 1114111) with
  | true => rfl
  | false =>
    rw [cond_false, Bool.false_or]
    cases hasR [⟨127, 159⟩, ⟨768, 879⟩, ⟨6832, 6911⟩, ⟨7616, 7679⟩, ⟨8203, 8207⟩, ⟨8400, 8447⟩, ⟨55296, 57343⟩, ⟨65024, 65039⟩, ⟨65056, 65071⟩, ⟨65279, 65279⟩, ⟨917760, 917999⟩] x with
    | true => rfl
    | false =>
      cases hasR [⟨4352, 4447⟩, ⟨11904, 12350⟩, ⟨12353, 13311⟩, ⟨13312, 19903⟩, ⟨19968, 40959⟩, ⟨40960, 42191⟩, ⟨44032, 55203⟩, ⟨63744, 64255⟩, ⟨65072, 65135⟩, ⟨65280, 65376⟩, ⟨65504, 65510⟩, ⟨127744, 128591⟩, ⟨129280, 129535⟩, ⟨131072, 262141⟩] x <;> rfl
theorem rput_eq (l : List RowCell) (w : Bool) (at_ x s : Int) (h : l.length ≤ 1000000) (ha : -9223372036854775808 ≤ at_) (hb : at_ ≤ 9223372036854775807) (h0 : -2147483648 ≤ x) (h1 : x ≤ 2147483647) : p_ref09_Put ⟨l.map tc, w⟩ at_ x s = some ⟨(mendS 0 (putL l at_ x s)).map tc, false⟩ := by
  unfold p_ref09_Put
  simp only [told_len, List.nil_append]
  rw [rof_eq x h0 h1, bnd_some]
  have h3 := ofS_cases x
  have fin : ∀ (q : List RowCell), q.length = l.length → (Option.bind (p_ref09_mend (q.map tc)) fun r24 => some r24) = some ⟨(mendS 0 q).map tc, false⟩ := fun q hq => by rw [rmend_eq q (by omega), bnd_some]
  rw [w64 (x := (l.length : Int) - ofS x) (by omega) (by omega)]
  by_cases hc : ofS x = 0 ∨ at_ < 0 ∨ at_ > l.length - ofS x
  · have hb2 : ((bif (ofS x == 0) then some true else (bif (decide (at_ < 0)) then some true else some (decide (at_ > ((l.length : Int) - ofS x))))) : Option Bool) = some true := by
      rcases hc with hc | hc | hc
      · simp [hc]
      · cases h0 : (ofS x == 0) <;> simp [hc]
      · cases h0 : (ofS x == 0) <;> cases h1 : decide (at_ < 0) <;> simp [hc]
    rw [hb2, bnd_some, cond_true]
    unfold putL
    rw [if_pos hc]
    exact fin _ rfl
  · have hb2 : ((bif (ofS x == 0) then some true else (bif (decide (at_ < 0)) then some true else some (decide (at_ > ((l.length : Int) - ofS x))))) : Option Bool) = some false := by
      have e0 : (ofS x == 0) = false := by simp; omega
      have e1 : decide (at_ < 0) = false := decide_eq_false (by omega)
      rw [e0, cond_false, e1, cond_false]
      simp
      omega
    rw [hb2, bnd_some, cond_false, apnil _ h, bnd_some]
    obtain ⟨k, rfl⟩ : ∃ k : Nat, at_ = k := ⟨at_.toNat, by omega⟩
    unfold putL
    rw [if_neg hc]
    have hk : k < (l.map tc).length := by rw [told_len]; omega
    rw [idx_nat, List.getElem?_eq_getElem hk, bnd_some, Int.toNat_natCast]
    by_cases h1 : ofS x = 1
    · have e1 : (ofS x == 2) = false := by simp [h1]
      have em : (l.map tc).set k ⟨x, s, 0⟩ = (l.set k ⟨x, s, 0⟩).map tc := by rw [List.map_set]; rfl
      rw [e1, cond_false, bnd_some, if_pos h1, em]
      exact fin _ (by simp)
    · have h2 : ofS x = 2 := by omega
      have e1 : (ofS x == 2) = true := by simp [h2]
      have hk2 : k + 1 < l.length := by omega
      have ew : IntKind.i64.wrap ((k : Int) + 1) = ((k + 1 : Nat) : Int) := by rw [w64 (by omega) (by omega)]; omega
      rw [e1, cond_true, ew, idx_nat, List.getElem?_eq_getElem (by simpa using hk), bnd_some, idx_nat, List.getElem?_eq_getElem (by simp; omega), bnd_some, if_neg h1, Int.toNat_natCast]
      have em : (((l.map tc).set k ⟨x, s, 0⟩).set k ⟨x, s, 1⟩).set (k + 1) ⟨x, s, 2⟩ = ((l.set k ⟨x, s, 1⟩).set (k + 1) ⟨x, s, 2⟩).map tc := by
        rw [List.set_set, List.map_set, List.map_set]
        rfl
      rw [em]
      generalize hl1 : (l.set k ⟨x, s, 1⟩).set (k + 1) ⟨x, s, 2⟩ = l1
      have hlen : l1.length = l.length := by rw [← hl1]; simp
      unfold putR
      rw [show ((k : Int)).toNat = k from Int.toNat_natCast k]
      by_cases h0 : (k : Int) > 0
      · have em1 : IntKind.i64.wrap ((k : Int) - 1) = ((k - 1 : Nat) : Int) := by rw [w64 (by omega) (by omega)]; omega
        have hk1 : k - 1 < l1.length := by omega
        have hg : idx (l1.map tc) ((k - 1 : Nat) : Int) = some (tc l1[k - 1]) := by rw [idx_nat, List.getElem?_map, List.getElem?_eq_getElem hk1]; rfl
        rw [decide_eq_true h0, cond_true, em1, hg, if_pos h0, List.getElem?_eq_getElem hk1]
        simp only [bnd_some]
        by_cases hp : (l1[k - 1]).part = 1
        · have e3 : ((tc l1[k - 1]).part == 1) = true := by simp [tc, hp]
          have es : (l1.map tc).set (k - 1) ⟨32, (tc l1[k - 1]).style, 0⟩ = (l1.set (k - 1) (blk (l1[k - 1]).style)).map tc := by rw [List.map_set]; rfl
          rw [e3, cond_true, if_pos hp]
          simp only [bnd_some, Int.toNat_natCast, es]
          exact fin _ (by simpa using hlen)
        · have e3 : ((tc l1[k - 1]).part == 1) = false := by simp [tc, hp]
          rw [e3, cond_false, if_neg hp]
          simp only [bnd_some]
          exact fin _ hlen
      · rw [decide_eq_false h0, cond_false, if_neg h0]
        simp only [bnd_some]
        rw [cond_false, bnd_some]
        exact fin _ hlen
end Go.Tw.Rw

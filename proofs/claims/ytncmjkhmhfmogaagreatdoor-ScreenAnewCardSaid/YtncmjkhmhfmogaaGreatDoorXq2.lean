import Derived.Test.YtncmjkhmhfmogaaGreatDoorXq1
import Derived.Test.YtncmjkhmhfmogaaGreatDoorXp1
set_option linter.unusedVariables false
set_option linter.unusedSimpArgs false
namespace Go.Tw.X
open Go Go.Tw
/-! ### the document's reading of bytes ends, with actions that may be -/
theorem ok_sidx {s : ByteArray} {i : Int} (h0 : 0 ≤ i) (h1 : i < s.size) : okO (sidx s i) (fun b => 0 ≤ b ∧ b < 256) := by
  obtain ⟨n, rfl⟩ := Int.eq_ofNat_of_zero_le h0
  have hn : n < s.data.size := by have : s.data.size = s.size := rfl; omega
  refine ⟨(s.data[n].toNat : Int), ?_, by omega, ?_⟩
  · unfold sidx
    rw [decide_eq_true (by omega), cond_true, Int.toNat_natCast, Array.getElem?_eq_getElem hn]
    rfl
  · have := s.data[n].toNat_lt
    omega
theorem scut_size (s : ByteArray) {lo hi : Int} (h0 : 0 ≤ lo) (h1 : lo ≤ hi) (h2 : hi ≤ s.size) : (scut s lo hi).size = (hi - lo).toNat := by
  unfold scut
  rw [ByteArray.size_extract]
  omega
def okA (a : Ref07Action) : Prop := rok a.rune ∧ 0 ≤ a.byte ∧ a.byte < 256 ∧ a.nums.length ≤ 18
def okAs (l : List Ref07Action) : Prop := ∀ a ∈ l, okA a
theorem okAs_nil : okAs [] := fun a h => by cases h
theorem okAs_app {a b : List Ref07Action} (ha : okAs a) (hb : okAs b) : okAs (a ++ b) := fun x h => (List.mem_append.1 h).elim (ha x) (hb x)
theorem okAs_one {a : Ref07Action} (h : okA a) : okAs [a] := fun x hx => by rw [List.mem_singleton.1 hx]; exact h
theorem ok_prints {l : List Int} (hl : l.length ≤ 1000000) (h : ∀ x ∈ l, rok x) : okO (p_ref07_prints l) (fun r => r.length = l.length ∧ okAs r) := by
  unfold p_ref07_prints
  refine ok_bind (P := fun r => r.length = l.length ∧ okAs r) (ok_iter (fun s : List Ref07Action × Int => 0 ≤ s.2 ∧ s.2 ≤ l.length ∧ (s.1.length : Int) = s.2 ∧ okAs s.1) (fun s => l.length - s.2.toNat) ⟨Int.le_refl 0, by dsimp only; omega, rfl, okAs_nil⟩ ?_) fun r hr => ok_some hr
  rintro ⟨o, i⟩ ⟨h0, h1, h2, h3⟩
  dsimp only at h0 h1 h2 h3 ⊢
  refine ok_if (fun hi => ?_) fun hi => ?_
  · refine ok_bind (ok_idx h0 hi) fun x hx => ?_
    refine ok_bind (ok_ap (by simp; omega)) fun _ _ => ?_
    refine ok_some ⟨⟨?_, ?_, ?_, ?_⟩, ?_⟩
    · rw [w64 (by omega) (by omega)]; omega
    · rw [w64 (by omega) (by omega)]; omega
    · rw [w64 (by omega) (by omega)]; simp; omega
    · exact okAs_app h3 (okAs_one ⟨h x hx, by simp, by simp, by simp⟩)
    · dsimp only; rw [w64 (by omega) (by omega)]; omega
  · exact ok_some ⟨by omega, h3⟩
theorem ok_titles {s : ByteArray} (hs : s.size ≤ 1000000) : okO (p_ref07_Titles s) (fun r => r.length ≤ 1 ∧ okAs r) := by
  unfold p_ref07_Titles
  refine ok_bind (P := fun e => e.size ≤ 1000000) ?_ fun e he => ?_
  · refine ok_if (fun h => ?_) fun h => ok_some hs
    refine ok_bind (ok_cut (by omega) (by omega) (by omega)) fun _ _ => ok_some ?_
    rw [scut_size _ (by omega) (by omega) (by omega)]
    omega
  · refine ok_bind (P := fun b => b = true → 1 < e.size) ?_ fun b hb => ?_
    · refine ok_if (fun h => ?_) fun h => ok_some (fun e => by cases e)
      have hz : 1 < e.size := by omega
      refine ok_bind (ok_sidx (by omega) (by omega)) fun b _ => ?_
      refine ok_eq (fun _ => ?_) fun _ => ?_
      · exact ok_bind (ok_sidx (by omega) (by omega)) fun b _ => ok_some fun _ => hz
      · refine ok_bind (ok_sidx (by omega) (by omega)) fun b _ => ?_
        refine ok_eq (fun _ => ?_) fun _ => ok_some fun _ => hz
        exact ok_bind (ok_sidx (by omega) (by omega)) fun b _ => ok_some fun _ => hz
    · refine ok_bif (fun h => ?_) fun h => ok_some ⟨by simp, okAs_nil⟩
      have := hb h
      refine ok_bind (ok_cut (by omega) (by omega) (by omega)) fun _ _ => ok_some ⟨by simp, okAs_one ⟨by simp [rok], by simp, by simp, by simp⟩⟩
theorem ok_order {s : ByteArray} (hs : s.size ≤ 1000000) {b : Int} (hb0 : 0 ≤ b) (hb1 : b < 256) : okO (p_ref07_Order s b) (fun r => r.length ≤ 1 ∧ okAs r) := by
  unfold p_ref07_Order
  have hne : ∀ t : ByteArray, (t.toList == (ByteArray.mk #[]).toList) = false → 0 < t.size := by
    intro t ht
    rcases Nat.eq_zero_or_pos t.size with h | h
    · have : t = ByteArray.mk #[] := by
        apply ByteArray.ext
        exact Array.eq_empty_of_size_eq_zero h
      rw [this] at ht
      simp at ht
    · exact h
  refine ok_bind (P := fun e => e = true → 0 < s.size) ?_ fun e he => ?_
  · refine ok_bif (fun h => ?_) fun h => ok_some (fun e => by cases e)
    have := hne s (by simpa using h)
    exact ok_bind (ok_sidx (by omega) (by omega)) fun b _ => ok_some fun _ => this
  · refine ok_bind (P := fun q => q.1.size ≤ 1000000 ∧ okA q.2 ∧ q.2.nums.length = 0) ?_ fun q hq => ?_
    · refine ok_bif (fun h => ?_) fun h => ok_some ⟨hs, ⟨by simp [rok], hb0, hb1, by simp⟩, rfl⟩
      have := he h
      refine ok_bind (ok_cut (by omega) (by omega) (by omega)) fun _ _ => ok_some ⟨?_, ⟨by simp [rok], hb0, hb1, by simp⟩, rfl⟩
      dsimp only
      rw [scut_size _ (by omega) (by omega) (by omega)]
      omega
    · obtain ⟨q1, q2, q3⟩ := hq
      refine ok_bif (fun h => ok_some ⟨by simp, okAs_one q2⟩) fun h => ?_
      refine ok_bind (P := fun | .inl a => okA a | .inr l => l.length ≤ 1 ∧ okAs l) ?_ ?_
      rotate_left
      · rintro (a | l) h
        · exact ok_some ⟨by simp, okAs_one h⟩
        · exact ok_some h
      refine ok_iter (fun z : Ref07Action × Int × Int => 0 ≤ z.2.2 ∧ z.2.2 ≤ q.1.size + 1 ∧ okA z.1 ∧ z.1.nums.length ≤ 16) (fun z => q.1.size + 1 - z.2.2.toNat) ⟨Int.le_refl 0, by dsimp only; omega, q2, by dsimp only; omega⟩ ?_
      rintro ⟨a, n, i⟩ ⟨h0, h1, h4, h5⟩
      dsimp only at h0 h1 h4 h5 ⊢
      refine ok_if (fun hi => ?_) fun hi => ok_some h4
      refine ok_bind (P := fun | .inl z => okA z.2 ∧ z.2.nums.length ≤ 16 | .inr (.inl _) => False | .inr (.inr (.inl a)) => okA a | .inr (.inr (.inr l)) => l.length ≤ 1 ∧ okAs l) ?_ ?_
      · refine ok_bind (P := fun e => e = true → i < q.1.size) ?_ fun e he => ?_
        · refine ok_if (fun h => ?_) fun h => ok_some (fun e => by cases e)
          refine ok_bind (ok_sidx h0 h) fun b _ => ?_
          exact ok_if (fun _ => ok_bind (ok_sidx h0 h) fun b _ => ok_some fun _ => h) fun _ => ok_some fun _ => h
        · refine ok_bif (fun h => ?_) fun h => ?_
          · exact ok_bind (ok_sidx h0 (he h)) fun b hb => ok_some ⟨h4, h5⟩
          · refine ok_bind (P := fun e => e = true → i < q.1.size) ?_ fun e he => ?_
            · refine ok_if (fun h => ?_) fun h => ok_some (fun e => by cases e)
              refine ok_bind (ok_sidx h0 h) fun b _ => ?_
              exact ok_ne (fun _ => ok_bind (ok_sidx h0 h) fun b _ => ok_some fun _ => h) fun _ => ok_some fun _ => h
            · refine ok_bif (fun h => ?_) fun h => ?_
              · exact ok_inrs (ok_inrr (ok_some ⟨by simp, okAs_nil⟩))
              · refine ok_bind (P := fun a => okA a ∧ a.nums.length ≤ 16) ?_ fun a' ha' => ok_some ha'
                refine ok_if (fun h => ?_) fun h => ok_some ⟨h4, h5⟩
                refine ok_bind (ok_ap (by simp; omega)) fun _ _ => ok_some ⟨⟨h4.1, h4.2.1, h4.2.2.1, by simp; omega⟩, by simp; omega⟩
      · rintro (⟨n', a'⟩ | (z | (a' | l'))) hz
        · obtain ⟨g3, g4⟩ := hz
          dsimp only at g3 g4
          refine ok_some ⟨⟨?_, ?_, g3, g4⟩, ?_⟩
          · dsimp only; rw [w64 (by omega) (by omega)]; omega
          · dsimp only; rw [w64 (by omega) (by omega)]; omega
          · dsimp only; rw [w64 (by omega) (by omega)]; omega
        · exact hz.elim
        · exact ok_some hz
        · exact ok_some hz
end Go.Tw.X

set_option linter.unusedVariables false
set_option linter.unusedSimpArgs false
set_option maxHeartbeats 1000000
namespace Go.Tw.X
open Go Go.Tw
theorem ok_need (b : Int) : okO (p_ref05_need b) (fun r => r.1 = 0 ∨ r.1 = 1 ∨ r.1 = 2 ∨ r.1 = 3) := by
  unfold p_ref05_need
  refine ok_bind (P := fun _ => True) (ok_if (fun _ => ok_some trivial) fun _ => ok_some trivial) fun e _ => ?_
  refine ok_bif (fun _ => ok_some (by simp)) fun _ => ?_
  refine ok_eq (fun _ => ok_some (by simp)) fun _ => ?_
  refine ok_eq (fun _ => ok_some (by simp)) fun _ => ?_
  refine ok_bind (P := fun _ => True) (ok_if (fun _ => ok_some trivial) fun _ => ok_some trivial) fun e _ => ?_
  refine ok_bif (fun _ => ok_some (by simp)) fun _ => ?_
  refine ok_eq (fun _ => ok_some (by simp)) fun _ => ?_
  refine ok_eq (fun _ => ok_some (by simp)) fun _ => ?_
  refine ok_bind (P := fun _ => True) (ok_if (fun _ => ok_some trivial) fun _ => ok_some trivial) fun e _ => ?_
  exact ok_bif (fun _ => ok_some (by simp)) fun _ => ok_some (by simp)
def roks (l : List Int) : Prop := ∀ x ∈ l, rok x
theorem roks_snoc {l : List Int} {x : Int} (h : roks l) (hx : rok x) : roks (l ++ [x]) := fun y hy => by
  rcases List.mem_append.1 hy with hy | hy
  · exact h y hy
  · rw [List.mem_singleton.1 hy]; exact hx
theorem tm64 {b : Int} (h : 0 ≤ b) : 0 ≤ b.tmod 64 ∧ b.tmod 64 < 64 := ⟨Int.tmod_nonneg _ h, Int.tmod_lt_of_pos _ (by decide)⟩
theorem ok_runes {s : ByteArray} (hs : s.size ≤ 1000000) : okO (p_ref05_Runes s) (fun r => r.1.length ≤ s.size ∧ roks r.1) := by
  unfold p_ref05_Runes
  refine ok_bind (P := fun | .inl l => l.length ≤ s.size ∧ roks l | .inr r => r.1.length ≤ s.size ∧ roks r.1) ?_ ?_
  rotate_left
  · rintro (l | r) h
    · exact ok_some h
    · exact ok_some h
  refine ok_iter (fun z : List Int × Int => 0 ≤ z.2 ∧ z.2 ≤ s.size ∧ (z.1.length : Int) ≤ z.2 ∧ roks z.1) (fun z => s.size - z.2.toNat) ⟨Int.le_refl 0, by dsimp only; omega, by simp, fun x hx => by cases hx⟩ ?_
  rintro ⟨o, p⟩ ⟨h0, h1, h2, h3⟩
  dsimp only at h0 h1 h2 h3 ⊢
  refine ok_if (fun hp => ?_) fun hp => ok_some ⟨by omega, h3⟩
  refine ok_bind (ok_sidx h0 hp) fun b hb => ?_
  rw [w64 (x := b) (by omega) (by omega), w64 (x := p + 1) (by omega) (by omega)]
  refine ok_if (fun hb1 => ?_) fun hb1 => ?_
  · refine ok_bind (ok_ap (by simp; omega)) fun _ _ => ok_some ⟨⟨by dsimp only; omega, by dsimp only; omega, by simp; omega, roks_snoc h3 ⟨by omega, by omega⟩⟩, by dsimp only; omega⟩
  · refine ok_bind (ok_need b) fun k hk => ?_
    refine ok_eq (fun hk0 => ?_) fun hk0 => ?_
    · refine ok_bind (ok_ap (by simp; omega)) fun _ _ => ok_some ⟨⟨by dsimp only; omega, by dsimp only; omega, by simp; omega, roks_snoc h3 ⟨by decide, by decide⟩⟩, by dsimp only; omega⟩
    · refine ok_bind (P := fun x => 0 < x ∧ x ≤ 32) ?_ fun x hx => ?_
      · rcases hk with hk | hk | hk | hk
        · exact absurd hk hk0
        · rw [hk]; exact ⟨32, rfl, by decide⟩
        · rw [hk]; exact ⟨16, rfl, by decide⟩
        · rw [hk]; exact ⟨8, rfl, by decide⟩
      refine ok_bind (ok_chk (by omega)) fun _ _ => ?_
      have hb2 : 0 ≤ b.tmod x ∧ b.tmod x < 32 := ⟨Int.tmod_nonneg _ (by omega), by have := Int.tmod_lt_of_pos b (show 0 < x by omega); omega⟩
      refine ok_bind (P := fun v => 0 ≤ v.1 ∧ v.1 < 8388608 ∧ 1 ≤ v.2 ∧ v.2 ≤ 4 ∧ p + v.2 ≤ s.size) ?_ fun v hv => ?_
      · refine ok_iter (fun z : Int × Int × Int × Int => 0 ≤ z.1 ∧ p + z.2.1 ≤ s.size ∧ z.2.1 ≤ k.1 + 1 ∧ (z.2.1 = 1 ∧ z.1 < 32 ∨ z.2.1 = 2 ∧ z.1 < 2048 ∨ z.2.1 = 3 ∧ z.1 < 131072 ∨ z.2.1 = 4 ∧ z.1 < 8388608)) (fun z => 4 - z.2.1.toNat) ⟨hb2.1, by dsimp only; omega, by dsimp only; omega, .inl ⟨rfl, hb2.2⟩⟩ ?_
        rintro ⟨v, j, lo, hi⟩ ⟨g0, g1, g2, g3⟩
        dsimp only at g0 g1 g2 g3 ⊢
        rw [w64 (x := p + j) (by omega) (by omega)]
        refine ok_bind (P := fun e => e = true → j ≤ k.1 ∧ p + j < s.size) ?_ fun e he => ?_
        · refine ok_if (fun h => ok_some fun e => ⟨h, of_decide_eq_true e⟩) fun h => ok_some fun e => by cases e
        · refine ok_bif (fun h => ?_) fun h => ok_some ⟨g0, by omega, by omega, by omega, g1⟩
          obtain ⟨e1, e2⟩ := he h
          refine ok_bind (ok_sidx (by omega) e2) fun c hc => ?_
          rw [w64 (x := c) (by omega) (by omega)]
          refine ok_bind (P := fun _ => True) (ok_if (fun _ => ok_some trivial) fun _ => ok_some trivial) fun e _ => ?_
          refine ok_bif (fun _ => ok_some ⟨g0, by omega, by omega, by omega, g1⟩) fun _ => ?_
          have hc2 := tm64 hc.1
          have w1 : IntKind.i64.wrap (v * 64) = v * 64 := w64 (by omega) (by omega)
          have w2 : IntKind.i64.wrap (v * 64 + c.tmod 64) = v * 64 + c.tmod 64 := w64 (by omega) (by omega)
          have w3 : IntKind.i64.wrap (j + 1) = j + 1 := w64 (by omega) (by omega)
          rw [w1, w2, w3]
          refine ok_some ⟨⟨by dsimp only; omega, by dsimp only; omega, by dsimp only; omega, ?_⟩, by dsimp only; omega⟩
          dsimp only
          omega
      · obtain ⟨g0, g1, g2, g3, g4⟩ := hv
        rw [w64 (x := p + v.2) (by omega) (by omega)]
        refine ok_bind (P := fun | .inl l => (l.length : Int) ≤ p + 1 ∧ roks l | .inr (.inl _) => False | .inr (.inr (.inl _)) => False | .inr (.inr (.inr r)) => r.1.length ≤ s.size ∧ roks r.1) ?_ ?_
        · refine ok_if (fun h => ?_) fun h => ?_
          · refine ok_bind (ok_ap (by simp; omega)) fun _ _ => ok_some ⟨by simp; omega, roks_snoc h3 ⟨by omega, by omega⟩⟩
          · refine ok_eq (fun _ => ok_inrs (ok_inrr (ok_some ⟨by dsimp only; omega, h3⟩))) fun _ => ?_
            refine ok_bind (ok_ap (by simp; omega)) fun _ _ => ok_some ⟨by simp; omega, roks_snoc h3 ⟨by decide, by decide⟩⟩
        · rintro (l | (l | (l | l))) hl
          · refine ok_some ⟨⟨by dsimp only; omega, by dsimp only; omega, by dsimp only; omega, hl.2⟩, by dsimp only; omega⟩
          · exact hl.elim
          · exact hl.elim
          · exact ok_some hl
def FPr (n : Nat) (p : Int) : (List Ref07Action × Int × Int × ByteArray) ⊕ (List Ref07Action ⊕ List Ref07Action) → Prop
  | .inl z => (0 ≤ z.2.2.1 ∧ z.2.2.1 ≤ n ∧ (z.1.length : Int) ≤ 2 * z.2.2.1 ∧ okAs z.1 ∧ (z.2.2.2.size : Int) ≤ z.2.2.1) ∧ n - z.2.2.1.toNat < n - p.toNat
  | .inr (.inl l) => l.length ≤ 2 * n ∧ okAs l
  | .inr (.inr l) => l.length ≤ 2 * n ∧ okAs l
theorem ok_read {s : ByteArray} (hs : s.size ≤ 100000) : okO (p_ref07_Read s) (fun r => r.length ≤ 2 * s.size ∧ okAs r) := by
  unfold p_ref07_Read
  refine ok_bind (P := fun | .inl l => l.length ≤ 2 * s.size ∧ okAs l | .inr l => l.length ≤ 2 * s.size ∧ okAs l) ?_ ?_
  rotate_left
  · rintro (l | r) h
    · exact ok_some h
    · exact ok_some h
  refine ok_iter (fun z : List Ref07Action × Int × Int × ByteArray => 0 ≤ z.2.2.1 ∧ z.2.2.1 ≤ s.size ∧ (z.1.length : Int) ≤ 2 * z.2.2.1 ∧ okAs z.1 ∧ (z.2.2.2.size : Int) ≤ z.2.2.1) (fun z => s.size - z.2.2.1.toNat) ⟨Int.le_refl 0, by dsimp only; omega, by simp, okAs_nil, by simp [ByteArray.size]⟩ ?_
  rintro ⟨o, st, p, bd⟩ ⟨h0, h1, h2, h3, h4⟩
  dsimp only at h0 h1 h2 h3 h4 ⊢
  refine ok_if (fun hp => ?_) fun hp => ok_some ⟨by omega, h3⟩
  refine ok_bind (P := fun | .inl z => okAs z.1 ∧ p ≤ z.2 ∧ z.2 < s.size ∧ (z.1.length : Int) ≤ 2 * z.2 + 1 | .inr (.inl _) => False | .inr (.inr (.inl _)) => False | .inr (.inr (.inr l)) => l.length ≤ 2 * s.size ∧ okAs l) ?_ ?_
  · refine ok_eq (fun hst => ?_) fun hst => ok_some ⟨h3, by dsimp only; omega, hp, by dsimp only; omega⟩
    refine ok_bind (P := fun e => p ≤ e ∧ e ≤ s.size) ?_ fun e he => ?_
    · refine ok_iter (fun z : Int => p ≤ z ∧ z ≤ s.size) (fun z => s.size - z.toNat) ⟨by omega, by omega⟩ ?_
      rintro e ⟨g0, g1⟩
      refine ok_bind (P := fun c => c = true → e < s.size) ?_ fun c hc => ?_
      · refine ok_if (fun h => ?_) fun h => ok_some (fun e => by cases e)
        refine ok_bind (ok_sidx (by omega) h) fun b _ => ?_
        exact ok_if (fun _ => ok_bind (ok_sidx (by omega) h) fun b _ => ok_some fun _ => h) fun _ => ok_some fun _ => h
      · refine ok_bif (fun h => ?_) fun h => ok_some ⟨g0, g1⟩
        have := hc h
        rw [w64 (x := e + 1) (by omega) (by omega)]
        exact ok_some ⟨⟨by omega, by omega⟩, by omega⟩
    · obtain ⟨g0, g1⟩ := he
      refine ok_bind (ok_cut h0 g0 (by omega)) fun _ _ => ?_
      have hz := scut_size s h0 g0 g1
      refine ok_bind (ok_runes (by omega)) fun r hr => ?_
      refine ok_bind (ok_prints (by omega) hr.2) fun q hq => ?_
      refine ok_bind (ok_ap (by omega)) fun _ _ => ?_
      refine ok_eq (fun _ => ?_) fun hne => ?_
      · refine ok_inrs (ok_inrr (ok_some ⟨by rw [List.length_append]; omega, okAs_app h3 hq.2⟩))
      · refine ok_bind (P := fun l => okAs l ∧ (l.length : Int) ≤ 2 * e + 1) ?_ fun l hl => ok_some ⟨hl.1, by dsimp only; omega, by dsimp only; omega, hl.2⟩
        refine ok_if (fun _ => ?_) fun _ => ok_some ⟨okAs_app h3 hq.2, by rw [List.length_append]; omega⟩
        refine ok_bind (ok_ap (by rw [List.length_append]; simp; omega)) fun _ _ => ok_some ⟨okAs_app (okAs_app h3 hq.2) (okAs_one ⟨⟨by decide, by decide⟩, by decide, by decide, by simp⟩), by rw [List.length_append, List.length_append]; simp; omega⟩
  · rintro (⟨o1, e⟩ | (l | (l | l))) hl
    rotate_left
    · exact hl.elim
    · exact hl.elim
    · exact ok_some hl
    obtain ⟨g0, g1, g2, g3⟩ := hl
    dsimp only at g0 g1 g2 g3 ⊢
    refine ok_mono (P := FPr s.size p) ?_ (by rintro (z | (l | l)) h <;> exact h)
    refine ok_bind (ok_sidx (by omega) g2) fun b hb => ?_
    have w1 : IntKind.i64.wrap (e + 1) = e + 1 := w64 (by omega) (by omega)
    have w2 : IntKind.i64.wrap (e + 1 + 1) = e + 1 + 1 := w64 (by omega) (by omega)
    have wb : IntKind.i64.wrap b = b := w64 (by omega) (by omega)
    simp only [w1, w2, wb]
    have fin : ∀ (o' : List Ref07Action) (st' p' : Int) (bd' : ByteArray), okAs o' → (o'.length : Int) ≤ 2 * p' → p + 1 ≤ p' → p' ≤ s.size → (bd'.size : Int) ≤ p' → okO (some (Sum.inl (o', st', p', bd')) : Option ((List Ref07Action × Int × Int × ByteArray) ⊕ (List Ref07Action ⊕ List Ref07Action))) (FPr s.size p) := fun o' st' p' bd' a1 a2 a3 a4 a5 => ok_some ⟨⟨by dsimp only; omega, a4, a2, a1, a5⟩, by dsimp only; omega⟩
    have ap1 : ∀ {l : List Ref07Action}, l.length ≤ 1 → okO (chk (apok o1.length l.length 72)) (fun _ => True) := fun {l} hl => ok_ap (by omega)
    have oA : ∀ {k : Int}, 0 ≤ b → okAs ([(Ref07Action.mk k 0 b false ([] : List Int) (ByteArray.mk #[]))]) := fun {k} _ => okAs_one ⟨by simp [rok], hb.1, hb.2, by simp⟩
    have bsz : (bstr [(IntKind.u8.wrap b)]).size = 1 := by rw [bstr_size]; rfl
    refine ok_eq (fun h4s => ?_) fun h4s => ?_
    · refine ok_bind (P := fun | .inl z => okAs z.1 ∧ (z.1.length : Int) ≤ 2 * z.2.2.1 ∧ p + 1 ≤ z.2.2.1 ∧ z.2.2.1 ≤ s.size ∧ (z.2.2.2.size : Int) ≤ z.2.2.1 | .inr (.inl _) => False | .inr (.inr (.inl _)) => False | .inr (.inr (.inr l)) => l.length ≤ 2 * s.size ∧ okAs l) ?_ ?_
      · refine ok_eq (fun _ => ?_) fun _ => ?_
        · refine ok_bind (ok_titles (by omega)) fun r hr => ?_
          exact ok_bind (ap1 hr.1) fun _ _ => ok_some ⟨okAs_app g0 hr.2, by rw [List.length_append]; dsimp only; omega, by dsimp only; omega, by dsimp only; omega, by dsimp only; omega⟩
        · refine ok_bind (P := fun _ => True) (ok_eq (fun _ => ok_some trivial) fun _ => ok_some trivial) fun c _ => ?_
          refine ok_bif (fun _ => ok_some ⟨g0, by dsimp only; omega, by dsimp only; omega, by dsimp only; omega, by dsimp only; omega⟩) fun _ => ?_
          refine ok_ne (fun _ => ?_) fun _ => ?_
          · refine ok_bind (ok_sadd (by rw [bsz]; omega)) fun _ _ => ok_some ⟨g0, by dsimp only; omega, by dsimp only; omega, by dsimp only; omega, by rw [ByteArray.size_append, bsz]; dsimp only; omega⟩
          · refine ok_eq (fun _ => ok_inrs (ok_inrr (ok_some ⟨by omega, g0⟩))) fun hne => ?_
            refine ok_bind (ok_sidx (by omega) (by omega)) fun c _ => ?_
            refine ok_eq (fun _ => ?_) fun _ => ok_some ⟨g0, by dsimp only; omega, by dsimp only; omega, by dsimp only; omega, by dsimp only; omega⟩
            refine ok_bind (ok_titles (by omega)) fun r hr => ?_
            exact ok_bind (ap1 hr.1) fun _ _ => ok_some ⟨okAs_app g0 hr.2, by rw [List.length_append]; dsimp only; omega, by dsimp only; omega, by dsimp only; omega, by dsimp only; omega⟩
      · rintro (⟨o', st', p', bd'⟩ | (l | (l | l))) hl
        · obtain ⟨a1, a2, a3, a4, a5⟩ := hl
          dsimp only at a1 a2 a3 a4 a5 ⊢
          exact fin o' st' p' bd' a1 a2 a3 a4 a5
        · exact hl.elim
        · exact hl.elim
        · exact ok_some hl
    · refine ok_bind (P := fun _ => True) (ok_eq (fun _ => ok_some trivial) fun _ => ok_some trivial) fun c _ => ?_
      have hz0 : ((ByteArray.mk #[]).size : Int) = 0 := rfl
      have la : ∀ {l : List Ref07Action}, l.length ≤ 1 → ((o1 ++ l).length : Int) ≤ 2 * (e + 1) := fun {l} hl => by rw [List.length_append]; omega
      refine ok_bif (fun _ => fin _ _ _ _ g0 (by omega) (by omega) (by omega) (by omega)) fun _ => ?_
      refine ok_eq (fun _ => fin _ _ _ _ g0 (by omega) (by omega) (by omega) (by omega)) fun _ => ?_
      refine ok_if (fun _ => ok_bind (ap1 (by simp)) fun _ _ => fin _ _ _ _ (okAs_app g0 (oA hb.1)) (la (by simp)) (by omega) (by omega) (by omega)) fun _ => ?_
      refine ok_eq (fun _ => fin _ _ _ _ g0 (by omega) (by omega) (by omega) (by omega)) fun _ => ?_
      refine ok_eq (fun _ => ?_) fun _ => ?_
      · refine ok_eq (fun _ => fin _ _ _ _ g0 (by omega) (by omega) (by omega) (by omega)) fun _ => ?_
        refine ok_eq (fun _ => fin _ _ _ _ g0 (by omega) (by omega) (by omega) (by omega)) fun _ => ?_
        refine ok_if (fun _ => fin _ _ _ _ g0 (by omega) (by omega) (by omega) (by omega)) fun _ => ?_
        refine ok_if (fun _ => ok_bind (ap1 (by simp)) fun _ _ => fin _ _ _ _ (okAs_app g0 (oA hb.1)) (la (by simp)) (by omega) (by omega) (by omega)) fun _ => fin _ _ _ _ g0 (by omega) (by omega) (by omega) (by omega)
      · refine ok_eq (fun _ => ?_) fun _ => ?_
        · refine ok_if (fun _ => fin _ _ _ _ g0 (by omega) (by omega) (by omega) (by omega)) fun _ => fin _ _ _ _ g0 (by omega) (by omega) (by omega) (by omega)
        · refine ok_eq (fun _ => ?_) fun _ => fin _ _ _ _ g0 (by omega) (by omega) (by omega) (by omega)
          refine ok_bind (P := fun _ => True) (ok_if (fun _ => ok_some trivial) fun _ => ok_some trivial) fun c _ => ?_
          refine ok_bif (fun _ => ?_) fun _ => ?_
          · exact ok_bind (ok_sadd (by rw [bsz]; omega)) fun _ _ => fin _ _ _ _ g0 (by omega) (by omega) (by omega) (by rw [ByteArray.size_append, bsz]; omega)
          · refine ok_bind (ok_order (by omega) hb.1 hb.2) fun r hr => ?_
            exact ok_bind (ap1 hr.1) fun _ _ => fin _ _ _ _ (okAs_app g0 hr.2) (la hr.1) (by omega) (by omega) (by omega)
end Go.Tw.X

set_option linter.unusedVariables false
set_option linter.unusedSimpArgs false
namespace Go.Tw.X
open Go Go.Tw
theorem ok_cut1 (s : ByteArray) {n : Int} (h : 0 ≤ n) : okO (p_law01_Cut s n) (fun r => (r.size : Int) ≤ n) := by
  unfold p_law01_Cut
  refine ok_if (fun hc => ?_) fun hc => ok_some (by omega)
  refine ok_bind (ok_cut (by omega) h (by omega)) fun _ _ => ok_some ?_
  rw [scut_size _ (by omega) h (by omega)]
  omega
theorem lrows2 {W : Nat} {off : List RowRow} (h : off2 W off) (hW : W ≤ 1000) : p_law10_Rows off (off.map told) = some true :=
  lrows_eq off (by have := h.1; omega) fun r hr => ⟨by have := (h.2 r hr).1; omega, (h.2 r hr).2⟩
theorem w32i {x : Int} (h : rok x) : IntKind.i32.wrap x = x := by
  have h1 := h.1
  have h2 := h.2
  rw [IntKind.wrap_i32]
  omega
theorem w32r (x : Int) : rok (IntKind.i32.wrap x) := by
  unfold rok
  rw [IntKind.wrap_i32]
  omega
theorem w8r (x : Int) : 0 ≤ IntKind.u8.wrap x ∧ IntKind.u8.wrap x < 256 := by
  rw [IntKind.wrap_u8]
  omega
theorem own11_eq {a : Ref07Action} (h : okA a) : p_law11_Own a = some (ownA a) := by
  obtain ⟨h1, h2, h3, h4⟩ := h
  unfold p_law11_Own
  rw [apok_true (by simp; omega), bnd_some, w32i h1, u8id h2 h3]
  rfl
theorem bind_invP {σ ρ β : Type} {f : σ → Option (σ ⊕ ρ)} {s : σ} {g : ρ → Option β} {Ex : Option β → Prop} (Inv : σ → Prop) (m : σ → Nat) (Post : ρ → Prop) (h0 : Inv s)
    (hs : ∀ s, Inv s → (∃ s', f s = some (.inl s') ∧ Inv s' ∧ m s' < m s) ∨ (∃ r, f s = some (.inr r) ∧ Post r)) (hg : ∀ r, Post r → Ex (g r)) : Ex (Option.bind (iter f s) g) := by
  obtain ⟨r, h1, h2⟩ := iter_inv Inv m Post hs s h0
  rw [h1]
  exact hg r h2
section
variable {W : Nat} {s : ScreenScreen}
/-- one action, of both -/
theorem both_eq (h : SI W s) {a : Ref07Action} (ha : okA a) : p_ref11_Do (toldS s) a = some (toldS (acS W s (ownA a)), (acF W s (ownA a)).map told) ∧ p_law11_Own a = some (ownA a) ∧ p_screen_Screen_Do s (ownA a) = some (acF W s (ownA a), acS W s (ownA a)) ∧ p_law10_Rows (acF W s (ownA a)) ((acF W s (ownA a)).map told) = some true ∧ SI W (acS W s (ownA a)) :=
  ⟨do_q h.toSJ a ha.1 (by have := ha.2.2.2; omega), own11_eq ha, do_p h.toSJ _ (by have := ha.2.2.2; show a.nums.length ≤ _; omega), lrows2 (acF_ok h.toSJ _) h.gi.w2, SI_ac h _ ha.1⟩
theorem ldo_eq (h : SI W s) {t : Law11Step} (ht : wfLaw11Step t) : ∃ (W' : Nat) (s' : ScreenScreen), p_law11_Do s (toldS s) t = some (toldS s', true, s') ∧ SI W' s' := by
  unfold p_law11_Do
  by_cases h0 : t.kind = 0
  · rw [beqT h0, cond_true]
    have e1 : imin (t.a.nums.length : Int) 18 = ((min t.a.nums.length 18 : Nat) : Int) := by rw [imin_eq]; omega
    obtain ⟨r, er, hr⟩ := ok_cut1 t.a.text (n := 50) (by omega)
    rw [e1, cutok_true (by omega) (by omega) (by omega), bnd_some, er, bnd_some]
    have hw := w32r t.a.rune
    have hb := w8r t.a.byte
    rw [w64 (x := IntKind.i32.wrap t.a.rune) (by have := hw.1; omega) (by have := hw.2; omega), w64 (x := IntKind.u8.wrap t.a.byte) (by omega) (by omega), cut_zero]
    have hA : okA ⟨t.a.kind, IntKind.i32.wrap t.a.rune, IntKind.u8.wrap t.a.byte, t.a.private_, t.a.nums.take (min t.a.nums.length 18), r⟩ := ⟨hw, hb.1, hb.2, by rw [List.length_take]; omega⟩
    obtain ⟨e2, e3, e4, e5, e6⟩ := both_eq h hA
    rw [e2, bnd_some, e3, bnd_some, e4, bnd_some]
    dsimp only
    rw [e5, bnd_some]
    exact ⟨W, _, rfl, e6⟩
  · rw [beqF h0, cond_false]
    by_cases h1 : t.kind = 1
    · rw [beqT h1, cond_true]
      simp only [show ∀ n, p_law11_small n = some (imin n 14) from fun n => rfl, bnd_some]
      rw [sresize_q h.toSJ, bnd_some, sresize_p h.toSJ, bnd_some]
      dsimp only
      rw [lrows2 (rzF_ok h.toSJ _) h.gi.w2, bnd_some]
      exact ⟨_, _, rfl, SI_rzS h.toSJ _ _⟩
    · rw [beqF h1, cond_false]
      obtain ⟨r, er, hr⟩ := ok_cut1 t.text (n := 100) (by omega)
      obtain ⟨q, eq, hq1, hq2⟩ := ok_read (s := r) (by omega)
      rw [er, bnd_some, eq, bnd_some]
      refine bind_invP (Ex := fun X => ∃ (W' : Nat) (s' : ScreenScreen), X = some (toldS s', true, s') ∧ SI W' s') (fun z : Ref11Screen × ScreenScreen × Int => ∃ s', z.1 = toldS s' ∧ z.2.1 = s' ∧ SI W s' ∧ 0 ≤ z.2.2) (fun z => q.length - z.2.2.toNat) (fun z => ∃ s', z = .inl (toldS s', s') ∧ SI W s') ⟨s, rfl, rfl, h, Int.le_refl 0⟩ ?_ ?_
      · rintro ⟨x, y, i⟩ ⟨s', e1, e2, hi, hi0⟩
        dsimp only at e1 e2 hi0 ⊢
        subst e1 e2
        by_cases c : i < (q.length : Int)
        · obtain ⟨a, ha, hm⟩ := idx_in q hi0 c
          obtain ⟨e2, e3, e4, e5, e6⟩ := both_eq hi (hq2 a hm)
          left
          rw [decide_eq_true c, cond_true, ha, bnd_some, e2, bnd_some, e3, bnd_some, e4, bnd_some]
          dsimp only
          rw [e5, bnd_some, Bool.not_true, cond_false, w64 (by omega) (by omega)]
          exact ⟨_, rfl, ⟨_, rfl, rfl, e6, by dsimp only; omega⟩, by dsimp only; omega⟩
        · right
          rw [decide_eq_false c, cond_false]
          exact ⟨_, rfl, _, rfl, hi⟩
      · rintro r ⟨s', rfl, hs'⟩
        exact ⟨W, s', rfl, hs'⟩
theorem sgrid_eq (h : SJ W s) : p_screen_Screen_Grid s = some (s.g, s) := by
  unfold p_screen_Screen_Grid
  have e := gclones_eq s.g.w s.g.l (by have := h.gi.l2; omega) h.gi.len
  rw [show (GridGrid.mk s.g.w s.g.l) = s.g from rfl] at e
  rw [e]
  rfl
theorem lis11_eq (h : SJ W s) : p_law11_Is s (toldS s) = some (true, s) := by
  unfold p_law11_Is
  rw [show p_screen_Screen_Cursor s = some (s.spot.x, s.spot.y) from rfl, bnd_some, show p_screen_Screen_Region s = some (s.top, s.bottom) from rfl, bnd_some, sgrid_eq h, bnd_some]
  dsimp only
  have e : p_law10_Is s.g (toldS s).g = some (true, s.g) := by
    rw [toldg_eq h]
    have := gis_eq h.gi
    rw [← h.ge] at this
    exact this
  rw [e, bnd_some]
  simp only [cond_true, toldS, beq_self_eq_true, p_screen_Screen_Waiting, p_screen_Screen_Title, p_screen_Screen_Style, bnd_some, tst, Bool.and_self]
end
/-! awake -/
def awA (i : Nat) : SeqAction := ⟨1, 97 + i, 0, false, [], ByteArray.mk #[]⟩
def awS : Nat → ScreenScreen
  | 0 => newT 3 2
  | i + 1 => acS 3 (awS i) (awA i)
theorem awS_ok : ∀ i, i < 5 → SI 3 (awS i)
  | 0, _ => SI_newT 3 2
  | i + 1, h => SI_ac (awS_ok i (by omega)) _ ⟨by simp [awA]; omega, by simp [awA]; omega⟩
def awB : SeqAction := ⟨2, 0, 10, false, [], ByteArray.mk #[]⟩
theorem awake11_eq : p_law11_awake = some true := by
  unfold p_law11_awake
  rw [snew_eq, bnd_some]
  refine bind_to (fun i => (awS i, (i : Int))) 4 (.inl (awS 4)) rfl ?_ ?_ ?_
  · intro i hi
    dsimp only
    have hx : idx [97, 98, 99, 100] (i : Int) = some (97 + (i : Int)) := by
      have : i = 0 ∨ i = 1 ∨ i = 2 ∨ i = 3 := by omega
      rcases this with rfl | rfl | rfl | rfl <;> rfl
    rw [decide_eq_true (by simp; omega), cond_true, hx, bnd_some]
    have e := do_p (awS_ok i (by omega)).toSJ (awA i) (by simp [awA])
    rw [show awA i = ⟨1, 97 + i, 0, false, [], ByteArray.mk #[]⟩ from rfl] at e
    rw [e, bnd_some, w64 (by omega) (by omega)]
    have hf : (acF 3 (awS i) (awA i)).length = 0 := by
      have : i = 0 ∨ i = 1 ∨ i = 2 ∨ i = 3 := by omega
      rcases this with rfl | rfl | rfl | rfl <;> decide
    dsimp only
    rw [show awA i = ⟨1, 97 + i, 0, false, [], ByteArray.mk #[]⟩ from rfl] at hf
    rw [hf]
    rfl
  · dsimp only
    rw [decide_eq_false (by simp), cond_false]
  · dsimp only
    have h4 := awS_ok 4 (by omega)
    have e := do_p h4.toSJ awB (by simp [awB])
    rw [show awB = ⟨2, 0, 10, false, [], ByteArray.mk #[]⟩ from rfl] at e
    rw [e, bnd_some]
    dsimp only
    have f1 : acF 3 (awS 4) ⟨2, 0, 10, false, [], ByteArray.mk #[]⟩ = [⟨[⟨97, 0, 0⟩, ⟨98, 0, 0⟩, ⟨99, 0, 0⟩], true⟩] := by decide
    have f2 : (acS 3 (awS 4) ⟨2, 0, 10, false, [], ByteArray.mk #[]⟩).spot.x = 1 := by decide
    have f3 : (acS 3 (awS 4) ⟨2, 0, 10, false, [], ByteArray.mk #[]⟩).spot.y = 1 := by decide
    have h5 : SI 3 (acS 3 (awS 4) ⟨2, 0, 10, false, [], ByteArray.mk #[]⟩) := SI_ac h4 _ ⟨by decide, by decide⟩
    generalize acS 3 (awS 4) ⟨2, 0, 10, false, [], ByteArray.mk #[]⟩ = z at f2 f3 h5 ⊢
    rw [f1, show p_screen_Screen_Cursor z = some (z.spot.x, z.spot.y) from rfl, bnd_some, f2, f3]
    dsimp only
    have hg : p_row_Row_Glyphs ⟨[⟨97, 0, 0⟩, ⟨98, 0, 0⟩, ⟨99, 0, 0⟩], true⟩ = some (glyR ⟨[⟨97, 0, 0⟩, ⟨98, 0, 0⟩, ⟨99, 0, 0⟩], true⟩) := glyphs_eq _ (by simp)
    have hg2 : (glyR ⟨[⟨97, 0, 0⟩, ⟨98, 0, 0⟩, ⟨99, 0, 0⟩], true⟩).length = 3 := by decide
    have hi : ∀ r : RowRow, idx [r] 0 = some r := fun r => rfl
    simp only [List.length_cons, List.length_nil, hi, bnd_some, cond_true, hg, hg2, sgrid_eq h5.toSJ]
    rfl
end Go.Tw.X

set_option linter.unusedVariables false
set_option linter.unusedSimpArgs false
namespace Go.Tw.X
open Go Go.Tw
/-- so many steps, of both -/
theorem lt15 (n : Nat) (i : Int) (k : Int) : ((bif (decide (i < (n : Int))) then some (decide (i < k)) else some false) : Option Bool) = some (decide (i < (n : Int) ∧ i < k)) := and2 _ _
theorem pure_ScreenAnew {w h_ : Int} {l : List Law11Step} (a0 : inK .i64 w) (a1 : inK .i64 h_) (h0 : ∀ x ∈ l, wfLaw11Step x) : p_law11_ScreenAnew w h_ l = some true := by
  unfold p_law11_ScreenAnew
  rw [awake11_eq, bnd_some, Bool.not_true, cond_false]
  simp only [show ∀ n, p_law11_small n = some (imin n 14) from fun n => rfl, bnd_some, snew_eq, rsnew_eq]
  refine bind_inv (fun z : ScreenScreen × Ref11Screen × Int => ∃ (W : Nat), z.2.1 = toldS z.1 ∧ SI W z.1 ∧ 0 ≤ z.2.2) (fun z => (20 - z.2.2).toNat) (fun r => ∃ (W : Nat) (s : ScreenScreen), r = (toldS s, s) ∧ SI W s) ⟨_, rfl, SI_newT _ _, Int.le_refl 0⟩ ?_ ?_
  · rintro ⟨s, x, i⟩ ⟨W, e, hi, hi0⟩
    dsimp only at e hi hi0 ⊢
    subst e
    by_cases c : i < (l.length : Int) ∧ i < 20
    · obtain ⟨a, ha, hm⟩ := idx_in l hi0 c.1
      obtain ⟨W', s', hd, hs'⟩ := ldo_eq hi (h0 a hm)
      left
      rw [lt15, decide_eq_true c, bnd_some, cond_true, ha, bnd_some, hd, bnd_some]
      dsimp only
      rw [w64 (by omega) (by omega)]
      exact ⟨_, rfl, ⟨W', rfl, hs', by dsimp only; omega⟩, by dsimp only; omega⟩
    · right
      rw [lt15, decide_eq_false c, bnd_some, cond_false]
      exact ⟨_, rfl, W, s, rfl, hi⟩
  · rintro r ⟨W, s, rfl, hs⟩
    dsimp only
    have e := do_p hs.toSJ ⟨3, 0, 99, false, [], ByteArray.mk #[]⟩ (by simp)
    have e2 : acF W s ⟨3, 0, 99, false, [], ByteArray.mk #[]⟩ = [] := rfl
    have e3 : acS W s ⟨3, 0, 99, false, [], ByteArray.mk #[]⟩ = newT W s.g.l.length := rfl
    have e4 := SI_newT (W : Int) (s.g.l.length : Int)
    rw [e, bnd_some, e2, e3]
    dsimp only
    rw [show ((([] : List RowRow).length : Int) == 0) = true from rfl, cond_true, size_g hs.toSJ, show (toldS s).g.w = (W : Int) from hs.gw, lis11_eq e4.toSJ, bnd_some, bnd_some]
end Go.Tw.X

import Derived.Test.YtojpockgiaihoaaDoorFw7
set_option linter.unusedVariables false
set_option linter.unusedSimpArgs false
namespace Go.Tw
open Go

/-! ### rounds -/
def iterN {σ ρ : Type} (f : σ → Option (σ ⊕ ρ)) : Nat → σ → Option ρ
  | 0, _ => none
  | k + 1, s => match f s with
    | none => none
    | some (.inl s') => iterN f k s'
    | some (.inr r) => some r
theorem iterN_mono {σ ρ : Type} {f : σ → Option (σ ⊕ ρ)} : ∀ {k j : Nat} {s : σ} {r : ρ}, iterN f k s = some r → k ≤ j → iterN f j s = some r
  | 0, _, _, _, h, _ => by cases h
  | k + 1, 0, _, _, _, h => by omega
  | k + 1, j + 1, s, r, h, hk => by
    simp only [iterN] at h ⊢
    cases hf : f s with
    | none => rw [hf] at h; cases h
    | some z =>
      rw [hf] at h
      cases z with
      | inl s' => exact iterN_mono (f := f) (k := k) (s := s') h (Nat.le_of_succ_le_succ hk)
      | inr r' => exact h
open Classical in
/-- rounds, as many as it takes -/
noncomputable def iter {σ ρ : Type} (f : σ → Option (σ ⊕ ρ)) (s : σ) : Option ρ :=
  if h : ∃ k r, iterN f k s = some r then iterN f (Classical.choose h) s else none
theorem iter_of {σ ρ : Type} {f : σ → Option (σ ⊕ ρ)} {k : Nat} {s : σ} {r : ρ} (h : iterN f k s = some r) : iter f s = some r := by
  have hex : ∃ k r, iterN f k s = some r := ⟨k, r, h⟩
  unfold iter
  rw [dif_pos hex]
  obtain ⟨r', hr'⟩ := Classical.choose_spec hex
  have h1 := iterN_mono h (Nat.le_max_left k (Classical.choose hex))
  have h2 := iterN_mono hr' (Nat.le_max_right k (Classical.choose hex))
  rw [h1] at h2
  rw [hr', h2]
theorem iter_some {σ ρ : Type} {f : σ → Option (σ ⊕ ρ)} {s : σ} {r : ρ} (h : iter f s = some r) : ∃ k, iterN f k s = some r := by
  unfold iter at h
  split at h
  · rename_i hex; exact ⟨_, h⟩
  · cases h
theorem iter_eq {σ ρ : Type} (f : σ → Option (σ ⊕ ρ)) (s : σ) : iter f s = match f s with
    | none => none
    | some (.inl s') => iter f s'
    | some (.inr r) => some r := by
  cases hx : f s with
  | none =>
    simp only
    cases h : iter f s with
    | none => rfl
    | some r =>
      obtain ⟨k, hk⟩ := iter_some h
      cases k with
      | zero => cases hk
      | succ k => simp [iterN, hx] at hk
  | some z =>
    cases z with
    | inl s' =>
      simp only
      cases h : iter f s' with
      | none =>
        cases h2 : iter f s with
        | none => rfl
        | some r =>
          obtain ⟨k, hk⟩ := iter_some h2
          cases k with
          | zero => cases hk
          | succ k =>
            simp only [iterN, hx] at hk
            rw [iter_of hk] at h
            cases h
      | some r =>
        obtain ⟨k, hk⟩ := iter_some h
        exact iter_of (k := k + 1) (by simp only [iterN, hx]; exact hk)
    | inr r => exact iter_of (k := 1) (by simp [iterN, hx])
theorem iter_inl {σ ρ : Type} {f : σ → Option (σ ⊕ ρ)} {s s' : σ} (h : f s = some (.inl s')) : iter f s = iter f s' := by rw [iter_eq, h]
theorem iter_inr {σ ρ : Type} {f : σ → Option (σ ⊕ ρ)} {s : σ} {r : ρ} (h : f s = some (.inr r)) : iter f s = some r := by rw [iter_eq, h]

/-- out of a part, out of a loop -/
def inrs {α β : Type} (x : Option β) : Option (α ⊕ β) := x.map .inr
theorem inrs_some {α β : Type} {x : Option β} {y : α ⊕ β} (h : inrs x = some y) : ∃ w, y = .inr w ∧ x = some w := by
  cases x with
  | none => cases h
  | some w => injection h with h; exact ⟨w, h.symm, rfl⟩
def inrr {α β γ : Type} (x : Option γ) : Option (α ⊕ (β ⊕ γ)) := x.map fun w => .inr (.inr w)
theorem inrr_some {α β γ : Type} {x : Option γ} {y : α ⊕ (β ⊕ γ)} (h : inrr x = some y) : ∃ w, y = .inr (.inr w) ∧ x = some w := by
  cases x with
  | none => cases h
  | some w => injection h with h; exact ⟨w, h.symm, rfl⟩

/-! ### where ways meet; loops -/
section
variable {G : Pg} {n : Nat} {K : Key} {Q : Exit → Act → World → Prop} {m : Env} {S : List Ch} {I : List Im} {ops : Array Oper} {o : Oper} {l : List Oper}
def Mid (n : Nat) (K : Key) {η : Type} (φ : η → Prop) (M : η → Env) (S : η → List Ch) (I : η → List Im) : Act → World → Prop := fun a w => ∃ x A, φ x ∧ Fr n (M x) a ∧ SS K A (S x) (I x) w
theorem T.join {x y : Code} {η : Type} (φ : η → Prop) (M : η → Env) (S' : η → List Ch) (I' : η → List Im) (h1 : T G n K (Exit.then (Mid n K φ M S' I') Q) x m S I) (h2 : ∀ z, φ z → T G n K Q y (M z) (S' z) (I' z)) : T G n K (Exit.then (y.wp G.P Q) Q) x m S I := by
  intro A a w hf hs
  refine Code.wp_mono ?_ (h1 A a w hf hs)
  intro e a' w' hq
  cases e with
  | normal =>
    obtain ⟨z, A', hz, hf', hs'⟩ := hq
    exact h2 z hz A' a' w' hf' hs'
  | exit id => exact hq
  | goto id => exact hq
  | ret => exact hq
  | panic ch => exact hq
  | outgrown => exact hq
theorem E.give {η : Type} {φ : η → Prop} {M : η → Env} {S' : η → List Ch} {I' : η → List Im} (z : η) (is js : List Nat) {R : List Ch} (hz : φ z) (hm : sub_ m (M z)) (hS : ext S is = some (S' z, R)) (hJ : pick I js = some (I' z)) : E n K (Exit.then (Mid n K φ M S' I') Q) .normal m S I := by
  intro A a w hf hs
  have h2 := hs.perm (ext_perm hS) (fun i hi => hi)
  exact ⟨z, A, hz, hf.sub (sub_look hm), h2.drop (pick_mem hJ)⟩
/-- a loop: its pure rounds; what else is carried along -/
theorem T.it {ρ σ η : Type} {r : ρ} {c : Code} {f : σ → Option (σ ⊕ ρ)} (M : σ → η → Env) (SL : σ → η → List Ch) (IL : σ → η → List Im)
    (round : ∀ k s x z, f s = some z → (∀ s', z = .inl s' → iterN f k s' = some r) → (∀ r', z = .inr r' → r' = r) → T G n K (Exit.then (Mid n K (fun p : σ × η => iterN f k p.1 = some r) (fun p => M p.1 p.2) (fun p => SL p.1 p.2) (fun p => IL p.1 p.2)) Q) c (M s x) (SL s x) (IL s x))
    {s : σ} {x : η} (h : iter f s = some r) : T G n K Q (.loop c) (M s x) (SL s x) (IL s x) := by
  obtain ⟨k, hk⟩ := iter_some h
  refine T.loop (σ := σ × η) (fun k p => iterN f k p.1) (fun p => M p.1 p.2) (fun p => SL p.1 p.2) (fun p => IL p.1 p.2) (fun s e => by cases e) ?_ (k := k) (s := (s, x)) hk
  rintro k ⟨s, x⟩ hs
  simp only [iterN] at hs
  cases hz : f s with
  | none => rw [hz] at hs; cases hs
  | some z =>
    rw [hz] at hs
    have h1 := round k s x z hz (fun s' e => by subst e; exact hs) (fun r' e => by subst e; exact Option.some.inj hs)
    intro A a w hf hss
    refine Code.wp_mono ?_ (h1 A a w hf hss)
    intro e a' w' hq
    cases e with
    | normal =>
      obtain ⟨p, A', hp, hf', hs'⟩ := hq
      exact ⟨p, A', hp, hf', hs'⟩
    | exit id => exact hq
    | goto id => exact hq
    | ret => exact hq
    | panic ch => exact hq
    | outgrown => exact hq
/-- into the loop's form -/
theorem T.into {c : Code} {m' : Env} {S' R : List Ch} {I' : List Im} (is js : List Nat) (hm : sub_ m m') (hS : ext S is = some (S', R)) (hJ : pick I js = some I') (h : T G n K Q c m' S' I') : T G n K Q c m S I :=
  fun A a w hf hs => h A a w (hf.sub (sub_look hm)) ((hs.perm (ext_perm hS) (fun i hi => hi)).drop (pick_mem hJ))

theorem T.lp {ρ σ η : Type} {r : ρ} {c : Code} {f : σ → Option (σ ⊕ ρ)} (M : σ → η → Env) (SL : σ → η → List Ch) (IL : σ → η → List Im) {s : σ} (x : η) (is js : List Nat) {R : List Ch} (h : iter f s = some r) (hm : sub_ m (M s x)) (hS : ext S is = some (SL s x, R)) (hJ : pick I js = some (IL s x))
    (round : ∀ k s x z, f s = some z → (∀ s', z = .inl s' → iterN f k s' = some r) → (∀ r', z = .inr r' → r' = r) → T G n K (Exit.then (Mid n K (fun p : σ × η => iterN f k p.1 = some r) (fun p => M p.1 p.2) (fun p => SL p.1 p.2) (fun p => IL p.1 p.2)) Q) c (M s x) (SL s x) (IL s x)) : T G n K Q (.loop c) m S I :=
  T.into is js hm hS hJ (T.it M SL IL round h)

/-! ### openings -/
/-- nothing, owned -/
theorem SS.nil0 {A : Blks} {w : World} {α : Type} {ty : Ty α} {T0 : Nat} (h : SS K A S I w) : SS K A (Ch.arr ty T0 none 0 [] :: S) I w := by
  refine ⟨⟨h.st.lt, ?_, ?_, List.pairwise_cons.2 ⟨fun c hc b hb => (by cases hb), h.st.dis⟩, h.st.im⟩, ⟨h.fx.os, h.fx.tape, h.fx.output, h.fx.size, h.fx.keep, h.fx.up, h.fx.dn, ?_⟩⟩
  · intro c hc
    rcases List.mem_cons.1 hc with rfl | hc
    · exact ⟨[], ⟨by simp, .inl ⟨rfl, rfl⟩⟩, .nil⟩
    · exact h.st.ch c hc
  · intro c hc b hb
    rcases List.mem_cons.1 hc with rfl | hc
    · cases hb
    · exact h.st.own c hc b hb
  · rintro b ⟨c, hc, hb⟩
    rcases List.mem_cons.1 hc with rfl | hc
    · cases hb
    · exact h.fx.own b ⟨c, hc, hb⟩
theorem T.know {c : Code} (J : List Im) (hq : ∀ A w, (∀ c ∈ S, c.ok A w) → (∀ f ∈ I, f.ok A w) → ∀ f ∈ J, f.ok A w) (h : Tw.T G n K Q c m S (J ++ I)) : Tw.T G n K Q c m S I := fun A a w hf hs => h A a w hf (hs.know (hq A w hs.st.ch hs.st.im))
theorem L.know {l : List Oper} (J : List Im) (hq : ∀ A w, (∀ c ∈ S, c.ok A w) → (∀ f ∈ I, f.ok A w) → ∀ f ∈ J, f.ok A w) (h : L G n K ops Q l m S (J ++ I)) : L G n K ops Q l m S I := fun A a w hf hs => h A a w hf (hs.know (hq A w hs.st.ch hs.st.im))
theorem E.know {e0 : Exit} (J : List Im) (hq : ∀ A w, (∀ c ∈ S, c.ok A w) → (∀ f ∈ I, f.ok A w) → ∀ f ∈ J, f.ok A w) (h : E n K Q e0 m S (J ++ I)) : E n K Q e0 m S I := fun A a w hf hs => h A a w hf (hs.know (hq A w hs.st.ch hs.st.im))
theorem T.addr {c : Code} (i : Nat) {α : Type} {ty : Ty α} {xs : List α} {a0 : Option Addr} {c0 : Nat} (hI : I[i]? = some (Im.sl ty a0 c0 xs)) (hne : 0 < xs.length) (h : ∀ b o', a0 = some ⟨b, o', none⟩ → Tw.T G n K Q c m S I) : Tw.T G n K Q c m S I := by
  intro A a w hf hs
  rcases (hs.st.im _ (List.mem_of_getElem? hI)).2 with rfl | ⟨b, o', cs, e, _⟩
  · simp at hne
  · exact h b o' e A a w hf hs
theorem L.addr {l : List Oper} (i : Nat) {α : Type} {ty : Ty α} {xs : List α} {a0 : Option Addr} {c0 : Nat} (hI : I[i]? = some (Im.sl ty a0 c0 xs)) (hne : 0 < xs.length) (h : ∀ b o', a0 = some ⟨b, o', none⟩ → L G n K ops Q l m S I) : L G n K ops Q l m S I := by
  intro A a w hf hs
  rcases (hs.st.im _ (List.mem_of_getElem? hI)).2 with rfl | ⟨b, o', cs, e, _⟩
  · simp at hne
  · exact h b o' e A a w hf hs
theorem E.addr {e0 : Exit} (i : Nat) {α : Type} {ty : Ty α} {xs : List α} {a0 : Option Addr} {c0 : Nat} (hI : I[i]? = some (Im.sl ty a0 c0 xs)) (hne : 0 < xs.length) (h : ∀ b o', a0 = some ⟨b, o', none⟩ → E n K Q e0 m S I) : E n K Q e0 m S I := by
  intro A a w hf hs
  rcases (hs.st.im _ (List.mem_of_getElem? hI)).2 with rfl | ⟨b, o', cs, e, _⟩
  · simp at hne
  · exact h b o' e A a w hf hs
theorem T.addro {c : Code} (i : Nat) {α : Type} {ty : Ty α} {xs : List α} {a0 : Option Addr} {c0 T0 : Nat} (hI : S[i]? = some (Ch.arr ty T0 a0 c0 xs)) (hne : 0 < xs.length) (h : ∀ b, a0 = some ⟨b, 0, none⟩ → Tw.T G n K Q c m S I) : Tw.T G n K Q c m S I := by
  intro A a w hf hs
  rcases (arr_reads (hs.st.ch _ (List.mem_of_getElem? hI))).2 with rfl | ⟨b, cs, e, _⟩
  · simp at hne
  · exact h b e A a w hf hs
theorem L.addro {l : List Oper} (i : Nat) {α : Type} {ty : Ty α} {xs : List α} {a0 : Option Addr} {c0 T0 : Nat} (hI : S[i]? = some (Ch.arr ty T0 a0 c0 xs)) (hne : 0 < xs.length) (h : ∀ b, a0 = some ⟨b, 0, none⟩ → L G n K ops Q l m S I) : L G n K ops Q l m S I := by
  intro A a w hf hs
  rcases (arr_reads (hs.st.ch _ (List.mem_of_getElem? hI))).2 with rfl | ⟨b, cs, e, _⟩
  · simp at hne
  · exact h b e A a w hf hs
theorem E.addro {e0 : Exit} (i : Nat) {α : Type} {ty : Ty α} {xs : List α} {a0 : Option Addr} {c0 T0 : Nat} (hI : S[i]? = some (Ch.arr ty T0 a0 c0 xs)) (hne : 0 < xs.length) (h : ∀ b, a0 = some ⟨b, 0, none⟩ → E n K Q e0 m S I) : E n K Q e0 m S I := by
  intro A a w hf hs
  rcases (arr_reads (hs.st.ch _ (List.mem_of_getElem? hI))).2 with rfl | ⟨b, cs, e, _⟩
  · simp at hne
  · exact h b e A a w hf hs
theorem T.el {c : Code} (i : Nat) {α : Type} {ty : Ty α} {xs : List α} {b o' c0 : Nat} {k : Nat} {x0 : α} (hI : I[i]? = some (Im.sl ty (some ⟨b, o', none⟩) c0 xs)) (hk : xs[k]? = some x0) (h : ∀ hd, Tw.T G n K Q c m S (Im.cells b (o' + k * ty.sz) (ty.cs x0 hd) :: (ty.im x0 hd ++ I))) : Tw.T G n K Q c m S I := by
  intro A a w hf hs
  rcases (hs.st.im _ (List.mem_of_getElem? hI)).2 with rfl | ⟨b1, o1, cs, e, hA, hels, hc⟩
  · simp at hk
  · injection e with e
    injection e with e1 e2
    subst e1 e2
    obtain ⟨hd, h1, h2⟩ := hels.at_ k x0 hk
    refine h hd A a w hf (hs.know (J := Im.cells b (o' + k * ty.sz) (ty.cs x0 hd) :: ty.im x0 hd) fun f hf' => ?_)
    rcases List.mem_cons.1 hf' with rfl | hf'
    · exact ⟨hA, fun j u hu => by rw [Nat.add_assoc]; exact hc _ u (h2 j u hu)⟩
    · exact h1 f hf'
theorem L.el {l : List Oper} (i : Nat) {α : Type} {ty : Ty α} {xs : List α} {b o' c0 : Nat} {k : Nat} {x0 : α} (hI : I[i]? = some (Im.sl ty (some ⟨b, o', none⟩) c0 xs)) (hk : xs[k]? = some x0) (h : ∀ hd, L G n K ops Q l m S (Im.cells b (o' + k * ty.sz) (ty.cs x0 hd) :: (ty.im x0 hd ++ I))) : L G n K ops Q l m S I := by
  intro A a w hf hs
  rcases (hs.st.im _ (List.mem_of_getElem? hI)).2 with rfl | ⟨b1, o1, cs, e, hA, hels, hc⟩
  · simp at hk
  · injection e with e
    injection e with e1 e2
    subst e1 e2
    obtain ⟨hd, h1, h2⟩ := hels.at_ k x0 hk
    refine h hd A a w hf (hs.know (J := Im.cells b (o' + k * ty.sz) (ty.cs x0 hd) :: ty.im x0 hd) fun f hf' => ?_)
    rcases List.mem_cons.1 hf' with rfl | hf'
    · exact ⟨hA, fun j u hu => by rw [Nat.add_assoc]; exact hc _ u (h2 j u hu)⟩
    · exact h1 f hf'
theorem E.el {e0 : Exit} (i : Nat) {α : Type} {ty : Ty α} {xs : List α} {b o' c0 : Nat} {k : Nat} {x0 : α} (hI : I[i]? = some (Im.sl ty (some ⟨b, o', none⟩) c0 xs)) (hk : xs[k]? = some x0) (h : ∀ hd, E n K Q e0 m S (Im.cells b (o' + k * ty.sz) (ty.cs x0 hd) :: (ty.im x0 hd ++ I))) : E n K Q e0 m S I := by
  intro A a w hf hs
  rcases (hs.st.im _ (List.mem_of_getElem? hI)).2 with rfl | ⟨b1, o1, cs, e, hA, hels, hc⟩
  · simp at hk
  · injection e with e
    injection e with e1 e2
    subst e1 e2
    obtain ⟨hd, h1, h2⟩ := hels.at_ k x0 hk
    refine h hd A a w hf (hs.know (J := Im.cells b (o' + k * ty.sz) (ty.cs x0 hd) :: ty.im x0 hd) fun f hf' => ?_)
    rcases List.mem_cons.1 hf' with rfl | hf'
    · exact ⟨hA, fun j u hu => by rw [Nat.add_assoc]; exact hc _ u (h2 j u hu)⟩
    · exact h1 f hf'
theorem T.frz {c : Code} (p : Nat) {α : Type} {ty : Ty α} {xs : List α} {a0 : Option Addr} {c0 T0 : Nat} {R : List Ch} (hS : ext S [p] = some ([Ch.arr ty T0 a0 c0 xs], R)) (h : Tw.T G n K Q c m R (Im.sl ty a0 c0 xs :: I)) : Tw.T G n K Q c m S I := fun A a w hf hs => h _ a w hf ((hs.perm (ext_perm hS) fun _ h => h).frz arr_frz)
theorem L.frz {l : List Oper} (p : Nat) {α : Type} {ty : Ty α} {xs : List α} {a0 : Option Addr} {c0 T0 : Nat} {R : List Ch} (hS : ext S [p] = some ([Ch.arr ty T0 a0 c0 xs], R)) (h : L G n K ops Q l m R (Im.sl ty a0 c0 xs :: I)) : L G n K ops Q l m S I := fun A a w hf hs => h _ a w hf ((hs.perm (ext_perm hS) fun _ h => h).frz arr_frz)
theorem E.frz {e0 : Exit} (p : Nat) {α : Type} {ty : Ty α} {xs : List α} {a0 : Option Addr} {c0 T0 : Nat} {R : List Ch} (hS : ext S [p] = some ([Ch.arr ty T0 a0 c0 xs], R)) (h : E n K Q e0 m R (Im.sl ty a0 c0 xs :: I)) : E n K Q e0 m S I := fun A a w hf hs => h _ a w hf ((hs.perm (ext_perm hS) fun _ h => h).frz arr_frz)
theorem T.nil0 {c : Code} {α : Type} (ty : Ty α) (T0 : Nat) (h : Tw.T G n K Q c m (Ch.arr ty T0 none 0 [] :: S) I) : Tw.T G n K Q c m S I := fun A a w hf hs => h A a w hf hs.nil0
theorem L.nil0 {l : List Oper} {α : Type} (ty : Ty α) (T0 : Nat) (h : L G n K ops Q l m (Ch.arr ty T0 none 0 [] :: S) I) : L G n K ops Q l m S I := fun A a w hf hs => h A a w hf hs.nil0
theorem E.nil0 {e0 : Exit} {α : Type} (ty : Ty α) (T0 : Nat) (h : E n K Q e0 m (Ch.arr ty T0 none 0 [] :: S) I) : E n K Q e0 m S I := fun A a w hf hs => h A a w hf hs.nil0
/-- fewer slots -/
def prn (m : Env) : List Nat → Option Env
  | [] => some []
  | d :: r => match look m d, prn m r with
    | some v, some r' => some ((d, v) :: r')
    | _, _ => none
theorem prn_ok {m : Env} : ∀ {ds : List Nat} {m' : Env}, prn m ds = some m' → sub_ m m'
  | [], m', h => by injection h with h; subst h; exact trivial
  | d :: r, m', h => by
    simp only [prn] at h
    split at h
    · rename_i v r' hv hr
      injection h with h
      subst h
      exact ⟨hv, prn_ok hr⟩
    · cases h
theorem T.pr {c : Code} {m' : Env} (ds : List Nat) (hm : prn m ds = some m') (h : Tw.T G n K Q c m' S I) : Tw.T G n K Q c m S I := fun A a w hf hs => h A a w (hf.sub (sub_look (prn_ok hm))) hs
theorem T.rega {id : Nat} {l : List Oper} (h0 : ops.toList = l) (h : L G n K ops Q l m S I) : Tw.T G n K Q (.region id ops false) m S I := by
  obtain rfl : ops = l.toArray := by rw [← h0]
  exact T.region h
/-- another name for a slice's length -/
theorem L.sl (d : Nat) {l : List Oper} {a0 : Option Addr} {k k' c : Nat} (hk : k' = k) (hd : look m d = some (.slice a0 k c)) (h : L G n K ops Q l ((d, .slice a0 k' c) :: m) S I) : L G n K ops Q l m S I := by
  subst hk
  exact fun A a w hf hs => h A a w (hf.sub fun i v hi => by
    simp only [look] at hi
    split at hi
    · rename_i hb
      rw [← Nat.eq_of_beq_eq_true hb, hd]
      exact hi
    · exact hi) hs
theorem E.sl (d : Nat) {e0 : Exit} {a0 : Option Addr} {k k' c : Nat} (hk : k' = k) (hd : look m d = some (.slice a0 k c)) (h : E n K Q e0 ((d, .slice a0 k' c) :: m) S I) : E n K Q e0 m S I := by
  subst hk
  exact fun A a w hf hs => h A a w (hf.sub fun i v hi => by
    simp only [look] at hi
    split at hi
    · rename_i hb
      rw [← Nat.eq_of_beq_eq_true hb, hd]
      exact hi
    · exact hi) hs
/-- the same of a variable's cells -/
theorem L.bx (i : Nat) {l : List Oper} {g T0 : Nat} {cs cs' : List Value} {R : List Ch} (he : cs' = cs) (hS : ext S [i] = some ([Ch.box g T0 cs], R)) (h : L G n K ops Q l m (Ch.box g T0 cs' :: R) I) : L G n K ops Q l m S I := by
  subst he
  exact fun A a w hf hs => h A a w hf (hs.perm (ext_perm hS) fun _ h => h)
theorem E.bx (i : Nat) {e0 : Exit} {g T0 : Nat} {cs cs' : List Value} {R : List Ch} (he : cs' = cs) (hS : ext S [i] = some ([Ch.box g T0 cs], R)) (h : E n K Q e0 m (Ch.box g T0 cs' :: R) I) : E n K Q e0 m S I := by
  subst he
  exact fun A a w hf hs => h A a w hf (hs.perm (ext_perm hS) fun _ h => h)
/-- what only makes the world greater -/
theorem SS.grew {A A' A'' : Blks} {w w' : World} {J : List Im} (h : SS K A S I w) (h2 : SS ⟨w, A', Own []⟩ A'' [] J w') : SS K A S I w' := by
  have hk : ∀ b, b < w.heap.size → w'.heap[b]? = w.heap[b]? := fun b hb => h2.fx.keep b hb (fun ⟨c, hc, _⟩ => by cases hc)
  have hA : ∀ b, A b → w'.heap[b]? = w.heap[b]? := fun b hb => hk b (h.st.lt b hb)
  refine ⟨⟨fun b hb => Nat.lt_of_lt_of_le (h.st.lt b hb) h2.fx.size, fun c hc => c.st (fun _ h => h) hA (fun b hb => hk b (h.st.own c hc b hb).1) (h.st.ch c hc), fun c hc b hb => ⟨Nat.lt_of_lt_of_le (h.st.own c hc b hb).1 h2.fx.size, (h.st.own c hc b hb).2⟩, h.st.dis, fun f hf => f.st (fun _ h => h) hA (h.st.im f hf)⟩,
    ⟨h2.fx.os.trans h.fx.os, h2.fx.tape.trans h.fx.tape, h2.fx.output.trans h.fx.output, Nat.le_trans h.fx.size h2.fx.size, fun b hb hO => (hk b (Nat.lt_of_lt_of_le hb h.fx.size)).trans (h.fx.keep b hb hO), h.fx.up, h.fx.dn, h.fx.own⟩⟩
/-- lent for a while -/
def Bw (S : List Ch) (I J : List Im) : Prop := ∀ A w, St A S I w → ∃ A' : Blks, (∀ b, A b → A' b) ∧ St A' [] J w
theorem Bw.nil : Bw S I [] := fun A w h => ⟨A, fun _ h => h, h.lt, (fun _ h => by cases h), (fun _ h => by cases h), List.Pairwise.nil, (fun _ h => by cases h)⟩
theorem Bw.im (i : Nat) {f : Im} {J : List Im} (hI : I[i]? = some f) (h : Bw S I J) : Bw S I (f :: J) := fun A w hs => by
  obtain ⟨A', h1, h2⟩ := h A w hs
  refine ⟨A', h1, h2.lt, (fun _ h => by cases h), (fun _ h => by cases h), List.Pairwise.nil, fun g hg => ?_⟩
  rcases List.mem_cons.1 hg with rfl | hg
  · exact g.st h1 (fun _ _ => rfl) (hs.im _ (List.mem_of_getElem? hI))
  · exact h2.im g hg
theorem Bw.ch (i : Nat) {α : Type} {ty : Ty α} {T0 c0 : Nat} {a0 : Option Addr} {xs : List α} {J : List Im} (hS : S[i]? = some (Ch.arr ty T0 a0 c0 xs)) (h : Bw S I J) : Bw S I (Im.sl ty a0 c0 xs :: J) := fun A w hs => by
  obtain ⟨A', h1, h2⟩ := h A w hs
  have hc := List.mem_of_getElem? hS
  have hk := arr_frz A w (hs.ch _ hc)
  refine ⟨fun b => A' b ∨ (Ch.arr ty T0 a0 c0 xs).blk = some b, fun b hb => .inl (h1 b hb), ?_, (fun _ h => by cases h), (fun _ h => by cases h), List.Pairwise.nil, fun g hg => ?_⟩
  · rintro b (hb | hb)
    · exact h2.lt b hb
    · exact (hs.own _ hc b hb).1
  · rcases List.mem_cons.1 hg with rfl | hg
    · exact Im.st _ (fun b hb => hb.imp (h1 b) id) (fun _ _ => rfl) hk
    · exact g.st (fun b hb => .inl hb) (fun _ _ => rfl) (h2.im g hg)
theorem L.br {l : List Oper} {d : Option Nat} {J : List Im} {σ : Type} {v : σ → Value} (hA : Ac G n m o [] J v (fun _ => []) (fun _ => [])) (hB : Bw S I J) (hw : wg ops.toList m o = some true) (hd : o.dst = d) (hn : dok d n = true) (h : ∀ x, L G n K ops Q l (putm d (v x) m) S I) : L G n K ops Q (o :: l) m S I := by
  intro A a w hf hs
  unfold wpList
  rw [if_pos (wg_ok hw hf)]
  left
  obtain ⟨A', h1, h2⟩ := hB A w hs.st
  refine hA A' a w _ Q hf h2 fun x w' A'' h3 => ?_
  rw [hd]
  exact h x A _ w' (hf.putd hn _) (hs.grew h3)
theorem Im.sl_nil {α : Type} {ty : Ty α} {c : Nat} : ∀ A w, (Im.sl ty none c []).ok A w := fun A w => ⟨Nat.zero_le _, .inl rfl⟩
theorem idx_lt {α : Type} {xs : List α} {i : Int} {x : α} (h : idx xs i = some x) : 0 < xs.length := by
  have := (List.getElem?_eq_some_iff.1 (idx_some h).2).1
  omega
end
end Go.Tw

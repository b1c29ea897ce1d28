import Derived.Test.YtbjchngfnpgnfaaGreatDoorFw1
import Derived.MapKept
import Derived.Deep.Slices
import Derived.OpenShut
import Derived.Carry
import Derived.ChangeVars
import Derived.WideShapes
import Derived.Below
set_option linter.unusedVariables false
set_option linter.unusedSimpArgs false
namespace Go.Tw
open Go
/-! ### drawn regions: operations that take nothing of the others may come up whenever they may -/
theorem filter_lt {α : Type} {p q : α → Bool} (hpq : ∀ x, q x = true → p x = true) : ∀ {l : List α} {x : α}, x ∈ l → p x = true → q x = false → (l.filter q).length < (l.filter p).length
  | [], _, h, _, _ => by cases h
  | y :: l, x, h, hp, hq => by
    have hle : ∀ l : List α, (l.filter q).length ≤ (l.filter p).length := by
      intro l
      induction l with
      | nil => exact Nat.le_refl _
      | cons z l ih =>
        rw [List.filter_cons, List.filter_cons]
        split
        · rename_i hz
          rw [if_pos (hpq z hz)]
          simpa using ih
        · split
          · simp only [List.length_cons]
            omega
          · exact ih
    rw [List.filter_cons, List.filter_cons]
    rcases List.mem_cons.1 h with rfl | h
    · rw [if_pos hp, if_neg (by rw [hq]; simp)]
      have := hle l
      simp only [List.length_cons]
      omega
    · have ih := filter_lt hpq h hp hq
      split
      · rename_i hz
        rw [if_pos (hpq y hz)]
        simpa using ih
      · split
        · simp only [List.length_cons]
          omega
        · exact ih
def unl (n : Nat) (L : List Nat) : Nat := ((List.range n).filter fun i => !mem i L).length
theorem unl_cons {n i : Nat} {L : List Nat} (h : i < n) (hi : mem i L = false) : unl n (i :: L) + 1 ≤ unl n L := by
  unfold unl
  refine filter_lt (p := fun j => !mem j L) (q := fun j => !mem j (i :: L)) ?_ (x := i) (by simpa using h) (by simp [hi]) (by simp [mem])
  intro x hx
  simp only [mem, Bool.not_eq_true', Bool.or_eq_false_iff] at hx ⊢
  exact hx.2
theorem unl_pos {n i : Nat} {L : List Nat} (h : i < n) (hi : mem i L = false) : 0 < unl n L := by
  have := unl_cons h hi
  omega
theorem mem_false {i : Nat} {l : List Nat} : mem i l = false ↔ ¬ i ∈ l := by
  constructor
  · intro h h2
    rw [mem_iff.2 h2] at h
    cases h
  · intro h
    cases hb : mem i l with
    | false => rfl
    | true => exact absurd (mem_iff.1 hb) h
structure FO where
  i : Nat
  d : Nat
  σ : Type
  v : σ → Value
  S : σ → List Ch
  J : σ → List Im
/-- what waits is named ahead -/
def fwd (ops : List Oper) : Nat → List Oper → Bool
  | _, [] => true
  | k, o :: r => o.after.toList.all (fun e => !bindsA e || Nat.blt e.on k) && fwd ops (k + 1) r
theorem fwd_spec {ops : List Oper} : ∀ {r : List Oper} {k : Nat}, fwd ops k r = true → ∀ j oj, r[j]? = some oj → ∀ e ∈ oj.after, bindsA e = true → e.on < k + j
  | [], _, _, j, oj, h => by simp at h
  | o :: r, k, h, j, oj, hj => by
    simp only [fwd, Bool.and_eq_true] at h
    cases j with
    | zero =>
      simp at hj
      subst hj
      intro e he hb
      have := List.all_eq_true.1 h.1 e (by simpa using he)
      rw [hb] at this
      have := blt_lt (by simpa using this)
      omega
    | succ j =>
      have := fwd_spec h.2 j oj (by simpa using hj)
      intro e he hb
      have := this e he hb
      omega
def fmem (i : Nat) : List FO → Bool
  | [] => false
  | f :: F => Nat.beq i f.i || fmem i F
theorem fmem_iff {i : Nat} : ∀ {F : List FO}, fmem i F = true ↔ ∃ f ∈ F, f.i = i
  | [] => by simp [fmem]
  | f :: F => by
    simp only [fmem, Bool.or_eq_true, fmem_iff (F := F), List.mem_cons]
    constructor
    · rintro (h | ⟨g, hg, h⟩)
      · exact ⟨f, .inl rfl, (Nat.eq_of_beq_eq_true h).symm⟩
      · exact ⟨g, .inr hg, h⟩
    · rintro ⟨g, rfl | hg, h⟩
      · left
        rw [h]
        exact Nat.beq_refl _
      · exact .inr ⟨g, hg, h⟩
/-- those that may be next, but for the free ones -/
def cands (F : List FO) (l : List Nat) : Nat → List Oper → List Nat
  | _, [] => []
  | i, o :: r => match !mem i l && !fmem i F && o.after.toList.all (fun e => !bindsA e || mem e.on l || fmem e.on F) with
    | true => i :: cands F l (i + 1) r
    | false => cands F l (i + 1) r
theorem cands_mem {F : List FO} {l : List Nat} : ∀ {r : List Oper} {k i : Nat}, (∃ j o, i = k + j ∧ r[j]? = some o ∧ (!mem i l && !fmem i F && o.after.toList.all (fun e => !bindsA e || mem e.on l || fmem e.on F)) = true) → i ∈ cands F l k r
  | [], k, i, ⟨j, o, _, h, _⟩ => by simp at h
  | o :: r, k, i, ⟨j, o', he, h1, h2⟩ => by
    simp only [cands]
    cases j with
    | zero =>
      simp at h1
      subst h1
      rw [Nat.add_zero] at he
      subst he
      rw [h2]
      exact List.mem_cons_self ..
    | succ j =>
      have ih := cands_mem (F := F) (l := l) (r := r) (k := k + 1) (i := i) ⟨j, o', by omega, by simpa using h1, h2⟩
      split
      · exact List.mem_cons_of_mem _ ih
      · exact ih
def fnd : List FO → Bool
  | [] => true
  | f :: F => !fmem f.i F && fnd F
theorem fnd_eq : ∀ {F : List FO}, fnd F = true → ∀ {f g : FO}, f ∈ F → g ∈ F → f.i = g.i → f = g
  | [], _, _, _, h, _, _ => by cases h
  | x :: F, h, f, g, hf, hg, he => by
    simp only [fnd, Bool.and_eq_true, Bool.not_eq_true'] at h
    rcases List.mem_cons.1 hf with e1 | hf1
    · rcases List.mem_cons.1 hg with e2 | hg1
      · rw [e1, e2]
      · have h3 : fmem x.i F = true := fmem_iff.2 ⟨g, hg1, by rw [← he, e1]⟩
        rw [h.1] at h3
        cases h3
    · rcases List.mem_cons.1 hg with e2 | hg1
      · have h3 : fmem x.i F = true := fmem_iff.2 ⟨f, hf1, by rw [he, e2]⟩
        rw [h.1] at h3
        cases h3
      · exact fnd_eq h.2 hf1 hg1 he
/-- the slots of the free ones are new, and apart -/
def fok (F : List FO) (m : Env) : Bool := fnd F && F.all fun f => (look m f.d).isNone && F.all fun g => Nat.beq f.i g.i || !Nat.beq f.d g.d
/-- j waits for i -/
def onb (ops : List Oper) (j i : Nat) : Bool := match ops[j]? with
  | some oj => oj.after.toList.any fun e => bindsA e && Nat.beq e.on i
  | none => false
/-- what the free ones that have come up gave -/
def Exd (a : Act) (A : Blks) (w : World) : List FO → List Nat → List Ch → Prop
  | [], _, R => R = []
  | f :: F, L, R => (¬ f.i ∈ L ∧ Exd a A w F L R) ∨ (f.i ∈ L ∧ ∃ x R', a.tmps.getD f.d undef = f.v x ∧ (∀ g ∈ f.J x, g.ok A w) ∧ R = f.S x ++ R' ∧ Exd a A w F L R')
theorem Exd.get {a : Act} {A : Blks} {w : World} {L : List Nat} : ∀ {F : List FO} {R : List Ch}, Exd a A w F L R → ∀ f ∈ F, f.i ∈ L → ∃ x, a.tmps.getD f.d undef = f.v x ∧ ∀ g ∈ f.J x, g.ok A w
  | [], _, _, f, hf, _ => by cases hf
  | h :: F, R, he, f, hf, hL => by
    rcases he with ⟨h1, h2⟩ | ⟨h1, x, R', h2, h3, h4, h5⟩
    · rcases List.mem_cons.1 hf with rfl | hf
      · exact absurd hL h1
      · exact Exd.get h2 f hf hL
    · rcases List.mem_cons.1 hf with rfl | hf
      · exact ⟨x, h2, h3⟩
      · exact Exd.get h5 f hf hL
theorem Exd.mono {a a' : Act} {A A' : Blks} {w w' : World} {L L' : List Nat} (hk : ∀ g : Im, g.ok A w → g.ok A' w') : ∀ {F : List FO} {R : List Ch}, (∀ f ∈ F, a'.tmps.getD f.d undef = a.tmps.getD f.d undef) → (∀ f ∈ F, f.i ∈ L' ↔ f.i ∈ L) → Exd a A w F L R → Exd a' A' w' F L' R
  | [], _, _, _, he => he
  | h :: F, R, hs, hL, he => by
    rcases he with ⟨h1, h2⟩ | ⟨h1, x, R', h2, h3, h4, h5⟩
    · exact .inl ⟨fun hh => h1 ((hL h (List.mem_cons_self ..)).1 hh), h2.mono hk (fun f hf => hs f (List.mem_cons_of_mem _ hf)) fun f hf => hL f (List.mem_cons_of_mem _ hf)⟩
    · exact .inr ⟨(hL h (List.mem_cons_self ..)).2 h1, x, R', (hs h (List.mem_cons_self ..)).trans h2, fun g hg => hk g (h3 g hg), h4, h5.mono hk (fun f hf => hs f (List.mem_cons_of_mem _ hf)) fun f hf => hL f (List.mem_cons_of_mem _ hf)⟩
theorem Exd.exec {a a' : Act} {A A' : Blks} {w w' : World} {L : List Nat} {f : FO} {x : f.σ} (hk : ∀ g : Im, g.ok A w → g.ok A' w') (hL : ¬ f.i ∈ L) (hv : a'.tmps.getD f.d undef = f.v x) (hJ : ∀ g ∈ f.J x, g.ok A' w') : ∀ {F : List FO} {R : List Ch}, fnd F = true → (∀ g ∈ F, g.i ≠ f.i → a'.tmps.getD g.d undef = a.tmps.getD g.d undef) → f ∈ F → Exd a A w F L R → ∃ R', Exd a' A' w' F (f.i :: L) R' ∧ R'.Perm (f.S x ++ R)
  | [], _, _, _, hf, _ => by cases hf
  | h :: F, R, hn, hs, hf, he => by
    have hn' := hn
    simp only [fnd, Bool.and_eq_true, Bool.not_eq_true'] at hn'
    have hnot : ∀ g ∈ F, g.i ≠ h.i := fun g hg e => by
      have := fmem_iff.2 ⟨g, hg, e⟩
      rw [hn'.1] at this
      cases this
    by_cases hhf : h.i = f.i
    · obtain rfl := fnd_eq hn (List.mem_cons_self ..) hf hhf
      rcases he with ⟨h1, h2⟩ | ⟨h1, _⟩
      · refine ⟨h.S x ++ R, .inr ⟨List.mem_cons_self .., x, R, hv, hJ, rfl, ?_⟩, List.Perm.refl _⟩
        refine h2.mono hk (fun g hg => hs g (List.mem_cons_of_mem _ hg) (hnot g hg)) fun g hg => ?_
        rw [List.mem_cons]
        exact ⟨fun hh => hh.resolve_left (hnot g hg), .inr⟩
      · exact absurd h1 hL
    · have hfF : f ∈ F := (List.mem_cons.1 hf).resolve_left fun e => hhf (by rw [e])
      have hs' : ∀ g ∈ F, g.i ≠ f.i → a'.tmps.getD g.d undef = a.tmps.getD g.d undef := fun g hg => hs g (List.mem_cons_of_mem _ hg)
      rcases he with ⟨h1, h2⟩ | ⟨h1, y, R1, h2, h3, h4, h5⟩
      · obtain ⟨R', h6, h7⟩ := Exd.exec hk hL hv hJ hn'.2 hs' hfF h2
        exact ⟨R', .inl ⟨fun hh => h1 ((List.mem_cons.1 hh).resolve_left hhf), h6⟩, h7⟩
      · obtain ⟨R', h6, h7⟩ := Exd.exec hk hL hv hJ hn'.2 hs' hfF h5
        refine ⟨h.S y ++ R', .inr ⟨List.mem_cons_of_mem _ h1, y, R', (hs h (List.mem_cons_self ..) hhf).trans h2, fun g hg => hk g (h3 g hg), rfl, h6⟩, ?_⟩
        rw [h4]
        refine (h7.append_left (h.S y)).trans ?_
        rw [← List.append_assoc, ← List.append_assoc]
        exact List.perm_append_comm.append_right R1
theorem Exd.peel {a : Act} {A : Blks} {w : World} {L : List Nat} {f : FO} (hL : f.i ∈ L) : ∀ {F : List FO} {R : List Ch} {k : Nat}, F[k]? = some f → Exd a A w F L R → ∃ x R', a.tmps.getD f.d undef = f.v x ∧ (∀ g ∈ f.J x, g.ok A w) ∧ R.Perm (f.S x ++ R') ∧ Exd a A w (F.eraseIdx k) L R'
  | [], _, k, hk, _ => by simp at hk
  | h :: F, R, 0, hk, he => by
    simp at hk
    subst hk
    rcases he with ⟨h1, _⟩ | ⟨_, x, R', h2, h3, h4, h5⟩
    · exact absurd hL h1
    · exact ⟨x, R', h2, h3, by rw [h4], by simpa using h5⟩
  | h :: F, R, k + 1, hk, he => by
    have hk' : F[k]? = some f := by simpa using hk
    rcases he with ⟨h1, h2⟩ | ⟨h1, y, R1, h2, h3, h4, h5⟩
    · obtain ⟨x, R', q1, q2, q3, q4⟩ := Exd.peel hL hk' h2
      exact ⟨x, R', q1, q2, q3, by rw [List.eraseIdx_cons_succ]; exact .inl ⟨h1, q4⟩⟩
    · obtain ⟨x, R', q1, q2, q3, q4⟩ := Exd.peel hL hk' h5
      refine ⟨x, h.S y ++ R', q1, q2, ?_, by rw [List.eraseIdx_cons_succ]; exact .inr ⟨h1, y, R', h2, h3, rfl, q4⟩⟩
      rw [h4]
      refine (q3.append_left (h.S y)).trans ?_
      rw [← List.append_assoc, ← List.append_assoc]
      exact List.perm_append_comm.append_right R'
theorem perm_in {C V R X R' : List Ch} (h : R'.Perm (X ++ R)) : (C ++ (V ++ R')).Perm (X ++ (C ++ (V ++ R))) := by
  have h1 : (C ++ (V ++ R')).Perm (C ++ (V ++ (X ++ R))) := (h.append_left V).append_left C
  refine h1.trans ?_
  have h2 : (C ++ (V ++ (X ++ R))).Perm ((X ++ (C ++ V)) ++ R) := by
    have : C ++ (V ++ (X ++ R)) = ((C ++ V) ++ X) ++ R := by simp
    rw [this]
    exact List.perm_append_comm.append_right R
  refine h2.trans ?_
  simp
section
variable {G : Pg} {n : Nd} {K : Key} {Q : Exit → Act → World → Prop} {m : Env} {C V : List Ch} {I : List Im} {ops : List Oper} {late l : List Nat} {o : Oper} {F : List FO}
theorem Fr.addm {a : Act} {d : Nat} {v : Value} (h : Fr n m a) (hv : a.tmps.getD d undef = v) : Fr n ((d, v) :: m) a := by
  refine ⟨h.size, h.defers, fun i u hu => ?_⟩
  simp only [look] at hu
  cases hb : Nat.beq d i with
  | true =>
    rw [hb] at hu
    rw [← Nat.eq_of_beq_eq_true hb, hv]
    exact Option.some.inj hu
  | false =>
    rw [hb] at hu
    exact h.at_ i u hu
def FSp (G : Pg) (n : Nd) (Q : Exit → Act → World → Prop) (ops : List Oper) (C : List Ch) (m : Env) (I : List Im) (F : List FO) (f : FO) : Prop :=
  ∀ K A a w V (Kc : Act → World → Prop), Fr n m a → SS K A (C ++ V) I w → (∀ g ∈ F, onb ops f.i g.i = true → ∃ x, a.tmps.getD g.d undef = g.v x ∧ ∀ q ∈ g.J x, q.ok A w) → (∀ x w' A', SS K A' (f.S x ++ (C ++ V)) I w' → (∀ g ∈ f.J x, g.ok A' w') → (∀ g : Im, g.ok A w → g.ok A' w') → Kc (a.put (some f.d) (f.v x)) w') → f.d < n.n ∧ f.i < ops.length ∧ wpOp G.P ops.toArray (NP Q) f.i Kc a w
theorem FSp.mono {f : FO} {m' : Env} {I' : List Im} {F' : List FO} (h : FSp G n Q ops C m I F f) (hm : ∀ i v, look m i = some v → look m' i = some v) (hI : ∀ g ∈ I, g ∈ I') (hF : ∀ A a w, Fr n m' a → (∀ g ∈ I', g.ok A w) → (∀ g ∈ F', onb ops f.i g.i = true → ∃ x, a.tmps.getD g.d undef = g.v x ∧ ∀ q ∈ g.J x, q.ok A w) → ∀ g ∈ F, onb ops f.i g.i = true → ∃ x, a.tmps.getD g.d undef = g.v x ∧ ∀ q ∈ g.J x, q.ok A w) : FSp G n Q ops C m' I' F' f := by
  intro K A a w V Kc hf hs hd hk
  refine h K A a w V Kc (hf.sub hm) (hs.perm (List.Perm.refl _) hI) (hF A a w hf hs.st.im hd) fun x w' A' h1 h2 h3 => hk x w' A' ?_ h2 h3
  exact (h1.know (J := I') fun g hg => h3 g (hs.st.im g hg)).perm (List.Perm.refl _) fun g hg => List.mem_append_left _ hg
theorem im_keep {A A' : Blks} {S R S' : List Ch} {I I' : List Im} {w w' : World} (h : SS K A (S ++ R) I w) (h2 : SS ⟨w, A, Own S⟩ A' S' I' w') (g : Im) (hg : g.ok A w) : g.ok A' w' := by
  have h3 := (SS.know h (J := [g]) fun f hf => by rw [List.mem_singleton.1 hf]; exact hg).frame h2
  exact h3.st.im g (by simp)
theorem FSp.ac (i : Nat) {d : Nat} {J : List Im} {σ : Type} {v : σ → Value} {S' : σ → List Ch} {I' : σ → List Im} (js : List Nat) (hA : Ac G n m o [] J v S' I') (hi : ops[i]? = some o) (hw : wg ops m o = some true) (hd : o.dst = some d) (hn : Nat.blt d n.n = true) (hJ : pick I js = some J) : FSp G n Q ops C m I F ⟨i, d, σ, v, S', I'⟩ := by
  intro K A a w V Kc hf hs _ hk
  refine ⟨blt_lt hn, (List.getElem?_eq_some_iff.1 hi).1, ?_⟩
  have hi' : ops.toArray[i]? = some o := by simpa using hi
  unfold wpOp
  simp only [hi']
  rw [if_pos (wg_ok hw hf)]
  left
  have hs0 : SS K A ([] ++ (C ++ V)) I w := hs
  refine (hA A a w _ (NP Q) hf (St.left (S := []) hs0.st (pick_mem hJ)) fun x w' A' h2 => ?_).1
  have h3 := hs0.frame h2
  rw [hd]
  exact hk x w' A' (h3.perm (List.Perm.refl _) fun g hg => List.mem_append_right _ hg) (fun g hg => h3.st.im g (List.mem_append_left _ hg)) (im_keep hs0 h2)
theorem FSp.y (i : Nat) {d : Nat} {v : Value} (hy : Yl G n m C I o v) (hi : ops[i]? = some o) (hw : wg ops m o = some true) (hd : o.dst = some d) (hn : Nat.blt d n.n = true) : FSp G n Q ops C m I F ⟨i, d, Unit, fun _ => v, fun _ => [], fun _ => []⟩ := by
  intro K A a w V Kc hf hs _ hk
  refine ⟨blt_lt hn, (List.getElem?_eq_some_iff.1 hi).1, ?_⟩
  have hi' : ops.toArray[i]? = some o := by simpa using hi
  unfold wpOp
  simp only [hi']
  rw [if_pos (wg_ok hw hf)]
  left
  have hr := hy A a w hf (fun c hc => hs.st.ch c (List.mem_append_left _ hc)) hs.st.im
  have h4 : Kc (a.put (some d) v) w := hk () w A hs (fun g hg => by cases hg) (fun _ h => h)
  rw [← hd] at h4
  unfold Oper.wp
  rw [hr]
  exact h4
theorem FSp.q (i : Nat) {d : Nat} {v : Value} (hi : ops[i]? = some o) (hw : wg ops m o = some true) (hd : o.dst = some d) (hn : Nat.blt d n.n = true) (hq : qx G.τ m o.op = some v) : FSp G n Q ops C m I F ⟨i, d, Unit, fun _ => v, fun _ => [], fun _ => []⟩ :=
  FSp.y i (fun A a w hf _ _ => qx_ok G.ok hf hq w) hi hw hd hn
/-- it waits for another free one -/
theorem FSp.dep {f g : FO} (k : Nat) (hk : F[k]? = some g) (hon : onb ops f.i g.i = true) (h : ∀ x, FSp G n Q ops C ((g.d, g.v x) :: m) (g.J x ++ I) F f) : FSp G n Q ops C m I F f := by
  intro K A a w V Kc hf hs hd hk'
  obtain ⟨x, h1, h2⟩ := hd g (List.mem_of_getElem? hk) hon
  refine h x K A a w V Kc (Fr.addm hf h1) (hs.know h2) hd fun y w' A' h3 h4 h5 => hk' y w' A' (h3.perm (List.Perm.refl _) fun q hq => List.mem_append_right _ hq) h4 h5
/-- the state: 'l' has come up, of 'F' perhaps some have -/
def DF (G : Pg) (n : Nd) (K : Key) (Q : Exit → Act → World → Prop) (ops : List Oper) (late : List Nat) (F : List FO) (l : List Nat) (C : List Ch) (m : Env) (V : List Ch) (I : List Im) : Prop :=
  (∀ f ∈ F, FSp G n Q ops C m I F f) → ∀ A a w fuel L, (∀ i ∈ l, i ∈ L) → (∀ i ∈ L, i ∈ l ∨ ∃ f ∈ F, f.i = i) → unl ops.length L ≤ fuel → Fr n m a → ∀ R, SS K A (C ++ (V ++ R)) I w →
    Exd a A w F L R → wpG G.P ops.toArray (NP Q) late fuel (WS C I) (lst ops.length L) a w
/-- j comes up -/
def DFp (G : Pg) (n : Nd) (K : Key) (Q : Exit → Act → World → Prop) (ops : List Oper) (late : List Nat) (j : Nat) (F : List FO) (l : List Nat) (C : List Ch) (m : Env) (V : List Ch) (I : List Im) : Prop :=
  (∀ f ∈ F, FSp G n Q ops C m I F f) → ∀ A a w fuel L, (∀ i ∈ l, i ∈ L) → (∀ i ∈ L, i ∈ l ∨ ∃ f ∈ F, f.i = i) → unl ops.length L ≤ fuel + 1 → mem j L = false → (∀ oj, ops[j]? = some oj → ∀ e ∈ oj.after, bindsA e = true → e.on ∈ L) → Fr n m a → ∀ R, SS K A (C ++ (V ++ R)) I w →
    Exd a A w F L R →
    wpOp G.P ops.toArray (NP Q) j (fun a' w' => ∃ S' : World → Prop, (j ∈ late ∨ ∀ w, S' w → WS C I w) ∧ S' w' ∧ wpG G.P ops.toArray (NP Q) late fuel S' ((lst ops.length L).setIfInBounds j true) a' w') a w
/-- all has come up -/
def DFe (G : Pg) (n : Nd) (K : Key) (Q : Exit → Act → World → Prop) (F : List FO) (C : List Ch) (m : Env) (V : List Ch) (I : List Im) : Prop :=
  ∀ A a w L, (∀ f ∈ F, f.i ∈ L) → Fr n m a → ∀ R, SS K A (C ++ (V ++ R)) I w → Exd a A w F L R → NP Q .normal a w
theorem DF.of (hl : Nat.ble (unl ops.length l + l.length) ops.length = true) (h : DF G n K Q ops late [] l C m V I) : D G n K Q ops late l C m V I := by
  intro A a w fuel hfu hf hs
  have := Nat.le_of_ble_eq_true hl
  exact h (fun f hf => by cases hf) A a w fuel l (fun i hi => hi) (fun i hi => .inl hi) (by omega) hf [] (by rw [List.append_nil]; exact hs) rfl
theorem DF.add (f : FO) (hsp : FSp G n Q ops C m I F f) (hc : (!mem f.i l && !fmem f.i F) = true) (h : DF G n K Q ops late (f :: F) l C m V I) : DF G n K Q ops late F l C m V I := by
  simp only [Bool.and_eq_true, Bool.not_eq_true'] at hc
  intro hF A a w fuel L h1 h2 hfu hf R hs hx
  have hnot : ¬ f.i ∈ L := fun hi => by
    rcases h2 _ hi with h3 | ⟨g, hg, h3⟩
    · exact mem_false.1 hc.1 h3
    · have := fmem_iff.2 ⟨g, hg, h3⟩
      rw [hc.2] at this
      cases this
  refine h (fun g hg => ?_) A a w fuel L h1 (fun i hi => (h2 i hi).imp id fun ⟨g, hg, e⟩ => ⟨g, List.mem_cons_of_mem _ hg, e⟩) hfu hf R hs (.inl ⟨hnot, hx⟩)
  · have hup : ∀ A a w, Fr n m a → (∀ g ∈ I, g.ok A w) → (∀ q ∈ f :: F, onb ops g.i q.i = true → ∃ x, a.tmps.getD q.d undef = q.v x ∧ ∀ p ∈ q.J x, p.ok A w) → ∀ q ∈ F, onb ops g.i q.i = true → ∃ x, a.tmps.getD q.d undef = q.v x ∧ ∀ p ∈ q.J x, p.ok A w := fun A a w _ _ hh q hq => hh q (List.mem_cons_of_mem _ hq)
    rcases List.mem_cons.1 hg with rfl | hg
    · exact hsp.mono (fun _ _ h => h) (fun _ h => h) hup
    · exact (hF g hg).mono (fun _ _ h => h) (fun _ h => h) hup
theorem getD_put {a : Act} {d e : Nat} {v : Value} (h : d ≠ e) : (a.put (some d) v).tmps.getD e undef = a.tmps.getD e undef := by
  show (a.tmps.setIfInBounds d v).getD e undef = _
  simp only [Array.getD_eq_getD_getElem?, Array.getElem?_setIfInBounds, if_neg h]
theorem getD_self {a : Act} {d : Nat} {v : Value} (h : d < a.tmps.size) : (a.put (some d) v).tmps.getD d undef = v := by
  show (a.tmps.setIfInBounds d v).getD d undef = _
  simp [Array.getD, h]
/-- what is ready is free, or the next one -/
theorem DF.core (hc : closed ops = true) (hfw : fwd ops 0 ops = true) (hfo : fok F m = true) {js : List Nat} (hcs : cands F l 0 ops = js) (h : ∀ j ∈ js, DFp G n K Q ops late j F l C m V I)
    (he : ∀ A a w (L : List Nat), (∀ i, i < ops.length → i ∈ L) → (∀ i ∈ L, i ∈ l ∨ ∃ f ∈ F, f.i = i) → Fr n m a → ∀ R, SS K A (C ++ (V ++ R)) I w → Exd a A w F L R → NP Q .normal a w) : DF G n K Q ops late F l C m V I := by
  intro hF A a w fuel
  induction fuel generalizing A a w with
  | zero =>
    intro L h1 h2 hfu hf R hs hx
    have hall : ∀ i, i < ops.length → i ∈ L := fun i hi => by
      cases hb : mem i L with
      | true => exact mem_iff.1 hb
      | false => have := unl_pos hi hb; omega
    refine ⟨List.eq_nil_iff_forall_not_mem.2 fun i hi => ?_, he A a w L hall h2 hf R hs hx⟩
    rw [ready_mem hc, rdys_mem] at hi
    obtain ⟨j, o, e, h3, h4⟩ := hi
    have hj : i < ops.length := by have := (List.getElem?_eq_some_iff.1 h3).1; omega
    rw [mem_iff.2 (hall i hj)] at h4
    simp at h4
  | succ fuel ih =>
    intro L h1 h2 hfu hf R hs hx
    refine ⟨fun hr => ?_, fun i hi => ?_⟩
    · have hall : ∀ i, i < ops.length → i ∈ L := by
        intro i
        induction i using Nat.strongRecOn with
        | _ i ihi =>
          intro hi
          cases hb : mem i L with
          | true => exact mem_iff.1 hb
          | false =>
            exfalso
            have hin : i ∈ Region.ready .any ops.toArray (lst ops.length L) := by
              rw [ready_mem hc, rdys_mem]
              refine ⟨i, ops[i], by omega, List.getElem?_eq_getElem hi, ?_⟩
              rw [hb]
              simp only [Bool.not_false, Bool.true_and, rdy1, List.all_eq_true, Bool.or_eq_true, Bool.not_eq_true']
              intro e hee
              cases hbe : bindsA e with
              | false => exact .inl rfl
              | true =>
                right
                have hlt := fwd_spec hfw i ops[i] (List.getElem?_eq_getElem hi) e (by simpa using hee) hbe
                exact mem_iff.2 (ihi e.on (by omega) (by omega))
            rw [hr] at hin
            cases hin
      exact he A a w L hall h2 hf R hs hx
    · rw [ready_mem hc, rdys_mem] at hi
      obtain ⟨j, o, e0, h3, h4⟩ := hi
      obtain rfl : i = j := by omega
      have hilt : i < ops.length := (List.getElem?_eq_some_iff.1 h3).1
      simp only [Bool.and_eq_true, Bool.not_eq_true'] at h4
      cases hb : fmem i F with
      | true =>
        obtain ⟨f, hfF, rfl⟩ := fmem_iff.1 hb
        have hdeps : ∀ g ∈ F, onb ops f.i g.i = true → ∃ x, a.tmps.getD g.d undef = g.v x ∧ ∀ q ∈ g.J x, q.ok A w := fun g hgF hon => by
          refine hx.get g hgF ?_
          unfold onb at hon
          rw [h3] at hon
          obtain ⟨e, hee, hbb⟩ := List.any_eq_true.1 hon
          simp only [Bool.and_eq_true] at hbb
          have h5 := List.all_eq_true.1 h4.2 e hee
          rw [hbb.1] at h5
          rw [← Nat.eq_of_beq_eq_true hbb.2]
          exact mem_iff.1 (by simpa using h5)
        refine (hF f hfF K A a w (V ++ R) _ hf hs hdeps fun x w' A' hs' hg hk => ?_).2.2
        have hdn : f.d < n.n := (hF f hfF K A a w (V ++ R) (fun _ _ => True) hf hs hdeps fun _ _ _ _ _ _ => trivial).1
        have hfo' := hfo
        simp only [fok, Bool.and_eq_true] at hfo'
        have hok := List.all_eq_true.1 hfo'.2 f hfF
        simp only [Bool.and_eq_true, Option.isNone_iff_eq_none] at hok
        obtain ⟨R', hx', hp⟩ := hx.exec (a' := a.put (some f.d) (f.v x)) hk (mem_false.1 h4.1) (getD_self (by rw [hf.size]; exact hdn)) hg hfo'.1 (fun g hgF hgi => by
          have h5 := List.all_eq_true.1 hok.2 g hgF
          simp only [Bool.or_eq_true, Bool.not_eq_true'] at h5
          exact getD_put (Nat.ne_of_beq_eq_false (h5.resolve_left fun hh => hgi (Nat.eq_of_beq_eq_true hh).symm))) hfF
        have hs2 := hs'.perm (perm_in (C := C) (V := V) hp) (fun _ h => h)
        refine ⟨WS C I, .inr fun _ h => h, hs2.ws, ?_⟩
        rw [lst_set]
        have hput : Fr n m (a.put (some f.d) (f.v x)) := by
          refine (hf.put (f.v x) hdn).sub fun i u hu => ?_
          simp only [look]
          cases hbb : Nat.beq f.d i with
          | true => rw [← Nat.eq_of_beq_eq_true hbb, hok.1] at hu; cases hu
          | false => exact hu
        refine ih A' _ w' (f.i :: L) (fun i hi => List.mem_cons_of_mem _ (h1 i hi)) (fun i hi => ?_) ?_ hput R' hs2 hx'
        · rcases List.mem_cons.1 hi with rfl | hi
          · exact .inr ⟨f, hfF, rfl⟩
          · exact h2 i hi
        · have := unl_cons hilt h4.1
          omega
      | false =>
        have hcand : i ∈ js := by
          rw [← hcs]
          refine cands_mem ⟨i, o, by omega, h3, ?_⟩
          have hml : mem i l = false := mem_false.2 fun hh => mem_false.1 h4.1 (h1 i hh)
          rw [hml, hb]
          simp only [Bool.not_false, Bool.true_and, List.all_eq_true, Bool.or_eq_true, Bool.not_eq_true']
          intro e hee
          cases hbe : bindsA e with
          | false => exact .inl (.inl rfl)
          | true =>
            have h5 := List.all_eq_true.1 h4.2 e hee
            rw [hbe] at h5
            have h6 := mem_iff.1 (by simpa using h5 : mem e.on L = true)
            rcases h2 _ h6 with h7 | h7
            · exact .inl (.inr (mem_iff.2 h7))
            · exact .inr (fmem_iff.2 h7)
        refine h i hcand hF A a w fuel L h1 h2 hfu h4.1 (fun oj hoj e hee hbe => ?_) hf R hs hx
        rw [h3] at hoj
        cases hoj
        have h5 := List.all_eq_true.1 h4.2 e (by simpa using hee)
        rw [hbe] at h5
        exact mem_iff.1 (by simpa using h5)
theorem DF.step (j : Nat) (hc : closed ops = true) (hfw : fwd ops 0 ops = true) (hfo : fok F m = true) (hcs : cands F l 0 ops = [j]) (hj : (!mem j l && !fmem j F && Nat.blt j ops.length) = true) (h : DFp G n K Q ops late j F l C m V I) : DF G n K Q ops late F l C m V I := by
  simp only [Bool.and_eq_true, Bool.not_eq_true'] at hj
  refine DF.core hc hfw hfo hcs (fun k hk => by rw [List.mem_singleton.1 hk]; exact h) (fun A a w L hall h2 hf R hs hx => ?_)
  exfalso
  rcases h2 j (hall j (blt_lt hj.2)) with h3 | h3
  · exact mem_false.1 hj.1.1 h3
  · have := fmem_iff.2 h3
    rw [hj.1.2] at this
    cases this
/-- all but free ones has come up -/
theorem DF.fin (hc : closed ops = true) (hfw : fwd ops 0 ops = true) (hfo : fok F m = true) (hcs : cands F l 0 ops = []) (hlt : (F.all fun f => Nat.blt f.i ops.length) = true) (h : DFe G n K Q F C m V I) : DF G n K Q ops late F l C m V I :=
  DF.core hc hfw hfo hcs (fun k hk => by cases hk) fun A a w L hall h1 hf R hs hx => h A a w L (fun f hfF => hall _ (blt_lt (List.all_eq_true.1 hlt f hfF))) hf R hs hx
theorem DFe.nil (h : E n K Q .normal m (C ++ V) I) : DFe G n K Q [] C m V I := fun A a w L _ hf R hs hx => by
  obtain rfl : R = [] := hx
  rw [List.append_nil] at hs
  exact h A a w hf hs
theorem perm_out {C V R X R' : List Ch} (h : R.Perm (X ++ R')) : (C ++ ((X ++ V) ++ R')).Perm (C ++ (V ++ R)) := by
  refine List.Perm.append_left C ?_
  refine List.Perm.trans ?_ (h.symm.append_left V)
  rw [← List.append_assoc]
  exact List.perm_append_comm.append_right R'
theorem DFe.use {f : FO} (h : ∀ x, DFe G n K Q F C ((f.d, f.v x) :: m) (f.S x ++ V) (f.J x ++ I)) : DFe G n K Q (f :: F) C m V I := by
  intro A a w L hL hf R hs hx
  obtain ⟨x, R', h1, h2, h3, h4⟩ := hx.peel (k := 0) (hL f (List.mem_cons_self ..)) rfl
  exact h x A a w L (fun g hg => hL g (List.mem_cons_of_mem _ hg)) (hf.addm h1) R' ((hs.perm (perm_out h3) fun _ h => h).know h2) (by simpa using h4)
theorem look_more {d : Nat} {v : Value} (h : look m d = none) : ∀ i u, look m i = some u → look ((d, v) :: m) i = some u := by
  intro i u hu
  simp only [look]
  cases hb : Nat.beq d i with
  | true => rw [← Nat.eq_of_beq_eq_true hb, h] at hu; cases hu
  | false => exact hu
theorem DFp.use {j : Nat} (k : Nat) {f : FO} (hk : F[k]? = some f) (hon : onb ops j f.i = true) (hnew : (look m f.d).isNone = true) (h : ∀ x, DFp G n K Q ops late j (F.eraseIdx k) (f.i :: l) C ((f.d, f.v x) :: m) (f.S x ++ V) (f.J x ++ I)) : DFp G n K Q ops late j F l C m V I := by
  intro hF A a w fuel L h1 h2 hfu hjL hdep hf R hs hx
  have hfF : f ∈ F := List.mem_of_getElem? hk
  have hfL : f.i ∈ L := by
    unfold onb at hon
    split at hon
    · rename_i oj hoj
      obtain ⟨e, he, hb⟩ := List.any_eq_true.1 hon
      simp only [Bool.and_eq_true] at hb
      have := hdep oj hoj e (by simpa using he) hb.1
      rwa [Nat.eq_of_beq_eq_true hb.2] at this
    · cases hon
  obtain ⟨x, R', hx1, hx2, hp, hx3⟩ := hx.peel hfL hk
  have hnew' : look m f.d = none := by simpa using hnew
  have hsub : ∀ g ∈ F.eraseIdx k, g ∈ F := fun g hg => List.mem_of_mem_eraseIdx hg
  have hsplit : ∀ g ∈ F, g = f ∨ g ∈ F.eraseIdx k := fun g hg => by
    obtain ⟨q, hq⟩ := List.getElem?_of_mem hg
    by_cases hqk : q = k
    · left
      subst hqk
      rw [hk] at hq
      cases hq
      rfl
    · exact .inr (List.mem_eraseIdx_iff_getElem?.2 ⟨q, hqk, hq⟩)
  have hF' : ∀ g ∈ F.eraseIdx k, FSp G n Q ops C ((f.d, f.v x) :: m) (f.J x ++ I) (F.eraseIdx k) g := fun g hg => (hF g (hsub g hg)).mono (look_more hnew') (fun q hq => List.mem_append_right _ hq) fun A a w hf hI hh q hq hon => by
    rcases hsplit q hq with rfl | hq'
    · exact ⟨x, hf.at_ _ _ (by simp [look]), fun p hp => hI p (List.mem_append_left _ hp)⟩
    · exact hh q hq' hon
  have h3 := h x hF' A a w fuel L (fun i hi => ?_) (fun i hi => ?_) hfu hjL hdep (hf.addm hx1) R' ((hs.perm (perm_out hp) fun _ h => h).know hx2) hx3
  · refine wpOp_mono (fun a' w' hh => ?_) h3
    obtain ⟨S', hS, h4⟩ := hh
    exact ⟨S', hS.imp id fun hw w0 hw0 => by obtain ⟨A0, q1, q2⟩ := hw w0 hw0; exact ⟨A0, q1, fun q hq => q2 q (List.mem_append_right _ hq)⟩, h4⟩
  · rcases List.mem_cons.1 hi with rfl | hi
    · exact hfL
    · exact h1 i hi
  · rcases h2 i hi with h4 | ⟨g, hg, h4⟩
    · exact .inl (List.mem_cons_of_mem _ h4)
    · rcases hsplit g hg with rfl | hg'
      · left
        rw [← h4]
        exact List.mem_cons_self ..
      · exact .inr ⟨g, hg', h4⟩
def newd (F : List FO) (m : Env) : Option Nat → Bool
  | some d => (look m d).isNone && F.all fun f => !Nat.beq f.d d
  | none => true
theorem newd_more {d : Option Nat} (h : newd F m d = true) (v : Value) : ∀ i u, look m i = some u → look (putm d v m) i = some u := by
  cases d with
  | none => exact fun _ _ h => h
  | some d =>
    simp only [newd, Bool.and_eq_true] at h
    exact look_more (by simpa using h.1)
theorem newd_put {d : Option Nat} (h : newd F m d = true) {a : Act} {v : Value} : ∀ f ∈ F, (a.put d v).tmps.getD f.d undef = a.tmps.getD f.d undef := by
  intro f hf
  cases d with
  | none => rfl
  | some d =>
    simp only [newd, Bool.and_eq_true] at h
    have := List.all_eq_true.1 h.2 f hf
    simp only [Bool.not_eq_true'] at this
    exact getD_put fun e => Nat.ne_of_beq_eq_false this e.symm
theorem listed_more {j : Nat} (hjF : fmem j F = false) {L : List Nat} : ∀ f ∈ F, f.i ∈ j :: L ↔ f.i ∈ L := by
  intro f hf
  rw [List.mem_cons]
  refine ⟨fun hh => hh.resolve_left fun e => ?_, .inr⟩
  have := fmem_iff.2 ⟨f, hf, e⟩
  rw [hjF] at this
  cases this
theorem perm_swap {α : Type} (X Y Z : List α) : (X ++ (Y ++ Z)).Perm (Y ++ (X ++ Z)) := by
  rw [← List.append_assoc, ← List.append_assoc]
  exact (List.perm_append_comm (l₁ := X) (l₂ := Y)).append_right Z
theorem DFp.a {j : Nat} (is js : List Nat) {d : Option Nat} {Sp R : List Ch} {J : List Im} {σ : Type} {v : σ → Value} {S' : σ → List Ch} {I' : σ → List Im} (hA : Ac G n m o Sp J v S' I') (hi : ops[j]? = some o) (hw : wg ops m o = some true) (hd : o.dst = d) (hn : dok d n.n = true) (hS : ext V is = some (Sp, R)) (hJ : pick I js = some J) (hjF : fmem j F = false) (hnew : newd F m d = true)
    (h : ∀ x, DF G n K Q ops late F (j :: l) C (putm d (v x) m) (S' x ++ R) (I' x ++ I)) : DFp G n K Q ops late j F l C m V I := by
  intro hF A a w fuel L h1 h2 hfu hjL hdep hf R0 hs hx
  have hi' : ops.toArray[j]? = some o := by simpa using hi
  have hjlt : j < ops.length := (List.getElem?_eq_some_iff.1 hi).1
  unfold wpOp
  simp only [hi']
  rw [if_pos (wg_ok hw hf)]
  left
  have hp : (Sp ++ (C ++ (R ++ R0))).Perm (C ++ (V ++ R0)) := by
    have h1 : (Sp ++ R).Perm V := ext_perm hS
    refine (perm_swap Sp C (R ++ R0)).trans (List.Perm.append_left C ?_)
    rw [← List.append_assoc]
    exact h1.append_right R0
  have hs' := hs.perm hp (fun i hi => hi)
  refine (hA A a w _ (NP Q) hf (hs'.st.left (pick_mem hJ)) fun x w' A' h2' => ?_).1
  have h3 := hs'.frame h2'
  have hp2 : (C ++ ((S' x ++ R) ++ R0)).Perm (S' x ++ (C ++ (R ++ R0))) := by
    rw [List.append_assoc]
    exact perm_swap C (S' x) (R ++ R0)
  have h4 := h3.perm hp2 (fun i hi => hi)
  refine ⟨WS C (I' x ++ I), .inr fun w ⟨A, h1, h2⟩ => ⟨A, h1, fun f hf => h2 f (List.mem_append_right _ hf)⟩, h4.ws, ?_⟩
  rw [lst_set, hd]
  refine h x (fun f hfF => (hF f hfF).mono (newd_more hnew _) (fun g hg => List.mem_append_right _ hg) fun _ _ _ _ _ hh => hh) A' _ w' fuel (j :: L) (fun i hi => ?_) (fun i hi => ?_) ?_ (hf.putd hn _) R0 h4 (hx.mono (im_keep hs' h2') (newd_put hnew) (listed_more hjF))
  · rcases List.mem_cons.1 hi with rfl | hi
    · exact List.mem_cons_self ..
    · exact List.mem_cons_of_mem _ (h1 i hi)
  · rcases List.mem_cons.1 hi with rfl | hi
    · exact .inl (List.mem_cons_self ..)
    · exact (h2 i hi).imp (List.mem_cons_of_mem _) id
  · have := unl_cons hjlt hjL
    omega
/-- late: nothing need stay, none is free any more -/
theorem DFp.al {j : Nat} (is js : List Nat) {d : Option Nat} {Sp R : List Ch} {J : List Im} {σ : Type} {v : σ → Value} {S' : σ → List Ch} {I' : σ → List Im} (hA : Ac G n m o Sp J v S' I') (hl : mem j late = true) (hi : ops[j]? = some o) (hw : wg ops m o = some true) (hd : o.dst = d) (hn : dok d n.n = true) (hS : ext (C ++ V) is = some (Sp, R)) (hJ : pick I js = some J)
    (h : ∀ x, DF G n K Q ops late [] (j :: l) [] (putm d (v x) m) (S' x ++ R) (I' x ++ I)) : DFp G n K Q ops late j [] l C m V I := by
  intro hF A a w fuel L h1 h2 hfu hjL hdep hf R0 hs hx
  obtain rfl : R0 = [] := hx
  rw [List.append_nil] at hs
  have hi' : ops.toArray[j]? = some o := by simpa using hi
  have hjlt : j < ops.length := (List.getElem?_eq_some_iff.1 hi).1
  unfold wpOp
  simp only [hi']
  rw [if_pos (wg_ok hw hf)]
  left
  have hs' := hs.perm (ext_perm hS) (fun i hi => hi)
  refine (hA A a w _ (NP Q) hf (hs'.st.left (pick_mem hJ)) fun x w' A' h2' => ?_).1
  have h3 := hs'.frame h2'
  refine ⟨WS [] (I' x ++ I), .inl (mem_iff.1 hl), SS.ws (C := []) h3, ?_⟩
  rw [lst_set, hd]
  refine h x (fun f hf => by cases hf) A' _ w' fuel (j :: L) (fun i hi => ?_) (fun i hi => ?_) ?_ (hf.putd hn _) [] (by rw [List.append_nil]; exact h3) rfl
  · rcases List.mem_cons.1 hi with rfl | hi
    · exact List.mem_cons_self ..
    · exact List.mem_cons_of_mem _ (h1 i hi)
  · rcases List.mem_cons.1 hi with rfl | hi
    · exact .inl (List.mem_cons_self ..)
    · exact (h2 i hi).imp (List.mem_cons_of_mem _) id
  · have := unl_cons hjlt hjL
    omega
theorem DFp.alf {j : Nat} (is js : List Nat) {d : Option Nat} {Sp R : List Ch} {J : List Im} {σ : Type} {v : σ → Value} {S' : σ → List Ch} {I' : σ → List Im} (hA : Ac G n m o Sp J v S' I') (hl : mem j late = true) (hF0 : ∀ f ∈ F, FSp G n Q ops [] m I F f) (hi : ops[j]? = some o) (hw : wg ops m o = some true) (hd : o.dst = d) (hn : dok d n.n = true) (hS : ext (C ++ V) is = some (Sp, R)) (hJ : pick I js = some J) (hjF : fmem j F = false) (hnew : newd F m d = true)
    (h : ∀ x, DF G n K Q ops late F (j :: l) [] (putm d (v x) m) (S' x ++ R) (I' x ++ I)) : DFp G n K Q ops late j F l C m V I := by
  intro hF A a w fuel L h1 h2 hfu hjL hdep hf R0 hs hx
  have hi' : ops.toArray[j]? = some o := by simpa using hi
  have hjlt : j < ops.length := (List.getElem?_eq_some_iff.1 hi).1
  unfold wpOp
  simp only [hi']
  rw [if_pos (wg_ok hw hf)]
  left
  have hp : (Sp ++ (R ++ R0)).Perm (C ++ (V ++ R0)) := by
    have h1 : (Sp ++ R).Perm (C ++ V) := ext_perm hS
    rw [← List.append_assoc, ← List.append_assoc]
    exact h1.append_right R0
  have hs' := hs.perm hp (fun i hi => hi)
  refine (hA A a w _ (NP Q) hf (hs'.st.left (pick_mem hJ)) fun x w' A' h2' => ?_).1
  have h3 := hs'.frame h2'
  have h4 : SS K A' ([] ++ ((S' x ++ R) ++ R0)) (I' x ++ I) w' := by
    rw [List.nil_append, List.append_assoc]
    exact h3
  refine ⟨WS [] (I' x ++ I), .inl (mem_iff.1 hl), h4.ws, ?_⟩
  rw [lst_set, hd]
  refine h x (fun f hfF => (hF0 f hfF).mono (newd_more hnew _) (fun g hg => List.mem_append_right _ hg) fun _ _ _ _ _ hh => hh) A' _ w' fuel (j :: L) (fun i hi => ?_) (fun i hi => ?_) ?_ (hf.putd hn _) R0 h4 (hx.mono (im_keep hs' h2') (newd_put hnew) (listed_more hjF))
  · rcases List.mem_cons.1 hi with rfl | hi
    · exact List.mem_cons_self ..
    · exact List.mem_cons_of_mem _ (h1 i hi)
  · rcases List.mem_cons.1 hi with rfl | hi
    · exact .inl (List.mem_cons_self ..)
    · exact (h2 i hi).imp (List.mem_cons_of_mem _) id
  · have := unl_cons hjlt hjL
    omega
theorem fo_nil {p : FO → Prop} : ∀ f ∈ ([] : List FO), p f := fun f hf => by cases hf
theorem fo_cons {p : FO → Prop} {f : FO} {F : List FO} (h : p f) (h2 : ∀ f ∈ F, p f) : ∀ g ∈ f :: F, p g := fun g hg => by
  rcases List.mem_cons.1 hg with rfl | hg
  · exact h
  · exact h2 g hg
theorem DFp.pre {j : Nat} {V' : List Ch} {I' : List Im} (hI : ∀ g ∈ I, g ∈ I') (hq : ∀ A w R, SS K A (C ++ (V ++ R)) I w → ∃ A', (∀ g : Im, g.ok A w → g.ok A' w) ∧ SS K A' (C ++ (V' ++ R)) I' w) (h : DFp G n K Q ops late j F l C m V' I') : DFp G n K Q ops late j F l C m V I := by
  intro hF A a w fuel L h1 h2 hfu hj hd hf R hs hx
  obtain ⟨A', hA, hs'⟩ := hq A w R hs
  refine wpOp_mono (fun a' w' hh => ?_) (h (fun f hfF => (hF f hfF).mono (fun _ _ h => h) hI fun _ _ _ _ _ hh => hh) A' a w fuel L h1 h2 hfu hj hd hf R hs' (hx.mono hA (fun _ _ => rfl) fun _ _ => Iff.rfl))
  obtain ⟨S', hS, h4⟩ := hh
  exact ⟨S', hS.imp id fun hw w0 hw0 => by obtain ⟨A0, q1, q2⟩ := hw w0 hw0; exact ⟨A0, q1, fun q hq => q2 q (hI q hq)⟩, h4⟩
theorem pre_nil0 {α : Type} (ty : Ty α) (T0 : Nat) : ∀ A w R0, SS K A (C ++ (V ++ R0)) I w → ∃ A', (∀ g : Im, g.ok A w → g.ok A' w) ∧ SS K A' (C ++ ((Ch.arr ty T0 none 0 [] :: V) ++ R0)) I w :=
  fun A w R0 hs => ⟨A, fun _ h => h, (hs.nil0 (ty := ty) (T0 := T0)).perm List.perm_middle fun _ h => h⟩
theorem DFp.nil0 {j : Nat} {α : Type} (ty : Ty α) (T0 : Nat) (h : DFp G n K Q ops late j F l C m (Ch.arr ty T0 none 0 [] :: V) I) : DFp G n K Q ops late j F l C m V I := DFp.pre (fun _ h => h) (pre_nil0 ty T0) h
theorem Ac.frz {Sp : List Ch} {J : List Im} {σ α : Type} {v : σ → Value} {S' : σ → List Ch} {I' : σ → List Im} {ty : Ty α} {T : Nat} {a0 : σ → Option Addr} {c : σ → Nat} {xs : σ → List α} (hA : Ac G n m o Sp J v (fun x => Ch.arr ty T (a0 x) (c x) (xs x) :: S' x) I') : Ac G n m o Sp J v S' (fun x => Im.sl ty (a0 x) (c x) (xs x) :: I' x) :=
  fun A a w Kc Q hf hs hk => hA A a w Kc Q hf hs fun x w' A' h2 => hk x w' _ (h2.frz arr_frz)
end
/-! ### shifts by what is not written down -/
def shk (y : Int) : Bool := decide (0 ≤ y)
section
variable {G : Pg} {n : Nd} {m : Env} {S : List Ch} {I : List Im} {o : Oper}
theorem Yl.shr {t t2 nb : Nat} {x y : Operand} {k k' : IntKind} {a b : Int} {u : Unit} (hb : k.bits = nb) (h : chk (shk b) = some u) (ho : o.op = .binOp .shr t x y t2) (hx : ev m x = some (.int k a)) (hy : ev m y = some (.int k' b)) : Yl G n m S I o (.int k (a.fdiv (2 ^ (min b.toNat nb)))) := fun A ac w hf _ _ => by
  have h0 : 0 ≤ b := chk_some h
  have hg : (eqGuard .shr t x y (.int k a) (.int k' b)).run G.P w = .ok () w := by unfold eqGuard; rfl
  have hr : (binOp .shr t (.int k a) (.int k' b)).run G.P w = .ok (.int k (a.fdiv (2 ^ (min b.toNat nb)))) w := by
    subst hb
    simp only [binOp, Op.shift]
    rw [if_neg (by omega)]
    rfl
  simp only [execOp, ho, hf.ev hx, hf.ev hy, Sem.run_bind, hg, Result.andThen_ok, hr, Sem.run_pure]
end
end Go.Tw

set_option linter.unusedVariables false
set_option linter.unusedSimpArgs false
namespace Go.Tw
open Go
section
variable {G : Pg} {n : Nd} {m : Env} {S : List Ch} {I : List Im} {o : Oper}
/-- an element's address, of a package's table -/
theorem Yl.xg {t e g N : Nat} {x ix : Operand} {k : IntKind} {i : Int} {α : Type} {x0 : α} {xs : List α} {ti te : TI} (hi : idx xs i = some x0) (hN : xs.length = N) (ho : o.op = .indexAddr t x ix) (hx : ev m x = some (.pointer (some ⟨g, 0, none⟩))) (hix : ev m ix = some (.int k i)) (ht : tlook G.τ t = some ti) (hk : ti.k = .array N e) (he : tlook G.τ e = some te) : Yl G n m S I o (.pointer (some ⟨g, 0 + i.toNat * te.size, none⟩)) := fun A ac w hf _ _ => by
  obtain ⟨h0, h1⟩ := idx_some hi
  have h2 := (List.getElem?_eq_some_iff.1 h1).1
  obtain ⟨d, f, z, hd, hfi, hkk, _⟩ := G.ok.info ht
  rw [hk] at hkk
  cases hkk
  have hr : (Instr.indexAt t (.pointer (some ⟨g, 0, none⟩)) (.int k i)).run G.P w = .ok (.pointer (some ⟨g, 0 + i.toNat * te.size, none⟩)) w := by
    simp only [Instr.indexAt, asIntOf, Instr.sureAddr, Sem.run_bind, Sem.run_pure, Result.andThen_ok, run_underlying hd]
    rw [if_pos ⟨h0, by omega⟩]
    simp only [Sem.run_bind, run_sizeOf G.ok he, Result.andThen_ok, Sem.run_pure, add_lit]
  simp only [execOp, ho, hf.ev hx, hf.ev hix, Sem.run_bind, hr, Result.andThen_ok, Sem.run_pure]
/-- all bits turned -/
theorem Yl.com {t : Nat} {x : Operand} {k : IntKind} {a c : Int} (hc : (if k.signed then -1 else k.max) = c) (ho : o.op = .unOp .xor t x) (hx : ev m x = some (.int k a)) : Yl G n m S I o (.int k (Go.bits .xor k c a)) := fun A ac w hf _ _ => by
  subst hc
  simp only [execOp, ho, hf.ev hx, Op.unary, intBits_xor, Sem.run_bind, Sem.run_pure, Result.andThen_ok]
end
end Go.Tw

set_option linter.unusedVariables false
set_option linter.unusedSimpArgs false
namespace Go.Tw
open Go
/-! ### owned arrays that begin anywhere in their block -/
def Ch.aro {α : Type} (d : Ty α) (T : Nat) (a0 : Option Addr) (c : Nat) (xs : List α) : Ch where
  blk := fun b => a0.map (·.block) = some b
  ok := fun A w => (a0 = none ∧ xs = [] ∧ c = 0) ∨ ∃ g o cur cs, a0 = some ⟨g, o, none⟩ ∧ w.heap[g]? = some (.cells cur T (0, 0)) ∧ xs.length ≤ c ∧ c ≤ maxLen ∧ o + c * d.sz ≤ cur.size ∧ (cur.toList.drop o).take (xs.length * d.sz) = cs ∧ Els d A w xs cs
  st := by
    rintro A A' w w' hA hw hb (h | ⟨g, o, cur, cs, rfl, h2, h3, h4, h5, h6, h7⟩)
    · exact .inl h
    · exact .inr ⟨g, o, cur, cs, rfl, (hb g rfl).trans h2, h3, h4, h5, h6, h7.st hA hw⟩
section
variable {α : Type} {ty : Ty α} {A : Blks} {w : World} {xs ys : List α} {T : Nat} {a0 a1 : Option Addr} {c c1 : Nat}
theorem aro_of (h : (Ch.arr ty T a0 c xs).ok A w) : (Ch.aro ty T a0 c xs).ok A w := by
  rcases arr_some h with h | ⟨g, cur, cs, rfl, h2, h3, h4, h5, h6, h7⟩
  · exact .inl h
  · exact .inr ⟨g, 0, cur, cs, rfl, h2, h3, h4, by rw [h5, Nat.zero_add]; exact Nat.le_refl _, by simpa using h6, h7⟩
theorem aro_reads (h : (Ch.aro ty T a0 c xs).ok A w) : Rd ty a0 c xs A w := by
  rcases h with ⟨rfl, rfl, rfl⟩ | ⟨g, o, cur, cs, rfl, h2, h3, h4, h5, h6, h7⟩
  · exact ⟨Nat.zero_le _, .inl rfl⟩
  · refine ⟨h3, .inr ⟨g, o, cs, rfl, h7, fun j u hu => ?_⟩⟩
    rw [cell_of_row w g (o + j) _ T (0, 0) h2]
    rw [← h6, List.getElem?_take] at hu
    split at hu
    · rw [List.getElem?_drop] at hu
      simpa using hu
    · cases hu
theorem aro_frz : ∀ A w, (Ch.aro ty T a0 c xs).ok A w → (Im.sl ty a0 c xs).ok (fun b => A b ∨ (Ch.aro ty T a0 c xs).blk b) w := by
  intro A w h
  obtain ⟨h1, h2⟩ := aro_reads h
  refine ⟨h1, ?_⟩
  rcases h2 with h2 | ⟨b, o, cs, rfl, he, hc⟩
  · exact .inl h2
  · exact .inr ⟨b, o, cs, rfl, .inr rfl, he.st (fun _ h => .inl h) (fun _ _ => rfl), hc⟩
end
/-! ### moves -/
section
variable {G : Pg} {n : Nd} {K : Key} {Q : Exit → Act → World → Prop} {m : Env} {S : List Ch} {I : List Im} {ops : Array Oper} {α : Type} {ty : Ty α} {xs : List α} {a0 : Option Addr} {c0 T0 : Nat}
theorem L.frzo {l : List Oper} (p : Nat) {R : List Ch} (hS : ext S [p] = some ([Ch.aro ty T0 a0 c0 xs], R)) (h : L G n K ops Q l m R (Im.sl ty a0 c0 xs :: I)) : L G n K ops Q l m S I := fun A a w hf hs => h _ a w hf ((hs.perm (ext_perm hS) fun _ h => h).frz aro_frz)
theorem SS.wk {A : Blks} {w : World} {x y : Ch} {R : List Ch} (hb : ∀ b, y.blk b → x.blk b) (hk : ∀ A w, x.ok A w → y.ok A w) (h : SS K A (x :: R) I w) : SS K A (y :: R) I w :=
  h.give (fun d hd => by
    rcases List.mem_cons.1 hd with rfl | hd
    · exact hk _ _ (h.st.ch x (by simp))
    · exact h.st.ch d (by simp [hd])) (fun b ⟨d, hd, hb2⟩ => by
    rcases List.mem_cons.1 hd with rfl | hd
    · exact ⟨x, by simp, hb b hb2⟩
    · exact ⟨d, by simp [hd], hb2⟩) (List.pairwise_cons.2 ⟨fun d hd b hb2 => (List.pairwise_cons.1 h.st.dis).1 d hd b (hb b hb2), (List.pairwise_cons.1 h.st.dis).2⟩) h.st.im
theorem E.off' {e0 : Exit} (p : Nat) {R : List Ch} (hS : ext S [p] = some ([Ch.arr ty T0 a0 c0 xs], R)) (h : E n K Q e0 m (Ch.aro ty T0 a0 c0 xs :: R) I) : E n K Q e0 m S I := fun A a w hf hs => h _ a w hf (SS.wk (x := Ch.arr ty T0 a0 c0 xs) (fun _ h => h) (fun _ _ h => aro_of h) (hs.perm (ext_perm hS) fun _ h => h))
theorem L.addrq {l : List Oper} (i : Nat) (hI : S[i]? = some (Ch.aro ty T0 a0 c0 xs)) (hne : 0 < xs.length) (h : ∀ b o', a0 = some ⟨b, o', none⟩ → L G n K ops Q l m S I) : L G n K ops Q l m S I := fun A a w hf hs => by
  obtain ⟨_, h2⟩ := aro_reads (hs.st.ch _ (List.mem_of_getElem? hI))
  rcases h2 with rfl | ⟨b, o', cs, e, _⟩
  · exact absurd hne (by simp)
  · exact h b o' e A a w hf hs
theorem Bw.cho (i : Nat) {J : List Im} (hS : S[i]? = some (Ch.aro ty T0 a0 c0 xs)) (h : Bw S I J) : Bw S I (Im.sl ty a0 c0 xs :: J) := fun A w hs => by
  obtain ⟨A', h1, h2⟩ := h A w hs
  have hc := List.mem_of_getElem? hS
  have hk := aro_frz A w (hs.ch _ hc)
  refine ⟨fun b => A' b ∨ (Ch.aro ty T0 a0 c0 xs).blk b, fun b hb => .inl (h1 b hb), ?_, (fun _ h => by cases h), (fun _ h => by cases h), List.Pairwise.nil, fun g hg => ?_⟩
  · rintro b (hb | hb)
    · exact h2.lt b hb
    · exact (hs.own _ hc b hb).1
  · rcases List.mem_cons.1 hg with rfl | hg
    · exact Im.st _ (fun b hb => hb.imp (h1 b) id) (fun _ _ => rfl) hk
    · exact g.st (fun b hb => .inl hb) (fun _ _ => rfl) (h2.im g hg)
/-- a variable, as one that does not turn meanwhile -/
theorem Bw.bx (i : Nat) {g T : Nat} {cs : List Value} {J : List Im} (hS : S[i]? = some (Ch.box g T cs)) (h : Bw S I J) : Bw S I (Im.cells g 0 cs :: J) := fun A w hs => by
  obtain ⟨A', h1, h2⟩ := h A w hs
  have hc := List.mem_of_getElem? hS
  have hk := hs.ch _ hc
  refine ⟨fun b => A' b ∨ b = g, fun b hb => .inl (h1 b hb), ?_, (fun _ h => by cases h), (fun _ h => by cases h), List.Pairwise.nil, fun f hg => ?_⟩
  · rintro b (hb | hb)
    · exact h2.lt b hb
    · exact (hs.own _ hc b hb).1
  · rcases List.mem_cons.1 hg with rfl | hg
    · refine ⟨.inr rfl, fun j u hu => ?_⟩
      rw [Nat.zero_add, cell_box hk]
      exact hu
    · exact f.st (fun b hb => .inl hb) (fun _ _ => rfl) (h2.im f hg)
end
section
variable {G : Pg} {n : Nd} {K : Key} {Q : Exit → Act → World → Prop} {m : Env} {S : List Ch} {I : List Im} {ops : Array Oper} {α : Type} {ty : Ty α} {xs : List α}
end
/-! ### operations -/
section
variable {G : Pg} {n : Nd} {m : Env} {S : List Ch} {I : List Im} {o : Oper} {α : Type} {ty : Ty α} {xs ys : List α} {a0 a1 : Option Addr} {c c1 : Nat}
/-- an element of it -/
theorem Ac.olo (i k : Nat) {t b ob off T : Nat} {x : Operand} {x0 : α} {v : ty.Hid → Value} (hx0 : xs[i]? = some x0) (ho : o.op = .load t x) (hx : ev m x = some (.pointer (some ⟨b, off, none⟩))) (hoff : off = ob + i * ty.sz + k) (hv : ∀ hd, loadv G.τ t ((ty.cs x0 hd).drop k) 0 = some (v hd)) : Ac G n m o [Ch.aro ty T (some ⟨b, ob, none⟩) c xs] [] v (fun _ => [Ch.aro ty T (some ⟨b, ob, none⟩) c xs]) (fun hd => ty.im x0 hd) := by
  refine Ac.run (v := fun hd => some (v hd)) fun A a w hf hs => ?_
  have hok := hs.ch _ (List.mem_singleton.2 rfl)
  obtain ⟨_, h2⟩ := aro_reads hok
  rcases h2 with rfl | ⟨b1, o1, cs, e1, hels, hc⟩
  · simp at hx0
  · injection e1 with e1
    injection e1 with e1 e2
    subst e1 e2
    obtain ⟨hd', him, hcs⟩ := hels.at_ i x0 hx0
    have hr : (loadVar t ⟨b, off, none⟩).run G.P w = .ok (v hd') w := by
      refine run_loadVar G.ok (hv hd') fun j u hu => ?_
      have h3 := hc (i * ty.sz + (k + j)) u (hcs (k + j) u (by simpa using hu))
      rw [hoff, ← h3]
      congr 2
      omega
    refine ⟨hd', w, A, ?_, ?_⟩
    · simp only [execOp, ho, hf.ev hx, Instr.loadAt, Instr.sureAddr, Sem.run_bind, Sem.run_pure, Result.andThen_ok, hr, nx]
    · have h5 := SS.grown hs (ob := none) ⟨rfl, rfl, rfl, Nat.le_refl _, fun _ _ _ => rfl⟩ (fun _ e => nomatch e) (fun b hb => ⟨.inl hb, (hs.own _ (List.mem_singleton.2 rfl) b hb).1⟩) hok
      have h6 := h5.know (J := ty.im x0 hd') him
      simpa using h6
/-- a part of it -/
theorem Ac.ors {t T : Nat} {x : Operand} {lo hi : Option Operand} {lv hv : Int} {ti te : TI} {u : Unit} (hk0 : chk (cutok lv hv xs.length) = some u) (ho : o.op = .slice t x lo hi none) (hx : ev m x = some (.slice a0 xs.length c)) (hlo : evb m lo 0 = some lv) (hhi : evb m hi xs.length = some hv) (ht : tlook G.τ t = some ti) (hk : ti.k = .slice T) (he : tlook G.τ T = some te) (hsz : te.size = ty.sz) :
    Ac G n m o [Ch.aro ty T a0 c xs] [] (fun z : Option Addr × Nat => .slice z.1 (cut xs lv hv).length z.2) (fun z => [Ch.aro ty T z.1 z.2 (cut xs lv hv)]) (fun _ => []) := by
  obtain ⟨h0, h1, h2⟩ := chk_some hk0
  refine Ac.run (v := fun z : Option Addr × Nat => some (.slice z.1 (cut xs lv hv).length z.2)) fun A a w hf hs => ?_
  have hok := hs.ch _ (List.mem_singleton.2 rfl)
  have hle : xs.length ≤ c := (aro_reads hok).1
  have hlen := cut_length (xs := xs) ⟨h0, h1, h2⟩
  have hr := run_slice (P := G.P) (w := w) (cap := c) G.ok hf ht hk he hlo hhi h0 h1 (by omega) a0
  refine ⟨(if c = lv.toNat then a0 else a0.map (·.add (lv.toNat * te.size)), c - lv.toNat), w, A, ?_, SS.grown hs (ob := none) ⟨rfl, rfl, rfl, Nat.le_refl _, fun _ _ _ => rfl⟩ (fun _ e => nomatch e) (fun b hb => ?_) ?_⟩
  · simp only [execOp, ho, hf.ev hx, Option.map_none, Sem.run_bind, hlen, nx] at hr ⊢
    rw [hr]
    simp
  · have hb2 : (Ch.aro ty T a0 c xs).blk b := by
      revert hb
      show Option.map _ _ = some b → Option.map _ a0 = some b
      dsimp only
      split
      · exact id
      · cases a0 with
        | none => exact id
        | some ad =>
          obtain ⟨g, o1, s1⟩ := ad
          intro h
          have h2 : ∀ k, ((⟨g, o1, s1⟩ : Addr).add k).block = g := fun k => by unfold Addr.add; split <;> (try split) <;> rfl
          simpa [h2] using h
    exact ⟨.inl hb2, (hs.own _ (List.mem_singleton.2 rfl) b hb2).1⟩
  · rcases hok with ⟨rfl, rfl, rfl⟩ | ⟨g, o1, cur, cs, rfl, hb, h4, h5, h6, h7, h8⟩
    · refine .inl ⟨by split <;> rfl, by simp [cut], by omega⟩
    · by_cases hc : c = lv.toNat
      · rw [if_pos hc]
        have e0 : cut xs lv hv = [] := List.eq_nil_of_length_eq_zero (by omega)
        rw [e0]
        refine .inr ⟨g, o1, cur, [], rfl, hb, Nat.zero_le _, by omega, ?_, by simp, .nil⟩
        have : c - lv.toNat = 0 := by omega
        rw [this, Nat.zero_mul]
        omega
      · rw [if_neg hc]
        have hm : lv.toNat * ty.sz + (c - lv.toNat) * ty.sz = c * ty.sz := by rw [← Nat.add_mul]; congr 1; omega
        refine .inr ⟨g, o1 + lv.toNat * ty.sz, cur, _, by rw [hsz]; simp [add_lit], hb, by omega, by omega, by show o1 + lv.toNat * ty.sz + (c - lv.toNat) * ty.sz ≤ cur.size; omega, ?_, (h8.take hv.toNat).drop lv.toNat⟩
        have hm2 : hv.toNat * ty.sz ≤ xs.length * ty.sz := Nat.mul_le_mul_right _ (by omega)
        rw [hlen, ← h7, ← List.drop_drop, List.take_take, Nat.min_eq_left hm2, List.drop_take, Nat.sub_mul]
theorem run_room_at {P : Program} (w : World) (t ty e : TypeId) (i : TypeInfo) (ht : P.underlying t = some (.slice e)) (hi : P.info? e = some i)
    (g o sLen sCap : Nat) (cur : Array Value) (hg : w.heap[g]? = some (.cells cur e (0, 0)))
    (a : Addr) (m c : Nat) (news : List Value) (hl : news.length = m * i.size) (hnews : ∀ j u, news[j]? = some u → w.cell? (a.add j) = some u) (h1 : ∀ u ∈ news, u.oneCell' = true)
    (hroom : sLen + m ≤ sCap) (hfit : o + sLen * i.size + news.length ≤ cur.size) :
    (Builtin.append_ #[t, t] ty #[.slice (some ⟨g, o, none⟩) sLen sCap, .slice (some a) m c]).run P w =
      .ok (.slice (some ⟨g, o, none⟩) (sLen + m) sCap) (w.setRow g (cur.toList.take (o + sLen * i.size) ++ news ++ cur.toList.drop (o + sLen * i.size + news.length)).toArray) := by
  have hf := run_firstCells_some (P := P) w i.size m a m c news hl hnews
  have hst := run_storeCells_at P g (o + sLen * i.size) e news 0 cur w hg (by simpa using hfit) h1
  simp only [Nat.add_zero] at hst
  simp [Builtin.append_, run_underlying ht, sizeOf, typeInfo, hi, Builtin.lenOf, hroom, hf, Addr.add_lit, hst]
theorem splice_mid (l es : List Value) (o n : Nat) (h : o + n ≤ l.length) : ((l.take (o + n) ++ es ++ l.drop (o + n + es.length)).drop o).take (n + es.length) = (l.drop o).take n ++ es := by
  rw [List.append_assoc, List.drop_append_of_le_length (by simp; omega), List.drop_take]
  have h2 : o + n - o = n := by omega
  have h3 : ((l.drop o).take n).length = n := by simp; omega
  rw [h2, List.take_append, h3, List.take_of_length_le (by rw [h3]; omega)]
  congr 1
  have h4 : n + es.length - n = es.length := by omega
  rw [h4, List.take_append_of_le_length (Nat.le_refl _), List.take_length]
theorem grown_own {w : World} {e : TypeId} {n m c size : Nat} {z : Value} {xs news : List Value} (hxl : xs.length = n * size) (hl : news.length = m * size) (hzs : z.cells.size = size) (h63 : n + m ≤ maxLen) (ho : c < n + m) :
    (w.drew.alloc (.cells (xs.toArray ++ news.toArray ++ Builtin.zeroCells z.cells (grownCap w (n + m) c e - (n + m))) e)).ownsRow 0 e size (.slice (some ⟨w.heap.size, 0, none⟩) (n + m) (grownCap w (n + m) c e)) (n + m) (xs ++ news) ∧
    w.grownBy (w.drew.alloc (.cells (xs.toArray ++ news.toArray ++ Builtin.zeroCells z.cells (grownCap w (n + m) c e - (n + m))) e)) none := by
  have hlen : (xs ++ news).length = (n + m) * size := by rw [List.length_append, hxl, hl, Nat.add_mul]
  have hge := grownCap_ge w (n + m) c e
  have hcm : grownCap w (n + m) c e ≤ maxLen := grownCap_le_maxLen w (n + m) c e h63
  refine ⟨⟨hlen, .inr ⟨w.heap.size, _, _, rfl, Nat.zero_le _, heap_alloc_new w.drew _, hge, hcm, ?_, ?_⟩⟩, ⟨rfl, rfl, rfl, by simp, fun k hk _ => heap_alloc_old w.drew _ k hk⟩⟩
  · simp only [Array.size_append, List.size_toArray, size_zeroCells, hzs, hxl, hl, ← Nat.add_mul]
    congr 1
    omega
  · simp only [Array.toList_append, List.append_assoc]
    rw [← List.append_assoc, ← hlen]
    exact List.take_left
/-- append to it -/
theorem Ac.oap {t T : Nat} {x y : Operand} {ti te : TI} {u : Unit} (hlim : chk (apok xs.length ys.length te.bytes) = some u) (ho : o.op = .call { callee := .builtin .append, args := #[x, y], argTypes := #[t, t] }) (hx : ev m x = some (.slice a0 xs.length c)) (hy : ev m y = some (.slice a1 ys.length c1)) (ht : tlook G.τ t = some ti) (hk : ti.k = .slice T) (he : tlook G.τ T = some te) (hsz : (Nat.beq te.size ty.sz && Nat.beq te.zero.length ty.sz && Nat.blt 0 ty.sz && Nat.blt 0 te.bytes) = true) :
    Ac G n m o [Ch.aro ty T a0 c xs] [Im.sl ty a1 c1 ys] (fun z : Option Addr × Nat => .slice z.1 (xs ++ ys).length z.2) (fun z => [Ch.aro ty T z.1 z.2 (xs ++ ys)]) (fun _ => []) := by
  have hlim : (xs.length + ys.length) * te.bytes ≤ 140737488355328 := chk_some hlim
  simp only [Bool.and_eq_true] at hsz
  obtain ⟨⟨⟨hs1, hs2⟩, hpos⟩, hby⟩ := hsz
  have hs1 := Nat.eq_of_beq_eq_true hs1
  have hs2 := Nat.eq_of_beq_eq_true hs2
  have hpos' : 0 < ty.sz := blt_lt hpos
  have hby' : 0 < te.bytes := blt_lt hby
  refine Ac.run (v := fun z : Option Addr × Nat => some (.slice z.1 (xs ++ ys).length z.2)) fun A a w hf hs => ?_
  obtain ⟨dd, f, z0, hdd, hfi, hkk, _⟩ := G.ok.info ht
  rw [hk] at hkk
  cases hkk
  obtain ⟨de, fe, ze, hde, hfe, _, hfs, hfb, hfz, hzc, _⟩ := G.ok.info he
  have hok := hs.ch _ (List.mem_singleton.2 rfl)
  have hym := hs.im _ (List.mem_singleton.2 rfl)
  have h63 : xs.length + ys.length ≤ maxLen := by
    have h1 : (xs.length + ys.length) * 1 ≤ (xs.length + ys.length) * te.bytes := Nat.mul_le_mul_left _ hby'
    simp only [maxLen]
    omega
  have hzs : ze.cells.size = ty.sz := by rw [← hs2, ← hzc, Array.length_toList]
  have hblk : ∀ b, (Ch.aro ty T a0 c xs).blk b → b < w.heap.size ∧ ¬ A b := fun b hb => hs.own _ (List.mem_singleton.2 rfl) b hb
  have key : ∀ (ad : Addr) (es : List Value), a1 = some ad → Els ty A w ys es → (∀ j u, es[j]? = some u → w.cell? (ad.add j) = some u) → ∃ (x : Option Addr × Nat) (w' : World) (A' : Blks), (execOp a.eval o).run G.P w = .ok (nx (some (.slice x.1 (xs ++ ys).length x.2))) w' ∧ SS ⟨w, A, Own [Ch.aro ty T a0 c xs]⟩ A' [Ch.aro ty T x.1 x.2 (xs ++ ys)] [] w' := by
    rintro ad es rfl hes hcells
    rcases hok with ⟨rfl, rfl, rfl⟩ | ⟨g, o1, cur, cs, rfl, hb, h4, h5, h6, h7, h8⟩
    · obtain ⟨v', w', hr, hown', hgr, hat⟩ := run_ap (P := G.P) w t o.type T fe ze ty.sz te.bytes hdd hfe hfz (hfs.trans hs1) hfb hzs hpos' (.slice none 0 0) 0 [] (World.ownsRow_nil w 0 T ty.sz) ad ys.length c1 es hes.len hcells hes.one (by simpa using h63) (by simpa using hlim)
      have hv' : ∃ a2 c2, v' = .slice a2 ys.length c2 := by
        rcases hown'.2 with ⟨rfl, e⟩ | ⟨g, cap, cur, rfl, _⟩
        · exact ⟨none, 0, by rw [← e, Nat.zero_add]⟩
        · exact ⟨_, _, by rw [Nat.zero_add]⟩
      obtain ⟨a2, c2, rfl⟩ := hv'
      have hblk2 : (Value.slice a2 ys.length c2).ownBlock = a2.map (·.block) := by cases a2 <;> rfl
      rw [hblk2] at hat
      have hA : ∀ b, A b → w'.heap[b]? = w.heap[b]? := fun b hb => hgr.block b (hs.lt b hb) (by simp [Value.ownBlock])
      rw [Nat.zero_add, List.nil_append] at hown'
      refine ⟨(a2, c2), w', A, ?_, SS.grown hs (ob := none) (by simpa [Value.ownBlock] using hgr) (fun b e => nomatch e) (fun b hb => ?_) ?_⟩
      · simp only [execOp, ho, resolve, invoke, builtin, Sem.run_bind, Sem.run_pure, Result.andThen_ok, List.map_toArray, List.map_cons, List.map_nil, hf.ev hx, hf.ev hy, hr, nx, List.nil_append, List.length_nil]
      · have := hat b hb
        exact ⟨.inr (this.1.resolve_left (by simp [Value.ownBlock])), this.2⟩
      · exact aro_of ⟨es, by simpa using hown', by simpa using hes.st (fun _ h => h) hA⟩
    · by_cases hroom : xs.length + ys.length ≤ c
      · have hm1 : (xs.length + ys.length) * ty.sz ≤ c * ty.sz := Nat.mul_le_mul_right _ hroom
        rw [Nat.add_mul] at hm1
        have hel := hes.len
        have hr := run_room_at (P := G.P) w t o.type T fe hdd hfe g o1 xs.length c cur hb ad ys.length c1 es (by rw [hfs, hs1]; exact hel) hcells hes.one hroom (by rw [hfs, hs1]; omega)
        rw [hfs, hs1] at hr
        obtain ⟨nc, hnc⟩ : ∃ nc, (cur.toList.take (o1 + xs.length * ty.sz) ++ es ++ cur.toList.drop (o1 + xs.length * ty.sz + es.length)) = nc := ⟨_, rfl⟩
        rw [hnc] at hr
        have hcl : cur.toList.length = cur.size := Array.length_toList
        have hncl : nc.length = cur.size := by rw [← hnc]; simp; omega
        have hgr : w.grownBy (w.setRow g nc.toArray) (some g) := ⟨rfl, rfl, rfl, by rw [setRow_size]; exact Nat.le_refl _, fun k _ hk => setRow_other _ _ _ _ (fun e => hk (by rw [e]))⟩
        have hA : ∀ b', A b' → (w.setRow g nc.toArray).heap[b']? = w.heap[b']? := fun b' hA => setRow_other _ _ _ _ (fun e => (hblk b' (by subst e; rfl)).2 hA)
        refine ⟨(some ⟨g, o1, none⟩, c), _, A, ?_, SS.grown hs hgr (fun b e => e) (fun b' hb2 => ⟨.inl hb2, ?_⟩) (.inr ⟨g, o1, nc.toArray, _, rfl, setRow_heap w g _ _ T (0, 0) hb, by rw [List.length_append]; exact hroom, h5, by simpa [hncl] using h6, ?_, (h8.app hes).st (fun _ h => h) hA⟩)⟩
        · simp only [execOp, ho, resolve, invoke, builtin, Sem.run_bind, Sem.run_pure, Result.andThen_ok, List.map_toArray, List.map_cons, List.map_nil, hf.ev hx, hf.ev hy, hr, nx, List.length_append]
        · rw [setRow_size]
          exact (hblk b' hb2).1
        · rw [List.length_append, Nat.add_mul, ← hel, ← hnc]
          show List.take _ (List.drop o1 (cur.toList.take _ ++ es ++ _).toArray.toList) = _
          rw [List.toList_toArray, splice_mid _ _ _ _ (by omega), h7]
      · have hcl := h8.len
        have holds : ∀ j u, cs[j]? = some u → w.cell? ((⟨g, o1, none⟩ : Addr).add j) = some u := fun j u hu => by
          rw [add_lit, cell_of_row w g (o1 + j) _ T (0, 0) hb]
          rw [← h7, List.getElem?_take] at hu
          split at hu
          · rw [List.getElem?_drop] at hu
            simpa using hu
          · cases hu
        have hr := run_append_grow (P := G.P) w t o.type T fe ze hdd hfe hfz ⟨g, o1, none⟩ xs.length c cs (by rw [hfs, hs1]; exact hcl) holds ad ys.length c1 es (by rw [hfs, hs1]; exact hes.len) hcells (by omega) (by simp only [maxLen] at h63; omega) (growslice_fits (by omega) (by rw [hfb]; exact hlim))
        have hgr := grown_own (w := w) (e := T) (n := xs.length) (m := ys.length) (c := c) hcl hes.len hzs h63 (by omega)
        have hA : ∀ b, A b → (w.drew.alloc (.cells (cs.toArray ++ es.toArray ++ Builtin.zeroCells ze.cells (grownCap w (xs.length + ys.length) c T - (xs.length + ys.length))) T)).heap[b]? = w.heap[b]? := fun b hb => hgr.2.block b (hs.lt b hb) (fun e => nomatch e)
        have hown' := hgr.1
        have elen : (xs ++ ys).length = xs.length + ys.length := List.length_append
        refine ⟨(some ⟨w.heap.size, 0, none⟩, grownCap w (xs.length + ys.length) c T), _, A, ?_, SS.grown hs (ob := none) hgr.2 (fun b e => nomatch e) (fun b hb => ?_) (aro_of ⟨_, by rw [elen]; exact hown', (h8.app hes).st (fun _ h => h) hA⟩)⟩
        · simp only [execOp, ho, resolve, invoke, builtin, Sem.run_bind, Sem.run_pure, Result.andThen_ok, List.map_toArray, List.map_cons, List.map_nil, hf.ev hx, hf.ev hy, hr, nx, List.length_append]
        · injection hb with hb
          subst hb
          exact ⟨.inr (Nat.le_refl _), by simp⟩
  rcases hym.2 with rfl | ⟨b, o', es, ha1, hb, hes, hc⟩
  · cases a1 with
    | none =>
      refine ⟨(a0, c), w, A, ?_, SS.grown hs (ob := none) ⟨rfl, rfl, rfl, Nat.le_refl _, fun _ _ _ => rfl⟩ (fun _ e => nomatch e) (fun b hb => ⟨.inl hb, (hs.own _ (List.mem_singleton.2 rfl) b hb).1⟩) (by rw [List.append_nil]; exact hok)⟩
      have hle : xs.length ≤ c := (aro_reads hok).1
      simp only [execOp, ho, resolve, invoke, builtin, Sem.run_bind, Sem.run_pure, Result.andThen_ok, List.map_toArray, List.map_cons, List.map_nil, hf.ev hx, hf.ev hy, List.length_nil, run_ap_nil w t o.type T fe hdd hfe a0 xs.length c hle, nx, List.append_nil]
    | some ad => exact key ad [] rfl .nil (fun j u hu => by simp at hu)
  · exact key _ es ha1 hes (fun j u hu => by rw [add_lit]; exact hc j u hu)
/-- append of what lies in one -/
theorem Ac.apo {t T T2 : Nat} {x y : Operand} {ti te : TI} {u : Unit} {zs : List α} {a2 : Option Addr} {c2 : Nat} (hlim : chk (apok xs.length zs.length te.bytes) = some u) (ho : o.op = .call { callee := .builtin .append, args := #[x, y], argTypes := #[t, t] }) (hx : ev m x = some (.slice a0 xs.length c)) (hy : ev m y = some (.slice a2 zs.length c2)) (ht : tlook G.τ t = some ti) (hk : ti.k = .slice T) (he : tlook G.τ T = some te) (hsz : (Nat.beq te.size ty.sz && Nat.beq te.zero.length ty.sz && Nat.blt 0 ty.sz && Nat.blt 0 te.bytes) = true) :
    Ac G n m o [Ch.arr ty T a0 c xs, Ch.aro ty T2 a2 c2 zs] [] (fun z : Option Addr × Nat => .slice z.1 (xs ++ zs).length z.2) (fun z => [Ch.arr ty T z.1 z.2 (xs ++ zs), Ch.aro ty T2 a2 c2 zs]) (fun _ => []) :=
  Ac.apR (Sx := [Ch.aro ty T2 a2 c2 zs]) (fun A w h => aro_reads (T := T2) (h _ (List.mem_singleton.2 rfl))) hlim ho hx hy ht hk he hsz
/-- is it nil? -/
theorem L.nilo {K : Key} {Q : Exit → Act → World → Prop} (i : Nat) {os : Array Oper} {l : List Oper} {d t e T : Nat} {x : Operand} {ti : TI} (hS : S[i]? = some (Ch.aro ty T a0 c xs)) (hw : wg os.toList m o = some true) (hd : o.dst = some d) (hn : Nat.blt d n.n = true) {y : Operand} {t2 : Nat} (ho : o.op = .binOp .eql t x y t2) (hx : ev m x = some (.slice a0 xs.length c)) (hy : ev m y = some (.slice none 0 0)) (ht : tlook G.τ t = some ti) (hk : ti.k = .slice e)
    (h1 : xs = [] → L G n K os Q l ((d, .bool true) :: m) S I) (h2 : L G n K os Q l ((d, .bool false) :: m) S I) : L G n K os Q (o :: l) m S I := by
  intro A a w hf hs
  have hb := aro_reads (hs.st.ch _ (List.mem_of_getElem? hS))
  obtain ⟨dd, _, _, hdd, _, hkk, _⟩ := G.ok.info ht
  rw [hk] at hkk
  cases hkk
  have hg : ∀ a1, (eqGuard .eql t x y (.slice a1 xs.length c) (.slice none 0 0)).run G.P w = .ok () w := fun a1 => by
    unfold eqGuard
    split <;> rfl
  have he : ∀ a1 k, (Op.equalIn (k + 1) t (.slice a1 xs.length c) (.slice none 0 0)).run G.P w = .ok a1.isNone w := fun a1 k => by
    cases a1 <;> simp [Op.equalIn, run_underlying hdd]
  have hr : ∀ a1, (do eqGuard .eql t x y (.slice a1 xs.length c) (.slice none 0 0); binOp .eql t (.slice a1 xs.length c) (.slice none 0 0) : Sem Value).run G.P w = .ok (.bool a1.isNone) w := fun a1 => by
    have he2 : (Op.equal t (.slice a1 xs.length c) (.slice none 0 0)).run G.P w = .ok a1.isNone w := he a1 9999
    simp only [Sem.run_bind, hg, Result.andThen_ok, binOp, he2, Sem.run_pure]
  have hr2 : (execOp a.eval o).run G.P w = .ok (.value (.bool a0.isNone)) w := by
    have := hr a0
    simp only [execOp, ho, hf.ev hx, hf.ev hy, Sem.run_bind] at this ⊢
    rw [this]
    rfl
  unfold wpListIn
  rw [if_pos (wg_ok hw hf)]
  refine ⟨fun f _ => G.fn f, ?_⟩
  rw [G.sem (nd_of hr2 (by simp)), hr2, Oper.uponIn_value, hd]
  cases a0 with
  | none =>
    refine h1 ?_ A _ w (hf.put _ (blt_lt hn)) hs
    rcases hb.2 with h | ⟨b, o', cs, e, _⟩
    · exact h
    · cases e
  | some ad => exact h2 A _ w (hf.put _ (blt_lt hn)) hs
end
section
variable {G : Pg} {n : Nd} {m : Env} {o : Oper} {α : Type} {ty : Ty α} {xs : List α}
end
/-! ### quiet ones as steps; remainders -/
section
variable {G : Pg} {n : Nd} {m : Env} {o : Oper} {S : List Ch} {I : List Im}
theorem Ac.q {v : Value} (h : qx G.τ m o.op = some v) : Ac G n m o [] [] (fun _ : Unit => v) (fun _ => []) (fun _ => []) := by
  refine Ac.run (v := fun _ => some v) fun A a w hf hs => ?_
  exact ⟨(), w, A, qx_ok G.ok hf h w, SS.start hs⟩
theorem Yl.quo {t t2 : Nat} {x y : Operand} {k : IntKind} {a b : Int} {u : Unit} (h : chk (decide (b ≠ 0)) = some u) (ho : o.op = .binOp .quo t x y t2) (hx : ev m x = some (.int k a)) (hy : ev m y = some (.int k b)) : Yl G n m S I o (.int k (k.wrap (a.tdiv b))) := fun A ac w hf _ _ => by
  have h0 : b ≠ 0 := chk_some h
  have hg : (eqGuard .quo t x y (.int k a) (.int k b)).run G.P w = .ok () w := by unfold eqGuard; rfl
  have hr : (binOp .quo t (.int k a) (.int k b)).run G.P w = .ok (.int k (k.wrap (a.tdiv b))) w := by
    simp [binOp, Op.intDiv, h0]
  simp only [execOp, ho, hf.ev hx, hf.ev hy, Sem.run_bind, hg, Result.andThen_ok, hr, Sem.run_pure]
end
end Go.Tw

set_option linter.unusedVariables false
set_option linter.unusedSimpArgs false
namespace Go.Tw
open Go Go.Deep

/-! ### what comes in -/
def Im.okW (w : World) (f : Im) : Prop := f.ok (fun b => b < w.heap.size) w
/-- whatever reads as data of type t is a value of ty -/
def Opn {α : Type} (P : Program) (t : TypeId) (ty : Ty α) (wf : α → Prop) : Prop :=
  ∀ {H : Type} (enc : TypeId × Value → H) (w : World) (sp : Nat → Bool) (hd : Bool) (fuel : Nat) (cs : List Value) (x : DataW H × List MemPlace), DataW.trod enc P w 0 sp hd fuel t cs = some x → ∃ y h, cs = ty.cs y h ∧ wf y ∧ ∀ f ∈ ty.im y h, f.okW w
variable {P : Program} {α β : Type}
theorem Opn.int {t : TypeId} {k : IntKind} (ht : P.underlying t = some (.int k)) : Opn P t (Ty.int k) (inK k) := by
  intro H enc w sp hd fuel cs x h
  obtain ⟨n, rfl, _, hw⟩ := DataW.trod_int ht h
  simp only [Lit.wf, Bool.and_eq_true, decide_eq_true_eq] at hw
  exact ⟨n, (), rfl, hw, fun f hf => by cases hf⟩
theorem Opn.bool {t : TypeId} (ht : P.underlying t = some .bool) : Opn P t Ty.bool (fun _ => True) := by
  intro H enc w sp hd fuel cs x h
  obtain ⟨b, rfl, _⟩ := DataW.trod_bool ht h
  exact ⟨b, (), rfl, trivial, fun f hf => by cases hf⟩
theorem Opn.str {t : TypeId} (ht : P.underlying t = some .string) : Opn P t Ty.str (fun s => s.size ≤ maxLen) := by
  intro H enc w sp hd fuel cs x h
  obtain ⟨s, rfl, _, hs⟩ := DataW.trod_string ht h
  exact ⟨s, (), rfl, hs, fun f hf => by cases hf⟩
theorem els_of {ty : Ty α} {wf : α → Prop} {A : Blks} {w : World} {a : Addr} : ∀ n : Nat, (∀ i, i < n → ∃ y h, (∀ j u, (ty.cs y h)[j]? = some u → w.cell? (a.add (i * ty.sz + j)) = some u) ∧ wf y ∧ ∀ f ∈ ty.im y h, f.ok A w) →
    ∃ xs cs, xs.length = n ∧ Els ty A w xs cs ∧ (∀ j u, cs[j]? = some u → w.cell? (a.add j) = some u) ∧ ∀ x ∈ xs, wf x
  | 0, _ => ⟨[], [], rfl, .nil, by simp, by simp⟩
  | n + 1, h => by
    obtain ⟨xs, cs, hl, he, hc, hw⟩ := els_of n fun i hi => h i (Nat.lt_succ_of_lt hi)
    obtain ⟨y, hd, h1, h2, h3⟩ := h n (Nat.lt_succ_self n)
    refine ⟨xs ++ [y], cs ++ (ty.cs y hd ++ []), by simp [hl], he.app (.cons hd h3 .nil), ?_, ?_⟩
    · intro j u hu
      rw [List.append_nil] at hu
      have hlen := he.len
      rw [hl] at hlen
      by_cases hj : j < cs.length
      · rw [List.getElem?_append_left hj] at hu
        exact hc j u hu
      · rw [List.getElem?_append_right (by omega)] at hu
        have := h1 (j - cs.length) u hu
        rw [hlen] at this hj
        rwa [show n * ty.sz + (j - n * ty.sz) = j by omega] at this
    · intro x hx
      rcases List.mem_append.1 hx with hx | hx
      · exact hw x hx
      · rw [List.mem_singleton.1 hx]; exact h2
theorem Opn.slice {t e : TypeId} {ty : Ty α} {wf : α → Prop} (ht : P.underlying t = some (.slice e)) (he : Opn P e ty wf) (hsz : P.cellsOf e = ty.sz) (hpos : 0 < ty.sz) : Opn P t (Ty.slice ty) (fun xs => ∀ x ∈ xs, wf x) := by
  intro H enc w sp hd fuel cs x h
  rcases open_slice ht h with ⟨rfl, _⟩ | ⟨a, len, cap, m, n, D, Pl, rfl, hb, hl, hm, hmm, _, hx⟩
  · exact ⟨[], (none, 0), rfl, by simp, fun f hf => by rw [List.mem_singleton.1 hf]; exact Im.sl_nil _ _⟩
  · have hlm : len ≤ m := by rw [hmm]; split <;> omega
    obtain ⟨xs, cs, h1, h2, h3, h4⟩ := els_of (ty := ty) (wf := wf) (A := fun b => b < w.heap.size) (w := w) (a := a) len fun i hi => by
      obtain ⟨cs', h5, h6⟩ := hx i (Nat.lt_of_lt_of_le hi hlm)
      obtain ⟨y, hh, rfl, hw, hf⟩ := he enc w sp hd n cs' _ h6
      refine ⟨y, hh, fun j u hu => ?_, hw, hf⟩
      obtain ⟨_, hlen, hc⟩ := World.cells?_some h5
      have hj : j < P.cellsOf e := by rw [← hlen]; exact (List.getElem?_eq_some_iff.1 hu).1
      rw [← hsz, ← add_add, hc j hj]
      exact hu
    refine ⟨xs, (some a, cap), by rw [← h1]; rfl, h4, fun f hf => ?_⟩
    rw [List.mem_singleton.1 hf]
    refine ⟨by rw [h1]; exact hl, ?_⟩
    cases hxs : xs with
    | nil => exact .inl rfl
    | cons x0 xr =>
      right
      have hcl := h2.len
      have hpos2 : 0 < cs.length := by
        rw [hcl, hxs, List.length_cons]
        exact Nat.mul_pos (Nat.succ_pos _) hpos
      have hc0 := h3 0 cs[0] (by simp [hpos2])
      have ha0 : a.add 0 = a := by simp [Addr.add]
      rw [ha0] at hc0
      have hsp : a.spot = none ∧ a.block < w.heap.size := by
        unfold World.cell? at hc0
        split at hc0
        · rename_i hh
          have hlt := (Array.getElem?_eq_some_iff.1 hh).1
          split at hc0
          · cases hc0
          · rename_i hs
            refine ⟨?_, hlt⟩
            cases hsp : a.spot with
            | none => rfl
            | some _ => rw [hsp] at hs; simp at hs
        · cases hc0
      obtain ⟨b, o, s⟩ := a
      obtain ⟨rfl, hlt⟩ := hsp
      refine ⟨b, o, cs, rfl, hlt, by rw [← hxs]; exact h2, fun j u hu => ?_⟩
      have := h3 j u hu
      rwa [add_lit] at this
/-- fields, one behind the other from cell o on -/
inductive OpnF (P : Program) : Nat → List (Nat × Nat) → {α : Type} → Ty α → (α → Prop) → Prop where
  | nil {o} : OpnF P o [] (⟨0, Unit, fun _ _ => [], fun _ _ => [], fun _ _ => rfl, by simp⟩ : Ty Unit) (fun _ => True)
  | cons {α β : Type} {o t r} {ta : Ty α} {tb : Ty β} {wa : α → Prop} {wb : β → Prop} (ha : Opn P t ta wa) (hsz : P.cellsOf t = ta.sz) (hr : OpnF P (o + ta.sz) r tb wb) : OpnF P o ((t, o) :: r) (Ty.pair ta tb) (fun y => wa y.1 ∧ wb y.2)
theorem OpnF.open {H : Type} {enc : TypeId × Value → H} {w : World} {sp : Nat → Bool} {hd : Bool} {n : Nat} {cs : List Value} {o : Nat} {fs : List (Nat × Nat)} {ty : Ty α} {wf : α → Prop} (h : OpnF P o fs ty wf) (hc : cs.length = o + ty.sz) (hx : ∀ f ∈ fs, ∃ x, DataW.trod enc P w 0 sp hd n f.1 ((cs.drop f.2).take (P.cellsOf f.1)) = some x) : ∃ y h, cs.drop o = ty.cs y h ∧ wf y ∧ ∀ f ∈ ty.im y h, f.okW w := by
  induction h with
  | nil => exact ⟨(), (), List.drop_of_length_le (Nat.le_of_eq hc), trivial, fun f hf => by cases hf⟩
  | @cons α β o t r ta tb wa wb ha hsz hr ih =>
    obtain ⟨x, hx0⟩ := hx (t, o) (by simp)
    obtain ⟨y, hy, e, hw, hf⟩ := ha enc w sp hd n _ x hx0
    have hc' : cs.length = o + ta.sz + tb.sz := by rw [hc]; show o + (ta.sz + tb.sz) = _; omega
    obtain ⟨z, hz, e2, hw2, hf2⟩ := ih hc' fun f hf => hx f (by simp [hf])
    refine ⟨(y, z), (hy, hz), ?_, ⟨hw, hw2⟩, fun f hf' => ?_⟩
    · show _ = ta.cs y hy ++ tb.cs z hz
      rw [← e, ← e2, hsz, ← List.drop_drop]
      exact (List.take_append_drop _ _).symm
    · rcases List.mem_append.1 hf' with h | h
      · exact hf f h
      · exact hf2 f h
def structb (P : Program) (t : TypeId) (fs : List (Nat × Nat)) : Bool := match P.underlying t with
  | some (.struct a) => fsb fs a.toList
  | _ => false
theorem structb_ok {t : TypeId} {fs : List (Nat × Nat)} (h : structb P t fs = true) : ∃ fa, P.underlying t = some (.struct fa) ∧ fsb fs fa.toList = true := by
  unfold structb at h
  split at h
  · rename_i a ha; exact ⟨a, ha, h⟩
  · cases h
theorem Opn.struct {t : TypeId} {fs : List (Nat × Nat)} {ty : Ty α} {wf : α → Prop} (hst : structb P t fs = true) (hsz : P.cellsOf t = ty.sz) (h : OpnF P 0 fs ty wf) : Opn P t ty wf := by
  obtain ⟨fa, ht, hfs⟩ := structb_ok hst
  intro H enc w sp hd fuel cs x hx
  obtain ⟨xs, n, rfl, _, hlen, hxl, hfx⟩ := DataW.trod_struct ht hx
  have he := fsb_eq hfs
  obtain ⟨y, hh, e, hw, hf⟩ := h.open (enc := enc) (w := w) (sp := sp) (hd := hd) (n := n) (cs := cs) (by rw [hlen, hsz, Nat.zero_add]) fun f hf => by
    rw [← he] at hf
    obtain ⟨f0, hf0, rfl⟩ := List.mem_map.1 hf
    obtain ⟨i, hi⟩ := List.getElem?_of_mem hf0
    have hi' : fa[i]? = some f0 := by simpa using hi
    have h1 := hfx i f0 hi'
    have hlt : i < xs.length := by rw [hxl]; exact (Array.getElem?_eq_some_iff.1 hi').1
    exact ⟨xs[i], by rw [h1]; simp [hlt]⟩
  exact ⟨y, hh, e, hw, hf⟩
/-- the same cells, another name -/
theorem Opn.to {t : TypeId} {ty : Ty α} {ty' : Ty β} {wf : α → Prop} {wf' : β → Prop} (g : α → β) (gh : ty.Hid → ty'.Hid) (h : Opn P t ty wf) (h1 : ∀ y hh, ty'.cs (g y) (gh hh) = ty.cs y hh) (h2 : ∀ y hh, ty'.im (g y) (gh hh) = ty.im y hh) (h3 : ∀ y, wf y → wf' (g y)) : Opn P t ty' wf' := by
  intro H enc w sp hd fuel cs x hx
  obtain ⟨y, hh, e, hw, hf⟩ := h enc w sp hd fuel cs x hx
  exact ⟨g y, gh hh, by rw [h1]; exact e, h3 y hw, by rw [h2]; exact hf⟩

/-! ### tables -/
/-- data's cells -/
def unlay {H : Type} : Nat → DataW H → List Value
  | _, .lit (.int k n) => [.int k n]
  | _, .lit (.bool b) => [.bool b]
  | d + 1, .agg l => l.flatMap (unlay d)
  | _, _ => []
def flatF (P : Program) (f : TypeId → Bool) : Nat → List (Nat × Nat) → Nat → Bool
  | o, [], m => Nat.beq o m
  | o, (t, o') :: r, m => Nat.beq o o' && f t && flatF P f (o + P.cellsOf t) r m
/-- whole numbers and bools, one behind the other -/
def flatb (P : Program) : Nat → TypeId → Bool
  | 0, _ => false
  | d + 1, t => match P.underlying t with
    | some (.int _) => true
    | some .bool => true
    | some (.struct fa) => flatF P (flatb P d) 0 (fa.toList.map fun f => (f.type, f.offset)) (P.cellsOf t)
    | some (.array n e) => Nat.beq (P.cellsOf t) (n * P.cellsOf e) && flatb P d e
    | _ => false
theorem rows_eq {γ : Type} {sz : Nat} {f : Nat → List γ} : ∀ {n : Nat} {cs : List γ}, cs.length = n * sz → (∀ i, i < n → (cs.drop (i * sz)).take sz = f i) → cs = (List.range n).flatMap f
  | 0, cs, hl, _ => by
    have : cs = [] := List.eq_nil_of_length_eq_zero (by simpa using hl)
    simp [this]
  | n + 1, cs, hl, h => by
    have h1 := rows_eq (sz := sz) (n := n) (cs := cs.take (n * sz)) (f := f) (by rw [List.length_take, hl, Nat.succ_mul]; omega) fun i hi => by
      rw [← h i (Nat.lt_succ_of_lt hi)]
      have hle : (i + 1) * sz ≤ n * sz := Nat.mul_le_mul_right sz hi
      rw [Nat.succ_mul] at hle
      rw [List.drop_take, List.take_take]
      congr 1
      omega
    have h2 := h n (Nat.lt_succ_self n)
    rw [List.range_succ, List.flatMap_append, ← h1]
    have h3 : (cs.drop (n * sz)).take sz = cs.drop (n * sz) := List.take_of_length_le (by rw [List.length_drop, hl, Nat.succ_mul]; omega)
    rw [h3] at h2
    simp only [List.flatMap_cons, List.flatMap_nil, List.append_nil, ← h2]
    exact (List.take_append_drop _ _).symm
theorem flatF_cells {H : Type} {enc : TypeId × Value → H} {w : World} {sp : Nat → Bool} {hd : Bool} {f : TypeId → Bool} {g : DataW H → List Value} (hf : ∀ t, f t = true → ∀ {fuel : Nat} {cs : List Value} {x : DataW H × List MemPlace}, DataW.trod enc P w 0 sp hd fuel t cs = some x → cs = g x.1) : ∀ {fs : List (Nat × Nat)} {o m : Nat}, flatF P f o fs m = true → ∀ {n : Nat} {cs : List Value} {xs : List (DataW H × List MemPlace)}, cs.length = m → (∀ (i : Nat) (f : Nat × Nat), fs[i]? = some f → DataW.trod enc P w 0 sp hd n f.1 ((cs.drop f.2).take (P.cellsOf f.1)) = xs[i]?) → xs.length = fs.length → cs.drop o = xs.flatMap fun x => g x.1
  | [], o, m, hb, n, cs, xs, hl, _, hx => by
    have : xs = [] := List.eq_nil_of_length_eq_zero hx
    subst this
    have := Nat.eq_of_beq_eq_true hb
    exact List.drop_of_length_le (by omega)
  | (t, o') :: r, o, m, hb, n, cs, xs, hl, h, hx => by
    simp only [flatF, Bool.and_eq_true] at hb
    obtain rfl := Nat.eq_of_beq_eq_true hb.1.1
    cases xs with
    | nil => simp at hx
    | cons x xs =>
      have h0 := h 0 (t, o) rfl
      have e0 := hf t hb.1.2 h0
      have e1 := flatF_cells hf hb.2 (n := n) (cs := cs) (xs := xs) hl (fun i f hi => h (i + 1) f hi) (by simpa using hx)
      rw [List.flatMap_cons, ← e0, ← e1, ← List.drop_drop]
      exact (List.take_append_drop _ _).symm
theorem flat_cells {H : Type} {enc : TypeId × Value → H} {w : World} {sp : Nat → Bool} {hd : Bool} : ∀ {d : Nat} {t : TypeId}, flatb P d t = true → ∀ {fuel : Nat} {cs : List Value} {x : DataW H × List MemPlace}, DataW.trod enc P w 0 sp hd fuel t cs = some x → cs = unlay d x.1
  | 0, t, hb, fuel, cs, x, h => by cases hb
  | d + 1, t, hb, fuel, cs, x, h => by
    unfold flatb at hb
    split at hb
    · rename_i ht
      obtain ⟨n, rfl, rfl, _⟩ := DataW.trod_int ht h
      rfl
    · rename_i ht
      obtain ⟨b, rfl, rfl⟩ := DataW.trod_bool ht h
      rfl
    · rename_i fa ht
      obtain ⟨xs, n, rfl, rfl, hlen, hxl, hfx⟩ := DataW.trod_struct ht h
      have key := flatF_cells (g := unlay d) (fun t ht => flat_cells ht) hb (enc := enc) (w := w) (sp := sp) (hd := hd) (n := n) (cs := cs) (xs := xs) hlen (fun i f hi => by
        rw [List.getElem?_map] at hi
        cases hfa : fa[i]? with
        | none => simp [hfa] at hi
        | some f0 =>
          simp [hfa] at hi
          subst hi
          exact hfx i f0 hfa) (by rw [hxl, List.length_map, Array.length_toList])
      show cs = (xs.map (·.1)).flatMap (unlay d)
      rw [List.flatMap_map]
      simpa using key
    · rename_i m e ht
      simp only [Bool.and_eq_true] at hb
      have hc := Nat.eq_of_beq_eq_true hb.1
      obtain ⟨xs, n, rfl, rfl, hlen, hxl, hfx⟩ := DataW.trod_array ht h
      show cs = (xs.map (·.1)).flatMap (unlay d)
      rw [List.flatMap_map]
      have h1 : ∀ i, i < m → (cs.drop (i * P.cellsOf e)).take (P.cellsOf e) = ((xs[i]?).map fun x => unlay d x.1).getD [] := fun i hi => by
        have h2 := hfx i hi
        have hlt : i < xs.length := by rw [hxl]; exact hi
        rw [List.getElem?_eq_getElem hlt] at h2 ⊢
        exact flat_cells hb.2 h2
      rw [rows_eq (by rw [hlen, hc]) h1]
      clear h1 hfx
      subst hxl
      rw [flatMap_by_index xs (.nil, []) fun x => unlay d x.1]
      exact flatMap_congr_range fun i hi => by simp [List.getD, hi]
    · cases hb
/-- a table's cells -/
theorem tab_cells {w : World} {name : String} {d : DataW Unit} {laid : List (String × DataW Unit)} {ps : List MemPlace} {g : Nat} {t : TypeId} (h : DataW.LaidVars P w laid ps) (hm : (name, d) ∈ laid) (hg : P.globalNamed name = some g) (hty : (P.globals[g]?).map (·.type) = some t) {dp : Nat} (hf : flatb P dp t = true) : ∀ i, w.cell? ⟨g, i, none⟩ = (unlay dp d)[i]? := by
  induction laid generalizing ps with
  | nil => cases hm
  | cons y laid ih =>
    obtain ⟨n, d'⟩ := y
    obtain ⟨g', t', cs, fuel, p, q, hg', ht', hvar, hd, hr, _⟩ := h
    rcases List.mem_cons.1 hm with e | hm
    · injection e with e1 e2
      subst e1 e2
      obtain rfl := Option.some.inj (hg.symm.trans hg')
      obtain rfl := Option.some.inj (hty.symm.trans ht')
      have := flat_cells hf hd
      intro i
      rw [World.var?_cell hg hvar i, ← this]
      simp
    · exact ih hr hm
/-- a package's table, as a slice that never turns -/
theorem tab_sl {ty : Ty α} {w : World} {g n : Nat} {cs : List Value} {xs : List α} (h0 : ty.Hid) (hfree : ∀ x, ty.im x h0 = []) (hc : ∀ i, w.cell? ⟨g, i, none⟩ = cs[i]?) (he : cs = xs.flatMap fun x => ty.cs x h0) (hn : xs.length ≤ n) (hlt : g < w.heap.size) : (Im.sl ty (some ⟨g, 0, none⟩) n xs).okW w := by
  refine ⟨hn, .inr ⟨g, 0, cs, rfl, hlt, ?_, fun j u hu => by rw [Nat.zero_add, hc]; exact hu⟩⟩
  rw [he]
  clear he hc hn
  induction xs with
  | nil => exact .nil
  | cons x xs ih => exact .cons h0 (fun f hf => by rw [hfree] at hf; cases hf) ih
theorem tab_lt {w : World} {g : Nat} {cs : List Value} (hc : ∀ i, w.cell? ⟨g, i, none⟩ = cs[i]?) (hpos : 0 < cs.length) : g < w.heap.size := by
  have h := hc 0
  rw [List.getElem?_eq_getElem hpos] at h
  unfold World.cell? at h
  split at h
  · rename_i hh; exact (Array.getElem?_eq_some_iff.1 hh).1
  · cases h
/-- behind the call -/
theorem SS.below {w w' : World} {A A' : Blks} {S' : List Ch} {I' : List Im} (h : SS ⟨w, A, Own []⟩ A' S' I' w') : RowKit.Below w.heap.size w w' :=
  ⟨h.fx.os, h.fx.tape, h.fx.output, h.fx.size, fun k hk => h.fx.keep k hk fun ⟨c, hc, _⟩ => by cases hc⟩
theorem St.first {w : World} {I : List Im} (h : ∀ f ∈ I, f.okW w) : St (fun b => b < w.heap.size) [] I w :=
  ⟨fun _ h => h, (fun _ h => by cases h), (fun _ h => by cases h), List.Pairwise.nil, h⟩
end Go.Tw
namespace Go.Tw
open Go
theorem v_sl {a b : Option Addr} {n m c d : Nat} (e : (Value.slice a n c).cells.toList = [Value.slice b m d]) : a = b ∧ n = m ∧ c = d := by simpa [Value.cells] using e
end Go.Tw

set_option linter.unusedVariables false
set_option linter.unusedSimpArgs false
namespace Go.Tw
open Go
/-! ### words for the plain laws -/
theorem w64 {x : Int} (h1 : -9223372036854775808 ≤ x) (h2 : x ≤ 9223372036854775807) : IntKind.i64.wrap x = x := by rw [IntKind.wrap_i64]; omega
theorem idx_nat {α : Type} (xs : List α) (n : Nat) : idx xs (n : Int) = xs[n]? := by simp [idx]
theorem idx_mid {α : Type} (l r : List α) (x : α) : idx (l ++ x :: r) (l.length : Int) = some x := by rw [idx_nat]; simp
theorem chk_true {p : Prop} [Decidable p] (h : p) : chk (decide p) = some () := by simp [chk, h]
theorem apok_true {n m b : Nat} (h : (n + m) * b ≤ 140737488355328) : chk (apok n m b) = some () := chk_true h
theorem cutok_true {lo hi n : Int} (h0 : 0 ≤ lo) (h1 : lo ≤ hi) (h2 : hi ≤ n) : chk (cutok lo hi n) = some () := chk_true ⟨h0, h1, h2⟩
theorem mkok_true {k : Int} {b : Nat} (h0 : 0 ≤ k) (h1 : k * b ≤ 140737488355328) (h2 : k ≤ 140737488355328) : chk (mkok k b) = some () := chk_true ⟨h0, h1, h2⟩
theorem bnd_some {α β : Type _} (x : α) (f : α → Option β) : Option.bind (some x) f = f x := rfl
end Go.Tw

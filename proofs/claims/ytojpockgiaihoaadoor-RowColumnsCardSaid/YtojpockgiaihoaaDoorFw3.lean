import Derived.Test.YtojpockgiaihoaaDoorFw2
import Derived.Laws.CopyRow
set_option linter.unusedVariables false
set_option linter.unusedSimpArgs false
namespace Go.Tw
open Go

/-! ### choosing out of lists -/
def ext {α : Type _} : List α → List Nat → Option (List α × List α)
  | l, [] => some ([], l)
  | l, i :: r => match l[i]? with
    | some a => match ext (l.eraseIdx i) r with
      | some (p, q) => some (a :: p, q)
      | none => none
    | none => none
def pick {α : Type _} (l : List α) : List Nat → Option (List α)
  | [] => some []
  | i :: r => match l[i]?, pick l r with
    | some a, some b => some (a :: b)
    | _, _ => none
theorem erase_perm {α : Type _} : ∀ {l : List α} {i : Nat} {a : α}, l[i]? = some a → (a :: l.eraseIdx i).Perm l
  | [], i, a, h => by simp at h
  | b :: l, 0, a, h => by
    simp at h
    subst h
    exact List.Perm.refl _
  | b :: l, i + 1, a, h => by
    simp at h
    simp only [List.eraseIdx_cons_succ]
    exact (List.Perm.swap b a _).trans (List.Perm.cons b (erase_perm h))
theorem ext_perm {α : Type _} : ∀ {is : List Nat} {l p q : List α}, ext l is = some (p, q) → (p ++ q).Perm l
  | [], l, p, q, h => by
    simp only [ext, Option.some.injEq, Prod.mk.injEq] at h
    obtain ⟨rfl, rfl⟩ := h
    exact List.Perm.refl _
  | i :: is, l, p, q, h => by
    simp only [ext] at h
    split at h
    · rename_i a ha
      split at h
      · rename_i p' q' hr
        simp only [Option.some.injEq, Prod.mk.injEq] at h
        obtain ⟨rfl, rfl⟩ := h
        exact (List.Perm.cons a (ext_perm hr)).trans (erase_perm ha)
      · cases h
    · cases h
theorem pick_mem {α : Type _} {l : List α} : ∀ {is : List Nat} {p : List α}, pick l is = some p → ∀ x ∈ p, x ∈ l
  | [], p, h, x, hx => by
    simp only [pick, Option.some.injEq] at h
    subst h
    cases hx
  | i :: is, p, h, x, hx => by
    simp only [pick] at h
    split at h
    · rename_i a b ha hb
      injection h with h
      subst h
      rcases List.mem_cons.1 hx with rfl | hx
      · exact List.mem_of_getElem? ha
      · exact pick_mem hb x hx
    · cases h

/-! ### what operations do to the state -/
theorem SS.fresh {A : Blks} {w w' : World} (hlt : ∀ b, A b → b < w.heap.size) {o : Obj} (hh : w'.heap = w.heap.push o) (ho : w'.os = w.os) (ht : w'.tape = w.tape) (hu : w'.output = w.output) (c : Ch) (hb : c.blk = some w.heap.size) (hc : c.ok A w') : SS ⟨w, A, Own []⟩ A [c] [] w' := by
  have hs : w'.heap.size = w.heap.size + 1 := by rw [hh]; simp
  refine ⟨⟨fun b h => by have := hlt b h; omega, ?_, ?_, List.pairwise_singleton _ _, fun i hi => by cases hi⟩, ⟨ho, ht, hu, by show w.heap.size ≤ _; omega, ?_, fun _ h => h, fun _ h => .inl h, ?_⟩⟩
  · intro d hd
    rw [List.mem_singleton.1 hd]
    exact hc
  · intro d hd b hb2
    rw [List.mem_singleton.1 hd, hb] at hb2
    injection hb2 with hb2
    subst hb2
    exact ⟨by omega, fun h => Nat.lt_irrefl _ (hlt _ h)⟩
  · intro b hb2 _
    rw [hh]
    exact Array.getElem?_push_lt hb2 |>.trans (Array.getElem?_eq_getElem hb2).symm
  · rintro b ⟨d, hd, hb2⟩
    rw [List.mem_singleton.1 hd, hb] at hb2
    injection hb2 with hb2
    exact .inr (by show w.heap.size ≤ b; omega)
theorem SS.grown {A : Blks} {w w' : World} {c c' : Ch} {J : List Im} (hs : St A [c] J w) (hg : w.grownBy w' c.blk) (hb : ∀ b, c'.blk = some b → (c.blk = some b ∨ w.heap.size ≤ b) ∧ b < w'.heap.size) (hc : c'.ok A w') : SS ⟨w, A, Own [c]⟩ A [c'] [] w' := by
  have hown := hs.own c (List.mem_singleton.2 rfl)
  refine ⟨⟨fun b h => Nat.lt_of_lt_of_le (hs.lt b h) hg.size, ?_, ?_, List.pairwise_singleton _ _, fun i hi => by cases hi⟩, ⟨hg.os, hg.tape, hg.output, hg.size, ?_, fun _ h => h, fun _ h => .inl h, ?_⟩⟩
  · intro d hd
    rw [List.mem_singleton.1 hd]
    exact hc
  · intro d hd b hb2
    rw [List.mem_singleton.1 hd] at hb2
    have h := hb b hb2
    refine ⟨h.2, fun hA => ?_⟩
    rcases h.1 with h1 | h1
    · exact (hown b h1).2 hA
    · have := hs.lt b hA; omega
  · intro b hb2 hO
    exact hg.block b hb2 (fun e => hO ⟨c, List.mem_singleton.2 rfl, e.symm⟩)
  · rintro b ⟨d, hd, hb2⟩
    rw [List.mem_singleton.1 hd] at hb2
    rcases (hb b hb2).1 with h1 | h1
    · exact .inl ⟨c, List.mem_singleton.2 rfl, h1⟩
    · exact .inr h1
theorem SS.frz {K : Key} {A : Blks} {c : Ch} {R : List Ch} {I : List Im} {w : World} {f : Im} (h : SS K A (c :: R) I w) (hf : ∀ A w, c.ok A w → f.ok (fun b => A b ∨ c.blk = some b) w) : SS K (fun b => A b ∨ c.blk = some b) R (f :: I) w := by
  have hd := List.pairwise_cons.1 h.st.dis
  have hc := h.st.own c (by simp)
  refine ⟨⟨?_, fun d hd' => d.st (fun _ h => .inl h) (fun _ _ => rfl) (fun _ _ => rfl) (h.st.ch d (by simp [hd'])), ?_, hd.2, ?_⟩, ⟨h.fx.os, h.fx.tape, h.fx.output, h.fx.size, h.fx.keep, fun b hb => .inl (h.fx.up b hb), ?_, fun b ⟨d, hd', e⟩ => h.fx.own b ⟨d, by simp [hd'], e⟩⟩⟩
  · rintro b (hb | hb)
    · exact h.st.lt b hb
    · exact (hc b hb).1
  · intro d hd' b hb
    have h1 := h.st.own d (by simp [hd']) b hb
    refine ⟨h1.1, ?_⟩
    rintro (hA | hA)
    · exact h1.2 hA
    · exact hd.1 d hd' b hA hb
  · intro i hi
    rcases List.mem_cons.1 hi with rfl | hi
    · exact hf A w (h.st.ch c (by simp))
    · exact i.st (fun _ h => .inl h) (fun _ _ => rfl) (h.st.im i hi)
  · rintro b (hb | hb)
    · exact h.fx.dn b hb
    · exact .inr (h.fx.own b ⟨c, by simp, hb⟩)

/-! ### variables in memory -/
def Ch.box (g T : Nat) (vs : List Value) : Ch where
  blk := some g
  ok := fun _ w => w.heap[g]? = some (.cells vs.toArray T (0, 0))
  st := fun _ _ hb h => (hb g rfl).trans h
def loadv (τ : Tab) (t : Nat) (cs : List Value) (o : Nat) : Option Value :=
  match tlook τ t with
  | some i => match i.agg with
    | true => match Nat.ble (o + i.size) cs.length with
      | true => some (.agg ((cs.drop o).take i.size).toArray)
      | false => none
    | false => cs[o]?
  | none => none
theorem add_lit (g o j : Nat) : (⟨g, o, none⟩ : Addr).add j = ⟨g, o + j, none⟩ := by unfold Addr.add; split <;> simp_all
theorem run_loadVar {P : Program} {τ : Tab} (hτ : TabOk P τ) {t g o : Nat} {cs : List Value} {v : Value} {w : World} (hv : loadv τ t cs 0 = some v) (hc : ∀ j u, cs[j]? = some u → w.cell? ⟨g, o + j, none⟩ = some u) : (loadVar t ⟨g, o, none⟩).run P w = .ok v w := by
  unfold loadv at hv
  split at hv
  · rename_i i hi
    simp only [loadVar, Sem.run_bind, run_isAgg hτ hi, Result.andThen_ok]
    cases ha : i.agg with
    | true =>
      rw [ha] at hv
      simp only at hv
      split at hv
      · rename_i hle
        have hle := Nat.le_of_ble_eq_true hle
        injection hv with hv
        subst hv
        simp only [if_true, Sem.run_bind, run_sizeOf hτ hi, Result.andThen_ok]
        have h1 : (cs.take i.size).length = i.size := by simp at hle ⊢; omega
        have h2 := run_loadCells_list (P := P) w ⟨g, o, none⟩ (cs.take i.size) (fun j u hu => by
          rw [add_lit]
          refine hc j u ?_
          rw [List.getElem?_take] at hu
          split at hu
          · exact hu
          · cases hu)
        rw [h1] at h2
        rw [h2]
        simp
      · cases hv
    | false =>
      rw [ha] at hv
      simp only [Bool.false_eq_true, if_false]
      have := hc 0 v hv
      rw [Nat.add_zero] at this
      simp [load, Sem.run, this]
  · cases hv
theorem run_storeVar {P : Program} {τ : Tab} (hτ : TabOk P τ) {t g o T : Nat} {v : Value} {i : TI} {cur : List Value} {w : World} (hi : tlook τ t = some i) (hl : (vc v).length = i.size) (h1 : (vc v).all Value.oneCell' = true) (hg : w.heap[g]? = some (.cells cur.toArray T (0, 0))) (hfit : o + (vc v).length ≤ cur.length) : (storeVar t ⟨g, o, none⟩ v).run P w = .ok () (w.setRow g (cur.take o ++ vc v ++ cur.drop (o + (vc v).length)).toArray) := by
  have hs := run_storeCells_at P g o T (vc v) 0 cur.toArray w hg (by simpa using hfit) (fun u hu => List.all_eq_true.1 h1 u hu)
  have hl' : v.cells.size = i.size := by simpa [vc] using hl
  simp only [storeVar, Sem.run_bind, run_sizeOf hτ hi, Result.andThen_ok, hl', ne_eq, not_true_eq_false, if_false]
  simpa [vc] using hs
theorem cell_box {w : World} {g T : Nat} {cs : List Value} (h : w.heap[g]? = some (.cells cs.toArray T (0, 0))) (o : Nat) : w.cell? ⟨g, o, none⟩ = cs[o]? := by
  rw [cell_of_row w g o _ T (0, 0) h]
  simp
section
variable {G : Pg} {n : Nat} {K : Key} {Q : Exit → Act → World → Prop} {m : Env} {S : List Ch} {I : List Im} {ops : Array Oper} {o : Oper} {l : List Oper}
def nxv : Option Value → Value
  | some v => v
  | none => undef
def nx : Option Value → Next
  | some v => .value v
  | none => .skip

/-! ### operations: what they yield, what they do -/
/-- it yields v, in every world in which these hold, and does nothing else -/
def Yl (G : Pg) (n : Nat) (m : Env) (C : List Ch) (I : List Im) (o : Oper) (v : Value) : Prop := ∀ A a w, Fr n m a → (∀ c ∈ C, c.ok A w) → (∀ f ∈ I, f.ok A w) → (execOp a.eval o).run G.P w = .ok (.value v) w
/-- it takes Sp and gives S' -/
def Ac (G : Pg) (n : Nat) (m : Env) (o : Oper) (Sp : List Ch) (J : List Im) {σ : Type} (v : σ → Value) (S' : σ → List Ch) (I' : σ → List Im) : Prop :=
  ∀ A a w (Kc : Act → World → Prop) (Q : Exit → Act → World → Prop), Fr n m a → St A Sp J w → (∀ x w' A', SS ⟨w, A, Own Sp⟩ A' (S' x) (I' x) w' → Kc (a.put o.dst (v x)) w') → o.wp G.P a w Kc Q
theorem Ac.run {Sp : List Ch} {J : List Im} {σ : Type} {v : σ → Option Value} {S' : σ → List Ch} {I' : σ → List Im} (h : ∀ A a w, Fr n m a → St A Sp J w → ∃ x w' A', (execOp a.eval o).run G.P w = .ok (nx (v x)) w' ∧ SS ⟨w, A, Own Sp⟩ A' (S' x) (I' x) w') : Ac G n m o Sp J (fun x => nxv (v x)) S' I' := by
  intro A a w Kc Q hf hs hk
  obtain ⟨x, w', A', hr, h2⟩ := h A a w hf hs
  have h3 := hk x w' A' h2
  unfold Oper.wp
  rw [hr]
  cases hv : v x with
  | some u => simp only [hv, nxv] at h3; exact h3
  | none => simp only [hv, nxv] at h3; exact h3
theorem L.y {d : Nat} {v : Value} (hy : Yl G n m S I o v) (hw : wg ops.toList m o = some true) (hd : o.dst = some d) (hn : Nat.blt d n = true) (h : L G n K ops Q l ((d, v) :: m) S I) : L G n K ops Q (o :: l) m S I := by
  intro A a w hf hs
  unfold wpList
  rw [if_pos (wg_ok hw hf)]
  left
  unfold Oper.wp
  rw [hy A a w hf hs.st.ch hs.st.im, Oper.upon_value, hd]
  exact h A _ w (hf.put v (blt_lt hn)) hs
/-- not wanted -/
theorem L.sk {d : Option Nat} (hw : wg ops.toList m o = some false) (hd : o.dst = d) (hn : dok d n = true) (h : L G n K ops Q l (putm d undef m) S I) : L G n K ops Q (o :: l) m S I := by
  intro A a w hf hs
  unfold wpList
  rw [if_neg (by rw [wg_ok hw hf]; decide), hd]
  exact h A _ w (hf.putd hn undef) hs
theorem L.a (is js : List Nat) {d : Option Nat} {Sp R : List Ch} {J : List Im} {σ : Type} {v : σ → Value} {S' : σ → List Ch} {I' : σ → List Im} (hA : Ac G n m o Sp J v S' I') (hw : wg ops.toList m o = some true) (hd : o.dst = d) (hn : dok d n = true) (hS : ext S is = some (Sp, R)) (hJ : pick I js = some J)
    (h : ∀ x, L G n K ops Q l (putm d (v x) m) (S' x ++ R) (I' x ++ I)) : L G n K ops Q (o :: l) m S I := by
  intro A a w hf hs
  unfold wpList
  rw [if_pos (wg_ok hw hf)]
  left
  have hs' := hs.perm (ext_perm hS) (fun i hi => hi)
  refine hA A a w _ Q hf (hs'.st.left (pick_mem hJ)) fun x w' A' h2 => ?_
  rw [hd]
  exact h x A' _ w' (hf.putd hn _) (hs'.frame h2)
/-- a Bool that is not known: both -/
theorem L.cs (j : Nat) {ρ : Type} {g h : Option ρ} {r : ρ} {b : Bool} (H : (bif b then g else h) = some r) (hj : look m j = some (.bool b)) (ht : b = true → g = some r → L G n K ops Q l ((j, .bool true) :: m) S I) (hf : b = false → h = some r → L G n K ops Q l ((j, .bool false) :: m) S I) : L G n K ops Q l m S I := by
  intro A a w hfr hs
  have key : ∀ c, look m j = some (.bool c) → Fr n ((j, .bool c) :: m) a := fun c hc => hfr.sub fun i v hi => by
    simp only [look] at hi
    split at hi
    · rename_i hb
      rw [← Nat.eq_of_beq_eq_true hb, hc]
      exact hi
    · exact hi
  cases b with
  | true => exact ht rfl H A a w (key _ hj) hs
  | false => exact hf rfl H A a w (key _ hj) hs
/-! ### variables -/
theorem Yl.q {v : Value} (h : qx G.τ m o.op = some v) : Yl G n m S I o v := fun A a w hf _ _ => qx_ok G.ok hf h w
/-- a variable's (field's) value -/
theorem Yl.ldb (i : Nat) {t g o' T : Nat} {x : Operand} {cs : List Value} {v : Value} (ho : o.op = .load t x) (hx : ev m x = some (.pointer (some ⟨g, o', none⟩))) (hS : S[i]? = some (Ch.box g T cs)) (hv : loadv G.τ t (cs.drop o') 0 = some v) : Yl G n m S I o v := fun A a w hf hs _ => by
  have hb : w.heap[g]? = some (.cells cs.toArray T (0, 0)) := hs _ (List.mem_of_getElem? hS)
  simp only [execOp, ho, hf.ev hx, Instr.loadAt, Instr.sureAddr, Sem.run_bind, Sem.run_pure, Result.andThen_ok]
  rw [run_loadVar G.ok hv (fun j u hu => by rw [cell_box hb]; simpa using hu)]
  rfl
/-- some cells, others -/
def wr : List Value → Nat → List Value → Option (List Value)
  | cs, 0, [] => some cs
  | _ :: cs, 0, v :: vs => match wr cs 0 vs with
    | some r => some (v :: r)
    | none => none
  | c :: cs, o + 1, vs => match wr cs o vs with
    | some r => some (c :: r)
    | none => none
  | [], _, _ => none
theorem wr_ok : ∀ {cs : List Value} {o : Nat} {vs r : List Value}, wr cs o vs = some r → o + vs.length ≤ cs.length ∧ r = cs.take o ++ vs ++ cs.drop (o + vs.length)
  | [], 0, [], r, h => by simp [wr] at h; simp [h]
  | [], 0, v :: vs, r, h => by simp [wr] at h
  | [], o + 1, vs, r, h => by simp [wr] at h
  | c :: cs, 0, [], r, h => by simp [wr] at h; simp [h]
  | c :: cs, 0, v :: vs, r, h => by
    simp only [wr] at h
    cases hw : wr cs 0 vs with
    | none => rw [hw] at h; cases h
    | some r' =>
      rw [hw] at h
      injection h with h
      subst h
      obtain ⟨h1, h2⟩ := wr_ok hw
      simp at h1 h2 ⊢
      exact ⟨by omega, h2⟩
  | c :: cs, o + 1, vs, r, h => by
    simp only [wr] at h
    cases hw : wr cs o vs with
    | none => rw [hw] at h; cases h
    | some r' =>
      rw [hw] at h
      injection h with h
      subst h
      obtain ⟨h1, h2⟩ := wr_ok hw
      have e : o + 1 + vs.length = (o + vs.length) + 1 := by omega
      simp [e, h2]
      omega
theorem Ac.stb {t g o' T : Nat} {x y : Operand} {cs cs' : List Value} {v : Value} {ti : TI} (ho : o.op = .store t x y) (hx : ev m x = some (.pointer (some ⟨g, o', none⟩))) (hy : ev m y = some v) (hi : tlook G.τ t = some ti) (hc : (Nat.beq (vc v).length ti.size && (vc v).all Value.oneCell') = true) (hr0 : wr cs o' (vc v) = some cs') :
    Ac G n m o [Ch.box g T cs] [] (fun _ : Unit => undef) (fun _ => [Ch.box g T cs']) (fun _ => []) := by
  simp only [Bool.and_eq_true] at hc
  obtain ⟨h1, h2⟩ := hc
  obtain ⟨h3, rfl⟩ := wr_ok hr0
  refine Ac.run (v := fun _ => none) fun A a w hf hs => ?_
  have hb : w.heap[g]? = some (.cells cs.toArray T (0, 0)) := hs.ch _ (List.mem_singleton.2 rfl)
  have hr := run_storeVar G.ok (P := G.P) (o := o') (v := v) hi (Nat.eq_of_beq_eq_true h1) h2 hb h3
  have hk : w.grownBy (w.setRow g (cs.take o' ++ vc v ++ cs.drop (o' + (vc v).length)).toArray) (some g) := ⟨rfl, rfl, rfl, by rw [setRow_size]; exact Nat.le_refl _, fun k _ hk => setRow_other _ _ _ _ (fun e => hk (by rw [e]))⟩
  refine ⟨(), w.setRow g (cs.take o' ++ vc v ++ cs.drop (o' + (vc v).length)).toArray, A, ?_, SS.grown hs hk (fun b hb2 => ⟨.inl hb2, ?_⟩) (setRow_heap w g _ _ T (0, 0) hb)⟩
  · simp only [execOp, ho, hf.ev hx, hf.ev hy, Instr.storeAt, Instr.sureAddr, Sem.run_bind, Sem.run_pure, Result.andThen_ok, hr, nx]
  · rw [setRow_size]
    injection hb2 with hb2
    subst hb2
    exact (Array.getElem?_eq_some_iff.1 hb).1
theorem run_newRow {P : Program} (T : Nat) (cs : Array Value) (w : World) : (newRow T cs).run P w = .ok ⟨w.heap.size, 0, none⟩ { w with heap := w.heap.push (.cells cs T) } := by
  simp [newRow, newObj, Sem.run]
/-- a new variable, of zeros -/
theorem Ac.alloc {T : Nat} {ti : TI} (ho : o.op = .alloc T) (hi : tlook G.τ T = some ti) : Ac G n m o [] [] (fun g : Nat => .pointer (some ⟨g, 0, none⟩)) (fun g => [Ch.box g T ti.zero]) (fun _ => []) := by
  refine Ac.run (v := fun g : Nat => some (.pointer (some ⟨g, 0, none⟩))) fun A a w hf hs => ?_
  obtain ⟨dd, f, z, hdd, hf2, _, _, _, hz, hzc, _⟩ := G.ok.info hi
  refine ⟨w.heap.size, { w with heap := w.heap.push (.cells z.cells T) }, A, ?_, ?_⟩
  · simp [execOp, ho, Instr.alloc, zeroValue, typeInfo, hf2, hz, newVar, run_newRow, nx]
  · refine SS.fresh (w' := { w with heap := w.heap.push (.cells z.cells T) }) (o := .cells z.cells T) hs.lt rfl rfl rfl rfl (Ch.box w.heap.size T ti.zero) rfl ?_
    show (w.heap.push _)[w.heap.size]? = _
    rw [Array.getElem?_push_size, ← hzc]
/-- a new variable, of a value -/
theorem Ac.box {T : Nat} {x : Operand} {v : Value} (ho : o.op = .box T x) (hx : ev m x = some v) : Ac G n m o [] [] (fun g : Nat => .pointer (some ⟨g, 0, none⟩)) (fun g => [Ch.box g T (vc v)]) (fun _ => []) := by
  refine Ac.run (v := fun g : Nat => some (.pointer (some ⟨g, 0, none⟩))) fun A a w hf hs => ?_
  refine ⟨w.heap.size, { w with heap := w.heap.push (.cells v.cells T) }, A, ?_, ?_⟩
  · simp [execOp, ho, hf.ev hx, Instr.box, newVar, run_newRow, nx]
  · refine SS.fresh (w' := { w with heap := w.heap.push (.cells v.cells T) }) (o := .cells v.cells T) hs.lt rfl rfl rfl rfl (Ch.box w.heap.size T (vc v)) rfl ?_
    show (w.heap.push _)[w.heap.size]? = _
    rw [Array.getElem?_push_size]
    simp [vc]
theorem run_callFunc {P : Program} {f : FuncId} {fn : Func} (hf : P.funcs[f]? = some fn) (h1 : (fn.name == "runtime.NumGoroutine") = false) (h2 : fn.body.isNone = false) (args : Array Value) (w : World) : (callFunc f args).run P w = .ok (.enter f args) w := by
  simp only [callFunc, program, Sem.run_bind, Sem.run, Result.andThen_ok, hf, h1, h2, Bool.false_eq_true, if_false, Sem.run_pure]
/-- a call -/
theorem Ac.call {σ : Type} {f : FuncId} {fo : Operand} {as : Array Operand} {ts : Array Nat} {vs args : List Value} {a1 a2 : Array Value} {Sp : List Ch} {J : List Im} {val : σ → Value} {S' : σ → List Ch} {I' : σ → List Im} (hC : CT G f args Sp J val S' I') (ho : o.op = .call { callee := .value fo, args := as, argTypes := ts }) (hfo : ev m fo = some (.func (.func f) a1 a2)) (ha : evl m as.toList = some vs) (hargs : a1.toList ++ vs ++ a2.toList = args) : Ac G n m o Sp J val S' I' := by
  obtain ⟨⟨fn, hfn, h1, h2⟩, hcalls⟩ := hC
  intro A a w Kc Q hf hst hk
  have harr : (a1 ++ as.map a.eval) ++ a2 = args.toArray := by
    apply Array.ext'
    have := evl_ok hf ha
    simp [← hargs, this]
  have hr : (execOp a.eval o).run G.P w = .ok (.enter f args.toArray) w := by
    simp only [execOp, ho, resolve, Deferred.ofValue, hf.ev hfo, invoke, Sem.run_bind, Sem.run_pure, Result.andThen_ok, harr, run_callFunc hfn h1 h2]
  unfold Oper.wp
  rw [hr, Oper.upon_enter]
  refine (hcalls A w hst).mono ?_
  rintro e w' ⟨x, A', rfl, h3⟩
  exact hk x w' A' h3
end

/-! ### a function -/
def en : Nat → List Value → Env
  | _, [] => []
  | i, v :: r => (i, v) :: en (i + 1) r
theorem en_look : ∀ (l : List Value) (k i : Nat) (v : Value), look (en k l) i = some v → ∃ j, i = k + j ∧ l[j]? = some v
  | [], _, _, _, h => by simp [en, look] at h
  | u :: l, k, i, v, h => by
    simp only [en, look] at h
    split at h
    · rename_i hb
      injection h with h
      subst h
      exact ⟨0, (Nat.eq_of_beq_eq_true hb).symm, rfl⟩
    · obtain ⟨j, rfl, hj⟩ := en_look l (k + 1) i v h
      exact ⟨j + 1, by omega, by simpa using hj⟩
theorem en_fr {n : Nat} {args : List Value} (h : args.length ≤ n) : Fr n (en 0 args) { tmps := args.toArray ++ Array.replicate (n - args.toArray.size) undef, defers := [] } := by
  refine ⟨by simp; omega, rfl, ?_⟩
  intro i v hv
  obtain ⟨j, rfl, hj⟩ := en_look args 0 i v hv
  have hlt : j < args.length := (List.getElem?_eq_some_iff.1 hj).1
  simp only [Nat.zero_add, Array.getD_eq_getD_getElem?]
  rw [Array.getElem?_append_left (by simpa using hlt)]
  simp [hj]
/-- what a function comes to -/
def Post (G : Pg) (fn : Func) (K : Key) {σ : Type} (val : σ → Value) (S' : σ → List Ch) (I' : σ → List Im) : Exit → Act → World → Prop :=
  bodyPost G.P fn fun e w' => ∃ x A', e = .returned (val x) ∧ SS K A' (S' x) (I' x) w'
theorem CT.of {G : Pg} {f : FuncId} {fn : Func} {c : Code} {args : List Value} {S : List Ch} {I : List Im} {σ : Type} {val : σ → Value} {S' : σ → List Ch} {I' : σ → List Im} (hf : G.P.funcs[f]? = some fn) (h1 : (fn.name == "runtime.NumGoroutine") = false) (hb : fn.body = some c) (hn : Nat.ble args.length fn.ntmps = true)
    (h : ∀ K, T G fn.ntmps K (Post G fn K val S' I') c (en 0 args) S I) : CT G f args S I val S' I' :=
  ⟨⟨fn, hf, h1, by rw [hb]; rfl⟩, fun A w hs => calls_of_wp hf hb (h _ A _ w (en_fr (Nat.le_of_ble_eq_true hn)) (SS.start hs))⟩
/-- the results' values -/
inductive RVs (τ : Tab) (m : Env) (S : List Ch) : List ResultVar → List Value → Prop where
  | nil : RVs τ m S [] []
  | tmp {t r v vs} (h : look m t = some v) (hr : RVs τ m S r vs) : RVs τ m S (.tmp t :: r) (v :: vs)
  | cell {a t r v vs g T cs} (i : Nat) (h : look m a = some (.pointer (some ⟨g, 0, none⟩))) (hS : S[i]? = some (Ch.box g T cs)) (hv : loadv τ t cs 0 = some v) (hr : RVs τ m S r vs) : RVs τ m S (.cell a t :: r) (v :: vs)
def mkres : List Value → Value
  | [v] => v
  | vs => .tuple vs.toArray
def resf (tm : Array Value) : ResultVar → Sem Value
  | .tmp t => pure (tm.getD t undef)
  | .cell a t => do loadVar t (← asAddr (tm.getD a undef))
theorem results_eq (fn : Func) (tm : Array Value) : results fn tm = (do let vs ← fn.results.mapM (resf tm); pure (if h : vs.size = 1 then vs[0] else .tuple vs)) := by
  unfold results
  congr 1
theorem run_mapM_results {G : Pg} {n : Nat} {m : Env} {a : Act} {S : List Ch} {A : Blks} {w : World} (hf : Fr n m a) (hs : ∀ c ∈ S, c.ok A w) : ∀ {rs : List ResultVar} {vs : List Value}, RVs G.τ m S rs vs → (rs.mapM (resf a.tmps)).run G.P w = .ok vs w
  | _, _, .nil => rfl
  | _, _, .tmp h hr => by
    have h1 := hf.at_ _ _ h
    have ih := run_mapM_results (G := G) (w := w) hf hs hr
    simp only [List.mapM_cons, Sem.run_bind, ih, resf, Sem.run_pure, Result.andThen_ok, h1]
  | _, _, @RVs.cell _ _ _ ad ty r v vs g T cs i hx hi hv hr => by
    have h1 := hf.at_ _ _ hx
    have hb := hs _ (List.mem_of_getElem? hi)
    have hl := run_loadVar (P := G.P) (w := w) (o := 0) G.ok hv (fun j u hu => by rw [cell_box hb]; simpa using hu)
    have ih := run_mapM_results (G := G) (w := w) hf hs hr
    have hc : (resf a.tmps (.cell ad ty)).run G.P w = .ok v w := by simp only [resf, Sem.run_bind, Sem.run_pure, Result.andThen_ok, h1, asAddr, hl]
    simp only [List.mapM_cons, Sem.run_bind, hc, Result.andThen_ok, ih, Sem.run_pure]
theorem run_results {G : Pg} {n : Nat} {m : Env} {a : Act} {S : List Ch} {A : Blks} {w : World} {fn : Func} {vs : List Value} (hf : Fr n m a) (hs : ∀ c ∈ S, c.ok A w) (h : RVs G.τ m S fn.results.toList vs) : (results fn a.tmps).run G.P w = .ok (mkres vs) w := by
  have h1 := run_mapM_results (G := G) (w := w) hf hs h
  rw [results_eq, Array.mapM_eq_mapM_toList]
  simp only [Sem.run_bind, Sem.run_map, h1, Result.andThen_ok, Sem.run_pure]
  match vs with
  | [] => rfl
  | [v] => rfl
  | v :: u :: r => simp [mkres]
theorem E.ret {G : Pg} {n : Nat} {K : Key} {m : Env} {S : List Ch} {I : List Im} {fn : Func} {σ : Type} {val : σ → Value} {S' : σ → List Ch} {I' : σ → List Im} (x : σ) (is js : List Nat) {vs : List Value} {R : List Ch} (hr : RVs G.τ m S fn.results.toList vs) (hv : mkres vs = val x) (hS : ext S is = some (S' x, R)) (hJ : pick I js = some (I' x)) : E n K (Post G fn K val S' I') .ret m S I := by
  intro A a w hf hs
  refine ⟨hf.defers, mkres vs, run_results hf hs.st.ch hr, x, A, by rw [hv], ?_⟩
  have h2 := hs.perm (ext_perm hS) (fun i hi => hi)
  exact h2.drop (pick_mem hJ)
end Go.Tw

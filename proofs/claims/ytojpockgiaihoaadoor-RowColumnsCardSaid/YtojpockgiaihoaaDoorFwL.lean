import Derived.Test.YtojpockgiaihoaaDoorFwA
import Derived.Deep.Slices
import Derived.OpenShut
import Derived.Carry
import Derived.ChangeVars
import Derived.WideShapes
import Derived.Below
set_option linter.unusedVariables false
set_option linter.unusedSimpArgs false
namespace Go.Tw
open Go Go.Deep

/-! ### what comes in -/
def Im.okW (w : World) (f : Im) : Prop := f.ok (fun b => b < w.heap.size) w
/-- whatever reads as data of type t is a value of ty -/
def Opn {α : Type} (P : Program) (t : TypeId) (ty : Ty α) (wf : α → Prop) : Prop :=
  ∀ {H : Type} (enc : TypeId × Value → H) (w : World) (sp : Nat → Bool) (hd : Bool) (fuel : Nat) (cs : List Value) (x : DataW H × List MemPlace), DataW.trod enc P w 0 sp hd fuel t cs = some x → ∃ y h, cs = ty.cs y h ∧ wf y ∧ ∀ f ∈ ty.im y h, f.okW w
variable {P : Program} {α β : Type}
theorem Opn.int {t : TypeId} {k : IntKind} (ht : P.underlying t = some (.int k)) : Opn P t (Ty.int k) (inK k) := by
  intro H enc w sp hd fuel cs x h
  obtain ⟨n, rfl, _, hw⟩ := DataW.trod_int ht h
  simp only [Lit.wf, Bool.and_eq_true, decide_eq_true_eq] at hw
  exact ⟨n, (), rfl, hw, fun f hf => by cases hf⟩
theorem Opn.bool {t : TypeId} (ht : P.underlying t = some .bool) : Opn P t Ty.bool (fun _ => True) := by
  intro H enc w sp hd fuel cs x h
  obtain ⟨b, rfl, _⟩ := DataW.trod_bool ht h
  exact ⟨b, (), rfl, trivial, fun f hf => by cases hf⟩
theorem Opn.str {t : TypeId} (ht : P.underlying t = some .string) : Opn P t Ty.str (fun s => s.size ≤ maxLen) := by
  intro H enc w sp hd fuel cs x h
  obtain ⟨s, rfl, _, hs⟩ := DataW.trod_string ht h
  exact ⟨s, (), rfl, hs, fun f hf => by cases hf⟩
theorem els_of {ty : Ty α} {wf : α → Prop} {A : Blks} {w : World} {a : Addr} : ∀ n : Nat, (∀ i, i < n → ∃ y h, (∀ j u, (ty.cs y h)[j]? = some u → w.cell? (a.add (i * ty.sz + j)) = some u) ∧ wf y ∧ ∀ f ∈ ty.im y h, f.ok A w) →
    ∃ xs cs, xs.length = n ∧ Els ty A w xs cs ∧ (∀ j u, cs[j]? = some u → w.cell? (a.add j) = some u) ∧ ∀ x ∈ xs, wf x
  | 0, _ => ⟨[], [], rfl, .nil, by simp, by simp⟩
  | n + 1, h => by
    obtain ⟨xs, cs, hl, he, hc, hw⟩ := els_of n fun i hi => h i (Nat.lt_succ_of_lt hi)
    obtain ⟨y, hd, h1, h2, h3⟩ := h n (Nat.lt_succ_self n)
    refine ⟨xs ++ [y], cs ++ (ty.cs y hd ++ []), by simp [hl], he.app (.cons hd h3 .nil), ?_, ?_⟩
    · intro j u hu
      rw [List.append_nil] at hu
      have hlen := he.len
      rw [hl] at hlen
      by_cases hj : j < cs.length
      · rw [List.getElem?_append_left hj] at hu
        exact hc j u hu
      · rw [List.getElem?_append_right (by omega)] at hu
        have := h1 (j - cs.length) u hu
        rw [hlen] at this hj
        rwa [show n * ty.sz + (j - n * ty.sz) = j by omega] at this
    · intro x hx
      rcases List.mem_append.1 hx with hx | hx
      · exact hw x hx
      · rw [List.mem_singleton.1 hx]; exact h2
theorem Opn.slice {t e : TypeId} {ty : Ty α} {wf : α → Prop} (ht : P.underlying t = some (.slice e)) (he : Opn P e ty wf) (hsz : P.cellsOf e = ty.sz) (hpos : 0 < ty.sz) : Opn P t (Ty.slice ty) (fun xs => ∀ x ∈ xs, wf x) := by
  intro H enc w sp hd fuel cs x h
  rcases open_slice ht h with ⟨rfl, _⟩ | ⟨a, len, cap, m, n, D, Pl, rfl, hb, hl, hm, hmm, _, hx⟩
  · exact ⟨[], (none, 0), rfl, by simp, fun f hf => by rw [List.mem_singleton.1 hf]; exact Im.sl_nil _ _⟩
  · have hlm : len ≤ m := by rw [hmm]; split <;> omega
    obtain ⟨xs, cs, h1, h2, h3, h4⟩ := els_of (ty := ty) (wf := wf) (A := fun b => b < w.heap.size) (w := w) (a := a) len fun i hi => by
      obtain ⟨cs', h5, h6⟩ := hx i (Nat.lt_of_lt_of_le hi hlm)
      obtain ⟨y, hh, rfl, hw, hf⟩ := he enc w sp hd n cs' _ h6
      refine ⟨y, hh, fun j u hu => ?_, hw, hf⟩
      obtain ⟨_, hlen, hc⟩ := World.cells?_some h5
      have hj : j < P.cellsOf e := by rw [← hlen]; exact (List.getElem?_eq_some_iff.1 hu).1
      rw [← hsz, ← add_add, hc j hj]
      exact hu
    refine ⟨xs, (some a, cap), by rw [← h1]; rfl, h4, fun f hf => ?_⟩
    rw [List.mem_singleton.1 hf]
    refine ⟨by rw [h1]; exact hl, ?_⟩
    cases hxs : xs with
    | nil => exact .inl rfl
    | cons x0 xr =>
      right
      have hcl := h2.len
      have hpos2 : 0 < cs.length := by
        rw [hcl, hxs, List.length_cons]
        exact Nat.mul_pos (Nat.succ_pos _) hpos
      have hc0 := h3 0 cs[0] (by simp [hpos2])
      have ha0 : a.add 0 = a := by simp [Addr.add]
      rw [ha0] at hc0
      have hsp : a.spot = none ∧ a.block < w.heap.size := by
        unfold World.cell? at hc0
        split at hc0
        · rename_i hh
          have hlt := (Array.getElem?_eq_some_iff.1 hh).1
          split at hc0
          · cases hc0
          · rename_i hs
            refine ⟨?_, hlt⟩
            cases hsp : a.spot with
            | none => rfl
            | some _ => rw [hsp] at hs; simp at hs
        · cases hc0
      obtain ⟨b, o, s⟩ := a
      obtain ⟨rfl, hlt⟩ := hsp
      refine ⟨b, o, cs, rfl, hlt, by rw [← hxs]; exact h2, fun j u hu => ?_⟩
      have := h3 j u hu
      rwa [add_lit] at this
/-- fields, one behind the other from cell o on -/
inductive OpnF (P : Program) : Nat → List (Nat × Nat) → {α : Type} → Ty α → (α → Prop) → Prop where
  | nil {o} : OpnF P o [] (⟨0, Unit, fun _ _ => [], fun _ _ => [], fun _ _ => rfl, by simp⟩ : Ty Unit) (fun _ => True)
  | cons {α β : Type} {o t r} {ta : Ty α} {tb : Ty β} {wa : α → Prop} {wb : β → Prop} (ha : Opn P t ta wa) (hsz : P.cellsOf t = ta.sz) (hr : OpnF P (o + ta.sz) r tb wb) : OpnF P o ((t, o) :: r) (Ty.pair ta tb) (fun y => wa y.1 ∧ wb y.2)
theorem OpnF.open {H : Type} {enc : TypeId × Value → H} {w : World} {sp : Nat → Bool} {hd : Bool} {n : Nat} {cs : List Value} {o : Nat} {fs : List (Nat × Nat)} {ty : Ty α} {wf : α → Prop} (h : OpnF P o fs ty wf) (hc : cs.length = o + ty.sz) (hx : ∀ f ∈ fs, ∃ x, DataW.trod enc P w 0 sp hd n f.1 ((cs.drop f.2).take (P.cellsOf f.1)) = some x) : ∃ y h, cs.drop o = ty.cs y h ∧ wf y ∧ ∀ f ∈ ty.im y h, f.okW w := by
  induction h with
  | nil => exact ⟨(), (), List.drop_of_length_le (Nat.le_of_eq hc), trivial, fun f hf => by cases hf⟩
  | @cons α β o t r ta tb wa wb ha hsz hr ih =>
    obtain ⟨x, hx0⟩ := hx (t, o) (by simp)
    obtain ⟨y, hy, e, hw, hf⟩ := ha enc w sp hd n _ x hx0
    have hc' : cs.length = o + ta.sz + tb.sz := by rw [hc]; show o + (ta.sz + tb.sz) = _; omega
    obtain ⟨z, hz, e2, hw2, hf2⟩ := ih hc' fun f hf => hx f (by simp [hf])
    refine ⟨(y, z), (hy, hz), ?_, ⟨hw, hw2⟩, fun f hf' => ?_⟩
    · show _ = ta.cs y hy ++ tb.cs z hz
      rw [← e, ← e2, hsz, ← List.drop_drop]
      exact (List.take_append_drop _ _).symm
    · rcases List.mem_append.1 hf' with h | h
      · exact hf f h
      · exact hf2 f h
def structb (P : Program) (t : TypeId) (fs : List (Nat × Nat)) : Bool := match P.underlying t with
  | some (.struct a) => fsb fs a.toList
  | _ => false
theorem structb_ok {t : TypeId} {fs : List (Nat × Nat)} (h : structb P t fs = true) : ∃ fa, P.underlying t = some (.struct fa) ∧ fsb fs fa.toList = true := by
  unfold structb at h
  split at h
  · rename_i a ha; exact ⟨a, ha, h⟩
  · cases h
theorem Opn.struct {t : TypeId} {fs : List (Nat × Nat)} {ty : Ty α} {wf : α → Prop} (hst : structb P t fs = true) (hsz : P.cellsOf t = ty.sz) (h : OpnF P 0 fs ty wf) : Opn P t ty wf := by
  obtain ⟨fa, ht, hfs⟩ := structb_ok hst
  intro H enc w sp hd fuel cs x hx
  obtain ⟨xs, n, rfl, _, hlen, hxl, hfx⟩ := DataW.trod_struct ht hx
  have he := fsb_eq hfs
  obtain ⟨y, hh, e, hw, hf⟩ := h.open (enc := enc) (w := w) (sp := sp) (hd := hd) (n := n) (cs := cs) (by rw [hlen, hsz, Nat.zero_add]) fun f hf => by
    rw [← he] at hf
    obtain ⟨f0, hf0, rfl⟩ := List.mem_map.1 hf
    obtain ⟨i, hi⟩ := List.getElem?_of_mem hf0
    have hi' : fa[i]? = some f0 := by simpa using hi
    have h1 := hfx i f0 hi'
    have hlt : i < xs.length := by rw [hxl]; exact (Array.getElem?_eq_some_iff.1 hi').1
    exact ⟨xs[i], by rw [h1]; simp [hlt]⟩
  exact ⟨y, hh, e, hw, hf⟩
/-- the same cells, another name -/
theorem Opn.to {t : TypeId} {ty : Ty α} {ty' : Ty β} {wf : α → Prop} {wf' : β → Prop} (g : α → β) (gh : ty.Hid → ty'.Hid) (h : Opn P t ty wf) (h1 : ∀ y hh, ty'.cs (g y) (gh hh) = ty.cs y hh) (h2 : ∀ y hh, ty'.im (g y) (gh hh) = ty.im y hh) (h3 : ∀ y, wf y → wf' (g y)) : Opn P t ty' wf' := by
  intro H enc w sp hd fuel cs x hx
  obtain ⟨y, hh, e, hw, hf⟩ := h enc w sp hd fuel cs x hx
  exact ⟨g y, gh hh, by rw [h1]; exact e, h3 y hw, by rw [h2]; exact hf⟩

/-! ### tables -/
/-- data's cells -/
def unlay {H : Type} : Nat → DataW H → List Value
  | _, .lit (.int k n) => [.int k n]
  | _, .lit (.bool b) => [.bool b]
  | d + 1, .agg l => l.flatMap (unlay d)
  | _, _ => []
def flatF (P : Program) (f : TypeId → Bool) : Nat → List (Nat × Nat) → Nat → Bool
  | o, [], m => Nat.beq o m
  | o, (t, o') :: r, m => Nat.beq o o' && f t && flatF P f (o + P.cellsOf t) r m
/-- whole numbers and bools, one behind the other -/
def flatb (P : Program) : Nat → TypeId → Bool
  | 0, _ => false
  | d + 1, t => match P.underlying t with
    | some (.int _) => true
    | some .bool => true
    | some (.struct fa) => flatF P (flatb P d) 0 (fa.toList.map fun f => (f.type, f.offset)) (P.cellsOf t)
    | some (.array n e) => Nat.beq (P.cellsOf t) (n * P.cellsOf e) && flatb P d e
    | _ => false
theorem rows_eq {γ : Type} {sz : Nat} {f : Nat → List γ} : ∀ {n : Nat} {cs : List γ}, cs.length = n * sz → (∀ i, i < n → (cs.drop (i * sz)).take sz = f i) → cs = (List.range n).flatMap f
  | 0, cs, hl, _ => by
    have : cs = [] := List.eq_nil_of_length_eq_zero (by simpa using hl)
    simp [this]
  | n + 1, cs, hl, h => by
    have h1 := rows_eq (sz := sz) (n := n) (cs := cs.take (n * sz)) (f := f) (by rw [List.length_take, hl, Nat.succ_mul]; omega) fun i hi => by
      rw [← h i (Nat.lt_succ_of_lt hi)]
      have hle : (i + 1) * sz ≤ n * sz := Nat.mul_le_mul_right sz hi
      rw [Nat.succ_mul] at hle
      rw [List.drop_take, List.take_take]
      congr 1
      omega
    have h2 := h n (Nat.lt_succ_self n)
    rw [List.range_succ, List.flatMap_append, ← h1]
    have h3 : (cs.drop (n * sz)).take sz = cs.drop (n * sz) := List.take_of_length_le (by rw [List.length_drop, hl, Nat.succ_mul]; omega)
    rw [h3] at h2
    simp only [List.flatMap_cons, List.flatMap_nil, List.append_nil, ← h2]
    exact (List.take_append_drop _ _).symm
theorem flatF_cells {H : Type} {enc : TypeId × Value → H} {w : World} {sp : Nat → Bool} {hd : Bool} {f : TypeId → Bool} {g : DataW H → List Value} (hf : ∀ t, f t = true → ∀ {fuel : Nat} {cs : List Value} {x : DataW H × List MemPlace}, DataW.trod enc P w 0 sp hd fuel t cs = some x → cs = g x.1) : ∀ {fs : List (Nat × Nat)} {o m : Nat}, flatF P f o fs m = true → ∀ {n : Nat} {cs : List Value} {xs : List (DataW H × List MemPlace)}, cs.length = m → (∀ (i : Nat) (f : Nat × Nat), fs[i]? = some f → DataW.trod enc P w 0 sp hd n f.1 ((cs.drop f.2).take (P.cellsOf f.1)) = xs[i]?) → xs.length = fs.length → cs.drop o = xs.flatMap fun x => g x.1
  | [], o, m, hb, n, cs, xs, hl, _, hx => by
    have : xs = [] := List.eq_nil_of_length_eq_zero hx
    subst this
    have := Nat.eq_of_beq_eq_true hb
    exact List.drop_of_length_le (by omega)
  | (t, o') :: r, o, m, hb, n, cs, xs, hl, h, hx => by
    simp only [flatF, Bool.and_eq_true] at hb
    obtain rfl := Nat.eq_of_beq_eq_true hb.1.1
    cases xs with
    | nil => simp at hx
    | cons x xs =>
      have h0 := h 0 (t, o) rfl
      have e0 := hf t hb.1.2 h0
      have e1 := flatF_cells hf hb.2 (n := n) (cs := cs) (xs := xs) hl (fun i f hi => h (i + 1) f hi) (by simpa using hx)
      rw [List.flatMap_cons, ← e0, ← e1, ← List.drop_drop]
      exact (List.take_append_drop _ _).symm
theorem flat_cells {H : Type} {enc : TypeId × Value → H} {w : World} {sp : Nat → Bool} {hd : Bool} : ∀ {d : Nat} {t : TypeId}, flatb P d t = true → ∀ {fuel : Nat} {cs : List Value} {x : DataW H × List MemPlace}, DataW.trod enc P w 0 sp hd fuel t cs = some x → cs = unlay d x.1
  | 0, t, hb, fuel, cs, x, h => by cases hb
  | d + 1, t, hb, fuel, cs, x, h => by
    unfold flatb at hb
    split at hb
    · rename_i ht
      obtain ⟨n, rfl, rfl, _⟩ := DataW.trod_int ht h
      rfl
    · rename_i ht
      obtain ⟨b, rfl, rfl⟩ := DataW.trod_bool ht h
      rfl
    · rename_i fa ht
      obtain ⟨xs, n, rfl, rfl, hlen, hxl, hfx⟩ := DataW.trod_struct ht h
      have key := flatF_cells (g := unlay d) (fun t ht => flat_cells ht) hb (enc := enc) (w := w) (sp := sp) (hd := hd) (n := n) (cs := cs) (xs := xs) hlen (fun i f hi => by
        rw [List.getElem?_map] at hi
        cases hfa : fa[i]? with
        | none => simp [hfa] at hi
        | some f0 =>
          simp [hfa] at hi
          subst hi
          exact hfx i f0 hfa) (by rw [hxl, List.length_map, Array.length_toList])
      show cs = (xs.map (·.1)).flatMap (unlay d)
      rw [List.flatMap_map]
      simpa using key
    · rename_i m e ht
      simp only [Bool.and_eq_true] at hb
      have hc := Nat.eq_of_beq_eq_true hb.1
      obtain ⟨xs, n, rfl, rfl, hlen, hxl, hfx⟩ := DataW.trod_array ht h
      show cs = (xs.map (·.1)).flatMap (unlay d)
      rw [List.flatMap_map]
      have h1 : ∀ i, i < m → (cs.drop (i * P.cellsOf e)).take (P.cellsOf e) = ((xs[i]?).map fun x => unlay d x.1).getD [] := fun i hi => by
        have h2 := hfx i hi
        have hlt : i < xs.length := by rw [hxl]; exact hi
        rw [List.getElem?_eq_getElem hlt] at h2 ⊢
        exact flat_cells hb.2 h2
      rw [rows_eq (by rw [hlen, hc]) h1]
      clear h1 hfx
      subst hxl
      rw [flatMap_by_index xs (.nil, []) fun x => unlay d x.1]
      exact flatMap_congr_range fun i hi => by simp [List.getD, hi]
    · cases hb
/-- a table's cells -/
theorem tab_cells {w : World} {name : String} {d : DataW Unit} {laid : List (String × DataW Unit)} {ps : List MemPlace} {g : Nat} {t : TypeId} (h : DataW.LaidVars P w laid ps) (hm : (name, d) ∈ laid) (hg : P.globalNamed name = some g) (hty : (P.globals[g]?).map (·.type) = some t) {dp : Nat} (hf : flatb P dp t = true) : ∀ i, w.cell? ⟨g, i, none⟩ = (unlay dp d)[i]? := by
  induction laid generalizing ps with
  | nil => cases hm
  | cons y laid ih =>
    obtain ⟨n, d'⟩ := y
    obtain ⟨g', t', cs, fuel, p, q, hg', ht', hvar, hd, hr, _⟩ := h
    rcases List.mem_cons.1 hm with e | hm
    · injection e with e1 e2
      subst e1 e2
      obtain rfl := Option.some.inj (hg.symm.trans hg')
      obtain rfl := Option.some.inj (hty.symm.trans ht')
      have := flat_cells hf hd
      intro i
      rw [World.var?_cell hg hvar i, ← this]
      simp
    · exact ih hr hm
/-- a package's table, as a slice that never turns -/
theorem tab_sl {ty : Ty α} {w : World} {g n : Nat} {cs : List Value} {xs : List α} (h0 : ty.Hid) (hfree : ∀ x, ty.im x h0 = []) (hc : ∀ i, w.cell? ⟨g, i, none⟩ = cs[i]?) (he : cs = xs.flatMap fun x => ty.cs x h0) (hn : xs.length ≤ n) (hlt : g < w.heap.size) : (Im.sl ty (some ⟨g, 0, none⟩) n xs).okW w := by
  refine ⟨hn, .inr ⟨g, 0, cs, rfl, hlt, ?_, fun j u hu => by rw [Nat.zero_add, hc]; exact hu⟩⟩
  rw [he]
  clear he hc hn
  induction xs with
  | nil => exact .nil
  | cons x xs ih => exact .cons h0 (fun f hf => by rw [hfree] at hf; cases hf) ih
theorem tab_lt {w : World} {g : Nat} {cs : List Value} (hc : ∀ i, w.cell? ⟨g, i, none⟩ = cs[i]?) (hpos : 0 < cs.length) : g < w.heap.size := by
  have h := hc 0
  rw [List.getElem?_eq_getElem hpos] at h
  unfold World.cell? at h
  split at h
  · rename_i hh; exact (Array.getElem?_eq_some_iff.1 hh).1
  · cases h
/-- behind the call -/
theorem SS.below {w w' : World} {A A' : Blks} {S' : List Ch} {I' : List Im} (h : SS ⟨w, A, Own []⟩ A' S' I' w') : RowKit.Below w.heap.size w w' :=
  ⟨h.fx.os, h.fx.tape, h.fx.output, h.fx.size, fun k hk => h.fx.keep k hk fun ⟨c, hc, _⟩ => by cases hc⟩
theorem St.first {w : World} {I : List Im} (h : ∀ f ∈ I, f.okW w) : St (fun b => b < w.heap.size) [] I w :=
  ⟨fun _ h => h, (fun _ h => by cases h), (fun _ h => by cases h), List.Pairwise.nil, h⟩
end Go.Tw
namespace Go.Tw
open Go
theorem v_int {k : IntKind} {n m : Int} (e : (Value.int k n).cells.toList = [Value.int k m]) : m = n := by simpa [Value.cells, eq_comm] using e
theorem v_bool {n m : Bool} (e : (Value.bool n).cells.toList = [Value.bool m]) : m = n := by simpa [Value.cells, eq_comm] using e
theorem v_str {n m : ByteArray} (e : (Value.string n).cells.toList = [Value.string m]) : m = n := by simpa [Value.cells, eq_comm] using e
theorem v_sl {a b : Option Addr} {n m c d : Nat} (e : (Value.slice a n c).cells.toList = [Value.slice b m d]) : a = b ∧ n = m ∧ c = d := by simpa [Value.cells] using e
theorem okW_struct {P : Program} {w : World} {r : Reach} {base : Nat} {t : TypeId} {v : Value} {fs : List (Nat × Nat)} (hst : structb P t fs = true) (h : Value.okWide P w r base t v) : ∃ cs, v = .agg cs := by
  obtain ⟨fa, ht, _⟩ := structb_ok hst
  obtain ⟨cs, h1, _⟩ := WideShapes.okWide_struct ht h
  exact ⟨cs, h1⟩
theorem v_agg {cs : Array Value} {l : List Value} (e : (Value.agg cs).cells.toList = l) : cs = l.toArray := by
  apply Array.ext'
  simpa [Value.cells] using e
end Go.Tw

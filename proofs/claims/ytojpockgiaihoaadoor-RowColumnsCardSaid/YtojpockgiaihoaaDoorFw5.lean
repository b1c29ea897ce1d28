import Derived.Test.YtojpockgiaihoaaDoorFw4
import Derived.Laws.MakeOwn
set_option linter.unusedVariables false
set_option linter.unusedSimpArgs false
namespace Go.Tw
open Go

/-! ### how values lie in memory -/
structure Ty (α : Type) where
  sz : Nat
  Hid : Type
  cs : α → Hid → List Value
  im : α → Hid → List Im
  len : ∀ x h, (cs x h).length = sz
  one : ∀ x h, ∀ v ∈ cs x h, v.oneCell' = true
def Ty.int (k : IntKind) : Ty Int := ⟨1, Unit, fun x _ => [.int k x], fun _ _ => [], fun _ _ => rfl, by simp [Value.oneCell']⟩
def Ty.bool : Ty Bool := ⟨1, Unit, fun x _ => [.bool x], fun _ _ => [], fun _ _ => rfl, by simp [Value.oneCell']⟩
def Ty.str : Ty ByteArray := ⟨1, Unit, fun x _ => [.string x], fun _ _ => [], fun _ _ => rfl, by simp [Value.oneCell']⟩
def Ty.pair {α β : Type} (a : Ty α) (b : Ty β) : Ty (α × β) where
  sz := a.sz + b.sz
  Hid := a.Hid × b.Hid
  cs := fun x h => a.cs x.1 h.1 ++ b.cs x.2 h.2
  im := fun x h => a.im x.1 h.1 ++ b.im x.2 h.2
  len := fun x h => by rw [List.length_append, a.len, b.len]
  one := fun x h v hv => by
    rcases List.mem_append.1 hv with hv | hv
    · exact a.one _ _ v hv
    · exact b.one _ _ v hv
def Ty.iso {α β : Type} (a : Ty α) (f : β → α) : Ty β := ⟨a.sz, a.Hid, fun x h => a.cs (f x) h, fun x h => a.im (f x) h, fun _ _ => a.len _ _, fun _ _ => a.one _ _⟩
/-- elements, one behind the other -/
inductive Els {α : Type} (d : Ty α) (A : Blks) (w : World) : List α → List Value → Prop where
  | nil : Els d A w [] []
  | cons {x xs cs} (h : d.Hid) (hi : ∀ f ∈ d.im x h, f.ok A w) (hr : Els d A w xs cs) : Els d A w (x :: xs) (d.cs x h ++ cs)
variable {α : Type} {d : Ty α} {A A' : Blks} {w w' : World} {xs ys : List α} {cs es : List Value}
theorem Els.st (hA : ∀ b, A b → A' b) (hw : ∀ b, A b → w'.heap[b]? = w.heap[b]?) (h : Els d A w xs cs) : Els d A' w' xs cs := by
  induction h with
  | nil => exact .nil
  | cons h hi hr ih => exact .cons h (fun f hf => f.st hA hw (hi f hf)) ih
theorem Els.len (h : Els d A w xs cs) : cs.length = xs.length * d.sz := by
  induction h with
  | nil => simp
  | cons h hi hr ih => rw [List.length_append, d.len, ih, List.length_cons, Nat.succ_mul, Nat.add_comm]
theorem Els.one (h : Els d A w xs cs) : ∀ v ∈ cs, v.oneCell' = true := by
  induction h with
  | nil => intro v hv; cases hv
  | cons h hi hr ih =>
    intro v hv
    rcases List.mem_append.1 hv with hv | hv
    · exact d.one _ _ v hv
    · exact ih v hv
theorem Els.app (h : Els d A w xs cs) (k : Els d A w ys es) : Els d A w (xs ++ ys) (cs ++ es) := by
  induction h with
  | nil => exact k
  | cons h hi hr ih => rw [List.append_assoc]; exact .cons h hi ih
theorem Els.at_ (h : Els d A w xs cs) : ∀ (i : Nat) (x : α), xs[i]? = some x → ∃ hd, (∀ f ∈ d.im x hd, f.ok A w) ∧ ∀ j u, (d.cs x hd)[j]? = some u → cs[i * d.sz + j]? = some u := by
  induction h with
  | nil => intro i x hx; simp at hx
  | @cons y ys cs hy hi hr ih =>
    intro i x hx
    cases i with
    | zero =>
      simp at hx
      subst hx
      refine ⟨hy, hi, fun j u hu => ?_⟩
      rw [Nat.zero_mul, Nat.zero_add, List.getElem?_append_left (List.getElem?_eq_some_iff.1 hu).1]
      exact hu
    | succ i =>
      simp at hx
      obtain ⟨hd, h1, h2⟩ := ih i x hx
      refine ⟨hd, h1, fun j u hu => ?_⟩
      have e : (i + 1) * d.sz + j = (d.cs y hy).length + (i * d.sz + j) := by rw [d.len, Nat.succ_mul]; omega
      rw [e, List.getElem?_append_right (Nat.le_add_right _ _), Nat.add_sub_cancel_left]
      exact h2 j u hu
theorem Els.take (h : Els d A w xs cs) : ∀ k, Els d A w (xs.take k) (cs.take (k * d.sz)) := by
  induction h with
  | nil => intro k; simp; exact .nil
  | @cons y ys cs hy hi hr ih =>
    intro k
    cases k with
    | zero => simp; exact .nil
    | succ k =>
      have e : (d.cs y hy ++ cs).take ((k + 1) * d.sz) = d.cs y hy ++ cs.take (k * d.sz) := by
        rw [List.take_append, d.len, Nat.succ_mul, List.take_of_length_le (by rw [d.len]; omega), Nat.add_sub_cancel]
      rw [e, List.take_succ_cons]
      exact .cons hy hi (ih k)
theorem Els.drop (h : Els d A w xs cs) : ∀ k, Els d A w (xs.drop k) (cs.drop (k * d.sz)) := by
  induction h with
  | nil => intro k; simp; exact .nil
  | @cons y ys cs hy hi hr ih =>
    intro k
    cases k with
    | zero => simp; exact .cons hy hi hr
    | succ k =>
      have e : (d.cs y hy ++ cs).drop ((k + 1) * d.sz) = cs.drop (k * d.sz) := by
        rw [List.drop_append, d.len, Nat.succ_mul, List.drop_of_length_le (by rw [d.len]; omega), Nat.add_sub_cancel]
        rfl
      rw [e, List.drop_succ_cons]
      exact ih k
/-- one element, another one -/
theorem Els.set (h : Els d A w xs cs) : ∀ (i : Nat) (x x' : α) (k : Nat) (vs : List Value), xs[i]? = some x → (∀ hd, (∀ f ∈ d.im x hd, f.ok A w) → ∃ hd', (d.cs x hd).take k ++ vs ++ (d.cs x hd).drop (k + vs.length) = d.cs x' hd' ∧ ∀ f ∈ d.im x' hd', f.ok A w) → k + vs.length ≤ d.sz →
    Els d A w (xs.set i x') (cs.take (i * d.sz + k) ++ vs ++ cs.drop (i * d.sz + k + vs.length)) := by
  induction h with
  | nil => intro i x x' k vs hx; simp at hx
  | @cons y ys cs hy hi hr ih =>
    intro i x x' k vs hx hn hk
    cases i with
    | zero =>
      simp at hx
      subst hx
      obtain ⟨hd', e, h2⟩ := hn hy hi
      have hl := d.len y hy
      have e2 : (d.cs y hy ++ cs).take (0 * d.sz + k) ++ vs ++ (d.cs y hy ++ cs).drop (0 * d.sz + k + vs.length) = d.cs x' hd' ++ cs := by
        rw [← e, Nat.zero_mul, Nat.zero_add, List.take_append_of_le_length (by omega), List.drop_append_of_le_length (by omega)]
        simp [List.append_assoc]
      rw [e2, List.set_cons_zero]
      exact .cons hd' h2 hr
    | succ i =>
      simp at hx
      have hl := d.len y hy
      have e1 : (i + 1) * d.sz + k = (d.cs y hy).length + (i * d.sz + k) := by rw [hl, Nat.succ_mul]; omega
      have e2 : (d.cs y hy ++ cs).take ((i + 1) * d.sz + k) ++ vs ++ (d.cs y hy ++ cs).drop ((i + 1) * d.sz + k + vs.length) = d.cs y hy ++ (cs.take (i * d.sz + k) ++ vs ++ cs.drop (i * d.sz + k + vs.length)) := by
        rw [e1, List.take_length_add_append, Nat.add_assoc, List.drop_length_add_append]
        simp [List.append_assoc]
      rw [e2, List.set_cons_succ]
      exact .cons hy hi (ih i x x' k vs hx hn hk)
/-! ### slices -/
/-- a slice that never turns -/
def Im.sl (d : Ty α) (a0 : Option Addr) (c : Nat) (xs : List α) : Im where
  ok := fun A w => xs.length ≤ c ∧ (xs = [] ∨ ∃ b o cs, a0 = some ⟨b, o, none⟩ ∧ A b ∧ Els d A w xs cs ∧ ∀ j u, cs[j]? = some u → w.cell? ⟨b, o + j, none⟩ = some u)
  st := by
    rintro A A' w w' hA hw ⟨h1, h2⟩
    refine ⟨h1, ?_⟩
    rcases h2 with h2 | ⟨b, o, cs, rfl, hb, he, hc⟩
    · exact .inl h2
    · exact .inr ⟨b, o, cs, rfl, hA b hb, he.st hA hw, fun j u hu => (World.cell?_of_block (hw b hb)).trans (hc j u hu)⟩
def Ty.slice (d : Ty α) : Ty (List α) := ⟨1, Option Addr × Nat, fun xs h => [.slice h.1 xs.length h.2], fun xs h => [Im.sl d h.1 h.2 xs], fun _ _ => rfl, by simp [Value.oneCell']⟩
/-- a slice's array that is owned -/
def Ch.arr (d : Ty α) (T : Nat) (a0 : Option Addr) (c : Nat) (xs : List α) : Ch where
  blk := a0.map (·.block)
  ok := fun A w => ∃ cs, w.ownsRow 0 T d.sz (.slice a0 xs.length c) xs.length cs ∧ Els d A w xs cs
  st := by
    rintro A A' w w' hA hw hb ⟨cs, ⟨h1, h2⟩, he⟩
    refine ⟨cs, ⟨h1, ?_⟩, he.st hA hw⟩
    rcases h2 with h2 | ⟨g, cap, cur, e, h3, h4, h5⟩
    · exact .inl h2
    · injection e with e1 e2 e3
      subst e1
      exact .inr ⟨g, cap, cur, by rw [e3], h3, (hb g rfl).trans h4, h5⟩
theorem arr_some {T : Nat} {a0 : Option Addr} {c : Nat} (h : (Ch.arr d T a0 c xs).ok A w) : (a0 = none ∧ xs = [] ∧ c = 0) ∨ ∃ g cur cs, a0 = some ⟨g, 0, none⟩ ∧ w.heap[g]? = some (.cells cur T (0, 0)) ∧ xs.length ≤ c ∧ c ≤ maxLen ∧ cur.size = c * d.sz ∧ cur.toList.take (xs.length * d.sz) = cs ∧ Els d A w xs cs := by
  obtain ⟨cs, ⟨h1, h2⟩, he⟩ := h
  rcases h2 with ⟨e, hn⟩ | ⟨g, cap, cur, e, h3, h4, h5, h6, h7, h8⟩
  · injection e with e1 e2 e3
    exact .inl ⟨e1, List.eq_nil_of_length_eq_zero hn, e3⟩
  · injection e with e1 e2 e3
    subst e3
    exact .inr ⟨g, cur, cs, e1, h4, h5, h6, h7, h8, he⟩
/-- what an owned one reads -/
theorem arr_reads {T : Nat} {a0 : Option Addr} {c : Nat} (h : (Ch.arr d T a0 c xs).ok A w) : xs.length ≤ c ∧ (xs = [] ∨ ∃ b cs, a0 = some ⟨b, 0, none⟩ ∧ Els d A w xs cs ∧ ∀ j u, cs[j]? = some u → w.cell? ⟨b, j, none⟩ = some u) := by
  rcases arr_some h with ⟨_, rfl, _⟩ | ⟨g, cur, cs, rfl, h2, h3, h4, h5, h6, h7⟩
  · exact ⟨Nat.zero_le _, .inl rfl⟩
  · refine ⟨h3, .inr ⟨g, cs, rfl, h7, fun j u hu => ?_⟩⟩
    rw [cell_of_row w g j _ T (0, 0) h2]
    rw [← h6, List.getElem?_take] at hu
    split at hu
    · simpa using hu
    · cases hu
theorem arr_frz {T : Nat} {a0 : Option Addr} {c : Nat} : ∀ A w, (Ch.arr d T a0 c xs).ok A w → (Im.sl d a0 c xs).ok (fun b => A b ∨ (Ch.arr d T a0 c xs).blk = some b) w := by
  intro A w h
  obtain ⟨h1, h2⟩ := arr_reads h
  refine ⟨h1, ?_⟩
  rcases h2 with h2 | ⟨b, cs, rfl, he, hc⟩
  · exact .inl h2
  · exact .inr ⟨b, 0, cs, rfl, .inr rfl, he.st (fun _ h => .inl h) (fun _ _ => rfl), fun j u hu => by rw [Nat.zero_add]; exact hc j u hu⟩
end Go.Tw

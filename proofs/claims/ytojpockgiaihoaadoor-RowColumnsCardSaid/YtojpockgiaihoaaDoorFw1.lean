import Derived.Calls
import Derived.Tactics
import Derived.Laws.AppendOwn
import Derived.Laws.StructEq
set_option linter.unusedVariables false
set_option linter.unusedSimpArgs false
namespace Go.Tw
open Go

/-! ### slots -/
abbrev Env := List (Nat × Value)
def look : Env → Nat → Option Value
  | [], _ => none
  | (i, v) :: m, j => match Nat.beq i j with
    | true => some v
    | false => look m j
structure Fr (n : Nat) (m : Env) (a : Act) : Prop where
  size : a.tmps.size = n
  defers : a.defers = []
  at_ : ∀ i v, look m i = some v → a.tmps.getD i undef = v
def ev (m : Env) : Operand → Option Value
  | .tmp t => look m t
  | .const v => some v
  | .global g => some (.pointer (some ⟨g, 0, none⟩))
  | .func f => some (.func (.func f) #[] #[])
theorem Fr.ev {n : Nat} {m : Env} {a : Act} (h : Fr n m a) {x : Operand} {v : Value} (hx : ev m x = some v) : a.eval x = v := by
  cases x with
  | tmp t => exact h.at_ t v hx
  | const c => exact Option.some.inj hx
  | global g => exact Option.some.inj hx
  | func f => exact Option.some.inj hx
theorem Fr.put {n d : Nat} {m : Env} {a : Act} (h : Fr n m a) (v : Value) (hd : d < n) : Fr n ((d, v) :: m) (a.put (some d) v) := by
  refine ⟨by simpa [Act.put] using h.size, h.defers, ?_⟩
  intro i u hu
  simp only [look] at hu
  have hsz := h.size
  cases hb : Nat.beq d i with
  | true =>
    rw [hb] at hu
    have e : d = i := Nat.eq_of_beq_eq_true hb
    subst e
    injection hu with hu
    subst hu
    simp [Act.put, Array.getD, hsz, hd]
  | false =>
    rw [hb] at hu
    have hne : d ≠ i := Nat.ne_of_beq_eq_false hb
    have h2 := h.at_ i u hu
    show (a.tmps.setIfInBounds d v).getD i undef = u
    rw [← h2]
    simp only [Array.getD_eq_getD_getElem?, Array.getElem?_setIfInBounds, if_neg hne]
theorem Fr.put_none {n : Nat} {m : Env} {a : Act} (h : Fr n m a) (v : Value) : Fr n m (a.put none v) := h
theorem Fr.sub {n : Nat} {m m' : Env} {a : Act} (h : Fr n m a) (hs : ∀ i v, look m' i = some v → look m i = some v) : Fr n m' a := ⟨h.size, h.defers, fun i v hv => h.at_ i v (hs i v hv)⟩
/-- all of m' is in m -/
def sub_ (m : Env) : Env → Prop
  | [] => True
  | (i, v) :: m' => look m i = some v ∧ sub_ m m'
theorem sub_look {m : Env} : ∀ {m' : Env}, sub_ m m' → ∀ i v, look m' i = some v → look m i = some v
  | [], _, _, _, h => by simp [look] at h
  | (i', v') :: m', hs, i, v, h => by
    simp only [look] at h
    cases hb : Nat.beq i' i with
    | true =>
      rw [hb] at h
      injection h with h
      rw [← h, ← Nat.eq_of_beq_eq_true hb]
      exact hs.1
    | false =>
      rw [hb] at h
      exact sub_look hs.2 i v h

/-! ### blocks, chunks, facts -/
abbrev Blks := Nat → Prop
/-- what is owned -/
structure Ch where
  blk : Option Nat
  ok : Blks → World → Prop
  st : ∀ {A A' : Blks} {w w' : World}, (∀ b, A b → A' b) → (∀ b, A b → w'.heap[b]? = w.heap[b]?) → (∀ b, blk = some b → w'.heap[b]? = w.heap[b]?) → ok A w → ok A' w'
/-- what never turns any more -/
structure Im where
  ok : Blks → World → Prop
  st : ∀ {A A' : Blks} {w w' : World}, (∀ b, A b → A' b) → (∀ b, A b → w'.heap[b]? = w.heap[b]?) → ok A w → ok A' w'
structure St (A : Blks) (S : List Ch) (I : List Im) (w : World) : Prop where
  lt : ∀ b, A b → b < w.heap.size
  ch : ∀ c ∈ S, c.ok A w
  own : ∀ c ∈ S, ∀ b, c.blk = some b → b < w.heap.size ∧ ¬ A b
  dis : S.Pairwise fun c d => ∀ b, c.blk = some b → d.blk ≠ some b
  im : ∀ i ∈ I, i.ok A w
def Own (S : List Ch) : Blks := fun b => ∃ c ∈ S, c.blk = some b
structure Key where
  w : World
  A : Blks
  O : Blks
structure Fx (K : Key) (A : Blks) (S : List Ch) (w : World) : Prop where
  os : w.os = K.w.os
  tape : w.tape = K.w.tape
  output : w.output = K.w.output
  size : K.w.heap.size ≤ w.heap.size
  keep : ∀ b, b < K.w.heap.size → ¬ K.O b → w.heap[b]? = K.w.heap[b]?
  up : ∀ b, K.A b → A b
  dn : ∀ b, A b → K.A b ∨ K.O b ∨ K.w.heap.size ≤ b
  own : ∀ b, Own S b → K.O b ∨ K.w.heap.size ≤ b
structure SS (K : Key) (A : Blks) (S : List Ch) (I : List Im) (w : World) : Prop where
  st : St A S I w
  fx : Fx K A S w
theorem St.left {A : Blks} {S R : List Ch} {I J : List Im} {w : World} (h : St A (S ++ R) I w) (hJ : ∀ i ∈ J, i ∈ I) : St A S J w :=
  ⟨h.lt, fun c hc => h.ch c (List.mem_append_left _ hc), fun c hc => h.own c (List.mem_append_left _ hc), (List.pairwise_append.1 h.dis).1, fun i hi => h.im i (hJ i hi)⟩
theorem SS.start {A : Blks} {S : List Ch} {I : List Im} {w : World} (h : St A S I w) : SS ⟨w, A, Own S⟩ A S I w :=
  ⟨h, rfl, rfl, rfl, Nat.le_refl _, fun _ _ _ => rfl, fun _ h => h, fun _ h => .inl h, fun _ h => .inl h⟩
/-- a part does something: the whole -/
theorem SS.frame {K : Key} {A A' : Blks} {S R S' : List Ch} {I I' : List Im} {w w' : World} (h : SS K A (S ++ R) I w) (h2 : SS ⟨w, A, Own S⟩ A' S' I' w') : SS K A' (S' ++ R) (I' ++ I) w' := by
  have hdis := List.pairwise_append.1 h.st.dis
  have hA : ∀ b, A b → w'.heap[b]? = w.heap[b]? := fun b hb => h2.fx.keep b (h.st.lt b hb) (fun ⟨c, hc, e⟩ => (h.st.own c (List.mem_append_left _ hc) b e).2 hb)
  have hR : ∀ d ∈ R, ∀ b, d.blk = some b → ¬ Own S b := fun d hd b hb ⟨c, hc, e⟩ => hdis.2.2 c hc d hd b e hb
  have hRk : ∀ d ∈ R, ∀ b, d.blk = some b → w'.heap[b]? = w.heap[b]? := fun d hd b hb => h2.fx.keep b (h.st.own d (List.mem_append_right _ hd) b hb).1 (hR d hd b hb)
  have hSW : ∀ b, Own S b → K.O b ∨ K.w.heap.size ≤ b := fun b ⟨c, hc, e⟩ => h.fx.own b ⟨c, List.mem_append_left _ hc, e⟩
  refine ⟨⟨h2.st.lt, ?_, ?_, ?_, ?_⟩, ⟨h2.fx.os.trans h.fx.os, h2.fx.tape.trans h.fx.tape, h2.fx.output.trans h.fx.output, Nat.le_trans h.fx.size h2.fx.size, ?_, fun b hb => h2.fx.up b (h.fx.up b hb), ?_, ?_⟩⟩
  · intro c hc
    rcases List.mem_append.1 hc with hc | hc
    · exact h2.st.ch c hc
    · exact c.st h2.fx.up hA (hRk c hc) (h.st.ch c (List.mem_append_right _ hc))
  · intro c hc b hb
    rcases List.mem_append.1 hc with hc | hc
    · exact h2.st.own c hc b hb
    · have h3 := h.st.own c (List.mem_append_right _ hc) b hb
      refine ⟨Nat.lt_of_lt_of_le h3.1 h2.fx.size, fun hA' => ?_⟩
      rcases h2.fx.dn b hA' with h4 | h4 | h4
      · exact h3.2 h4
      · exact hR c hc b hb h4
      · exact Nat.lt_irrefl _ (Nat.lt_of_lt_of_le h3.1 h4)
  · refine List.pairwise_append.2 ⟨h2.st.dis, hdis.2.1, ?_⟩
    intro c hc d hd b hb hb2
    have h3 := h.st.own d (List.mem_append_right _ hd) b hb2
    rcases h2.fx.own b ⟨c, hc, hb⟩ with h4 | h4
    · exact hR d hd b hb2 h4
    · exact Nat.lt_irrefl _ (Nat.lt_of_lt_of_le h3.1 h4)
  · intro i hi
    rcases List.mem_append.1 hi with hi | hi
    · exact h2.st.im i hi
    · exact i.st h2.fx.up hA (h.st.im i hi)
  · intro b hb hO
    refine (h2.fx.keep b (Nat.lt_of_lt_of_le hb h.fx.size) (fun ho => ?_)).trans (h.fx.keep b hb hO)
    rcases hSW b ho with h4 | h4
    · exact hO h4
    · exact Nat.lt_irrefl _ (Nat.lt_of_lt_of_le hb h4)
  · intro b hb
    rcases h2.fx.dn b hb with h4 | h4 | h4
    · exact h.fx.dn b h4
    · exact .inr (hSW b h4)
    · exact .inr (.inr (Nat.le_trans h.fx.size h4))
  · rintro b ⟨c, hc, e⟩
    rcases List.mem_append.1 hc with hc | hc
    · rcases h2.fx.own b ⟨c, hc, e⟩ with h4 | h4
      · exact hSW b h4
      · exact .inr (Nat.le_trans h.fx.size h4)
    · exact h.fx.own b ⟨c, List.mem_append_right _ hc, e⟩
theorem SS.perm {K : Key} {A : Blks} {S S' : List Ch} {I I' : List Im} {w : World} (h : SS K A S I w) (hp : S'.Perm S) (hI : ∀ i ∈ I', i ∈ I) : SS K A S' I' w := by
  have hs : ∀ {x y : Ch}, (∀ b, x.blk = some b → y.blk ≠ some b) → (∀ b, y.blk = some b → x.blk ≠ some b) := fun h b hy hx => h b hx hy
  refine ⟨⟨h.st.lt, fun c hc => h.st.ch c (hp.mem_iff.1 hc), fun c hc => h.st.own c (hp.mem_iff.1 hc), (hp.pairwise_iff (@hs)).2 h.st.dis, fun i hi => h.st.im i (hI i hi)⟩, ⟨h.fx.os, h.fx.tape, h.fx.output, h.fx.size, h.fx.keep, h.fx.up, h.fx.dn, fun b ⟨c, hc, e⟩ => h.fx.own b ⟨c, hp.mem_iff.1 hc, e⟩⟩⟩
theorem SS.drop {K : Key} {A : Blks} {S R : List Ch} {I I' : List Im} {w : World} (h : SS K A (S ++ R) I w) (hI : ∀ i ∈ I', i ∈ I) : SS K A S I' w :=
  ⟨h.st.left hI, ⟨h.fx.os, h.fx.tape, h.fx.output, h.fx.size, h.fx.keep, h.fx.up, h.fx.dn, fun b ⟨c, hc, e⟩ => h.fx.own b ⟨c, List.mem_append_left _ hc, e⟩⟩⟩
/-- draws turn nothing -/
theorem SS.heap {K : Key} {A : Blks} {S : List Ch} {I : List Im} {w w' : World} (h : SS K A S I w) (hh : w'.heap = w.heap) (ho : w'.os = w.os) (ht : w'.tape = w.tape) (hu : w'.output = w.output) : SS K A S I w' := by
  refine ⟨⟨by rw [hh]; exact h.st.lt, fun c hc => c.st (fun _ h => h) (fun _ _ => by rw [hh]) (fun _ _ => by rw [hh]) (h.st.ch c hc), by rw [hh]; exact h.st.own, h.st.dis, fun i hi => i.st (fun _ h => h) (fun _ _ => by rw [hh]) (h.st.im i hi)⟩,
    ⟨ho.trans h.fx.os, ht.trans h.fx.tape, hu.trans h.fx.output, by rw [hh]; exact h.fx.size, by rw [hh]; exact h.fx.keep, h.fx.up, h.fx.dn, h.fx.own⟩⟩

/-! ### types, as a table -/
inductive TK where
  | int (k : IntKind) | bool | string | pointer (e : Nat) | slice (e : Nat) | struct (fs : List (Nat × Nat)) | array (len e : Nat) | map (k e : Nat) | func | other
structure TI where
  k : TK
  size : Nat
  bytes : Nat
  zero : List Value
  agg : Bool
  eq : Bool
abbrev Tab := List (Nat × TI)
def tlook : Tab → Nat → Option TI
  | [], _ => none
  | (i, v) :: m, j => match Nat.beq i j with
    | true => some v
    | false => tlook m j
def TK.fits : TK → TypeDesc → Prop
  | .int k, d => d = .int k
  | .bool, d => d = .bool
  | .string, d => d = .string
  | .pointer e, d => d = .pointer e
  | .slice e, d => d = .slice e
  | .struct fs, d => ∃ a : Array Field, d = .struct a ∧ a.toList.map (fun f => (f.type, f.offset)) = fs
  | .array n e, d => d = .array n e
  | .map k e, d => d = .map k e
  | .func, d => ∃ a b c, d = .func a b c
  | .other, _ => True
def TK.isAgg : TK → Bool
  | .struct _ | .array _ _ => true
  | _ => false
/-- may be compared -/
def EqOk (P : Program) (t : Nat) : Prop := (∀ a, P.underlying t = some (.struct a) → (∀ f ∈ a.toList, (f.name == "_") = false) ∧ P.stoodInHeld t = false) ∧ P.eqGuardType P.depth t = false
def TI.ok (P : Program) (t : Nat) (i : TI) : Prop :=
  ∃ (d : TypeDesc) (f : TypeInfo) (z : Value), P.underlying t = some d ∧ P.info? t = some f ∧ i.k.fits d ∧ f.size = i.size ∧ f.bytes = i.bytes ∧ f.zero = some z ∧ z.cells.toList = i.zero ∧ i.agg = i.k.isAgg ∧ (i.k.isAgg = false → ∀ a, d ≠ .struct a) ∧ (i.k.isAgg = false → ∀ a b, d ≠ .array a b) ∧ (i.eq = true → EqOk P t)
def TabOk (P : Program) (τ : Tab) : Prop := ∀ t i, tlook τ t = some i → i.ok P t
structure Pg where
  P : Program
  τ : Tab
  ok : TabOk P τ

/-! ### judgements -/
section
variable (G : Pg) (n : Nat) (K : Key)
/-- a piece of code -/
def T (Q : Exit → Act → World → Prop) (c : Code) (m : Env) (S : List Ch) (I : List Im) : Prop := ∀ A a w, Fr n m a → SS K A S I w → c.wp G.P Q a w
/-- what is left of a region -/
def L (ops : Array Oper) (Q : Exit → Act → World → Prop) (l : List Oper) (m : Env) (S : List Ch) (I : List Im) : Prop := ∀ A a w, Fr n m a → SS K A S I w → wpList G.P ops Q l a w
/-- an exit -/
def E (Q : Exit → Act → World → Prop) (e : Exit) (m : Env) (S : List Ch) (I : List Im) : Prop := ∀ A a w, Fr n m a → SS K A S I w → Q e a w
/-- a call: its arguments, what it takes, what it gives -/
def CT (f : FuncId) (args : List Value) (S : List Ch) (I : List Im) {σ : Type} (val : σ → Value) (S' : σ → List Ch) (I' : σ → List Im) : Prop :=
  (∃ fn, G.P.funcs[f]? = some fn ∧ (fn.name == "runtime.NumGoroutine") = false ∧ fn.body.isNone = false) ∧
  ∀ A w, St A S I w → Calls G.P f args.toArray w fun e w' => ∃ x A', e = .returned (val x) ∧ SS ⟨w, A, Own S⟩ A' (S' x) (I' x) w'
end
section
variable {G : Pg} {n : Nat} {K : Key} {Q : Exit → Act → World → Prop} {m : Env} {S : List Ch} {I : List Im} {ops : Array Oper}
theorem T.region {id : Nat} {l : List Oper} (h : L G n K l.toArray Q l m S I) : T G n K Q (.region id l.toArray false) m S I :=
  fun A a w hf hs => wp_region_lit (h A a w hf hs)
theorem T.seq {x y : Code} (h : T G n K (Exit.then (y.wp G.P Q) Q) x m S I) : T G n K Q (.seq x y) m S I := fun A a w hf hs => wp_seq (h A a w hf hs)
theorem T.skip (h : E n K Q .normal m S I) : T G n K Q .skip m S I := fun A a w hf hs => wp_skip (h A a w hf hs)
theorem T.exit {id : Nat} (h : E n K Q (.exit id) m S I) : T G n K Q (.exit id) m S I := fun A a w hf hs => wp_exit (h A a w hf hs)
theorem T.ret (h : E n K Q .ret m S I) : T G n K Q .ret m S I := fun A a w hf hs => wp_ret (h A a w hf hs)
theorem T.block {id : Nat} {c : Code} (h : T G n K (Exit.inBlock id Q) c m S I) : T G n K Q (.block id c) m S I := fun A a w hf hs => wp_block (h A a w hf hs)
theorem T.cond {c : Operand} {x y : Code} {b : Bool} (hc : ev m c = some (.bool b)) (ht : b = true → T G n K Q x m S I) (hf : b = false → T G n K Q y m S I) : T G n K Q (.cond c x y) m S I :=
  fun A a w hfr hs => wp_cond_split (hfr.ev hc) (fun h => ht h A a w hfr hs) (fun h => hf h A a w hfr hs)
/-- with the pure branch -/
theorem T.bif {ρ : Type} {g h : Option ρ} {r : ρ} {c : Operand} {x y : Code} {b : Bool} (hc : ev m c = some (.bool b)) (H : (bif b then g else h) = some r) (ht : b = true → g = some r → T G n K Q x m S I) (hf : b = false → h = some r → T G n K Q y m S I) : T G n K Q (.cond c x y) m S I :=
  T.cond hc (fun e => ht e (by rw [e] at H; exact H)) (fun e => hf e (by rw [e] at H; exact H))
theorem E.then {y : Code} (h : T G n K Q y m S I) : E n K (Exit.then (y.wp G.P Q) Q) .normal m S I := h
theorem E.then_exit {y : Code} {id : Nat} (h : E n K Q (.exit id) m S I) : E n K (Exit.then (y.wp G.P Q) Q) (.exit id) m S I := h
theorem E.then_ret {y : Act → World → Prop} (h : E n K Q .ret m S I) : E n K (Exit.then y Q) .ret m S I := h
theorem E.then_exit' {y : Act → World → Prop} {id : Nat} (h : E n K Q (.exit id) m S I) : E n K (Exit.then y Q) (.exit id) m S I := h
theorem E.block {id : Nat} (h : E n K Q .normal m S I) : E n K (Exit.inBlock id Q) .normal m S I := h
theorem E.block_ret {id : Nat} (h : E n K Q .ret m S I) : E n K (Exit.inBlock id Q) .ret m S I := h
theorem E.block_here {id : Nat} (h : E n K Q .normal m S I) : E n K (Exit.inBlock id Q) (.exit id) m S I := fun A a w hf hs => by
  show (if id = id then Q .normal a w else Q (.exit id) a w)
  rw [if_pos rfl]
  exact h A a w hf hs
theorem E.block_on {id id' : Nat} (hne : Nat.beq id' id = false) (h : E n K Q (.exit id') m S I) : E n K (Exit.inBlock id Q) (.exit id') m S I := fun A a w hf hs => by
  show (if id' = id then Q .normal a w else Q (.exit id') a w)
  rw [if_neg (Nat.ne_of_beq_eq_false hne)]
  exact h A a w hf hs
theorem L.nil (h : E n K Q .normal m S I) : L G n K ops Q [] m S I := h
/-- fewer slots, chunks in another order, fewer facts -/
theorem T.keep {c : Code} {m' : Env} {S' : List Ch} {I' : List Im} (hm : sub_ m m') (hp : (S' : List Ch).Perm S) (hI : ∀ i ∈ I', i ∈ I) (h : T G n K Q c m' S' I') : T G n K Q c m S I :=
  fun A a w hf hs => h A a w (hf.sub (sub_look hm)) (hs.perm hp hI)
theorem T.slots {c : Code} (m' : Env) (hm : sub_ m m') (h : T G n K Q c m' S I) : T G n K Q c m S I := fun A a w hf hs => h A a w (hf.sub (sub_look hm)) hs
theorem T.drop {c : Code} {R : List Ch} {I' : List Im} (hI : ∀ i ∈ I', i ∈ I) (h : T G n K Q c m S I') : T G n K Q c m (S ++ R) I := fun A a w hf hs => h A a w hf (hs.drop hI)
theorem E.keep {e : Exit} {m' : Env} {S' : List Ch} {I' : List Im} (hm : sub_ m m') (hp : (S' : List Ch).Perm S) (hI : ∀ i ∈ I', i ∈ I) (h : E n K Q e m' S' I') : E n K Q e m S I :=
  fun A a w hf hs => h A a w (hf.sub (sub_look hm)) (hs.perm hp hI)
theorem L.perm {l : List Oper} {S' : List Ch} (hp : (S' : List Ch).Perm S) (h : L G n K ops Q l m S' I) : L G n K ops Q l m S I :=
  fun A a w hf hs => h A a w hf (hs.perm hp fun _ h => h)
theorem least {R : Nat → Prop} (h : ∃ k, R k) : ∃ k, R k ∧ ∀ j, R j → k ≤ j := by
  obtain ⟨k, hk⟩ := h
  induction k using Nat.strongRecOn with
  | _ k ih =>
    by_cases hj : ∃ j, j < k ∧ R j
    · obtain ⟨j, hlt, hR⟩ := hj
      exact ih j hlt hR
    · exact ⟨k, hk, fun j hR => Nat.le_of_not_lt fun hlt => hj ⟨j, hlt, hR⟩⟩
/-- a loop, by the rounds that its pure form has -/
theorem T.loop {ρ σ : Type} {r : ρ} {c : Code} (l : Nat → σ → Option ρ) (M : σ → Env) (SL : σ → List Ch) (IL : σ → List Im) (h0 : ∀ s, l 0 s ≠ some r)
    (round : ∀ k s, l (k + 1) s = some r → T G n K (Exit.then (fun a w => ∃ s' A, l k s' = some r ∧ Fr n (M s') a ∧ SS K A (SL s') (IL s') w) Q) c (M s) (SL s) (IL s))
    {k : Nat} {s : σ} (h : l k s = some r) : T G n K Q (.loop c) (M s) (SL s) (IL s) := by
  intro A a w hf hs
  classical
  let R : Act → World → Nat → Prop := fun a w k => ∃ s A, l k s = some r ∧ Fr n (M s) a ∧ SS K A (SL s) (IL s) w
  refine wp_loop (fun a w => ∃ k, R a w k) (fun a w => if h : ∃ k, R a w k then Classical.choose (least h) else 0) ⟨k, s, A, h, hf, hs⟩ ?_
  rintro a1 w1 ⟨k1, hk1⟩
  have hex : ∃ k, R a1 w1 k := ⟨k1, hk1⟩
  have hmu : (if h : ∃ k, R a1 w1 k then Classical.choose (least h) else 0) = Classical.choose (least hex) := dif_pos hex
  obtain ⟨⟨s2, A2, hl, hf2, hs2⟩, hmin⟩ := Classical.choose_spec (least hex)
  rw [← hmu] at hl hmin
  generalize (if h : ∃ k, R a1 w1 k then Classical.choose (least h) else 0) = mu at hl hmin ⊢
  cases mu with
  | zero => exact absurd hl (h0 s2)
  | succ k2 =>
    refine Code.wp_mono ?_ (round k2 s2 hl A2 a1 w1 hf2 hs2)
    intro e a3 w3 hq
    cases e with
    | normal =>
      obtain ⟨s3, A3, hl3, hf3, hs3⟩ := hq
      refine ⟨⟨k2, s3, A3, hl3, hf3, hs3⟩, ?_⟩
      have hex3 : ∃ k, R a3 w3 k := ⟨k2, s3, A3, hl3, hf3, hs3⟩
      show (if h : ∃ k, R a3 w3 k then Classical.choose (least h) else 0) < k2 + 1
      rw [dif_pos hex3]
      exact Nat.lt_succ_of_le ((Classical.choose_spec (least hex3)).2 k2 ⟨s3, A3, hl3, hf3, hs3⟩)
    | exit id => exact hq
    | goto id => exact hq
    | ret => exact hq
    | panic ch => exact hq
    | outgrown => exact hq
theorem E.again {ρ σ : Type} {r : ρ} {l : Nat → σ → Option ρ} {M : σ → Env} {SL : σ → List Ch} {IL : σ → List Im} {k : Nat} (s : σ) (hm : sub_ m (M s)) (hp : (SL s).Perm S) (hI : ∀ i ∈ IL s, i ∈ I) (H : l k s = some r) :
    E n K (Exit.then (fun a w => ∃ s' A, l k s' = some r ∧ Fr n (M s') a ∧ SS K A (SL s') (IL s') w) Q) .normal m S I :=
  fun A a w hf hs => ⟨s, A, H, hf.sub (sub_look hm), hs.perm hp hI⟩
end
end Go.Tw

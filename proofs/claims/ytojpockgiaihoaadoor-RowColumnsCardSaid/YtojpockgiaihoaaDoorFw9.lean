import Derived.Test.YtojpockgiaihoaaDoorFw8
import Derived.OrdersHeld
set_option linter.unusedVariables false
set_option linter.unusedSimpArgs false
namespace Go.Tw
open Go

/-! ### regions whose order is drawn -/
def bindsA (e : Edge) : Bool := match e.ground with
  | .textOnly _ | .gcOnly _ => false
  | _ => true
theorem binds_any (e : Edge) : Region.binds .any e = bindsA e := by
  unfold Region.binds bindsA
  cases e.ground <;> rfl
def mem (i : Nat) : List Nat → Bool
  | [] => false
  | j :: l => Nat.beq i j || mem i l
theorem mem_iff {i : Nat} : ∀ {l : List Nat}, mem i l = true ↔ i ∈ l
  | [] => by simp [mem]
  | j :: l => by
    simp only [mem, Bool.or_eq_true, mem_iff (l := l), List.mem_cons]
    constructor
    · rintro (h | h)
      · exact .inl (Nat.eq_of_beq_eq_true h)
      · exact .inr h
    · rintro (rfl | h)
      · exact .inl (Nat.beq_refl _)
      · exact .inr h
def lst (n : Nat) (l : List Nat) : Array Bool := ((List.range n).map fun i => mem i l).toArray
theorem lst_get (n : Nat) (l : List Nat) (i : Nat) (d : Bool) : (lst n l).getD i d = if i < n then mem i l else d := by
  unfold lst
  rw [Array.getD_eq_getD_getElem?]
  split <;> rename_i h <;> simp [h]
theorem lst_set (n : Nat) (l : List Nat) (i : Nat) : (lst n l).setIfInBounds i true = lst n (i :: l) := by
  apply Array.ext'
  unfold lst
  rw [Array.toList_setIfInBounds]
  show ((List.range n).map fun i => mem i l).set i true = (List.range n).map fun j => mem j (i :: l)
  apply List.ext_getElem?
  intro j
  rw [List.getElem?_set, List.getElem?_map, List.getElem?_map, List.length_map, List.length_range]
  by_cases hij : i = j
  · subst hij
    by_cases hi : i < n <;> simp [hi, mem]
  · rw [if_neg hij]
    have : Nat.beq j i = false := by cases hb : Nat.beq j i with
      | false => rfl
      | true => exact absurd (Nat.eq_of_beq_eq_true hb).symm hij
    cases hr : (List.range n)[j]? with
    | none => rfl
    | some y =>
      have : y = j := by
        obtain ⟨h1, h2⟩ := List.getElem?_eq_some_iff.1 hr
        simpa using h2.symm
      subst this
      simp [mem, *]
theorem lst_nil (n : Nat) : Array.replicate n false = lst n [] := by
  apply Array.ext
  · simp [lst]
  · intro j h1 h2
    simp [lst, mem]
def rdy1 (l : List Nat) (o : Oper) : Bool := o.after.toList.all fun e => !bindsA e || mem e.on l
def rdys (l : List Nat) : Nat → List Oper → List Nat
  | _, [] => []
  | i, o :: r => match !mem i l && rdy1 l o with
    | true => i :: rdys l (i + 1) r
    | false => rdys l (i + 1) r
/-- all that is named lies within -/
def closed (ops : List Oper) : Bool := ops.all fun o => o.after.toList.all fun e => Nat.blt e.on ops.length
theorem rdys_mem {l : List Nat} : ∀ {r : List Oper} {k i : Nat}, i ∈ rdys l k r ↔ ∃ j o, i = k + j ∧ r[j]? = some o ∧ (!mem i l && rdy1 l o) = true
  | [], k, i => by simp [rdys]
  | o :: r, k, i => by
    simp only [rdys]
    have ih := rdys_mem (l := l) (r := r) (k := k + 1) (i := i)
    split
    · rename_i h
      rw [List.mem_cons, ih]
      constructor
      · rintro (rfl | ⟨j, o', rfl, h1, h2⟩)
        · exact ⟨0, o, rfl, rfl, h⟩
        · exact ⟨j + 1, o', by omega, h1, h2⟩
      · rintro ⟨j, o', rfl, h1, h2⟩
        cases j with
        | zero => exact .inl rfl
        | succ j => exact .inr ⟨j, o', by omega, h1, h2⟩
    · rename_i h
      rw [ih]
      constructor
      · rintro ⟨j, o', rfl, h1, h2⟩
        exact ⟨j + 1, o', by omega, h1, h2⟩
      · rintro ⟨j, o', rfl, h1, h2⟩
        cases j with
        | zero =>
          simp at h1
          subst h1
          rw [Nat.add_zero, h] at h2
          cases h2
        | succ j => exact ⟨j, o', by omega, h1, h2⟩
theorem ready_mem {ops : List Oper} {l : List Nat} (hc : closed ops = true) {i : Nat} : i ∈ Region.ready .any ops.toArray (lst ops.length l) ↔ i ∈ rdys l 0 ops := by
  rw [mem_ready, rdys_mem]
  have hon : ∀ o ∈ ops, ∀ e ∈ o.after, e.on < ops.length := fun o ho e he => blt_lt (List.all_eq_true.1 (List.all_eq_true.1 hc o ho) e (by simpa using he))
  constructor
  · rintro ⟨h1, o, h2, h3⟩
    have h2' : ops[i]? = some o := by simpa using h2
    have hlt : i < ops.length := (List.getElem?_eq_some_iff.1 h2').1
    rw [lst_get, if_pos hlt] at h1
    refine ⟨i, o, by omega, h2', ?_⟩
    rw [h1]
    simp only [Bool.not_false, Bool.true_and, rdy1, List.all_eq_true, Bool.or_eq_true, Bool.not_eq_true']
    intro e he
    have he' : e ∈ o.after := by simpa using he
    cases hb : bindsA e with
    | false => exact .inl rfl
    | true =>
      right
      have h4 := h3 e he' (by rw [binds_any, hb])
      rw [lst_get, if_pos (hon o (List.mem_of_getElem? h2') e he')] at h4
      exact h4
  · rintro ⟨j, o, hj, h2, h3⟩
    obtain rfl : i = j := by omega
    have hlt : i < ops.length := (List.getElem?_eq_some_iff.1 h2).1
    simp only [Bool.and_eq_true, Bool.not_eq_true', rdy1, List.all_eq_true, Bool.or_eq_true] at h3
    refine ⟨by rw [lst_get, if_pos hlt]; exact h3.1, o, by simpa using h2, fun e he hb => ?_⟩
    rw [binds_any] at hb
    have h4 := h3.2 e (by simpa using he)
    rw [hb] at h4
    rw [lst_get, if_pos (hon o (List.mem_of_getElem? h2) e he)]
    exact h4.resolve_left (by simp)

/-- Whatever order is picked from here on; 'S' may grow. -/
def wpG (P : Program) (ops : Array Oper) (Q : Exit → Act → World → Prop) (late : List Nat) : Nat → (World → Prop) → Array Bool → Act → World → Prop
  | 0, S, listed, a, w => Region.ready .any ops listed = [] ∧ Q .normal a w
  | fuel + 1, S, listed, a, w =>
    (Region.ready .any ops listed = [] → Q .normal a w) ∧
    ∀ i ∈ Region.ready .any ops listed, wpOp P ops Q i (fun a' w' => ∃ S' : World → Prop, (i ∈ late ∨ ∀ w, S' w → S w) ∧ S' w' ∧ wpG P ops Q late fuel S' (listed.setIfInBounds i true) a' w') a w
section
variable {P : Program} {ops : Array Oper} {Q : Exit → Act → World → Prop} {late : List Nat}
theorem wpAny_of_G : ∀ (fuel : Nat) (S : World → Prop) (listed : Array Bool) (a : Act) (w : World), wpG P ops Q late fuel S listed a w → wpAny P .any ops Q fuel listed a w
  | 0, _, _, _, _, h => h
  | fuel + 1, _, _, _, _, h => ⟨h.1, fun i hi => wpOp_mono (fun a' w' ⟨S', _, _, h'⟩ => wpAny_of_G fuel S' _ a' w' h') (h.2 i hi)⟩
theorem wpG_weak : ∀ {fuel : Nat} {S S2 : World → Prop} {listed : Array Bool} {a : Act} {w : World}, (∀ w, S w → S2 w) → wpG P ops Q late fuel S listed a w → wpG P ops Q late fuel S2 listed a w
  | 0, _, _, _, _, _, _, h => h
  | fuel + 1, _, _, _, _, _, hS, h => ⟨h.1, fun i hi => wpOp_mono (fun a' w' ⟨S', h1, h2, h3⟩ => ⟨S', h1.imp id (fun h1 w h => hS w (h1 w h)), h2, h3⟩) (h.2 i hi)⟩
theorem YieldsIf.weak {S S2 : World → Prop} {o : Oper} {v : Value} {a : Act} (h : YieldsIf P ops S o v a) (hS : ∀ w, S2 w → S w) : YieldsIf P ops S2 o v a := h.imp (fun ⟨h1, h2⟩ => ⟨h1, fun w hw => h2 w (hS w hw)⟩) id
/-- j waits for i, maybe through others -/
inductive Wt (ops : Array Oper) (i : Nat) : Nat → Prop where
  | one {j oj} {e : Edge} (hj : ops[j]? = some oj) (he : e ∈ oj.after) (hb : Region.binds .any e = true) (h : e.on = i) : Wt ops i j
  | more {j oj} {e : Edge} (hj : ops[j]? = some oj) (he : e ∈ oj.after) (hb : Region.binds .any e = true) (h : Wt ops i e.on) : Wt ops i j
def DC (ops : Array Oper) (listed : Array Bool) : Prop := ∀ j oj, ops[j]? = some oj → listed.getD j false = true → ∀ e ∈ oj.after, Region.binds .any e = true → listed.getD e.on false = true
theorem DC.wt {listed : Array Bool} (h : DC ops listed) {i j : Nat} (hw : Wt ops i j) : listed.getD j false = true → listed.getD i false = true := by
  induction hw with
  | one hj he hb h1 => intro hl; rw [← h1]; exact h _ _ hj hl _ he hb
  | more hj he hb h1 ih => intro hl; exact ih (h _ _ hj hl _ he hb)
theorem DC.ready {listed : Array Bool} (h : DC ops listed) {i j : Nat} (hw : Wt ops i j) (hr : j ∈ Region.ready .any ops listed) : listed.getD i false = true := by
  obtain ⟨_, oj, hoj, hall⟩ := mem_ready.1 hr
  cases hw with
  | one hj he hb h1 => rw [hj] at hoj; cases hoj; rw [← h1]; exact hall _ he hb
  | more hj he hb h1 => rw [hj] at hoj; cases hoj; exact h.wt h1 (hall _ he hb)
theorem DC.add {listed : Array Bool} (h : DC ops listed) {j : Nat} (hr : j ∈ Region.ready .any ops listed) : DC ops (listed.setIfInBounds j true) := by
  intro k ok hk hl e he hb
  obtain ⟨_, oj, hoj, hall⟩ := mem_ready.1 hr
  by_cases hjk : j = k
  · subst hjk
    rw [hk] at hoj
    cases hoj
    exact getD_set_true (hall _ he hb)
  · rw [getD_set_ne false hjk] at hl
    exact getD_set_true (h k ok hk hl e he hb)
theorem wpG_first {i : Nat} {oi : Oper} {v : Value} (hi : ops[i]? = some oi) (hsel : ∀ (j : Nat) (o : Oper) cs b, ops[j]? = some o → o.op ≠ .select cs b)
    (hQ : ∀ c a w, Q (.panic c) (a.put oi.dst v) w → Q (.panic c) a w) {S0 : World → Prop} (hlate : (∀ w, S0 w) ∨ ∀ j ∈ late, (ops[j]?).isSome = true → Wt ops i j) :
    ∀ (fuel : Nat) (S : World → Prop) (listed : Array Bool) (a : Act) (w : World),
      (∀ j oj, ops[j]? = some oj → j ≠ i → listed.getD j true = false → (∀ e ∈ oj.after, Region.binds .any e = true → e.on ≠ i) → oi.apart ops oj = true) →
      i ∈ Region.ready .any ops listed → DC ops listed → YieldsIf P ops S0 oi v a → (∀ w, S w → S0 w) → S w →
      wpG P ops Q late fuel S (listed.setIfInBounds i true) (a.put oi.dst v) w → wpG P ops Q late (fuel + 1) S listed a w := by
  intro fuel
  induction fuel with
  | zero =>
    intro S listed a w _ hr hdc hy hSS hS H
    refine ⟨fun h => (by rw [h] at hr; cases hr), fun j hj => ?_⟩
    by_cases hji : j = i
    · subst hji; exact hy.wpOp hi (hSS w hS) ⟨S, .inr fun _ h => h, hS, H⟩
    · have := ready_mono hj hji
      rw [H.1] at this
      cases this
  | succ fuel ih =>
    intro S listed a w hfree hr hdc hy hSS hS H
    refine ⟨fun h => (by rw [h] at hr; cases hr), fun j hj => ?_⟩
    by_cases hji : j = i
    · subst hji; exact hy.wpOp hi (hSS w hS) ⟨S, .inr fun _ h => h, hS, H⟩
    · have h1 := H.2 j (ready_mono hj hji)
      obtain ⟨hjun, oj, hoj, hall⟩ := mem_ready.1 hj
      have hnot : ∀ e ∈ oj.after, Region.binds .any e = true → e.on ≠ i := fun e he hb heq => by
        have h1 := hall e he hb
        have h0 := (mem_ready.1 hr).1
        rw [heq] at h1
        rcases Nat.lt_or_ge i listed.size with h' | h'
        · simp [h'] at h0 h1; rw [h0] at h1; cases h1
        · simp [Array.getElem?_eq_none h'] at h1
      have hun : listed.getD i false = false := by
        have h0 := (mem_ready.1 hr).1
        rcases Nat.lt_or_ge i listed.size with h' | h'
        · simpa [h'] using h0
        · simp [Array.getElem?_eq_none h']
      have hnl : (∀ w, S0 w) ∨ j ∉ late := hlate.imp id fun hl h => by
        have h5 := hdc.ready (hl j h (by rw [hoj]; rfl)) hj
        rw [hun] at h5
        cases h5
      have h2 := wpOp_putIf hoj (hfree j oj hoj hji hjun hnot) (fun cs b => hsel i oi cs b hi) (fun cs b => hsel j oj cs b hoj) hQ hy h1
      have hfree' : ∀ k ok, ops[k]? = some ok → k ≠ i → (listed.setIfInBounds j true).getD k true = false →
          (∀ e ∈ ok.after, Region.binds .any e = true → e.on ≠ i) → oi.apart ops ok = true := fun k ok hk hki hun hno => by
        refine hfree k ok hk hki ?_ hno
        by_cases hjk : j = k
        · subst hjk; exact hjun
        · rw [getD_set_ne true hjk] at hun; exact hun
      refine wpOp_mono (fun a' w' h3 => ?_) h2
      obtain ⟨hy3, S', hm, hS', h4⟩ := h3
      have hm0 := hm
      have hm : ∀ w, S' w → S0 w := by
        rcases hnl with h | h
        · exact fun w _ => h w
        · exact fun w hw => hSS w (hm.resolve_left h w hw)
      refine ⟨S', ?_, hS', ih S' (listed.setIfInBounds j true) a' w' hfree' (ready_mono hr (Ne.symm hji)) (hdc.add hj) hy3 hm hS' ?_⟩
      · exact hm0
      rw [Array.setIfInBounds_comm _ _ hji]
      exact h4
end

/-- no panic -/
def NP (Q : Exit → Act → World → Prop) : Exit → Act → World → Prop
  | .panic _, _, _ => False
  | e, a, w => Q e a w
def WS (C : List Ch) (I : List Im) : World → Prop := fun w => ∃ A, (∀ c ∈ C, c.ok A w) ∧ (∀ f ∈ I, f.ok A w)
section
variable {G : Pg} {n : Nat} {K : Key} {Q : Exit → Act → World → Prop} {m : Env} {S C V : List Ch} {I : List Im} {ops : List Oper} {late l : List Nat} {o : Oper}
/-- what is left of a drawn region: 'l' has come up; 'C' does not turn, 'V' may -/
def D (G : Pg) (n : Nat) (K : Key) (Q : Exit → Act → World → Prop) (ops : List Oper) (late l : List Nat) (C : List Ch) (m : Env) (V : List Ch) (I : List Im) : Prop :=
  ∀ A a w fuel, ops.length ≤ fuel + l.length → Fr n m a → SS K A (C ++ V) I w → wpG G.P ops.toArray (NP Q) late fuel (WS C I) (lst ops.length l) a w
/-- one of its operations comes up -/
def Dp (G : Pg) (n : Nat) (K : Key) (Q : Exit → Act → World → Prop) (ops : List Oper) (late l : List Nat) (i : Nat) (C : List Ch) (m : Env) (V : List Ch) (I : List Im) : Prop :=
  ∀ A a w fuel, ops.length ≤ fuel + (l.length + 1) → Fr n m a → SS K A (C ++ V) I w → wpOp G.P ops.toArray (NP Q) i (fun a' w' => ∃ S' : World → Prop, (i ∈ late ∨ ∀ w, S' w → WS C I w) ∧ S' w' ∧ wpG G.P ops.toArray (NP Q) late fuel S' ((lst ops.length l).setIfInBounds i true) a' w') a w
theorem SS.ws {A : Blks} {w : World} (h : SS K A (C ++ V) I w) : WS C I w := ⟨A, fun c hc => h.st.ch c (List.mem_append_left _ hc), h.st.im⟩
def waits (ops : List Oper) (i : Nat) : Nat → Nat → Bool
  | 0, _ => false
  | f + 1, j => match ops[j]? with
    | some oj => oj.after.toList.any fun e => bindsA e && (Nat.beq e.on i || waits ops i f e.on)
    | none => false
theorem waits_ok {ops : List Oper} {i : Nat} : ∀ {f j : Nat}, waits ops i f j = true → Wt ops.toArray i j
  | 0, _, h => by cases h
  | f + 1, j, h => by
    simp only [waits] at h
    split at h
    · rename_i oj hj
      obtain ⟨e, he, hb⟩ := List.any_eq_true.1 h
      simp only [Bool.and_eq_true, Bool.or_eq_true] at hb
      have hj' : ops.toArray[j]? = some oj := by simpa using hj
      have hb' : Region.binds .any e = true := by rw [binds_any]; exact hb.1
      rcases hb.2 with h1 | h1
      · exact .one hj' (by simpa using he) hb' (Nat.eq_of_beq_eq_true h1)
      · exact .more hj' (by simpa using he) hb' (waits_ok h1)
    · cases h
def lateok (ops : List Oper) (late : List Nat) (i : Nat) : Bool := late.all fun j => waits ops i 5 j
/-- what has come up, has all that it waits for -/
def dcl (ops : List Oper) (l : List Nat) : Bool := l.all fun j => match ops[j]? with
  | some oj => rdy1 l oj
  | none => true
theorem dcl_ok {ops : List Oper} {l : List Nat} (hc : closed ops = true) (h : dcl ops l = true) : DC ops.toArray (lst ops.length l) := by
  intro j oj hj hl e he hb
  have hj' : ops[j]? = some oj := by simpa using hj
  have hlt : j < ops.length := (List.getElem?_eq_some_iff.1 hj').1
  rw [lst_get, if_pos hlt] at hl
  have h1 := List.all_eq_true.1 h j (mem_iff.1 hl)
  rw [hj'] at h1
  have h2 := List.all_eq_true.1 h1 e (by simpa using he)
  rw [binds_any] at hb
  rw [hb] at h2
  have hon : e.on < ops.length := blt_lt (List.all_eq_true.1 (List.all_eq_true.1 hc oj (List.mem_of_getElem? hj')) e (by simpa using he))
  rw [lst_get, if_pos hon]
  simpa using h2
def touch (o : Oper) (d : Nat) : Bool := o.op.operands.toList.any fun | .tmp t => Nat.beq t d | _ => false
/-- apart from all others that haven't come up and don't wait for it -/
def freed (ops : List Oper) (l : List Nat) (i : Nat) (oi : Oper) : Nat → List Oper → Bool
  | _, [] => true
  | k, o :: r => (Nat.beq k i || mem k l || o.after.toList.any (fun e => bindsA e && Nat.beq e.on i) || oi.apart ops.toArray o) && freed ops l i oi (k + 1) r
theorem freed_spec {oi : Oper} {i : Nat} : ∀ {r : List Oper} {k : Nat}, freed ops l i oi k r = true → ∀ j oj, r[j]? = some oj → k + j ≠ i → mem (k + j) l = false → (∀ e ∈ oj.after, bindsA e = true → e.on ≠ i) → oi.apart ops.toArray oj = true
  | [], _, _, j, oj, h, _, _, _ => by simp at h
  | o :: r, k, h, j, oj, hj, h1, h2, h3 => by
    simp only [freed, Bool.and_eq_true, Bool.or_eq_true] at h
    cases j with
    | zero =>
      simp at hj
      subst hj
      rcases h.1 with ((h4 | h4) | h4) | h4
      · exact absurd (Nat.eq_of_beq_eq_true h4) h1
      · rw [Nat.add_zero] at h2; rw [h2] at h4; cases h4
      · obtain ⟨e, he, hb⟩ := List.any_eq_true.1 h4
        simp only [Bool.and_eq_true] at hb
        exact absurd (Nat.eq_of_beq_eq_true hb.2) (h3 e (by simpa using he) hb.1)
      · exact h4
    | succ j =>
      have e : k + (j + 1) = k + 1 + j := by omega
      rw [e] at h1 h2
      exact freed_spec h.2 j oj (by simpa using hj) h1 h2 h3
def noSel (ops : List Oper) : Bool := ops.all fun o => match o.op with | .select .. => false | _ => true
theorem T.draw {id : Nat} (late : List Nat) (is : List Nat) (hmo : G.P.follows .mixedOrders = true) (hS : ext S is = some (C, V)) (h : D G n K Q ops late [] C m V I) : T G n K Q (.region id ops.toArray true) m S I := by
  intro A a w hf hs
  refine Code.wp_mono (Q := NP Q) ?_ (wp_region_any hmo (wpAny_of_G (late := late) _ (WS C I) _ _ _ ?_))
  · intro e a w h
    cases e <;> first | exact h | cases h
  · have h2 := (hs.perm (ext_perm hS) (fun i hi => hi)).heap (w' := { w with drawn := w.drawn + 1 }) rfl rfl rfl rfl
    have h3 := h A a _ ops.length (by simp) hf h2
    have e : ops.toArray.size = ops.length := by simp
    rw [e, lst_nil]
    exact h3
theorem T.drawa {id : Nat} {os : Array Oper} (h0 : os.toList = ops) (late : List Nat) (is : List Nat) (hmo : G.P.follows .mixedOrders = true) (hS : ext S is = some (C, V)) (h : D G n K Q ops late [] C m V I) : T G n K Q (.region id os true) m S I := by
  obtain rfl : os = ops.toArray := by rw [← h0]
  exact T.draw late is hmo hS h
theorem D.nil (hc : closed ops = true) (hr : rdys l 0 ops = []) (h : E n K Q .normal m (C ++ V) I) : D G n K Q ops late l C m V I := by
  intro A a w fuel hfu hf hs
  have hr' : Region.ready .any ops.toArray (lst ops.length l) = [] := by
    apply List.eq_nil_iff_forall_not_mem.2
    intro i hi
    rw [ready_mem hc, hr] at hi
    cases hi
  cases fuel with
  | zero => exact ⟨hr', h A a w hf hs⟩
  | succ fuel => exact ⟨fun _ => h A a w hf hs, by rw [hr']; intro i hi; cases hi⟩
def dchk (ops : List Oper) (late l : List Nat) (i : Nat) : Bool := match ops[i]? with
  | some oi => closed ops && noSel ops && !mem i l && rdy1 l oi && dcl ops l && freed ops l i oi 0 ops && Nat.blt l.length ops.length
  | none => false
theorem D.put {v : Value} {d : Option Nat} {S0 : World → Prop} (i : Nat) (hi : ops[i]? = some o) (hc : dchk ops late l i = true) (hlate : (∀ w, S0 w) ∨ lateok ops late i = true) (hSS : ∀ w, WS C I w → S0 w) (hd : o.dst = d) (hn : dok d n = true) (hy : ∀ A a w, Fr n m a → SS K A (C ++ V) I w → YieldsIf G.P ops.toArray S0 o v a) (h : D G n K Q ops late (i :: l) C (putm d v m) V I) : D G n K Q ops late l C m V I := by
  intro A a w fuel hfu hf hs
  unfold dchk at hc
  rw [hi] at hc
  simp only [Bool.and_eq_true, Bool.not_eq_true'] at hc
  obtain ⟨⟨⟨⟨⟨⟨h1, h2⟩, h3⟩, h4⟩, h5⟩, h6⟩, h7⟩ := hc
  have h7 := blt_lt h7
  obtain ⟨fuel, rfl⟩ : ∃ k, fuel = k + 1 := ⟨fuel - 1, by omega⟩
  have hi' : ops.toArray[i]? = some o := by simpa using hi
  refine wpG_first hi' ?_ ?_ ?_ fuel (WS C I) (lst ops.length l) a w ?_ ?_ (dcl_ok h1 h5) (hy A a w hf hs) hSS hs.ws ?_
  · intro j oj cs b hj e
    have := List.all_eq_true.1 h2 oj (List.mem_of_getElem? (by simpa using hj))
    simp [e] at this
  · intro c a w h; exact h
  · exact hlate.imp id fun h j hj _ => waits_ok (List.all_eq_true.1 h j hj)
  · intro j oj hoj hne hun hno
    have hoj' : ops[j]? = some oj := by simpa using hoj
    have hlt : j < ops.length := (List.getElem?_eq_some_iff.1 hoj').1
    rw [lst_get, if_pos hlt] at hun
    exact freed_spec h6 j oj hoj' (by omega) (by rw [Nat.zero_add]; exact hun) (fun e he hb => hno e he (by rw [binds_any]; exact hb))
  · rw [ready_mem h1, rdys_mem]
    exact ⟨i, o, by omega, hi, by rw [h3, h4]; rfl⟩
  · rw [lst_set, hd]
    exact h A _ w fuel (by simp only [List.length_cons]; omega) (hf.putd hn v) hs
theorem D.y (i : Nat) {d : Nat} {v : Value} (hy : Yl G n m C I o v) (hi : ops[i]? = some o) (hc : dchk ops late l i = true) (hl : lateok ops late i = true) (hw : wg ops m o = some true) (hd : o.dst = some d) (hn : dok (some d) n = true) (h : D G n K Q ops late (i :: l) C ((d, v) :: m) V I) : D G n K Q ops late l C m V I :=
  D.put (S0 := WS C I) i hi hc (.inr hl) (fun _ h => h) hd hn (fun A a w hf hs => .inl ⟨wg_ok hw hf, fun w' ⟨A', h1, h2⟩ => hy A' a w' hf h1 h2⟩) h
theorem D.q (i : Nat) {d : Nat} {v : Value} (hi : ops[i]? = some o) (hc : dchk ops late l i = true) (hw : wg ops m o = some true) (hd : o.dst = some d) (hn : dok (some d) n = true) (hq : qx G.τ m o.op = some v) (h : D G n K Q ops late (i :: l) C ((d, v) :: m) V I) : D G n K Q ops late l C m V I :=
  D.put (S0 := fun _ => True) i hi hc (.inl fun _ => trivial) (fun _ _ => trivial) hd hn (fun A a w hf hs => .inl ⟨wg_ok hw hf, fun w' _ => qx_ok G.ok hf hq w'⟩) h
theorem D.sk (i : Nat) {d : Option Nat} (hi : ops[i]? = some o) (hc : dchk ops late l i = true) (hw : wg ops m o = some false) (hd : o.dst = d) (hn : dok d n = true) (h : D G n K Q ops late (i :: l) C (putm d undef m) V I) : D G n K Q ops late l C m V I :=
  D.put (S0 := fun _ => True) i hi hc (.inl fun _ => trivial) (fun _ _ => trivial) hd hn (fun A a w hf hs => .inr ⟨wg_ok hw hf, rfl⟩) h
theorem D.many {rs : List Nat} (hc : closed ops = true) (hr : rdys l 0 ops = rs) (hl : Nat.blt l.length ops.length = true) (hne : rs ≠ []) (h : ∀ i ∈ rs, Dp G n K Q ops late l i C m V I) : D G n K Q ops late l C m V I := by
  intro A a w fuel hfu hf hs
  have h7 := blt_lt hl
  obtain ⟨fuel, rfl⟩ : ∃ k, fuel = k + 1 := ⟨fuel - 1, by omega⟩
  refine ⟨fun h0 => ?_, fun i hi => ?_⟩
  · exfalso
    apply hne
    apply List.eq_nil_iff_forall_not_mem.2
    intro i hi
    rw [← hr, ← ready_mem hc, h0] at hi
    cases hi
  · rw [ready_mem hc, hr] at hi
    exact h i hi A a w fuel (by omega) hf hs
theorem D.one {i : Nat} (hc : closed ops = true) (hr : rdys l 0 ops = [i]) (hl : Nat.blt l.length ops.length = true) (h : Dp G n K Q ops late l i C m V I) : D G n K Q ops late l C m V I :=
  D.many hc hr hl (by simp) fun j hj => by rw [List.mem_singleton.1 hj]; exact h
theorem D.two {i j : Nat} (hc : closed ops = true) (hr : rdys l 0 ops = [i, j]) (hl : Nat.blt l.length ops.length = true) (h : Dp G n K Q ops late l i C m V I) (h2 : Dp G n K Q ops late l j C m V I) : D G n K Q ops late l C m V I :=
  D.many hc hr hl (by simp) fun k hk => by
    rcases List.mem_cons.1 hk with rfl | hk
    · exact h
    · rw [List.mem_singleton.1 hk]; exact h2
theorem D.three {i j k : Nat} (hc : closed ops = true) (hr : rdys l 0 ops = [i, j, k]) (hl : Nat.blt l.length ops.length = true) (h : Dp G n K Q ops late l i C m V I) (h2 : Dp G n K Q ops late l j C m V I) (h3 : Dp G n K Q ops late l k C m V I) : D G n K Q ops late l C m V I :=
  D.many hc hr hl (by simp) fun x hx => by
    rcases List.mem_cons.1 hx with rfl | hx
    · exact h
    · rcases List.mem_cons.1 hx with rfl | hx
      · exact h2
      · rw [List.mem_singleton.1 hx]; exact h3
theorem Dp.a {i : Nat} (is js : List Nat) {d : Option Nat} {Sp R : List Ch} {J : List Im} {σ : Type} {v : σ → Value} {S' : σ → List Ch} {I' : σ → List Im} (hA : Ac G n m o Sp J v S' I') (hi : ops[i]? = some o) (hw : wg ops m o = some true) (hd : o.dst = d) (hn : dok d n = true) (hS : ext V is = some (Sp, R)) (hJ : pick I js = some J)
    (h : ∀ x, D G n K Q ops late (i :: l) C (putm d (v x) m) (S' x ++ R) (I' x ++ I)) : Dp G n K Q ops late l i C m V I := by
  intro A a w fuel hfu hf hs
  have hi' : ops.toArray[i]? = some o := by simpa using hi
  unfold wpOp
  simp only [hi']
  rw [if_pos (wg_ok hw hf)]
  left
  have hp : (Sp ++ (C ++ R)).Perm (C ++ V) := by
    have h1 := ext_perm hS
    have h2 : (Sp ++ (C ++ R)).Perm (C ++ (Sp ++ R)) := by
      rw [← List.append_assoc, ← List.append_assoc]
      exact (List.perm_append_comm (l₁ := Sp) (l₂ := C)).append_right R
    exact h2.trans (h1.append_left C)
  have hs' := hs.perm hp (fun i hi => hi)
  refine hA A a w _ (NP Q) hf (hs'.st.left (pick_mem hJ)) fun x w' A' h2 => ?_
  have h3 := hs'.frame h2
  have hp2 : (C ++ (S' x ++ R)).Perm (S' x ++ (C ++ R)) := by
    rw [← List.append_assoc, ← List.append_assoc]
    exact (List.perm_append_comm (l₁ := C) (l₂ := S' x)).append_right R
  have h4 := h3.perm hp2 (fun i hi => hi)
  refine ⟨WS C (I' x ++ I), .inr fun w ⟨A, h1, h2⟩ => ⟨A, h1, fun f hf => h2 f (List.mem_append_right _ hf)⟩, h4.ws, ?_⟩
  rw [lst_set, hd]
  exact h x A' _ w' fuel (by simp only [List.length_cons]; omega) (hf.putd hn _) h4
/-- the same, late: nothing need stay -/
theorem Dp.al {i : Nat} (is js : List Nat) {d : Option Nat} {Sp R : List Ch} {J : List Im} {σ : Type} {v : σ → Value} {S' : σ → List Ch} {I' : σ → List Im} (hA : Ac G n m o Sp J v S' I') (hl : mem i late = true) (hi : ops[i]? = some o) (hw : wg ops m o = some true) (hd : o.dst = d) (hn : dok d n = true) (hS : ext (C ++ V) is = some (Sp, R)) (hJ : pick I js = some J)
    (h : ∀ x, D G n K Q ops late (i :: l) [] (putm d (v x) m) (S' x ++ R) (I' x ++ I)) : Dp G n K Q ops late l i C m V I := by
  intro A a w fuel hfu hf hs
  have hi' : ops.toArray[i]? = some o := by simpa using hi
  unfold wpOp
  simp only [hi']
  rw [if_pos (wg_ok hw hf)]
  left
  have hs' := hs.perm (ext_perm hS) (fun i hi => hi)
  refine hA A a w _ (NP Q) hf (hs'.st.left (pick_mem hJ)) fun x w' A' h2 => ?_
  have h3 := hs'.frame h2
  refine ⟨WS [] (I' x ++ I), .inl (mem_iff.1 hl), SS.ws (C := []) h3, ?_⟩
  rw [lst_set, hd]
  exact h x A' _ w' fuel (by simp only [List.length_cons]; omega) (hf.putd hn _) h3
theorem Dp.br {i : Nat} {d : Option Nat} {J : List Im} {σ : Type} {v : σ → Value} (hA : Ac G n m o [] J v (fun _ => []) (fun _ => [])) (hB : Bw (C ++ V) I J) (hi : ops[i]? = some o) (hw : wg ops m o = some true) (hd : o.dst = d) (hn : dok d n = true) (h : ∀ x, D G n K Q ops late (i :: l) C (putm d (v x) m) V I) : Dp G n K Q ops late l i C m V I := by
  intro A a w fuel hfu hf hs
  have hi' : ops.toArray[i]? = some o := by simpa using hi
  unfold wpOp
  simp only [hi']
  rw [if_pos (wg_ok hw hf)]
  left
  obtain ⟨A', h1, h2⟩ := hB A w hs.st
  refine hA A' a w _ (NP Q) hf h2 fun x w' A'' h3 => ?_
  have h4 := hs.grew h3
  refine ⟨WS C I, .inr fun _ h => h, h4.ws, ?_⟩
  rw [lst_set, hd]
  exact h x A _ w' fuel (by simp only [List.length_cons]; omega) (hf.putd hn _) h4
/-- from 'V' to 'C' -/
theorem D.st (is : List Nat) {C' V' : List Ch} (hV : ext V is = some (C', V')) (h : D G n K Q ops late l (C ++ C') m V' I) : D G n K Q ops late l C m V I := by
  intro A a w fuel hfu hf hs
  have hp : ((C ++ C') ++ V').Perm (C ++ V) := by
    rw [List.append_assoc]
    exact (ext_perm hV).append_left C
  exact wpG_weak (fun w ⟨A, h1, h2⟩ => ⟨A, fun c hc => h1 c (List.mem_append_left _ hc), h2⟩) (h A a w fuel hfu hf (hs.perm hp fun i hi => hi))
theorem D.know (J : List Im) (hq : ∀ A w, (∀ c ∈ C, c.ok A w) → (∀ f ∈ I, f.ok A w) → ∀ f ∈ J, f.ok A w) (h : D G n K Q ops late l C m V (J ++ I)) : D G n K Q ops late l C m V I := fun A a w fuel hfu hf hs =>
  wpG_weak (fun w ⟨A, h1, h2⟩ => ⟨A, h1, fun f hf => h2 f (List.mem_append_right _ hf)⟩) (h A a w fuel hfu hf (hs.know (hq A w (fun c hc => hs.st.ch c (List.mem_append_left _ hc)) hs.st.im)))
theorem D.addr (i : Nat) {α : Type} {ty : Ty α} {xs : List α} {a0 : Option Addr} {c0 : Nat} (hI : I[i]? = some (Im.sl ty a0 c0 xs)) (hne : 0 < xs.length) (h : ∀ b o', a0 = some ⟨b, o', none⟩ → D G n K Q ops late l C m V I) : D G n K Q ops late l C m V I := by
  intro A a w fuel hfu hf hs
  rcases (hs.st.im _ (List.mem_of_getElem? hI)).2 with rfl | ⟨b, o', cs, e, _⟩
  · simp at hne
  · exact h b o' e A a w fuel hfu hf hs
theorem D.addro (i : Nat) {α : Type} {ty : Ty α} {xs : List α} {a0 : Option Addr} {c0 T0 : Nat} (hI : (C ++ V)[i]? = some (Ch.arr ty T0 a0 c0 xs)) (hne : 0 < xs.length) (h : ∀ b, a0 = some ⟨b, 0, none⟩ → D G n K Q ops late l C m V I) : D G n K Q ops late l C m V I := by
  intro A a w fuel hfu hf hs
  rcases (arr_reads (hs.st.ch _ (List.mem_of_getElem? hI))).2 with rfl | ⟨b, cs, e, _⟩
  · simp at hne
  · exact h b e A a w fuel hfu hf hs
theorem D.el (i : Nat) {α : Type} {ty : Ty α} {xs : List α} {b o' c0 : Nat} {k : Nat} {x0 : α} (hI : I[i]? = some (Im.sl ty (some ⟨b, o', none⟩) c0 xs)) (hk : xs[k]? = some x0) (h : ∀ hd, D G n K Q ops late l C m V (Im.cells b (o' + k * ty.sz) (ty.cs x0 hd) :: (ty.im x0 hd ++ I))) : D G n K Q ops late l C m V I := by
  intro A a w fuel hfu hf hs
  rcases (hs.st.im _ (List.mem_of_getElem? hI)).2 with rfl | ⟨b1, o1, cs, e, hA, hels, hc⟩
  · simp at hk
  · injection e with e
    injection e with e1 e2
    subst e1 e2
    obtain ⟨hd, h1, h2⟩ := hels.at_ k x0 hk
    refine wpG_weak (fun w ⟨A, h1, h2⟩ => ⟨A, h1, fun f hf => h2 f (List.mem_cons_of_mem _ (List.mem_append_right _ hf))⟩) (h hd A a w fuel hfu hf (hs.know (J := Im.cells b (o' + k * ty.sz) (ty.cs x0 hd) :: ty.im x0 hd) fun f hf' => ?_))
    rcases List.mem_cons.1 hf' with rfl | hf'
    · exact ⟨hA, fun j u hu => by rw [Nat.add_assoc]; exact hc _ u (h2 j u hu)⟩
    · exact h1 f hf'
/-- a Bool that is not known: both -/
theorem D.cs (j : Nat) {ρ : Type} {g h : Option ρ} {r : ρ} {b : Bool} (H : (bif b then g else h) = some r) (hj : look m j = some (.bool b)) (ht : b = true → g = some r → D G n K Q ops late l C ((j, .bool true) :: m) V I) (hf : b = false → h = some r → D G n K Q ops late l C ((j, .bool false) :: m) V I) : D G n K Q ops late l C m V I := by
  intro A a w fuel hfu hfr hs
  have key : ∀ c, look m j = some (.bool c) → Fr n ((j, .bool c) :: m) a := fun c hc => hfr.sub fun i v hi => by
    simp only [look] at hi
    split at hi
    · rename_i hb
      rw [← Nat.eq_of_beq_eq_true hb, hc]
      exact hi
    · exact hi
  cases b with
  | true => exact ht rfl H A a w fuel hfu (key _ hj) hs
  | false => exact hf rfl H A a w fuel hfu (key _ hj) hs
/-- a cut of what never turns -/
theorem D.rs (i : Nat) {α : Type} {ty : Ty α} {xs : List α} {a0 : Option Addr} {c : Nat} (k : Nat) {d t e : Nat} {x : Operand} {lo hi : Option Operand} {lv hv : Int} {ti te : TI} {u : Unit} (hk0 : chk (cutok lv hv xs.length) = some u) (hi' : ops[k]? = some o) (hc' : dchk ops late l k = true) (hl0 : lateok ops late k = true) (hw : wg ops m o = some true) (hd : o.dst = some d) (hn : dok (some d) n = true) (ho : o.op = .slice t x lo hi none) (hx : ev m x = some (.slice a0 xs.length c)) (hlo : evb m lo 0 = some lv) (hhi : evb m hi xs.length = some hv) (hI : I[i]? = some (Im.sl ty a0 c xs)) (ht : tlook G.τ t = some ti) (hk : ti.k = .slice e) (he : tlook G.τ e = some te) (hsz : te.size = ty.sz)
    (h : ∀ a1 c1, D G n K Q ops late (k :: l) C ((d, .slice a1 (cut xs lv hv).length c1) :: m) V (Im.sl ty a1 c1 (cut xs lv hv) :: I)) : D G n K Q ops late l C m V I := by
  refine D.y k (Yl.rs i hI hk0 ho hx hlo hhi ht hk he hsz) hi' hc' hl0 hw hd hn (D.know [_] (fun A w _ hI' f hf' => ?_) (h _ _))
  rw [List.mem_singleton.1 hf']
  exact rs_fact hk0 (hI' _ (List.mem_of_getElem? hI))
end
end Go.Tw

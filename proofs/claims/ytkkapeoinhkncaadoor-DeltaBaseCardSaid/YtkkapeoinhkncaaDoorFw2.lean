import Derived.Test.YtkkapeoinhkncaaDoorFw1
import Derived.MapKept
import Derived.Deep.Slices
import Derived.OpenShut
import Derived.Carry
import Derived.ChangeVars
import Derived.WideShapes
import Derived.Below
set_option linter.unusedVariables false
set_option linter.unusedSimpArgs false
namespace Go.Tw
open Go
/-! ### arrays of whole numbers, by an index that is not written down -/
def sel (i : Int) (j : Nat) (v e : Int) : Int := if i.toNat = j then v else e
def selV (i : Int) (v : Int) : Nat → List Value → List Value
  | j, .int k e :: r => .int k (sel i j v e) :: selV i v (j + 1) r
  | _, _ => []
def ints (k : IntKind) (xs : List Int) : List Value := xs.map (Value.int k)
theorem selV_ints (i v : Int) (k : IntKind) : ∀ (xs : List Int) (j : Nat), selV i v j (ints k xs) = (ints k xs).mapIdx fun q c => if i.toNat = j + q then .int k v else c
  | [], j => rfl
  | x :: xs, j => by
    have ih := selV_ints i v k xs (j + 1)
    show Value.int k (sel i j v x) :: selV i v (j + 1) (ints k xs) = _
    rw [ih]
    show _ = (Value.int k x :: ints k xs).mapIdx _
    rw [List.mapIdx_cons]
    congr 1
    · unfold sel
      rw [Nat.add_zero]
      split <;> rfl
    · congr 1
      funext q c
      have : j + 1 + q = j + (q + 1) := by omega
      rw [this]
theorem selV_set (i v : Int) (k : IntKind) (xs : List Int) : selV i v 0 (ints k xs) = (ints k xs).set i.toNat (.int k v) := by
  rw [selV_ints]
  apply List.ext_getElem?
  intro q
  rw [List.getElem?_mapIdx, List.getElem?_set]
  by_cases h : i.toNat = q
  · subst h
    cases hg : (ints k xs)[i.toNat]? with
    | none =>
      have := List.getElem?_eq_none_iff.1 hg
      simp
      omega
    | some c =>
      have := (List.getElem?_eq_some_iff.1 hg).1
      simp [this]
  · rw [if_neg h]
    cases hg : (ints k xs)[q]? with
    | none => rfl
    | some c => simp [h]
section
variable {G : Pg} {n : Nd} {m : Env} {S : List Ch} {I : List Im} {o : Oper}
theorem Yl.xa {t e N : Nat} {x ix : Operand} {k k2 : IntKind} {i r : Int} {cs : Array Value} {ti te : TI} {xs : List Int} (hi : idx xs i = some r) (ho : o.op = .index t x ix) (hx : ev m x = some (.agg cs)) (hcs : cs.toList = ints k xs) (hix : ev m ix = some (.int k2 i)) (ht : tlook G.τ t = some ti) (hk : ti.k = .array N e) (hN : xs.length = N) (he : tlook G.τ e = some te) (hsz : (Nat.beq te.size 1 && !te.agg) = true) : Yl G n m S I o (.int k r) := fun A ac w hf _ _ => by
  obtain ⟨d, f, z, hd, hfi, hkk, _⟩ := G.ok.info ht
  rw [hk] at hkk
  cases hkk
  simp only [Bool.and_eq_true, Bool.not_eq_true'] at hsz
  have hs1 := Nat.eq_of_beq_eq_true hsz.1
  obtain ⟨h0, h1⟩ := idx_some hi
  have h2 := (List.getElem?_eq_some_iff.1 h1).1
  have hp : (part e cs (i.toNat * te.size)).run G.P w = .ok (.int k r) w := by
    refine run_part G.ok ?_ w
    unfold cutv
    rw [he]
    dsimp only
    rw [hsz.2, hs1, Nat.mul_one, hcs]
    show (xs.map (Value.int k))[i.toNat]? = _
    rw [List.getElem?_map, h1]
    rfl
  have hr : (Instr.index t (.agg cs) (.int k2 i)).run G.P w = .ok (.int k r) w := by
    simp only [Instr.index, asIntOf, Sem.run_bind, Sem.run_pure, Result.andThen_ok, run_underlying hd]
    rw [if_pos ⟨h0, by omega⟩]
    simp only [Sem.run_bind, run_sizeOf G.ok he, Result.andThen_ok, hp]
  simp only [execOp, ho, hf.ev hx, hf.ev hix, Sem.run_bind, hr, Result.andThen_ok, Sem.run_pure]
/-- within an array? -/
def ainb (i : Int) (N : Nat) : Bool := decide (0 ≤ i ∧ i < N)
theorem Yl.xp {t e N g off : Nat} {x ix : Operand} {k2 : IntKind} {i : Int} {ti te : TI} {u : Unit} (hb : chk (ainb i N) = some u) (ho : o.op = .indexAddr t x ix) (hx : ev m x = some (.pointer (some ⟨g, off, none⟩))) (hix : ev m ix = some (.int k2 i)) (ht : tlook G.τ t = some ti) (hk : ti.k = .array N e) (he : tlook G.τ e = some te) (hsz : Nat.beq te.size 1 = true) : Yl G n m S I o (.pointer (some ⟨g, off + i.toNat, none⟩)) := fun A ac w hf _ _ => by
  obtain ⟨d, f, z, hd, hfi, hkk, _⟩ := G.ok.info ht
  rw [hk] at hkk
  cases hkk
  have hs1 := Nat.eq_of_beq_eq_true hsz
  have h0 : 0 ≤ i ∧ i < N := chk_some hb
  have hr : (Instr.indexAt t (.pointer (some ⟨g, off, none⟩)) (.int k2 i)).run G.P w = .ok (.pointer (some ⟨g, off + i.toNat, none⟩)) w := by
    simp only [Instr.indexAt, asIntOf, Instr.sureAddr, Sem.run_bind, Sem.run_pure, Result.andThen_ok, run_underlying hd]
    rw [if_pos h0]
    simp only [Sem.run_bind, run_sizeOf G.ok he, Result.andThen_ok, Sem.run_pure, add_lit, hs1, Nat.mul_one]
  simp only [execOp, ho, hf.ev hx, hf.ev hix, Sem.run_bind, hr, Result.andThen_ok, Sem.run_pure]
theorem Yl.xl (j : Nat) {t g off T : Nat} {x : Operand} {k : IntKind} {i r : Int} {cs : List Value} {ti : TI} {xs : List Int} (hi : idx xs i = some r) (ho : o.op = .load t x) (hx : ev m x = some (.pointer (some ⟨g, off + i.toNat, none⟩))) (hS : S[j]? = some (Ch.box g T cs)) (hcs : (cs.drop off).take xs.length = ints k xs) (ht : tlook G.τ t = some ti) (ha : ti.agg = false) : Yl G n m S I o (.int k r) := fun A ac w hf hs _ => by
  have hb : w.heap[g]? = some (.cells cs.toArray T (0, 0)) := hs _ (List.mem_of_getElem? hS)
  obtain ⟨h0, h1⟩ := idx_some hi
  have h2 := (List.getElem?_eq_some_iff.1 h1).1
  have h3 : (cs.drop (off + i.toNat))[0]? = some (.int k r) := by
    have h4 : ((cs.drop off).take xs.length)[i.toNat]? = some (.int k r) := by
      rw [hcs]
      show (xs.map (Value.int k))[i.toNat]? = _
      rw [List.getElem?_map, h1]
      rfl
    rw [List.getElem?_take_of_lt h2, List.getElem?_drop] at h4
    rw [List.getElem?_drop]
    exact h4
  have hv : loadv G.τ t (cs.drop (off + i.toNat)) 0 = some (.int k r) := by
    unfold loadv
    rw [ht]
    dsimp only
    rw [ha]
    exact h3
  simp only [execOp, ho, hf.ev hx, Instr.loadAt, Instr.sureAddr, Sem.run_bind, Sem.run_pure, Result.andThen_ok]
  rw [run_loadVar G.ok hv (fun j u hu => by rw [cell_box hb]; simpa using hu)]
  rfl
theorem Ac.sx {t g off N T : Nat} {x y : Operand} {k : IntKind} {i v : Int} {cs cs' : List Value} {ti : TI} {u : Unit} (hbd : chk (ainb i N) = some u) (xs : List Int) (hN : xs.length = N) (ho : o.op = .store t x y) (hx : ev m x = some (.pointer (some ⟨g, off + i.toNat, none⟩))) (hy : ev m y = some (.int k v)) (hcs : (cs.drop off).take N = ints k xs) (ht : tlook G.τ t = some ti) (hsz : Nat.beq ti.size 1 = true) (hr0 : cs.take off ++ selV i v 0 ((cs.drop off).take N) ++ cs.drop (off + N) = cs') :
    Ac G n m o [Ch.box g T cs] [] (fun _ : Unit => undef) (fun _ => [Ch.box g T cs']) (fun _ => []) := by
  have hs1 := Nat.eq_of_beq_eq_true hsz
  have h0 : 0 ≤ i ∧ i < N := chk_some hbd
  have hlen : N ≤ (cs.drop off).length := by
    have h4 : ((cs.drop off).take N).length = N := by
      rw [hcs]
      show (xs.map (Value.int k)).length = N
      rw [List.length_map, hN]
    rw [List.length_take] at h4
    omega
  have hlen2 : off + N ≤ cs.length := by rw [List.length_drop] at hlen; omega
  have hset : cs' = cs.take (off + i.toNat) ++ [.int k v] ++ cs.drop (off + i.toNat + 1) := by
    rw [← hr0, hcs, selV_set, ← hcs]
    have h5 : cs = cs.take off ++ ((cs.drop off).take N) ++ cs.drop (off + N) := by
      rw [List.append_assoc, ← List.drop_drop, List.take_append_drop, List.take_append_drop]
    have h6 : cs.take off ++ ((cs.drop off).take N).set i.toNat (.int k v) ++ cs.drop (off + N) = cs.set (off + i.toNat) (.int k v) := by
      conv => rhs; rw [h5]
      have e1 : (cs.take off).length = off := by rw [List.length_take]; omega
      have e2 : ((cs.drop off).take N).length = N := by rw [List.length_take]; omega
      rw [List.set_append_left _ _ (by rw [List.length_append, e1, e2]; omega), List.set_append_right _ _ (by rw [e1]; omega), e1]
      congr 3
      omega
    rw [h6, List.set_eq_take_append_cons_drop, if_pos (by omega)]
    simp
  subst hset
  refine Ac.run (v := fun _ => none) fun A a w hf hs => ?_
  have hb : w.heap[g]? = some (.cells cs.toArray T (0, 0)) := hs.ch _ (List.mem_singleton.2 rfl)
  have hr := run_storeVar G.ok (P := G.P) (o := off + i.toNat) (v := .int k v) ht (by rw [hs1]; rfl) rfl hb (by show off + i.toNat + 1 ≤ cs.length; omega)
  have hk : w.grownBy (w.setRow g (cs.take (off + i.toNat) ++ [Value.int k v] ++ cs.drop (off + i.toNat + 1)).toArray) (some g) := ⟨rfl, rfl, rfl, by rw [setRow_size]; exact Nat.le_refl _, fun k _ hk => setRow_other _ _ _ _ (fun e => hk (by rw [e]))⟩
  refine ⟨(), w.setRow g (cs.take (off + i.toNat) ++ [Value.int k v] ++ cs.drop (off + i.toNat + 1)).toArray, A, ?_, SS.grown hs hk (fun b e => (Option.some.inj e).symm) (fun b hb2 => ⟨.inl hb2, ?_⟩) (setRow_heap w g _ _ T (0, 0) hb)⟩
  · have hvc : vc (.int k v) = [.int k v] := rfl
    rw [hvc] at hr
    simp only [execOp, ho, hf.ev hx, hf.ev hy, Instr.storeAt, Instr.sureAddr, Sem.run_bind, Sem.run_pure, Result.andThen_ok, hr, nx]
    rfl
  · rw [setRow_size]
    obtain rfl : b = g := hb2
    exact (Array.getElem?_eq_some_iff.1 hb).1
/-- an element's address, of a package's table -/
theorem Yl.xg {t e g N : Nat} {x ix : Operand} {k : IntKind} {i : Int} {α : Type} {x0 : α} {xs : List α} {ti te : TI} (hi : idx xs i = some x0) (hN : xs.length = N) (ho : o.op = .indexAddr t x ix) (hx : ev m x = some (.pointer (some ⟨g, 0, none⟩))) (hix : ev m ix = some (.int k i)) (ht : tlook G.τ t = some ti) (hk : ti.k = .array N e) (he : tlook G.τ e = some te) : Yl G n m S I o (.pointer (some ⟨g, 0 + i.toNat * te.size, none⟩)) := fun A ac w hf _ _ => by
  obtain ⟨h0, h1⟩ := idx_some hi
  have h2 := (List.getElem?_eq_some_iff.1 h1).1
  obtain ⟨d, f, z, hd, hfi, hkk, _⟩ := G.ok.info ht
  rw [hk] at hkk
  cases hkk
  have hr : (Instr.indexAt t (.pointer (some ⟨g, 0, none⟩)) (.int k i)).run G.P w = .ok (.pointer (some ⟨g, 0 + i.toNat * te.size, none⟩)) w := by
    simp only [Instr.indexAt, asIntOf, Instr.sureAddr, Sem.run_bind, Sem.run_pure, Result.andThen_ok, run_underlying hd]
    rw [if_pos ⟨h0, by omega⟩]
    simp only [Sem.run_bind, run_sizeOf G.ok he, Result.andThen_ok, Sem.run_pure, add_lit]
  simp only [execOp, ho, hf.ev hx, hf.ev hix, Sem.run_bind, hr, Result.andThen_ok, Sem.run_pure]
/-- all bits turned -/
theorem Yl.com {t : Nat} {x : Operand} {k : IntKind} {a c : Int} (hc : (if k.signed then -1 else k.max) = c) (ho : o.op = .unOp .xor t x) (hx : ev m x = some (.int k a)) : Yl G n m S I o (.int k (Go.bits .xor k c a)) := fun A ac w hf _ _ => by
  subst hc
  simp only [execOp, ho, hf.ev hx, Op.unary, intBits_xor, Sem.run_bind, Sem.run_pure, Result.andThen_ok]
end
end Go.Tw

set_option linter.unusedVariables false
set_option linter.unusedSimpArgs false
namespace Go.Tw
open Go
/-! ### maps whose keys are whole numbers -/
def mkv : Bool → List Value → Value
  | true, cs => .agg cs.toArray
  | false, v :: _ => v
  | false, [] => undef
/-- a map as a list of its entries, in the order in which they came; none: nil -/
abbrev Mp (α : Type) := Option (List (Int × α))
section
variable {α : Type}
def mgl (k : Int) : List (Int × α) → Option α
  | [] => none
  | (j, x) :: l => if k = j then some x else mgl k l
def msl (k : Int) (x : α) : List (Int × α) → List (Int × α)
  | [] => [(k, x)]
  | (j, y) :: l => if k = j then (j, x) :: l else (j, y) :: msl k x l
def mgd (m : Mp α) (k : Int) (z : α) : α := (mgl k (m.getD [])).getD z
def mhas (m : Mp α) (k : Int) : Bool := (mgl k (m.getD [])).isSome
def mset (m : Mp α) (k : Int) (x : α) : Mp α := m.map (msl k x)
end
/-- the entries -/
inductive Ens {α : Type} (d : Ty α) (ag : Bool) (A : Blks) (w : World) : List (Int × α) → List MapEntry → Prop where
  | nil : Ens d ag A w [] []
  | cons {k : Int} {x : α} {l : List (Int × α)} {e : MapEntry} {es : List MapEntry} (h : d.Hid) (hk : e.key = .int .i64 k) (hv : e.val = mkv ag (d.cs x h)) (hi : ∀ f ∈ d.im x h, f.ok A w) (hr : Ens d ag A w l es) : Ens d ag A w ((k, x) :: l) (e :: es)
section
variable {α : Type} {d : Ty α} {ag : Bool} {A A' : Blks} {w w' : World} {l : List (Int × α)} {es : List MapEntry}
theorem Ens.st (hA : ∀ b, A b → A' b) (hw : ∀ b, A b → w'.heap[b]? = w.heap[b]?) (h : Ens d ag A w l es) : Ens d ag A' w' l es := by
  induction h with
  | nil => exact .nil
  | cons h hk hv hi hr ih => exact .cons h hk hv (fun f hf => f.st hA hw (hi f hf)) ih
theorem findNow_cons {k j : Int} {e : MapEntry} {es : List MapEntry} {i : Nat} (hk : e.key = .int .i64 j) : Instr.findNow (.int .i64) (.int .i64 k) (e :: es) i = if k = j then some (some (i, e.val)) else Instr.findNow (.int .i64) (.int .i64 k) es (i + 1) := by
  simp only [Instr.findNow, Instr.sameNow, hk, if_true]
  by_cases h : k = j
  · subst h
    simp
  · rw [if_neg h]
    have : (k == j) = false := by simpa using h
    rw [this]
theorem Ens.find (h : Ens d ag A w l es) (k : Int) : ∀ i, (Instr.findNow (.int .i64) (.int .i64 k) es i = some none ∧ mgl k l = none) ∨ ∃ j e x, Instr.findNow (.int .i64) (.int .i64 k) es i = some (some (i + j, e.val)) ∧ es[j]? = some e ∧ e.key = .int .i64 k ∧ mgl k l = some x ∧ ∃ hd, e.val = mkv ag (d.cs x hd) ∧ ∀ f ∈ d.im x hd, f.ok A w := by
  induction h with
  | nil => intro i; exact .inl ⟨rfl, rfl⟩
  | @cons j x l e es h hk hv hi hr ih =>
    intro i
    by_cases hkj : k = j
    · subst hkj
      refine .inr ⟨0, e, x, ?_, rfl, hk, by simp [mgl], h, hv, hi⟩
      rw [findNow_cons hk, if_pos rfl]
      rfl
    · rcases ih (i + 1) with ⟨h1, h2⟩ | ⟨j', e', x', h1, h2, h3, h4, h5⟩
      · refine .inl ⟨?_, by simp [mgl, hkj, h2]⟩
        rw [findNow_cons hk, if_neg hkj]
        exact h1
      · refine .inr ⟨j' + 1, e', x', ?_, by simpa using h2, h3, by simp [mgl, hkj, h4], h5⟩
        rw [findNow_cons hk, if_neg hkj, h1]
        congr 3
        omega
theorem Ens.push (h : Ens d ag A w l es) {k : Int} {x : α} {e : MapEntry} (hd : d.Hid) (hk : e.key = .int .i64 k) (hv : e.val = mkv ag (d.cs x hd)) (hi : ∀ f ∈ d.im x hd, f.ok A w) (hn : mgl k l = none) : Ens d ag A w (msl k x l) (es ++ [e]) := by
  induction h with
  | nil => exact .cons hd hk hv hi .nil
  | @cons j y l e' es h hk' hv' hi' hr ih =>
    have hkj : k ≠ j := fun e => by simp [mgl, e] at hn
    have hn' : mgl k l = none := by simpa [mgl, hkj] using hn
    simp only [msl, if_neg hkj, List.cons_append]
    exact .cons h hk' hv' hi' (ih hn')
theorem Ens.at_ (h : Ens d ag A w l es) {k : Int} : ∀ i j e x, Instr.findNow (.int .i64) (.int .i64 k) es i = some (some (i + j, e)) → ∀ (e2 : MapEntry → MapEntry) (hd : d.Hid), (∀ e0, (e2 e0).val = mkv ag (d.cs x hd)) → (∀ e0, e0.key = .int .i64 k → (e2 e0).key = .int .i64 k) → (∀ f ∈ d.im x hd, f.ok A w) → Ens d ag A w (msl k x l) (es.modify j e2) := by
  induction h with
  | nil => intro i j e x h1; simp [Instr.findNow] at h1
  | @cons k' y l e' es h hk' hv' hi' hr ih =>
    intro i j e x h1 e2 hd hv2 hk2 hi2
    by_cases hkj : k = k'
    · subst hkj
      rw [findNow_cons hk', if_pos rfl] at h1
      injection h1 with h1
      injection h1 with h1
      injection h1 with h1 _
      obtain rfl : j = 0 := by omega
      simp only [msl, if_pos, List.modify_cons, if_true]
      exact .cons hd (hk2 _ hk') (hv2 _) hi2 hr
    · rw [findNow_cons hk', if_neg hkj] at h1
      cases j with
      | zero =>
        exfalso
        have key : ∀ (es : List MapEntry) (i n : Nat) (v : Value), Instr.findNow (.int .i64) (.int .i64 k) es i = some (some (n, v)) → i ≤ n := by
          intro es
          induction es with
          | nil => intro i n v h; simp [Instr.findNow] at h
          | cons e es ih =>
            intro i n v h
            simp only [Instr.findNow] at h
            split at h
            · simp at h; omega
            · have := ih _ _ _ h; omega
            · cases h
        have := key _ _ _ _ h1
        omega
      | succ j =>
        have e3 : i + (j + 1) = i + 1 + j := by omega
        rw [e3] at h1
        simp only [msl, if_neg hkj, List.modify_succ_cons]
        exact .cons h hk' hv' hi' (ih (i + 1) j e x h1 e2 hd hv2 hk2 hi2)
end
def Ch.mp {α : Type} (d : Ty α) (ag : Bool) (v : Option Nat) (m : Mp α) : Ch where
  blk := fun b => v = some b
  ok := fun A w => (v = none ∧ m = none) ∨ ∃ g l es clock, v = some g ∧ m = some l ∧ w.heap[g]? = some (.map es clock) ∧ Ens d ag A w l es.toList ∧ MapKept.Stamped es clock
  st := by
    rintro A A' w w' hA hw hb (h | ⟨g, l, es, clock, rfl, rfl, h1, h2, h3⟩)
    · exact .inl h
    · exact .inr ⟨g, l, es, clock, rfl, rfl, (hb g rfl).trans h1, h2.st hA hw, h3⟩
def zagb (P : Program) (T : Nat) (ag : Bool) : Bool := match P.info? T with
  | some i => match i.zero with
    | some (.agg _) => ag
    | some _ => !ag
    | none => false
  | none => false
theorem zag_ok {P : Program} {T : Nat} {ag : Bool} (h : zagb P T ag = true) {i : TypeInfo} {z : Value} (hi : P.info? T = some i) (hz : i.zero = some z) : z = mkv ag z.cells.toList := by
  unfold zagb at h
  rw [hi] at h
  dsimp only at h
  rw [hz] at h
  cases z <;> simp at h <;> subst h <;> rfl
section
variable {G : Pg} {n : Nd} {m : Env} {o : Oper} {S : List Ch} {I : List Im} {α : Type} {ty : Ty α} {ag : Bool} {v : Option Nat} {mp : Mp α}
theorem run_checkKey {P : Program} {t : Nat} {k : Int} {b : Bool} (h : P.underlying t = some (.int .i64)) (w : World) : (Instr.checkKey b 10000 t (.int .i64 k)).run P w = .ok () w := by
  exact MapKept.run_checkKey (d := .int .i64) h (by simp [MapKept.IsKey]) b 9999
theorem run_findKey {P : Program} {t : Nat} {k : Int} {es : List MapEntry} {r : Option (Nat × Value)} (h : P.underlying t = some (.int .i64)) (hr : Instr.findNow (.int .i64) (.int .i64 k) es 0 = some r) (w : World) : (Instr.findKey t (.int .i64 k) es).run P w = .ok r w := by
  simp [Instr.findKey, run_underlying h, Result.andThen, hr]
/-- a new one -/
theorem Ac.mkm {t kt e : Nat} {ti : TI} (ho : o.op = .makeMap t none) (ht : tlook G.τ t = some ti) (hk : ti.k = .map kt e) :
    Ac G n m o [] [] (fun g : Nat => .map (some g)) (fun g => [Ch.mp ty ag (some g) (some [])]) (fun _ => []) := by
  refine Ac.run (v := fun g : Nat => some (.map (some g))) fun A a w hf hs => ?_
  refine ⟨w.heap.size, w.alloc (.map #[] 0), A, ?_, ?_⟩
  · simp only [execOp, ho, Instr.makeMap, Option.map_none, Sem.run_bind, Sem.run_pure, Result.andThen_ok, nx]
    rfl
  · refine SS.fresh (w' := w.alloc (.map #[] 0)) (o := .map #[] 0) hs.lt rfl rfl rfl rfl (Ch.mp ty ag (some w.heap.size) (some [])) (fun b hb => (Option.some.inj hb).symm) ?_
    exact .inr ⟨w.heap.size, [], #[], 0, rfl, rfl, heap_alloc_new w _, .nil, MapKept.stamped_empty 0⟩
/-- what is there, or the zero -/
theorem Ac.ml {vv : ty.Hid → Value} (k : Int) (x0 : α) (h0 : ty.Hid) {t kt e : Nat} {x ix : Operand} {ti tk te : TI} (ho : o.op = .lookup t x ix true) (hx : ev m x = some (.map v)) (hix : ev m ix = some (.int .i64 k)) (ht : tlook G.τ t = some ti) (hk : ti.k = .map kt e) (htk : tlook G.τ kt = some tk) (hkk : tk.k = .int .i64) (he : tlook G.τ e = some te) (hz0 : te.zero = ty.cs x0 h0) (hfree : ∀ A w, ∀ f ∈ ty.im x0 h0, f.ok A w) (hz : zagb G.P e ag = true) (hvv : ∀ hd, mkv ag (ty.cs (mgd mp k x0) hd) = vv hd) :
    Ac G n m o [Ch.mp ty ag v mp] [] (fun hd => .tuple #[vv hd, .bool (mhas mp k)]) (fun _ => [Ch.mp ty ag v mp]) (fun hd => ty.im (mgd mp k x0) hd) := by
  obtain rfl : vv = fun hd => mkv ag (ty.cs (mgd mp k x0) hd) := funext fun hd => (hvv hd).symm
  refine Ac.run (v := fun hd => some (.tuple #[mkv ag (ty.cs (mgd mp k x0) hd), .bool (mhas mp k)])) fun A a w hf hs => ?_
  have hok := hs.ch _ (List.mem_singleton.2 rfl)
  obtain ⟨dd, f, z0, hdd, hfi, hkt, _⟩ := G.ok.info ht
  rw [hk] at hkt
  cases hkt
  obtain ⟨dk, fk, zk, hdk, _, hkk2, _⟩ := G.ok.info htk
  rw [hkk] at hkk2
  cases hkk2
  obtain ⟨de, fe, ze, hde, hfe, _, hfs, hfb, hfz, hzc, _⟩ := G.ok.info he
  have hzv : ze = mkv ag (ty.cs x0 h0) := by rw [← hz0, ← hzc]; exact zag_ok hz hfe hfz
  have hzr : (zeroValue e).run G.P w = .ok (mkv ag (ty.cs x0 h0)) w := by
    rw [← hzv]
    simp [zeroValue, typeInfo, hfe, hfz, Result.andThen]
  have same : SS ⟨w, A, Own [Ch.mp ty ag v mp]⟩ A [Ch.mp ty ag v mp] [] w := SS.grown hs (ob := none) ⟨rfl, rfl, rfl, Nat.le_refl _, fun _ _ _ => rfl⟩ (fun _ e => nomatch e) (fun b hb => ⟨.inl hb, (hs.own _ (List.mem_singleton.2 rfl) b hb).1⟩) hok
  rcases hok with ⟨rfl, rfl⟩ | ⟨g, l, es, clock, rfl, rfl, h1, h2, h3⟩
  · have e9 : mgd (none : Mp α) k x0 = x0 := rfl
    have h9 : SS ⟨w, A, Own [Ch.mp ty ag none none]⟩ A [Ch.mp ty ag none none] (ty.im (mgd (none : Mp α) k x0) h0) w := by
      rw [e9]
      simpa using same.know (J := ty.im x0 h0) (hfree _ _)
    refine ⟨h0, w, A, ?_, h9⟩
    simp [execOp, ho, hf.ev hx, hf.ev hix, Instr.lookup, run_underlying hdd, run_checkKey hdk, run_findKey hdk (es := []) (r := none) rfl, hzr, Result.andThen, nx, mgd, mhas, mgl]
  · rcases h2.find k 0 with ⟨h4, h5⟩ | ⟨j, e1, x1, h4, h5, h6, h7, hd, h8, h9⟩
    · refine ⟨h0, w, A, ?_, ?_⟩
      · simp [execOp, ho, hf.ev hx, hf.ev hix, Instr.lookup, run_underlying hdd, MapKept.run_getObj_map h1, run_checkKey hdk, run_findKey hdk h4, hzr, Result.andThen, nx, mgd, mhas, h5]
      · have e9 : mgd (some l) k x0 = x0 := by simp [mgd, h5]
        rw [e9]
        simpa using same.know (J := ty.im x0 h0) (hfree _ _)
    · refine ⟨hd, w, A, ?_, ?_⟩
      · simp [execOp, ho, hf.ev hx, hf.ev hix, Instr.lookup, run_underlying hdd, MapKept.run_getObj_map h1, run_checkKey hdk, run_findKey hdk h4, Result.andThen, nx, mgd, mhas, h7, h8]
      · have e9 : mgd (some l) k x0 = x1 := by simp [mgd, h7]
        rw [e9]
        simpa using same.know (J := ty.im x1 hd) h9
theorem mp_set {A : Blks} {w : World} {J : List Im} {g : Nat} {l l' : List (Int × α)} {es es' : Array MapEntry} {clock clock' : Nat} (hs : St A [Ch.mp ty ag (some g) (some l)] J w) (hb : w.heap[g]? = some (.map es clock)) (he : Ens ty ag A w l' es'.toList) (hst : MapKept.Stamped es' clock') :
    SS ⟨w, A, Own [Ch.mp ty ag (some g) (some l)]⟩ A [Ch.mp ty ag (some g) (some l')] [] { w with heap := w.heap.setIfInBounds g (.map es' clock') } := by
  have hlt : g < w.heap.size := (Array.getElem?_eq_some_iff.1 hb).1
  have hA : ¬ A g := (hs.own _ (List.mem_singleton.2 rfl) g rfl).2
  have h2 := MapKept.heap_set (o' := .map es' clock') hb
  refine SS.grown hs (ob := some g) ⟨rfl, rfl, rfl, by simp, fun k hk hne => h2.2 k (fun e => hne (by rw [e]))⟩ (fun b e => e) (fun b hb2 => ⟨.inl hb2, ?_⟩) ?_
  · injection hb2 with hb2
    subst hb2
    simpa using hlt
  · exact .inr ⟨g, l', es', clock', rfl, rfl, h2.1, he.st (fun _ h => h) (fun b hb3 => h2.2 b (fun e => hA (e ▸ hb3))), hst⟩
/-- an entry is put -/
theorem Ac.mu (k : Int) (x1 : α) (hd : ty.Hid) {J : List Im} {t kt e : Nat} {x ix y : Operand} {ti tk : TI} {u : Unit} (hn : chk mp.isSome = some u) (ho : o.op = .mapUpdate t x ix y ∨ o.op = .insert t x ix y) (hx : ev m x = some (.map v)) (hix : ev m ix = some (.int .i64 k)) (hy : ev m y = some (mkv ag (ty.cs x1 hd))) (ht : tlook G.τ t = some ti) (hk : ti.k = .map kt e) (htk : tlook G.τ kt = some tk) (hkk : tk.k = .int .i64) (hJ : J = ty.im x1 hd) :
    Ac G n m o [Ch.mp ty ag v mp] J (fun _ : Unit => undef) (fun _ => [Ch.mp ty ag v (mset mp k x1)]) (fun _ => []) := by
  subst hJ
  refine Ac.run (v := fun _ => none) fun A a w hf hs => ?_
  have hrun : execOp a.eval o = (do Instr.mapUpdate t (a.eval x) (a.eval ix) (a.eval y); pure .skip) := by rcases ho with ho | ho <;> simp only [execOp, ho] <;> rfl
  have hok := hs.ch _ (List.mem_singleton.2 rfl)
  obtain ⟨dd, f, z0, hdd, hfi, hkt, _⟩ := G.ok.info ht
  rw [hk] at hkt
  cases hkt
  obtain ⟨dk, fk, zk, hdk, _, hkk2, _⟩ := G.ok.info htk
  rw [hkk] at hkk2
  cases hkk2
  have hkey : MapKept.IsKey (.int .i64) (.int .i64 k) := rfl
  rcases hok with ⟨rfl, rfl⟩ | ⟨g, l, es, clock, rfl, rfl, h1, h2, h3⟩
  · exact absurd hn (by simp [chk])
  · rcases h2.find k 0 with ⟨h4, h5⟩ | ⟨j, e1, x2, h4, h5, h6, h7, hd2, h8, h9⟩
    · have hne : ∀ y ∈ es.toList, y.key ≠ .int .i64 k := by
        intro y hy e
        have key : ∀ {l : List (Int × α)} {es : List MapEntry}, Ens ty ag A w l es → mgl k l = none → ∀ y ∈ es, y.key ≠ .int .i64 k := by
          intro l es h
          induction h with
          | nil => intro _ y hy; cases hy
          | @cons j x l e es h hk hv hi hr ih =>
            intro hn y hy
            have hkj : k ≠ j := fun e => by simp [mgl, e] at hn
            have hn' : mgl k l = none := by simpa [mgl, hkj] using hn
            rcases List.mem_cons.1 hy with rfl | hy
            · rw [hk]; intro e; injection e with _ e; exact hkj e.symm
            · exact ih hn' y hy
        exact key h2 h5 y hy e
      refine ⟨(), _, A, ?_, mp_set hs h1 (es' := es.push { key := .int .i64 k, val := mkv ag (ty.cs x1 hd), born := clock }) (clock' := clock + 1) ?_ (MapKept.stamped_push h3 hne)⟩
      · simp [hrun, hf.ev hx, hf.ev hix, hf.ev hy, Instr.mapUpdate, run_underlying hdd, MapKept.run_getObj_map h1, run_checkKey hdk, run_findKey hdk h4, MapKept.run_setObj_map _ h1, Result.andThen, nx]
      · rw [Array.toList_push]
        exact h2.push hd rfl rfl hs.im h5
    · have hj : es[j]? = some e1 := by simpa using h5
      simp only [Nat.zero_add] at h4
      refine ⟨(), _, A, ?_, mp_set hs h1 (es' := es.modify j fun e => { e with key := .int .i64 k, val := mkv ag (ty.cs x1 hd) }) (clock' := clock) ?_ (MapKept.stamped_modify h3 _ _ (fun _ _ => rfl) (fun e' _ he' => by rw [hj] at he'; cases he'; exact h6.symm))⟩
      · simp [hrun, hf.ev hx, hf.ev hix, hf.ev hy, Instr.mapUpdate, run_underlying hdd, MapKept.run_getObj_map h1, run_checkKey hdk, run_findKey hdk h4, hj, h6, MapKept.run_keyThatStays hkey, MapKept.run_setObj_map _ h1, Result.andThen, nx]
      · rw [Array.toList_modify]
        exact h2.at_ 0 j _ x1 (by rw [Nat.zero_add]; exact h4) _ hd (fun _ => rfl) (fun _ _ => rfl) hs.im
end
section
variable {G : Pg} {n : Nd} {K : Key} {Q : Exit → Act → World → Prop} {m : Env} {S : List Ch} {I : List Im} {α : Type} (ty : Ty α) (ag : Bool)
end
end Go.Tw

set_option linter.unusedVariables false
set_option linter.unusedSimpArgs false
namespace Go.Tw
open Go
section
variable {α : Type} {ty : Ty α} {A : Blks} {w : World} {xs ys : List α} {T : Nat} {a0 a1 : Option Addr} {c c1 : Nat}
end
/-! ### moves -/
section
variable {G : Pg} {n : Nd} {K : Key} {Q : Exit → Act → World → Prop} {m : Env} {S : List Ch} {I : List Im} {ops : Array Oper} {α : Type} {ty : Ty α} {xs : List α} {a0 : Option Addr} {c0 T0 : Nat}
end
section
variable {G : Pg} {n : Nd} {K : Key} {Q : Exit → Act → World → Prop} {m : Env} {S : List Ch} {I : List Im} {ops : Array Oper} {α : Type} {ty : Ty α} {xs : List α}
/-- what is nil may be owned -/
theorem SS.nilx {A : Blks} {w : World} (i T0 : Nat) (hI : I[i]? = some (Im.sl ty none 0 xs)) (h : SS K A S I w) : SS K A (Ch.arr ty T0 none 0 xs :: S) I w := by
  have h1 := (h.st.im _ (List.mem_of_getElem? hI)).1
  obtain rfl : xs = [] := List.eq_nil_of_length_eq_zero (Nat.le_zero.1 h1)
  exact h.nil0
theorem L.nilx {l : List Oper} (i T0 : Nat) (hI : I[i]? = some (Im.sl ty none 0 xs)) (h : L G n K ops Q l m (Ch.arr ty T0 none 0 xs :: S) I) : L G n K ops Q l m S I := fun A a w hf hs => h A a w hf (hs.nilx i T0 hI)
end
/-! ### operations -/
section
variable {G : Pg} {n : Nd} {m : Env} {S : List Ch} {I : List Im} {o : Oper} {α : Type} {ty : Ty α} {xs ys : List α} {a0 a1 : Option Addr} {c c1 : Nat}
end
section
variable {G : Pg} {n : Nd} {m : Env} {o : Oper} {α : Type} {ty : Ty α} {xs : List α}
end
end Go.Tw

set_option linter.unusedVariables false
set_option linter.unusedSimpArgs false
namespace Go.Tw
open Go Go.Deep

/-! ### what comes in -/
def Im.okW (w : World) (f : Im) : Prop := f.ok (fun b => b < w.heap.size) w
/-- whatever reads as data of type t is a value of ty -/
def Opn {α : Type} (P : Program) (t : TypeId) (ty : Ty α) (wf : α → Prop) : Prop :=
  ∀ {H : Type} (enc : TypeId × Value → H) (w : World) (sp : Nat → Bool) (hd : Bool) (fuel : Nat) (cs : List Value) (x : DataW H × List MemPlace), DataW.trod enc P w 0 sp hd fuel t cs = some x → ∃ y h, cs = ty.cs y h ∧ wf y ∧ ∀ f ∈ ty.im y h, f.okW w
variable {P : Program} {α β : Type}
theorem Opn.int {t : TypeId} {k : IntKind} (ht : P.underlying t = some (.int k)) : Opn P t (Ty.int k) (inK k) := by
  intro H enc w sp hd fuel cs x h
  obtain ⟨n, rfl, _, hw⟩ := DataW.trod_int ht h
  simp only [Lit.wf, Bool.and_eq_true, decide_eq_true_eq] at hw
  exact ⟨n, (), rfl, hw, fun f hf => by cases hf⟩
theorem Opn.bool {t : TypeId} (ht : P.underlying t = some .bool) : Opn P t Ty.bool (fun _ => True) := by
  intro H enc w sp hd fuel cs x h
  obtain ⟨b, rfl, _⟩ := DataW.trod_bool ht h
  exact ⟨b, (), rfl, trivial, fun f hf => by cases hf⟩
theorem Opn.str {t : TypeId} (ht : P.underlying t = some .string) : Opn P t Ty.str (fun s => s.size ≤ maxLen) := by
  intro H enc w sp hd fuel cs x h
  obtain ⟨s, rfl, _, hs⟩ := DataW.trod_string ht h
  exact ⟨s, (), rfl, hs, fun f hf => by cases hf⟩
theorem els_of {ty : Ty α} {wf : α → Prop} {A : Blks} {w : World} {a : Addr} : ∀ n : Nat, (∀ i, i < n → ∃ y h, (∀ j u, (ty.cs y h)[j]? = some u → w.cell? (a.add (i * ty.sz + j)) = some u) ∧ wf y ∧ ∀ f ∈ ty.im y h, f.ok A w) →
    ∃ xs cs, xs.length = n ∧ Els ty A w xs cs ∧ (∀ j u, cs[j]? = some u → w.cell? (a.add j) = some u) ∧ ∀ x ∈ xs, wf x
  | 0, _ => ⟨[], [], rfl, .nil, by simp, by simp⟩
  | n + 1, h => by
    obtain ⟨xs, cs, hl, he, hc, hw⟩ := els_of n fun i hi => h i (Nat.lt_succ_of_lt hi)
    obtain ⟨y, hd, h1, h2, h3⟩ := h n (Nat.lt_succ_self n)
    refine ⟨xs ++ [y], cs ++ (ty.cs y hd ++ []), by simp [hl], he.app (.cons hd h3 .nil), ?_, ?_⟩
    · intro j u hu
      rw [List.append_nil] at hu
      have hlen := he.len
      rw [hl] at hlen
      by_cases hj : j < cs.length
      · rw [List.getElem?_append_left hj] at hu
        exact hc j u hu
      · rw [List.getElem?_append_right (by omega)] at hu
        have := h1 (j - cs.length) u hu
        rw [hlen] at this hj
        rwa [show n * ty.sz + (j - n * ty.sz) = j by omega] at this
    · intro x hx
      rcases List.mem_append.1 hx with hx | hx
      · exact hw x hx
      · rw [List.mem_singleton.1 hx]; exact h2
theorem Opn.slice {t e : TypeId} {ty : Ty α} {wf : α → Prop} (ht : P.underlying t = some (.slice e)) (he : Opn P e ty wf) (hsz : P.cellsOf e = ty.sz) (hpos : 0 < ty.sz) : Opn P t (Ty.slice ty) (fun xs => ∀ x ∈ xs, wf x) := by
  intro H enc w sp hd fuel cs x h
  rcases open_slice ht h with ⟨rfl, _⟩ | ⟨a, len, cap, m, n, D, Pl, rfl, hb, hl, hm, hmm, _, hx⟩
  · exact ⟨[], (none, 0), rfl, by simp, fun f hf => by rw [List.mem_singleton.1 hf]; exact Im.sl_nil _ _⟩
  · have hlm : len ≤ m := by rw [hmm]; split <;> omega
    obtain ⟨xs, cs, h1, h2, h3, h4⟩ := els_of (ty := ty) (wf := wf) (A := fun b => b < w.heap.size) (w := w) (a := a) len fun i hi => by
      obtain ⟨cs', h5, h6⟩ := hx i (Nat.lt_of_lt_of_le hi hlm)
      obtain ⟨y, hh, rfl, hw, hf⟩ := he enc w sp hd n cs' _ h6
      refine ⟨y, hh, fun j u hu => ?_, hw, hf⟩
      obtain ⟨_, hlen, hc⟩ := World.cells?_some h5
      have hj : j < P.cellsOf e := by rw [← hlen]; exact (List.getElem?_eq_some_iff.1 hu).1
      rw [← hsz, ← add_add, hc j hj]
      exact hu
    refine ⟨xs, (some a, cap), by rw [← h1]; rfl, h4, fun f hf => ?_⟩
    rw [List.mem_singleton.1 hf]
    refine ⟨by rw [h1]; exact hl, ?_⟩
    cases hxs : xs with
    | nil => exact .inl rfl
    | cons x0 xr =>
      right
      have hcl := h2.len
      have hpos2 : 0 < cs.length := by
        rw [hcl, hxs, List.length_cons]
        exact Nat.mul_pos (Nat.succ_pos _) hpos
      have hc0 := h3 0 cs[0] (by simp [hpos2])
      have ha0 : a.add 0 = a := by simp [Addr.add]
      rw [ha0] at hc0
      have hsp : a.spot = none ∧ a.block < w.heap.size := by
        unfold World.cell? at hc0
        split at hc0
        · rename_i hh
          have hlt := (Array.getElem?_eq_some_iff.1 hh).1
          split at hc0
          · cases hc0
          · rename_i hs
            refine ⟨?_, hlt⟩
            cases hsp : a.spot with
            | none => rfl
            | some _ => rw [hsp] at hs; simp at hs
        · cases hc0
      obtain ⟨b, o, s⟩ := a
      obtain ⟨rfl, hlt⟩ := hsp
      refine ⟨b, o, cs, rfl, hlt, by rw [← hxs]; exact h2, fun j u hu => ?_⟩
      have := h3 j u hu
      rwa [add_lit] at this
/-- fields, one behind the other from cell o on -/
inductive OpnF (P : Program) : Nat → List (Nat × Nat) → {α : Type} → Ty α → (α → Prop) → Prop where
  | nil {o} : OpnF P o [] (⟨0, Unit, fun _ _ => [], fun _ _ => [], fun _ _ => rfl, by simp⟩ : Ty Unit) (fun _ => True)
  | cons {α β : Type} {o t r} {ta : Ty α} {tb : Ty β} {wa : α → Prop} {wb : β → Prop} (ha : Opn P t ta wa) (hsz : P.cellsOf t = ta.sz) (hr : OpnF P (o + ta.sz) r tb wb) : OpnF P o ((t, o) :: r) (Ty.pair ta tb) (fun y => wa y.1 ∧ wb y.2)
theorem OpnF.open {H : Type} {enc : TypeId × Value → H} {w : World} {sp : Nat → Bool} {hd : Bool} {n : Nat} {cs : List Value} {o : Nat} {fs : List (Nat × Nat)} {ty : Ty α} {wf : α → Prop} (h : OpnF P o fs ty wf) (hc : cs.length = o + ty.sz) (hx : ∀ f ∈ fs, ∃ x, DataW.trod enc P w 0 sp hd n f.1 ((cs.drop f.2).take (P.cellsOf f.1)) = some x) : ∃ y h, cs.drop o = ty.cs y h ∧ wf y ∧ ∀ f ∈ ty.im y h, f.okW w := by
  induction h with
  | nil => exact ⟨(), (), List.drop_of_length_le (Nat.le_of_eq hc), trivial, fun f hf => by cases hf⟩
  | @cons α β o t r ta tb wa wb ha hsz hr ih =>
    obtain ⟨x, hx0⟩ := hx (t, o) (by simp)
    obtain ⟨y, hy, e, hw, hf⟩ := ha enc w sp hd n _ x hx0
    have hc' : cs.length = o + ta.sz + tb.sz := by rw [hc]; show o + (ta.sz + tb.sz) = _; omega
    obtain ⟨z, hz, e2, hw2, hf2⟩ := ih hc' fun f hf => hx f (by simp [hf])
    refine ⟨(y, z), (hy, hz), ?_, ⟨hw, hw2⟩, fun f hf' => ?_⟩
    · show _ = ta.cs y hy ++ tb.cs z hz
      rw [← e, ← e2, hsz, ← List.drop_drop]
      exact (List.take_append_drop _ _).symm
    · rcases List.mem_append.1 hf' with h | h
      · exact hf f h
      · exact hf2 f h
def structb (P : Program) (t : TypeId) (fs : List (Nat × Nat)) : Bool := match P.underlying t with
  | some (.struct a) => fsb fs a.toList
  | _ => false
theorem structb_ok {t : TypeId} {fs : List (Nat × Nat)} (h : structb P t fs = true) : ∃ fa, P.underlying t = some (.struct fa) ∧ fsb fs fa.toList = true := by
  unfold structb at h
  split at h
  · rename_i a ha; exact ⟨a, ha, h⟩
  · cases h
theorem Opn.struct {t : TypeId} {fs : List (Nat × Nat)} {ty : Ty α} {wf : α → Prop} (hst : structb P t fs = true) (hsz : P.cellsOf t = ty.sz) (h : OpnF P 0 fs ty wf) : Opn P t ty wf := by
  obtain ⟨fa, ht, hfs⟩ := structb_ok hst
  intro H enc w sp hd fuel cs x hx
  obtain ⟨xs, n, rfl, _, hlen, hxl, hfx⟩ := DataW.trod_struct ht hx
  have he := fsb_eq hfs
  obtain ⟨y, hh, e, hw, hf⟩ := h.open (enc := enc) (w := w) (sp := sp) (hd := hd) (n := n) (cs := cs) (by rw [hlen, hsz, Nat.zero_add]) fun f hf => by
    rw [← he] at hf
    obtain ⟨f0, hf0, rfl⟩ := List.mem_map.1 hf
    obtain ⟨i, hi⟩ := List.getElem?_of_mem hf0
    have hi' : fa[i]? = some f0 := by simpa using hi
    have h1 := hfx i f0 hi'
    have hlt : i < xs.length := by rw [hxl]; exact (Array.getElem?_eq_some_iff.1 hi').1
    exact ⟨xs[i], by rw [h1]; simp [hlt]⟩
  exact ⟨y, hh, e, hw, hf⟩
/-- the same cells, another name -/
theorem Opn.to {t : TypeId} {ty : Ty α} {ty' : Ty β} {wf : α → Prop} {wf' : β → Prop} (g : α → β) (gh : ty.Hid → ty'.Hid) (h : Opn P t ty wf) (h1 : ∀ y hh, ty'.cs (g y) (gh hh) = ty.cs y hh) (h2 : ∀ y hh, ty'.im (g y) (gh hh) = ty.im y hh) (h3 : ∀ y, wf y → wf' (g y)) : Opn P t ty' wf' := by
  intro H enc w sp hd fuel cs x hx
  obtain ⟨y, hh, e, hw, hf⟩ := h enc w sp hd fuel cs x hx
  exact ⟨g y, gh hh, by rw [h1]; exact e, h3 y hw, by rw [h2]; exact hf⟩

/-! ### tables -/
/-- data's cells -/
def unlay {H : Type} : Nat → DataW H → List Value
  | _, .lit (.int k n) => [.int k n]
  | _, .lit (.bool b) => [.bool b]
  | d + 1, .agg l => l.flatMap (unlay d)
  | _, _ => []
def flatF (P : Program) (f : TypeId → Bool) : Nat → List (Nat × Nat) → Nat → Bool
  | o, [], m => Nat.beq o m
  | o, (t, o') :: r, m => Nat.beq o o' && f t && flatF P f (o + P.cellsOf t) r m
/-- whole numbers and bools, one behind the other -/
def flatb (P : Program) : Nat → TypeId → Bool
  | 0, _ => false
  | d + 1, t => match P.underlying t with
    | some (.int _) => true
    | some .bool => true
    | some (.struct fa) => flatF P (flatb P d) 0 (fa.toList.map fun f => (f.type, f.offset)) (P.cellsOf t)
    | some (.array n e) => Nat.beq (P.cellsOf t) (n * P.cellsOf e) && flatb P d e
    | _ => false
theorem rows_eq {γ : Type} {sz : Nat} {f : Nat → List γ} : ∀ {n : Nat} {cs : List γ}, cs.length = n * sz → (∀ i, i < n → (cs.drop (i * sz)).take sz = f i) → cs = (List.range n).flatMap f
  | 0, cs, hl, _ => by
    have : cs = [] := List.eq_nil_of_length_eq_zero (by simpa using hl)
    simp [this]
  | n + 1, cs, hl, h => by
    have h1 := rows_eq (sz := sz) (n := n) (cs := cs.take (n * sz)) (f := f) (by rw [List.length_take, hl, Nat.succ_mul]; omega) fun i hi => by
      rw [← h i (Nat.lt_succ_of_lt hi)]
      have hle : (i + 1) * sz ≤ n * sz := Nat.mul_le_mul_right sz hi
      rw [Nat.succ_mul] at hle
      rw [List.drop_take, List.take_take]
      congr 1
      omega
    have h2 := h n (Nat.lt_succ_self n)
    rw [List.range_succ, List.flatMap_append, ← h1]
    have h3 : (cs.drop (n * sz)).take sz = cs.drop (n * sz) := List.take_of_length_le (by rw [List.length_drop, hl, Nat.succ_mul]; omega)
    rw [h3] at h2
    simp only [List.flatMap_cons, List.flatMap_nil, List.append_nil, ← h2]
    exact (List.take_append_drop _ _).symm
theorem flatF_cells {H : Type} {enc : TypeId × Value → H} {w : World} {sp : Nat → Bool} {hd : Bool} {f : TypeId → Bool} {g : DataW H → List Value} (hf : ∀ t, f t = true → ∀ {fuel : Nat} {cs : List Value} {x : DataW H × List MemPlace}, DataW.trod enc P w 0 sp hd fuel t cs = some x → cs = g x.1) : ∀ {fs : List (Nat × Nat)} {o m : Nat}, flatF P f o fs m = true → ∀ {n : Nat} {cs : List Value} {xs : List (DataW H × List MemPlace)}, cs.length = m → (∀ (i : Nat) (f : Nat × Nat), fs[i]? = some f → DataW.trod enc P w 0 sp hd n f.1 ((cs.drop f.2).take (P.cellsOf f.1)) = xs[i]?) → xs.length = fs.length → cs.drop o = xs.flatMap fun x => g x.1
  | [], o, m, hb, n, cs, xs, hl, _, hx => by
    have : xs = [] := List.eq_nil_of_length_eq_zero hx
    subst this
    have := Nat.eq_of_beq_eq_true hb
    exact List.drop_of_length_le (by omega)
  | (t, o') :: r, o, m, hb, n, cs, xs, hl, h, hx => by
    simp only [flatF, Bool.and_eq_true] at hb
    obtain rfl := Nat.eq_of_beq_eq_true hb.1.1
    cases xs with
    | nil => simp at hx
    | cons x xs =>
      have h0 := h 0 (t, o) rfl
      have e0 := hf t hb.1.2 h0
      have e1 := flatF_cells hf hb.2 (n := n) (cs := cs) (xs := xs) hl (fun i f hi => h (i + 1) f hi) (by simpa using hx)
      rw [List.flatMap_cons, ← e0, ← e1, ← List.drop_drop]
      exact (List.take_append_drop _ _).symm
theorem flat_cells {H : Type} {enc : TypeId × Value → H} {w : World} {sp : Nat → Bool} {hd : Bool} : ∀ {d : Nat} {t : TypeId}, flatb P d t = true → ∀ {fuel : Nat} {cs : List Value} {x : DataW H × List MemPlace}, DataW.trod enc P w 0 sp hd fuel t cs = some x → cs = unlay d x.1
  | 0, t, hb, fuel, cs, x, h => by cases hb
  | d + 1, t, hb, fuel, cs, x, h => by
    unfold flatb at hb
    split at hb
    · rename_i ht
      obtain ⟨n, rfl, rfl, _⟩ := DataW.trod_int ht h
      rfl
    · rename_i ht
      obtain ⟨b, rfl, rfl⟩ := DataW.trod_bool ht h
      rfl
    · rename_i fa ht
      obtain ⟨xs, n, rfl, rfl, hlen, hxl, hfx⟩ := DataW.trod_struct ht h
      have key := flatF_cells (g := unlay d) (fun t ht => flat_cells ht) hb (enc := enc) (w := w) (sp := sp) (hd := hd) (n := n) (cs := cs) (xs := xs) hlen (fun i f hi => by
        rw [List.getElem?_map] at hi
        cases hfa : fa[i]? with
        | none => simp [hfa] at hi
        | some f0 =>
          simp [hfa] at hi
          subst hi
          exact hfx i f0 hfa) (by rw [hxl, List.length_map, Array.length_toList])
      show cs = (xs.map (·.1)).flatMap (unlay d)
      rw [List.flatMap_map]
      simpa using key
    · rename_i m e ht
      simp only [Bool.and_eq_true] at hb
      have hc := Nat.eq_of_beq_eq_true hb.1
      obtain ⟨xs, n, rfl, rfl, hlen, hxl, hfx⟩ := DataW.trod_array ht h
      show cs = (xs.map (·.1)).flatMap (unlay d)
      rw [List.flatMap_map]
      have h1 : ∀ i, i < m → (cs.drop (i * P.cellsOf e)).take (P.cellsOf e) = ((xs[i]?).map fun x => unlay d x.1).getD [] := fun i hi => by
        have h2 := hfx i hi
        have hlt : i < xs.length := by rw [hxl]; exact hi
        rw [List.getElem?_eq_getElem hlt] at h2 ⊢
        exact flat_cells hb.2 h2
      rw [rows_eq (by rw [hlen, hc]) h1]
      clear h1 hfx
      subst hxl
      rw [flatMap_by_index xs (.nil, []) fun x => unlay d x.1]
      exact flatMap_congr_range fun i hi => by simp [List.getD, hi]
    · cases hb
/-- a table's cells -/
theorem tab_cells {w : World} {name : String} {d : DataW Unit} {laid : List (String × DataW Unit)} {ps : List MemPlace} {g : Nat} {t : TypeId} (h : DataW.LaidVars P w laid ps) (hm : (name, d) ∈ laid) (hg : P.globalNamed name = some g) (hty : (P.globals[g]?).map (·.type) = some t) {dp : Nat} (hf : flatb P dp t = true) : ∀ i, w.cell? ⟨g, i, none⟩ = (unlay dp d)[i]? := by
  induction laid generalizing ps with
  | nil => cases hm
  | cons y laid ih =>
    obtain ⟨n, d'⟩ := y
    obtain ⟨g', t', cs, fuel, p, q, hg', ht', hvar, hd, hr, _⟩ := h
    rcases List.mem_cons.1 hm with e | hm
    · injection e with e1 e2
      subst e1 e2
      obtain rfl := Option.some.inj (hg.symm.trans hg')
      obtain rfl := Option.some.inj (hty.symm.trans ht')
      have := flat_cells hf hd
      intro i
      rw [World.var?_cell hg hvar i, ← this]
      simp
    · exact ih hr hm
/-- a package's table, as a slice that never turns -/
theorem tab_sl {ty : Ty α} {w : World} {g n : Nat} {cs : List Value} {xs : List α} (h0 : ty.Hid) (hfree : ∀ x, ty.im x h0 = []) (hc : ∀ i, w.cell? ⟨g, i, none⟩ = cs[i]?) (he : cs = xs.flatMap fun x => ty.cs x h0) (hn : xs.length ≤ n) (hlt : g < w.heap.size) : (Im.sl ty (some ⟨g, 0, none⟩) n xs).okW w := by
  refine ⟨hn, .inr ⟨g, 0, cs, rfl, hlt, ?_, fun j u hu => by rw [Nat.zero_add, hc]; exact hu⟩⟩
  rw [he]
  clear he hc hn
  induction xs with
  | nil => exact .nil
  | cons x xs ih => exact .cons h0 (fun f hf => by rw [hfree] at hf; cases hf) ih
theorem tab_lt {w : World} {g : Nat} {cs : List Value} (hc : ∀ i, w.cell? ⟨g, i, none⟩ = cs[i]?) (hpos : 0 < cs.length) : g < w.heap.size := by
  have h := hc 0
  rw [List.getElem?_eq_getElem hpos] at h
  unfold World.cell? at h
  split at h
  · rename_i hh; exact (Array.getElem?_eq_some_iff.1 hh).1
  · cases h
/-- behind the call -/
theorem SS.below {w w' : World} {A A' : Blks} {S' : List Ch} {I' : List Im} (h : SS ⟨w, A, Own []⟩ A' S' I' w') : RowKit.Below w.heap.size w w' :=
  ⟨h.fx.os, h.fx.tape, h.fx.output, h.fx.size, fun k hk => h.fx.keep k hk fun ⟨c, hc, _⟩ => by cases hc⟩
theorem St.first {w : World} {I : List Im} (h : ∀ f ∈ I, f.okW w) : St (fun b => b < w.heap.size) [] I w :=
  ⟨fun _ h => h, (fun _ h => by cases h), (fun _ h => by cases h), List.Pairwise.nil, h⟩
end Go.Tw
namespace Go.Tw
open Go
theorem okW_struct {P : Program} {w : World} {r : Reach} {base : Nat} {t : TypeId} {v : Value} {fs : List (Nat × Nat)} (hst : structb P t fs = true) (h : Value.okWide P w r base t v) : ∃ cs, v = .agg cs := by
  obtain ⟨fa, ht, _⟩ := structb_ok hst
  obtain ⟨cs, h1, _⟩ := WideShapes.okWide_struct ht h
  exact ⟨cs, h1⟩
theorem v_agg {cs : Array Value} {l : List Value} (e : (Value.agg cs).cells.toList = l) : cs = l.toArray := by
  apply Array.ext'
  simpa [Value.cells] using e
end Go.Tw

set_option linter.unusedVariables false
set_option linter.unusedSimpArgs false
namespace Go.Tw
open Go
/-! ### words for the plain laws -/
theorem w64 {x : Int} (h1 : -9223372036854775808 ≤ x) (h2 : x ≤ 9223372036854775807) : IntKind.i64.wrap x = x := by rw [IntKind.wrap_i64]; omega
theorem idx_nat {α : Type} (xs : List α) (n : Nat) : idx xs (n : Int) = xs[n]? := by simp [idx]
theorem idx_mid {α : Type} (l r : List α) (x : α) : idx (l ++ x :: r) (l.length : Int) = some x := by rw [idx_nat]; simp
theorem chk_true {p : Prop} [Decidable p] (h : p) : chk (decide p) = some () := by simp [chk, h]
theorem apok_true {n m b : Nat} (h : (n + m) * b ≤ 140737488355328) : chk (apok n m b) = some () := chk_true h
theorem cutok_true {lo hi n : Int} (h0 : 0 ≤ lo) (h1 : lo ≤ hi) (h2 : hi ≤ n) : chk (cutok lo hi n) = some () := chk_true ⟨h0, h1, h2⟩
theorem mkok_true {k : Int} {b : Nat} (h0 : 0 ≤ k) (h1 : k * b ≤ 140737488355328) (h2 : k ≤ 140737488355328) : chk (mkok k b) = some () := chk_true ⟨h0, h1, h2⟩
theorem bnd_some {α β : Type _} (x : α) (f : α → Option β) : Option.bind (some x) f = f x := rfl
end Go.Tw

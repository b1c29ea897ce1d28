import Derived.Test.YtojpockgiaihoaaDoorFw5
set_option linter.unusedVariables false
set_option linter.unusedSimpArgs false
namespace Go.Tw
open Go
theorem splice_take {β : Type _} (L : List β) (p : Nat) (vs : List β) (N : Nat) (h : p + vs.length ≤ N) (hN : N ≤ L.length) : (L.take p ++ vs ++ L.drop (p + vs.length)).take N = (L.take N).take p ++ vs ++ (L.take N).drop (p + vs.length) := by
  have hX : (L.take N).length = N := by rw [List.length_take]; omega
  have hL : L = L.take N ++ L.drop N := (List.take_append_drop N L).symm
  generalize L.take N = X at hX hL ⊢
  generalize L.drop N = Y at hL
  subst hL
  have e1 : (X ++ Y).take p = X.take p := List.take_append_of_le_length (by omega)
  have e2 : (X ++ Y).drop (p + vs.length) = X.drop (p + vs.length) ++ Y := List.drop_append_of_le_length (by omega)
  rw [e1, e2, ← List.append_assoc]
  refine List.take_left' ?_
  simp only [List.length_append, List.length_take, List.length_drop]
  omega
theorem SS.more {A : Blks} {w : World} {J : List Im} (hlt : ∀ b, A b → b < w.heap.size) (hJ : ∀ f ∈ J, f.ok A w) : SS ⟨w, A, Own []⟩ A [] J w :=
  ⟨⟨hlt, (fun c hc => by cases hc), (fun c hc => by cases hc), List.Pairwise.nil, hJ⟩, ⟨rfl, rfl, rfl, Nat.le_refl _, fun _ _ _ => rfl, fun _ h => h, fun _ h => .inl h, fun b ⟨c, hc, _⟩ => by cases hc⟩⟩

/-! ### pure words -/
def idx {α : Type} (xs : List α) (i : Int) : Option α := bif decide (0 ≤ i) then xs[i.toNat]? else none
theorem idx_some {α : Type} {xs : List α} {i : Int} {x : α} (h : idx xs i = some x) : 0 ≤ i ∧ xs[i.toNat]? = some x := by
  unfold idx at h
  cases hb : decide (0 ≤ i) with
  | true => rw [hb] at h; exact ⟨of_decide_eq_true hb, h⟩
  | false => rw [hb] at h; cases h
/-- within its kind -/
def inK (k : IntKind) (n : Int) : Prop := k.min ≤ n ∧ n ≤ k.max
def chk (b : Bool) : Option Unit := bif b then some () else none
theorem chk_some {p : Prop} [Decidable p] {u : Unit} (h : chk (decide p) = some u) : p := by
  unfold chk at h
  cases hb : decide p with
  | true => exact of_decide_eq_true hb
  | false => rw [hb] at h; cases h
theorem bnd {α β : Type _} {x : Option α} {f : α → Option β} {r : β} (h : Option.bind x f = some r) : ∃ y, x = some y ∧ f y = some r := by
  cases x with
  | none => cases h
  | some y => exact ⟨y, rfl, h⟩
/-- a cut -/
def cut {α : Type} (xs : List α) (lo hi : Int) : List α := (xs.take hi.toNat).drop lo.toNat
/-- 2^47 -/
abbrev big : Nat := 140737488355328

/-! ### facts -/
/-- cells that never turn -/
def Im.cells (b off : Nat) (vs : List Value) : Im where
  ok := fun A w => A b ∧ ∀ j u, vs[j]? = some u → w.cell? ⟨b, off + j, none⟩ = some u
  st := fun hA hw h => ⟨hA _ h.1, fun j u hu => (World.cell?_of_block (hw _ h.1)).trans (h.2 j u hu)⟩
section
variable {G : Pg} {n : Nat} {K : Key} {Q : Exit → Act → World → Prop} {m : Env} {S : List Ch} {I : List Im} {ops : Array Oper} {o : Oper} {l : List Oper} {α : Type} {ty : Ty α} {xs ys : List α} {a0 a1 : Option Addr} {c c1 : Nat}
theorem SS.know {A : Blks} {w : World} {J : List Im} (hs : SS K A S I w) (hJ : ∀ f ∈ J, f.ok A w) : SS K A S (J ++ I) w :=
  ⟨⟨hs.st.lt, hs.st.ch, hs.st.own, hs.st.dis, fun i hi => (List.mem_append.1 hi).elim (hJ i) (hs.st.im i)⟩, hs.fx⟩
theorem run_indexAt {P : Program} {τ : Tab} (hτ : TabOk P τ) {t e : Nat} {ti te : TI} {k : IntKind} {i : Int} {b o' n c : Nat} {w : World} (ht : tlook τ t = some ti) (hk : ti.k = .slice e) (he : tlook τ e = some te) (h0 : 0 ≤ i) (h1 : i < n) : (Instr.indexAt t (.slice (some ⟨b, o', none⟩) n c) (.int k i)).run P w = .ok (.pointer (some ⟨b, o' + i.toNat * te.size, none⟩)) w := by
  obtain ⟨d, f, z, hd, hf, hkk, _⟩ := hτ.info ht
  rw [hk] at hkk
  cases hkk
  simp only [Instr.indexAt, asIntOf, Sem.run_bind, Sem.run_pure, Result.andThen_ok, run_underlying hd]
  rw [if_pos ⟨h0, h1⟩]
  simp only [Sem.run_bind, run_sizeOf hτ he, Result.andThen_ok, Sem.run_pure, add_lit]

/-- an element's address -/
theorem Yl.ia {t e b o' : Nat} {x ix : Operand} {k : IntKind} {i : Int} {x0 : α} {ti te : TI} (hi : idx xs i = some x0) (ho : o.op = .indexAddr t x ix) (hx : ev m x = some (.slice (some ⟨b, o', none⟩) xs.length c)) (hix : ev m ix = some (.int k i)) (ht : tlook G.τ t = some ti) (hk : ti.k = .slice e) (he : tlook G.τ e = some te) : Yl G n m S I o (.pointer (some ⟨b, o' + i.toNat * te.size, none⟩)) := fun A a w hf _ _ => by
  obtain ⟨h0, h1⟩ := idx_some hi
  have h2 := (List.getElem?_eq_some_iff.1 h1).1
  simp only [execOp, ho, hf.ev hx, hf.ev hix, Sem.run_bind, run_indexAt G.ok ht hk he h0 (show i < (xs.length : Int) by omega), Result.andThen_ok, Sem.run_pure]
/-- cells that never turn -/
theorem Yl.ldc (i k : Nat) {t b off : Nat} {x : Operand} {vs : List Value} {v : Value} (ho : o.op = .load t x) (hx : ev m x = some (.pointer (some ⟨b, off + k, none⟩))) (hI : I[i]? = some (Im.cells b off vs)) (hv : loadv G.τ t (vs.drop k) 0 = some v) : Yl G n m S I o v := fun A a w hf _ hI' => by
  obtain ⟨_, h1⟩ := hI' _ (List.mem_of_getElem? hI)
  have hr : (loadVar t ⟨b, off + k, none⟩).run G.P w = .ok v w := run_loadVar G.ok hv fun j u hu => by
    rw [Nat.add_assoc]
    exact h1 (k + j) u (by simpa using hu)
  simp only [execOp, ho, hf.ev hx, Instr.loadAt, Instr.sureAddr, Sem.run_bind, Sem.run_pure, Result.andThen_ok, hr]
/-- an owned element's part, that hides nothing -/
theorem Yl.lo (p i k : Nat) {t b off T : Nat} {x : Operand} {x0 : α} {v : Value} (hx0 : xs[i]? = some x0) (ho : o.op = .load t x) (hx : ev m x = some (.pointer (some ⟨b, off, none⟩))) (hoff : off = 0 + i * ty.sz + k) (hS : S[p]? = some (Ch.arr ty T (some ⟨b, 0, none⟩) c xs)) (hv : ∀ hd, loadv G.τ t ((ty.cs x0 hd).drop k) 0 = some v) : Yl G n m S I o v := fun A a w hf hS' _ => by
  obtain ⟨_, h2⟩ := arr_reads (hS' _ (List.mem_of_getElem? hS))
  rcases h2 with rfl | ⟨b1, cs, e1, hels, hc⟩
  · simp at hx0
  · injection e1 with e1
    injection e1 with e1 e2
    subst e1
    obtain ⟨hd', him, hcs⟩ := hels.at_ i x0 hx0
    have hr : (loadVar t ⟨b, off, none⟩).run G.P w = .ok v w := by
      refine run_loadVar G.ok (hv hd') fun j u hu => ?_
      have h3 := hc (i * ty.sz + (k + j)) u (hcs (k + j) u (by simpa using hu))
      rw [hoff, ← h3]
      congr 2
      omega
    simp only [execOp, ho, hf.ev hx, Instr.loadAt, Instr.sureAddr, Sem.run_bind, Sem.run_pure, Result.andThen_ok, hr]
/-- an owned element's part -/
theorem Ac.lo (i k : Nat) {t b off T : Nat} {x : Operand} {x0 : α} {v : ty.Hid → Value} (hx0 : xs[i]? = some x0) (ho : o.op = .load t x) (hx : ev m x = some (.pointer (some ⟨b, off, none⟩))) (hoff : off = 0 + i * ty.sz + k) (hv : ∀ hd, loadv G.τ t ((ty.cs x0 hd).drop k) 0 = some (v hd)) : Ac G n m o [Ch.arr ty T (some ⟨b, 0, none⟩) c xs] [] v (fun _ => [Ch.arr ty T (some ⟨b, 0, none⟩) c xs]) (fun hd => ty.im x0 hd) := by
  refine Ac.run (v := fun hd => some (v hd)) fun A a w hf hs => ?_
  have hok := hs.ch _ (List.mem_singleton.2 rfl)
  obtain ⟨_, h2⟩ := arr_reads hok
  rcases h2 with rfl | ⟨b1, cs, e1, hels, hc⟩
  · simp at hx0
  · injection e1 with e1
    injection e1 with e1 e2
    subst e1
    obtain ⟨hd', him, hcs⟩ := hels.at_ i x0 hx0
    have hr : (loadVar t ⟨b, off, none⟩).run G.P w = .ok (v hd') w := by
      refine run_loadVar G.ok (hv hd') fun j u hu => ?_
      have h3 := hc (i * ty.sz + (k + j)) u (hcs (k + j) u (by simpa using hu))
      rw [hoff, ← h3]
      congr 2
      omega
    refine ⟨hd', w, A, ?_, ?_⟩
    · simp only [execOp, ho, hf.ev hx, Instr.loadAt, Instr.sureAddr, Sem.run_bind, Sem.run_pure, Result.andThen_ok, hr, nx]
    · have h5 := SS.grown hs ⟨rfl, rfl, rfl, Nat.le_refl _, fun _ _ _ => rfl⟩ (fun b hb => ⟨.inl hb, (hs.own _ (List.mem_singleton.2 rfl) b hb).1⟩) hok
      have h6 := h5.know (J := ty.im x0 hd') him
      simpa using h6
/-- an owned element's part, another one -/
theorem Ac.se (k : Nat) (x1 : α) {J : List Im} {t b off T : Nat} {x y : Operand} {i : Nat} {x0 : α} {v : Value} {ti : TI} (hx0 : xs[i]? = some x0) (ho : o.op = .store t x y) (hx : ev m x = some (.pointer (some ⟨b, off, none⟩))) (hoff : off = 0 + i * ty.sz + k) (hy : ev m y = some v) (hti : tlook G.τ t = some ti) (hc : (Nat.beq (vc v).length ti.size && (vc v).all Value.oneCell' && Nat.ble (k + (vc v).length) ty.sz) = true)
    (hnew : ∀ hd, ∃ hd', (ty.cs x0 hd).take k ++ vc v ++ (ty.cs x0 hd).drop (k + (vc v).length) = ty.cs x1 hd' ∧ ∃ is, pick (ty.im x0 hd ++ J) is = some (ty.im x1 hd')) :
    Ac G n m o [Ch.arr ty T (some ⟨b, 0, none⟩) c xs] J (fun _ : Unit => undef) (fun _ => [Ch.arr ty T (some ⟨b, 0, none⟩) c (xs.set i x1)]) (fun _ => []) := by
  simp only [Bool.and_eq_true] at hc
  obtain ⟨⟨h1, h2⟩, h3⟩ := hc
  rw [Nat.zero_add] at hoff
  refine Ac.run (v := fun _ => none) fun A a w hf hs => ?_
  have hok := hs.ch _ (List.mem_singleton.2 rfl)
  rcases arr_some hok with ⟨_, rfl, _⟩ | ⟨g, cur, cs, e0, hb, h4, h5, h6, h7, h8⟩
  · simp at hx0
  · injection e0 with e0
    injection e0 with e0 e1
    subst e0
    have hi : i < xs.length := (List.getElem?_eq_some_iff.1 hx0).1
    have hk3 := Nat.le_of_ble_eq_true h3
    have hlen := h8.len
    have hmul : (i + 1) * ty.sz ≤ xs.length * ty.sz := Nat.mul_le_mul_right _ hi
    have hmul2 : xs.length * ty.sz ≤ c * ty.sz := Nat.mul_le_mul_right _ h4
    rw [Nat.succ_mul] at hmul
    have hcur : cur = cur.toList.toArray := by simp
    rw [hcur] at hb
    have hcl : cur.toList.length = c * ty.sz := by rw [Array.length_toList, h6]
    have hfit : off + (vc v).length ≤ cur.toList.length := by rw [hcl, hoff]; omega
    have hr := run_storeVar G.ok (P := G.P) (o := off) (v := v) hti (Nat.eq_of_beq_eq_true h1) h2 hb hfit
    generalize hnewc : (cur.toList.take off ++ vc v ++ cur.toList.drop (off + (vc v).length)) = nc at hr
    have hk : w.grownBy (w.setRow b nc.toArray) (some b) := ⟨rfl, rfl, rfl, by rw [setRow_size]; exact Nat.le_refl _, fun k _ hk => setRow_other _ _ _ _ (fun e => hk (by rw [e]))⟩
    have hncl : nc.length = cur.size := by rw [← hnewc]; simp at hfit ⊢; omega
    refine ⟨(), w.setRow b nc.toArray, A, ?_, SS.grown hs hk (fun b' hb2 => ⟨.inl hb2, ?_⟩) ?_⟩
    · simp only [execOp, ho, hf.ev hx, hf.ev hy, Instr.storeAt, Instr.sureAddr, Sem.run_bind, Sem.run_pure, Result.andThen_ok, hr, nx]
    · rw [setRow_size]
      injection hb2 with hb2
      subst hb2
      exact (Array.getElem?_eq_some_iff.1 hb).1
    · have hA : ∀ b', A b' → (w.setRow b nc.toArray).heap[b']? = w.heap[b']? := fun b' hA => setRow_other _ _ _ _ (fun e => (hs.own _ (List.mem_singleton.2 rfl) b' (by subst e; rfl)).2 hA)
      have h9 := (h8.set i x0 x1 k (vc v) hx0 (fun hd him => by
        obtain ⟨hd', e1, is, e2⟩ := hnew hd
        refine ⟨hd', e1, fun f hf' => ?_⟩
        rcases List.mem_append.1 (pick_mem e2 f hf') with h | h
        · exact him f h
        · exact hs.im f h) hk3).st (fun _ h => h) hA
      refine ⟨_, ⟨?_, .inr ⟨b, c, nc.toArray, by rw [List.length_set], Nat.zero_le _, setRow_heap w b _ _ T (0, 0) hb, by rw [List.length_set]; exact h4, h5, by simpa [hncl] using h6, ?_⟩⟩, h9⟩
      · rw [h9.len]
      · rw [List.length_set, ← hnewc, ← h7, hoff]
        exact splice_take _ _ _ _ (by omega) (by rw [hcl]; exact hmul2)
end

/-! ### cuts -/
def evb (m : Env) (x : Option Operand) (dflt : Int) : Option Int :=
  match x with
  | none => some dflt
  | some x => match ev m x with
    | some (.int _ i) => some i
    | _ => none
theorem run_sliceBound {P : Program} (k : IntKind) (i : Int) (y : Nat) (code : BoundsCode) (w : World) (h0 : 0 ≤ i) (h1 : i ≤ y) : (Instr.sliceBound (.int k i) y code).run P w = .ok i.toNat w := by
  simp only [Instr.sliceBound, asIntOf, Sem.run_bind, Sem.run_pure, Result.andThen_ok]
  rw [if_pos ⟨h0, h1⟩]
  rfl
theorem evb_some {n : Nat} {m : Env} {a : Act} (hf : Fr n m a) {x : Operand} {dflt i : Int} (h : evb m (some x) dflt = some i) : ∃ k, a.eval x = .int k i := by
  simp only [evb] at h
  split at h
  · rename_i k j hx
    injection h with h
    subst h
    exact ⟨k, hf.ev hx⟩
  · cases h
theorem run_bounds {P : Program} {n : Nat} {m : Env} {a : Act} (hf : Fr n m a) {lo hi : Option Operand} {lv hv : Int} {len cap : Nat} {w : World} (hlo : evb m lo 0 = some lv) (hhi : evb m hi len = some hv) (h0 : 0 ≤ lv) (h1 : lv ≤ hv) (h2 : hv ≤ cap) (b : Bool) : (Instr.sliceBounds b len cap (lo.map a.eval) (hi.map a.eval) none).run P w = .ok (lv.toNat, hv.toNat, cap) w := by
  have e0 : lo = none → lv = 0 := fun e => by subst e; simp only [evb, Option.some.injEq] at hlo; exact hlo.symm
  have e1 : hi = none → hv = len := fun e => by subst e; simp only [evb, Option.some.injEq] at hhi; exact hhi.symm
  cases lo with
  | none =>
    obtain rfl := e0 rfl
    cases hi with
    | none =>
      obtain rfl := e1 rfl
      simp [Instr.sliceBounds]
    | some y =>
      obtain ⟨k, hk⟩ := evb_some hf hhi
      simp only [Option.map_none, Option.map_some, Instr.sliceBounds, Sem.run_bind, Sem.run_pure, Result.andThen_ok, hk]
      rw [run_sliceBound k hv cap _ w (by omega) h2]
      simp
  | some x =>
    obtain ⟨j, hj⟩ := evb_some hf hlo
    cases hi with
    | none =>
      obtain rfl := e1 rfl
      simp only [Option.map_none, Option.map_some, Instr.sliceBounds, Sem.run_bind, Sem.run_pure, Result.andThen_ok, hj]
      rw [run_sliceBound j lv len _ w h0 (by omega)]
      simp
    | some y =>
      obtain ⟨k, hk⟩ := evb_some hf hhi
      simp only [Option.map_some, Instr.sliceBounds, Sem.run_bind, Sem.run_pure, Result.andThen_ok, hk, hj]
      rw [run_sliceBound k hv cap _ w (by omega) h2, Result.andThen_ok]
      rw [run_sliceBound j lv hv.toNat _ w h0 (by omega)]
      simp
section
variable {G : Pg} {n : Nat} {K : Key} {Q : Exit → Act → World → Prop} {m : Env} {S : List Ch} {I : List Im} {ops : Array Oper} {o : Oper} {l : List Oper} {α : Type} {ty : Ty α} {xs ys : List α} {a0 a1 : Option Addr} {c c1 : Nat}
theorem run_slice {P : Program} {τ : Tab} (hτ : TabOk P τ) {n : Nat} {m : Env} {a : Act} (hf : Fr n m a) {t e : Nat} {ti te : TI} {lo hi : Option Operand} {lv hv : Int} {len cap : Nat} {w : World} (ht : tlook τ t = some ti) (hk : ti.k = .slice e) (he : tlook τ e = some te) (hlo : evb m lo 0 = some lv) (hhi : evb m hi len = some hv) (h0 : 0 ≤ lv) (h1 : lv ≤ hv) (h2 : hv ≤ cap) (a0 : Option Addr) : (Instr.sliceAt t (.slice a0 len cap) (lo.map a.eval) (hi.map a.eval) none).run P w = .ok (.slice (if cap = lv.toNat then a0 else a0.map (·.add (lv.toNat * te.size))) (hv.toNat - lv.toNat) (cap - lv.toNat)) w := by
  obtain ⟨d, f, z, hd, hfi, hkk, _⟩ := hτ.info ht
  rw [hk] at hkk
  cases hkk
  simp only [Instr.sliceAt, Instr.slice, Sem.run_bind, run_underlying hd, Result.andThen_ok, run_bounds (P := P) (w := w) hf hlo hhi h0 h1 h2 true, run_sizeOf hτ he, Sem.run_pure]

def cutok (lo hi n : Int) : Bool := decide (0 ≤ lo ∧ lo ≤ hi ∧ hi ≤ n)
theorem cut_length {xs : List α} {lo hi : Int} (h : 0 ≤ lo ∧ lo ≤ hi ∧ hi ≤ xs.length) : (cut xs lo hi).length = hi.toNat - lo.toNat := by
  unfold cut
  rw [List.length_drop, List.length_take]
  omega
/-- what a cut lies at -/
def cuta (a0 : Option Addr) (c : Nat) (lo : Int) (sz : Nat) : Option Addr := if c = lo.toNat then a0 else a0.map (·.add (lo.toNat * sz))
theorem Yl.rs {t e : Nat} {x : Operand} {lo hi : Option Operand} {lv hv : Int} {ti te : TI} {u : Unit} (i : Nat) (hI : I[i]? = some (Im.sl ty a0 c xs)) (hk0 : chk (cutok lv hv xs.length) = some u) (ho : o.op = .slice t x lo hi none) (hx : ev m x = some (.slice a0 xs.length c)) (hlo : evb m lo 0 = some lv) (hhi : evb m hi xs.length = some hv) (ht : tlook G.τ t = some ti) (hk : ti.k = .slice e) (he : tlook G.τ e = some te) (hsz : te.size = ty.sz) :
    Yl G n m S I o (.slice (cuta a0 c lv ty.sz) (cut xs lv hv).length (c - lv.toNat)) := fun A a w hf _ hI' => by
  obtain ⟨h0, h1, h2⟩ := chk_some hk0
  have hle := (hI' _ (List.mem_of_getElem? hI)).1
  have hr := run_slice (P := G.P) (w := w) G.ok hf ht hk he hlo hhi h0 h1 (by omega : hv ≤ (c : Int)) a0
  rw [cut_length ⟨h0, h1, h2⟩, cuta, ← hsz]
  simp only [execOp, ho, hf.ev hx, Option.map_none, Sem.run_bind, hr, Result.andThen_ok, Sem.run_pure]
theorem rs_fact {A : Blks} {w : World} {lv hv : Int} {u : Unit} (hk0 : chk (cutok lv hv xs.length) = some u) (h : (Im.sl ty a0 c xs).ok A w) : (Im.sl ty (cuta a0 c lv ty.sz) (c - lv.toNat) (cut xs lv hv)).ok A w := by
  obtain ⟨h0, h1, h2⟩ := chk_some hk0
  obtain ⟨h5, h6⟩ := h
  refine ⟨by rw [cut_length ⟨h0, h1, h2⟩]; omega, ?_⟩
  rcases h6 with rfl | ⟨b, o', cs, rfl, hb, hels, hc⟩
  · exact .inl (by simp [cut])
  · by_cases hcl : c = lv.toNat
    · left
      apply List.eq_nil_of_length_eq_zero
      rw [cut_length ⟨h0, h1, h2⟩]
      omega
    · refine .inr ⟨b, o' + lv.toNat * ty.sz, _, by rw [cuta, if_neg hcl]; simp [add_lit], hb, (hels.take hv.toNat).drop lv.toNat, fun j u hu => ?_⟩
      rw [Nat.add_assoc]
      apply hc
      rw [List.getElem?_drop, List.getElem?_take] at hu
      split at hu
      · exact hu
      · cases hu
/-- a cut of what never turns -/
theorem L.rs (i : Nat) {d t e : Nat} {x : Operand} {lo hi : Option Operand} {lv hv : Int} {ti te : TI} {u : Unit} (hk0 : chk (cutok lv hv xs.length) = some u) (hw : wg ops.toList m o = some true) (hd : o.dst = some d) (hn : Nat.blt d n = true) (ho : o.op = .slice t x lo hi none) (hx : ev m x = some (.slice a0 xs.length c)) (hlo : evb m lo 0 = some lv) (hhi : evb m hi xs.length = some hv) (hI : I[i]? = some (Im.sl ty a0 c xs)) (ht : tlook G.τ t = some ti) (hk : ti.k = .slice e) (he : tlook G.τ e = some te) (hsz : te.size = ty.sz)
    (h : ∀ a1 c1, L G n K ops Q l ((d, .slice a1 (cut xs lv hv).length c1) :: m) S (Im.sl ty a1 c1 (cut xs lv hv) :: I)) : L G n K ops Q (o :: l) m S I := by
  refine L.y (Yl.rs i hI hk0 ho hx hlo hhi ht hk he hsz) hw hd hn fun A a w hf hs => h _ _ A a w hf (hs.know (J := [_]) fun f hf' => ?_)
  rw [List.mem_singleton.1 hf']
  exact rs_fact hk0 (hs.st.im _ (List.mem_of_getElem? hI))
/-- the first ones of what is owned -/
theorem Ac.rso {t T : Nat} {x : Operand} {hi : Option Operand} {hv : Int} {ti te : TI} {u : Unit} (hk0 : chk (cutok 0 hv xs.length) = some u) (ho : o.op = .slice t x none hi none) (hx : ev m x = some (.slice a0 xs.length c)) (hhi : evb m hi xs.length = some hv) (ht : tlook G.τ t = some ti) (hk : ti.k = .slice T) (he : tlook G.τ T = some te) (hsz : te.size = ty.sz) :
    Ac G n m o [Ch.arr ty T a0 c xs] [] (fun _ : Unit => .slice a0 (cut xs 0 hv).length c) (fun _ => [Ch.arr ty T a0 c (cut xs 0 hv)]) (fun _ => []) := by
  obtain ⟨_, h1, h2⟩ := chk_some hk0
  have ec : cut xs 0 hv = xs.take hv.toNat := by simp [cut]
  rw [ec]
  refine Ac.run (v := fun _ => some (.slice a0 (xs.take hv.toNat).length c)) fun A a w hf hs => ?_
  have hok := hs.ch _ (List.mem_singleton.2 rfl)
  have hle : xs.length ≤ c := (arr_reads hok).1
  have hr := run_slice (P := G.P) (w := w) (lo := none) (lv := 0) (cap := c) G.ok hf ht hk he rfl hhi (Int.le_refl 0) h1 (by omega) a0
  have hlen : (xs.take hv.toNat).length = hv.toNat := by rw [List.length_take]; omega
  have ha : (if c = (0 : Int).toNat then a0 else a0.map (·.add ((0 : Int).toNat * te.size))) = a0 := by
    simp only [Int.toNat_zero, Nat.zero_mul]
    split
    · rfl
    · cases a0 <;> simp [Addr.add]
  rw [ha] at hr
  refine ⟨(), w, A, ?_, SS.grown hs ⟨rfl, rfl, rfl, Nat.le_refl _, fun _ _ _ => rfl⟩ (fun b hb => ⟨.inl hb, (hs.own _ (List.mem_singleton.2 rfl) b hb).1⟩) ?_⟩
  · simp only [execOp, ho, hf.ev hx, Option.map_none, Sem.run_bind, hlen, nx] at hr ⊢
    rw [hr]
    simp
  · rcases arr_some hok with ⟨rfl, rfl, rfl⟩ | ⟨g, cur, cs, rfl, hb, h4, h5, h6, h7, h8⟩
    · exact ⟨[], ⟨by simp, .inl ⟨by simp, by simp⟩⟩, by simp; exact .nil⟩
    · refine ⟨_, ⟨?_, .inr ⟨g, c, cur, rfl, Nat.zero_le _, hb, by rw [hlen]; omega, h5, h6, ?_⟩⟩, h8.take hv.toNat⟩
      · rw [(h8.take hv.toNat).len]
      · rw [hlen, ← h7, List.take_take, Nat.min_eq_left]
        exact Nat.mul_le_mul_right _ (by omega)

/-! ### append -/
theorem run_ap {P : Program} (w : World) (t ty e : TypeId) (i : TypeInfo) (z : Value) (size bytes : Nat) (ht : P.underlying t = some (.slice e)) (hi : P.info? e = some i) (hz : i.zero = some z) (hsize : i.size = size) (hby : i.bytes = bytes) (hzs : z.cells.size = size) (hsz : 0 < size)
    (v : Value) (n : Nat) (xs : List Value) (hown : w.ownsRow 0 e size v n xs) (a : Addr) (m c : Nat) (news : List Value) (hl : news.length = m * size) (hnews : ∀ j u, news[j]? = some u → w.cell? (a.add j) = some u) (h1 : ∀ u ∈ news, u.oneCell' = true) (h63 : n + m ≤ maxLen) (hbytes : (n + m) * bytes ≤ 140737488355328) :
    ∃ v' w', (Builtin.append_ #[t, t] ty #[v, .slice (some a) m c]).run P w = .ok v' w' ∧ w'.ownsRow 0 e size v' (n + m) (xs ++ news) ∧ w.grownBy w' v.ownBlock ∧ (∀ b, v'.ownBlock = some b → (v.ownBlock = some b ∨ w.heap.size ≤ b) ∧ b < w'.heap.size) := by
  obtain ⟨v', w', hr, h2, h3, h4⟩ := run_append_own (P := P) w 0 t ty e i z size bytes ht hi hz hsize hby hzs hsz v n xs hown a m c news hl hnews h1 h63 hbytes (Nat.zero_le _)
  refine ⟨v', w', hr, h2, h3, fun b hb => ⟨?_, ?_⟩⟩
  · subst hsize hby
    simp only [maxLen] at h63
    rcases hown.2 with ⟨rfl, rfl⟩ | ⟨g, cap, cur, rfl, hbg, hg, hnc, hcm, hcs, htake⟩
    · by_cases hm : m = 0
      · rw [h4.2 ⟨rfl, hm⟩] at hb
        cases hb
      · have hr2 := run_append_nil (P := P) w t ty e i z ht hi hz a m c news hl hnews (by omega) (by omega) (by simp only [Nat.zero_add] at hbytes; omega)
        rw [hr] at hr2
        injection hr2 with hv
        rw [hv] at hb
        injection hb with hb
        exact .inr (Nat.le_of_eq hb)
    · by_cases hroom : n + m ≤ cap
      · have hfit : n * i.size + news.length ≤ cur.size := by rw [hl, hcs, ← Nat.add_mul]; exact Nat.mul_le_mul_right _ hroom
        have hr2 := run_append_room (P := P) w t ty e i ht hi g n cap cur hg a m c news hl hnews h1 hroom hfit
        rw [hr] at hr2
        injection hr2 with hv
        rw [hv] at hb
        exact .inl hb
      · have hr2 := run_append_grow (P := P) w t ty e i z ht hi hz ⟨g, 0, none⟩ n cap xs hown.1 (hown.cells (g := g) rfl) a m c news hl hnews (by omega) (by omega) (growslice_fits (by omega) hbytes)
        rw [hr] at hr2
        injection hr2 with hv
        rw [hv] at hb
        injection hb with hb
        exact .inr (Nat.le_of_eq hb)
  · exact (h2.lt b hb).2
theorem run_ap_nil {P : Program} (w : World) (t ty e : TypeId) (i : TypeInfo) (ht : P.underlying t = some (.slice e)) (hi : P.info? e = some i) (a0 : Option Addr) (n cap : Nat) (hn : n ≤ cap) : (Builtin.append_ #[t, t] ty #[.slice a0 n cap, .slice none 0 c1]).run P w = .ok (.slice a0 n cap) w := by
  cases a0 <;> simp [Builtin.append_, run_underlying ht, sizeOf, typeInfo, hi, Builtin.lenOf, hn, Builtin.firstCells, storeCells]
def apok (n m bytes : Nat) : Bool := decide ((n + m) * bytes ≤ big)
theorem Ac.ap {t T : Nat} {x y : Operand} {ti te : TI} {u : Unit} (hlim : chk (apok xs.length ys.length te.bytes) = some u) (ho : o.op = .call { callee := .builtin .append, args := #[x, y], argTypes := #[t, t] }) (hx : ev m x = some (.slice a0 xs.length c)) (hy : ev m y = some (.slice a1 ys.length c1)) (ht : tlook G.τ t = some ti) (hk : ti.k = .slice T) (he : tlook G.τ T = some te) (hsz : (Nat.beq te.size ty.sz && Nat.beq te.zero.length ty.sz && Nat.blt 0 ty.sz && Nat.blt 0 te.bytes) = true) :
    Ac G n m o [Ch.arr ty T a0 c xs] [Im.sl ty a1 c1 ys] (fun z : Option Addr × Nat => .slice z.1 (xs ++ ys).length z.2) (fun z => [Ch.arr ty T z.1 z.2 (xs ++ ys)]) (fun _ => []) := by
  have hlim : (xs.length + ys.length) * te.bytes ≤ 140737488355328 := chk_some hlim
  simp only [Bool.and_eq_true] at hsz
  obtain ⟨⟨⟨hs1, hs2⟩, hpos⟩, hby⟩ := hsz
  have hs1 := Nat.eq_of_beq_eq_true hs1
  have hs2 := Nat.eq_of_beq_eq_true hs2
  have hpos' : 0 < ty.sz := blt_lt hpos
  have hby' : 0 < te.bytes := blt_lt hby
  refine Ac.run (v := fun z : Option Addr × Nat => some (.slice z.1 (xs ++ ys).length z.2)) fun A a w hf hs => ?_
  obtain ⟨dd, f, z0, hdd, hfi, hkk, _⟩ := G.ok.info ht
  rw [hk] at hkk
  cases hkk
  obtain ⟨de, fe, ze, hde, hfe, _, hfs, hfb, hfz, hzc, _⟩ := G.ok.info he
  have hok := hs.ch _ (List.mem_singleton.2 rfl)
  obtain ⟨cs, hown, hels⟩ := hok
  have hym := hs.im _ (List.mem_singleton.2 rfl)
  have h63 : xs.length + ys.length ≤ maxLen := by
    have h1 : (xs.length + ys.length) * 1 ≤ (xs.length + ys.length) * te.bytes := Nat.mul_le_mul_left _ hby'
    simp only [maxLen]
    omega
  have hzs : ze.cells.size = ty.sz := by rw [← hs2, ← hzc, Array.length_toList]
  have key : ∀ (ad : Addr) (es : List Value), a1 = some ad → Els ty A w ys es → (∀ j u, es[j]? = some u → w.cell? (ad.add j) = some u) → ∃ (x : Option Addr × Nat) (w' : World) (A' : Blks), (execOp a.eval o).run G.P w = .ok (nx (some (.slice x.1 (xs ++ ys).length x.2))) w' ∧ SS ⟨w, A, Own [Ch.arr ty T a0 c xs]⟩ A' [Ch.arr ty T x.1 x.2 (xs ++ ys)] [] w' := by
    rintro ad es rfl hes hcells
    obtain ⟨v', w', hr, hown', hgr, hat⟩ := run_ap (P := G.P) w t o.type T fe ze ty.sz te.bytes hdd hfe hfz (hfs.trans hs1) hfb hzs hpos' (.slice a0 xs.length c) xs.length cs hown ad ys.length c1 es hes.len hcells hes.one h63 hlim
    have hv' : ∃ a2 c2, v' = .slice a2 (xs.length + ys.length) c2 := by
      rcases hown'.2 with ⟨rfl, e⟩ | ⟨g, cap, cur, rfl, _⟩
      · exact ⟨none, 0, by rw [e]⟩
      · exact ⟨_, _, rfl⟩
    obtain ⟨a2, c2, rfl⟩ := hv'
    have hblk : (Value.slice a0 xs.length c).ownBlock = (Ch.arr ty T a0 c xs).blk := by cases a0 <;> rfl
    have hblk2 : (Value.slice a2 (xs.length + ys.length) c2).ownBlock = (Ch.arr ty T a2 c2 (xs ++ ys)).blk := by cases a2 <;> rfl
    have hA : ∀ b, A b → w'.heap[b]? = w.heap[b]? := fun b hb => hgr.block b (hs.lt b hb) (fun e => (hs.own _ (List.mem_singleton.2 rfl) b (hblk.symm.trans e.symm)).2 hb)
    rw [hblk2, hblk] at hat
    rw [← List.length_append] at hown'
    refine ⟨(a2, c2), w', A, ?_, SS.grown hs (by rw [← hblk]; exact hgr) hat ⟨_, hown', (hels.app hes).st (fun _ h => h) hA⟩⟩
    simp only [execOp, ho, resolve, invoke, builtin, Sem.run_bind, Sem.run_pure, Result.andThen_ok, List.map_toArray, List.map_cons, List.map_nil, hf.ev hx, hf.ev hy, hr, nx, List.length_append]
  rcases hym.2 with rfl | ⟨b, o', es, ha1, hb, hes, hc⟩
  · cases a1 with
    | none =>
      refine ⟨(a0, c), w, A, ?_, SS.grown hs ⟨rfl, rfl, rfl, Nat.le_refl _, fun _ _ _ => rfl⟩ (fun b hb => ⟨.inl hb, (hs.own _ (List.mem_singleton.2 rfl) b hb).1⟩) ⟨cs, by rw [List.append_nil]; exact hown, by rw [List.append_nil]; exact hels⟩⟩
      have hle : xs.length ≤ c := (arr_reads ⟨cs, hown, hels⟩).1
      simp only [execOp, ho, resolve, invoke, builtin, Sem.run_bind, Sem.run_pure, Result.andThen_ok, List.map_toArray, List.map_cons, List.map_nil, hf.ev hx, hf.ev hy, List.length_nil, run_ap_nil w t o.type T fe hdd hfe a0 xs.length c hle, nx, List.append_nil]
    | some ad => exact key ad [] rfl .nil (fun j u hu => by simp at hu)
  · exact key _ es ha1 hes (fun j u hu => by rw [add_lit]; exact hc j u hu)
end
end Go.Tw

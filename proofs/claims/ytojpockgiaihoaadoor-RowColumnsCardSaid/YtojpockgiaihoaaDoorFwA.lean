import Derived.Test.YtojpockgiaihoaaDoorFw9
import Derived.Lib.AppendZeros
set_option linter.unusedVariables false
set_option linter.unusedSimpArgs false
namespace Go.Tw
open Go
section
variable {G : Pg} {n : Nat} {K : Key} {Q : Exit → Act → World → Prop} {m : Env} {S C V : List Ch} {I : List Im} {ops : List Oper} {late l : List Nat} {o : Oper} {α : Type} {ty : Ty α} {xs ys : List α} {a0 a1 : Option Addr} {c c1 : Nat}
theorem D.frz (p : Nat) {T0 : Nat} {R : List Ch} (hS : ext V [p] = some ([Ch.arr ty T0 a0 c xs], R)) (h : D G n K Q ops late l C m R (Im.sl ty a0 c xs :: I)) : D G n K Q ops late l C m V I := by
  intro A a w fuel hfu hf hs
  have hp : (Ch.arr ty T0 a0 c xs :: (C ++ R)).Perm (C ++ V) := by
    have h1 := ext_perm hS
    exact (List.perm_middle (l₁ := C) (l₂ := R)).symm.trans (h1.append_left C)
  exact wpG_weak (fun w ⟨A, h1, h2⟩ => ⟨A, h1, fun f hf => h2 f (List.mem_cons_of_mem _ hf)⟩) (h _ a w fuel hfu hf ((hs.perm hp fun _ h => h).frz arr_frz))
theorem D.nil0 {α : Type} (ty : Ty α) (T0 : Nat) (h : D G n K Q ops late l C m (Ch.arr ty T0 none 0 [] :: V) I) : D G n K Q ops late l C m V I := by
  intro A a w fuel hfu hf hs
  refine h A a w fuel hfu hf ((hs.nil0 (ty := ty) (T0 := T0)).perm ?_ fun _ h => h)
  exact List.perm_middle
/-- is it nil? -/
theorem L.nilc (i : Nat) {os : Array Oper} {l : List Oper} {d t e : Nat} {x : Operand} {ti : TI} (hI : I[i]? = some (Im.sl ty a0 c xs)) (hw : wg os.toList m o = some true) (hd : o.dst = some d) (hn : Nat.blt d n = true) {y : Operand} {t2 : Nat} (ho : o.op = .binOp .eql t x y t2) (hx : ev m x = some (.slice a0 xs.length c)) (hy : ev m y = some (.slice none 0 0)) (ht : tlook G.τ t = some ti) (hk : ti.k = .slice e)
    (h1 : a0 = none → xs = [] → L G n K os Q l ((d, .bool true) :: m) S I) (h2 : L G n K os Q l ((d, .bool false) :: m) S I) : L G n K os Q (o :: l) m S I := by
  intro A a w hf hs
  have hb := hs.st.im _ (List.mem_of_getElem? hI)
  obtain ⟨dd, _, _, hdd, _, hkk, _⟩ := G.ok.info ht
  rw [hk] at hkk
  cases hkk
  have hg : ∀ a1, (eqGuard .eql t x y (.slice a1 xs.length c) (.slice none 0 0)).run G.P w = .ok () w := fun a1 => by
    unfold eqGuard
    split <;> rfl
  have he : ∀ a1 k, (Op.equalIn (k + 1) t (.slice a1 xs.length c) (.slice none 0 0)).run G.P w = .ok a1.isNone w := fun a1 k => by
    cases a1 <;> simp [Op.equalIn, run_underlying hdd]
  have hr : ∀ a1, (do eqGuard .eql t x y (.slice a1 xs.length c) (.slice none 0 0); binOp .eql t (.slice a1 xs.length c) (.slice none 0 0) : Sem Value).run G.P w = .ok (.bool a1.isNone) w := fun a1 => by
    have he2 : (Op.equal t (.slice a1 xs.length c) (.slice none 0 0)).run G.P w = .ok a1.isNone w := he a1 9999
    simp only [Sem.run_bind, hg, Result.andThen_ok, binOp, he2, Sem.run_pure]
  have hr2 : (execOp a.eval o).run G.P w = .ok (.value (.bool a0.isNone)) w := by
    have := hr a0
    simp only [execOp, ho, hf.ev hx, hf.ev hy, Sem.run_bind] at this ⊢
    rw [this]
    rfl
  unfold wpList
  rw [if_pos (wg_ok hw hf)]
  left
  unfold Oper.wp
  rw [hr2, Oper.upon_value, hd]
  cases a0 with
  | none =>
    refine h1 rfl ?_ A _ w (hf.put _ (blt_lt hn)) hs
    rcases hb.2 with h | ⟨b, o', cs, e, _⟩
    · exact h
    · cases e
  | some ad => exact h2 A _ w (hf.put _ (blt_lt hn)) hs
/-- a new slice, of zeros -/
def mkok (k : Int) (bytes : Nat) : Bool := decide (0 ≤ k ∧ k * bytes ≤ big ∧ k ≤ big)
theorem els_rep {x : α} {h : ty.Hid} {A : Blks} {w : World} (hi : ∀ f ∈ ty.im x h, f.ok A w) : ∀ k, Els ty A w (List.replicate k x) ((List.replicate k (ty.cs x h)).flatten)
  | 0 => .nil
  | k + 1 => by
    rw [List.replicate_succ, List.replicate_succ, List.flatten_cons]
    exact .cons h hi (els_rep hi k)
theorem made_eq (z : Array Value) (hz : 0 < z.size) : ∀ k, (madeCells z (k * z.size)).toList = (List.replicate k z.toList).flatten := by
  intro k
  apply List.ext_getElem?
  intro j
  have e1 : (madeCells z (k * z.size)).toList[j]? = if j < k * z.size then z.toList[j % z.size]? else none := by
    have hlt : j % z.size < z.size := Nat.mod_lt _ hz
    by_cases hj : j < k * z.size
    · simp [madeCells, hj, hlt]
    · simp [madeCells, hj]
  rw [e1]
  clear e1
  induction k generalizing j with
  | zero => simp
  | succ k ih =>
    rw [List.replicate_succ, List.flatten_cons]
    by_cases hj : j < z.size
    · rw [if_pos (by rw [Nat.succ_mul]; omega), Nat.mod_eq_of_lt hj, List.getElem?_append_left (by simpa using hj)]
    · have h2 : z.toList.length ≤ j := by simp; omega
      rw [List.getElem?_append_right h2, ← ih]
      have h3 : j % z.size = (j - z.size) % z.size := by
        rw [Nat.mod_eq_sub_mod (by omega)]
      simp only [Array.length_toList]
      rw [← h3]
      by_cases h4 : j < (k + 1) * z.size
      · rw [if_pos h4, if_pos (by rw [Nat.succ_mul] at h4; omega)]
      · rw [if_neg h4, if_neg (by rw [Nat.succ_mul] at h4; omega)]
theorem Ac.mk (x0 : α) (h0 : ty.Hid) {t e : Nat} {x : Operand} {kk : IntKind} {k : Int} {ti te : TI} {u : Unit} (hk0 : chk (mkok k te.bytes) = some u) (hfree : ∀ A w, ∀ f ∈ ty.im x0 h0, f.ok A w) (hz0 : te.zero = ty.cs x0 h0) (ho : o.op = .makeSlice t x x) (hx : ev m x = some (.int kk k)) (ht : tlook G.τ t = some ti) (hk : ti.k = .slice e) (he : tlook G.τ e = some te) (hsz : (Nat.beq te.size ty.sz && Nat.blt 0 ty.sz) = true) :
    Ac G n m o [] [] (fun g : Nat => .slice (some ⟨g, 0, none⟩) (List.replicate k.toNat x0).length k.toNat) (fun g => [Ch.arr ty e (some ⟨g, 0, none⟩) k.toNat (List.replicate k.toNat x0)]) (fun _ => []) := by
  simp only [Bool.and_eq_true] at hsz
  obtain ⟨hs1, hs2⟩ := hsz
  have hs1 := Nat.eq_of_beq_eq_true hs1
  have hs2 := blt_lt hs2
  have hk1 : 0 ≤ k ∧ k * te.bytes ≤ big ∧ k ≤ big := chk_some hk0
  refine Ac.run (v := fun g : Nat => some (.slice (some ⟨g, 0, none⟩) (List.replicate k.toNat x0).length k.toNat)) fun A a w hf hs => ?_
  obtain ⟨dd, f, z0, hdd, hfi, hkk, _⟩ := G.ok.info ht
  rw [hk] at hkk
  cases hkk
  obtain ⟨de, fe, ze, hde, hfe, _, hfs, hfb, hfz, hzc, _⟩ := G.ok.info he
  have ebig : ((big : Nat) : Int) = 140737488355328 := rfl
  have hr := run_make (P := G.P) w t e fe ze hdd hfe hfz kk kk k k hk1.1 (Int.le_refl _) (by rw [hfb, Int.mul_comm]; omega) (by omega)
  have hzl : ze.cells.size = ty.sz := by rw [← Array.length_toList, hzc, hz0, ty.len]
  have hm : (madeCells ze.cells (k.toNat * fe.size)).toList = (List.replicate k.toNat (ty.cs x0 h0)).flatten := by
    rw [← hz0, ← hzc, hfs, hs1, ← hzl]
    exact made_eq _ (by rw [hzl]; exact hs2) _
  refine ⟨w.heap.size, w.alloc (.cells (madeCells ze.cells (k.toNat * fe.size)) e), A, ?_, ?_⟩
  · simp only [execOp, ho, hf.ev hx, Sem.run_bind, hr, Result.andThen_ok, Sem.run_pure, nx, List.length_replicate]
  · refine SS.fresh (w' := w.alloc (.cells (madeCells ze.cells (k.toNat * fe.size)) e)) (o := .cells (madeCells ze.cells (k.toNat * fe.size)) e) hs.lt rfl rfl rfl rfl (Ch.arr ty e (some ⟨w.heap.size, 0, none⟩) k.toNat (List.replicate k.toNat x0)) rfl ?_
    refine ⟨_, ?_, els_rep (hfree _ _) k.toNat⟩
    rw [← hm, List.length_replicate]
    refine World.ownsRow_lit w _ k.toNat (base := 0) (size := ty.sz) (e := e) (Nat.zero_le _) (by simp only [maxLen]; omega) ?_
    rw [size_madeCells, hfs, hs1]
/-- copy -/
def cpy (xs ys : List α) : List α := ys.take xs.length ++ xs.drop ys.length
theorem cpy_length (xs ys : List α) : (cpy xs ys).length = xs.length := by
  unfold cpy
  simp
  omega
/-- cells into an owned array -/
theorem arr_put {T : Nat} {b : Nat} {A : Blks} {w : World} {J : List Im} {lo : Nat} {zs : List α} {es : List Value} (hs : St A [Ch.arr ty T (some ⟨b, 0, none⟩) c xs] J w) (hz : Els ty A w zs es) (hle : lo + zs.length ≤ xs.length) :
    ∃ w', (storeCells ⟨b, lo * ty.sz, none⟩ es 0).run G.P w = .ok () w' ∧ SS ⟨w, A, Own [Ch.arr ty T (some ⟨b, 0, none⟩) c xs]⟩ A [Ch.arr ty T (some ⟨b, 0, none⟩) c (xs.take lo ++ zs ++ xs.drop (lo + zs.length))] [] w' := by
  have hok := hs.ch _ (List.mem_singleton.2 rfl)
  rcases arr_some hok with ⟨e, _, _⟩ | ⟨g, cur, cs, e0, hb, h4, h5, h6, h7, h8⟩
  · cases e
  · injection e0 with e0
    injection e0 with e0 e1
    subst e0
    have hzl := hz.len
    have hlen := h8.len
    have hmul : (lo + zs.length) * ty.sz ≤ xs.length * ty.sz := Nat.mul_le_mul_right _ hle
    have hmul2 : xs.length * ty.sz ≤ c * ty.sz := Nat.mul_le_mul_right _ h4
    rw [Nat.add_mul] at hmul
    have hst := run_storeCells_at G.P b (lo * ty.sz) T es 0 cur w hb (by rw [h6, hzl]; omega) hz.one
    rw [Nat.add_zero] at hst
    have hcl : cur.toList.length = c * ty.sz := by rw [Array.length_toList, h6]
    generalize hnc : (cur.toList.take (lo * ty.sz) ++ es ++ cur.toList.drop (lo * ty.sz + es.length)) = nc at hst
    have hncl : nc.length = cur.size := by rw [← hnc]; simp; omega
    have hgr : w.grownBy (w.setRow b nc.toArray) (some b) := ⟨rfl, rfl, rfl, by rw [setRow_size]; exact Nat.le_refl _, fun k _ hk => setRow_other _ _ _ _ (fun e => hk (by rw [e]))⟩
    refine ⟨_, hst, SS.grown hs hgr (fun b' hb2 => ⟨.inl hb2, ?_⟩) ?_⟩
    · rw [setRow_size]
      injection hb2 with hb2
      subst hb2
      exact (Array.getElem?_eq_some_iff.1 hb).1
    · have hA : ∀ b', A b' → (w.setRow b nc.toArray).heap[b']? = w.heap[b']? := fun b' hA => setRow_other _ _ _ _ (fun e => (hs.own _ (List.mem_singleton.2 rfl) b' (by subst e; rfl)).2 hA)
      have hnew : (xs.take lo ++ zs ++ xs.drop (lo + zs.length)).length = xs.length := by simp; omega
      have hels := (((h8.take lo).app hz).app (h8.drop (lo + zs.length))).st (fun _ h => h) hA
      refine ⟨_, ⟨hels.len, .inr ⟨b, c, nc.toArray, by rw [hnew], Nat.zero_le _, setRow_heap w b _ _ T (0, 0) hb, by rw [hnew]; exact h4, h5, by simpa [hncl] using h6, ?_⟩⟩, hels⟩
      rw [hnew, ← hnc, splice_take _ _ _ _ (by rw [hzl]; omega) (by rw [hcl]; exact hmul2), h7]
      simp only [Nat.add_mul, hzl]
theorem Ac.cp {t t2 T : Nat} {x y : Operand} {ti te : TI} (ho : o.op = .call { callee := .builtin .copy, args := #[x, y], argTypes := #[t, t2] }) (hx : ev m x = some (.slice a0 xs.length c)) (hy : ev m y = some (.slice a1 ys.length c1)) (ht : tlook G.τ t = some ti) (hk : ti.k = .slice T) (he : tlook G.τ T = some te) (hsz : te.size = ty.sz) :
    Ac G n m o [Ch.arr ty T a0 c xs] [Im.sl ty a1 c1 ys] (fun _ : Unit => .int .i64 ((Nat.min ys.length xs.length : Nat) : Int)) (fun _ => [Ch.arr ty T a0 c (cpy xs ys)]) (fun _ => []) := by
  refine Ac.run (v := fun _ => some (.int .i64 ((Nat.min ys.length xs.length : Nat) : Int))) fun A a w hf hs => ?_
  obtain ⟨dd, f, z0, hdd, hfi, hkk, _⟩ := G.ok.info ht
  rw [hk] at hkk
  cases hkk
  have hok := hs.ch _ (List.mem_singleton.2 rfl)
  have hym := hs.im _ (List.mem_singleton.2 rfl)
  have e1 : (execOp a.eval o).run G.P w = ((Builtin.copy_ #[t, t2] o.type #[.slice a0 xs.length c, .slice a1 ys.length c1]).run G.P w).andThen fun v w => .ok (.value v) w := by
    simp only [execOp, ho, resolve, invoke, builtin, Sem.run_bind, Sem.run_pure, Result.andThen_ok, List.map_toArray, List.map_cons, List.map_nil, hf.ev hx, hf.ev hy]
  rw [e1]
  have hstay : Nat.min ys.length xs.length = 0 → cpy xs ys = xs := fun h => by
    unfold cpy
    rcases Nat.min_eq_zero_iff.1 h with h | h
    · rw [List.eq_nil_of_length_eq_zero h]; simp
    · rw [List.eq_nil_of_length_eq_zero h]; simp
  have hsame : SS ⟨w, A, Own [Ch.arr ty T a0 c xs]⟩ A [Ch.arr ty T a0 c xs] [] w := SS.grown hs ⟨rfl, rfl, rfl, Nat.le_refl _, fun _ _ _ => rfl⟩ (fun b hb => ⟨.inl hb, (hs.own _ (List.mem_singleton.2 rfl) b hb).1⟩) hok
  have core : ∀ es : List Value, Els ty A w (ys.take xs.length) es → (Builtin.firstCells ty.sz (Nat.min ys.length xs.length) (.slice a1 ys.length c1)).run G.P w = .ok es.toArray w → ∃ w', (Builtin.copy_ #[t, t2] o.type #[.slice a0 xs.length c, .slice a1 ys.length c1]).run G.P w = .ok (.int .i64 ((Nat.min ys.length xs.length : Nat) : Int)) w' ∧ SS ⟨w, A, Own [Ch.arr ty T a0 c xs]⟩ A [Ch.arr ty T a0 c (cpy xs ys)] [] w' := by
    intro es hes hfc
    have hrun : (Builtin.copy_ #[t, t2] o.type #[.slice a0 xs.length c, .slice a1 ys.length c1]).run G.P w = (((match a0 with | some a => storeCells a es | none => pure ()) : Sem Unit).run G.P w).andThen fun _ w => .ok (.int .i64 ((Nat.min ys.length xs.length : Nat) : Int)) w := by
      simp only [Builtin.copy_, List.getElem?_toArray, List.getElem?_cons_zero, List.getElem?_cons_succ, Sem.run_bind, run_underlying hdd, Result.andThen_ok, Builtin.lenOf, Sem.run_pure, run_sizeOf G.ok he, hsz, hfc, goInt]
      cases a0 <;> simp [Sem.run_bind, Sem.run_pure]
    rw [hrun]
    rcases arr_some hok with ⟨rfl, rfl, rfl⟩ | ⟨g, cur, cs, rfl, _, _, _, _, _, _⟩
    · refine ⟨w, by simp [Sem.run_pure], ?_⟩
      rw [hstay (by simp)]
      exact hsame
    · obtain ⟨w', h1, h2⟩ := arr_put (G := G) (lo := 0) hs hes (by simp; omega)
      refine ⟨w', ?_, ?_⟩
      · rw [Nat.zero_mul] at h1
        simp only [h1, Result.andThen_ok]
      · have e : xs.take 0 ++ ys.take xs.length ++ xs.drop (0 + (ys.take xs.length).length) = cpy xs ys := by
          unfold cpy
          rw [List.take_zero, List.nil_append, Nat.zero_add, List.length_take]
          congr 1
          rcases Nat.le_total xs.length ys.length with h | h
          · rw [Nat.min_eq_left h, List.drop_of_length_le (Nat.le_refl _), List.drop_of_length_le h]
          · rw [Nat.min_eq_right h]
        rw [← e]
        exact h2
  have hfin : ∃ w', (Builtin.copy_ #[t, t2] o.type #[.slice a0 xs.length c, .slice a1 ys.length c1]).run G.P w = .ok (.int .i64 ((Nat.min ys.length xs.length : Nat) : Int)) w' ∧ SS ⟨w, A, Own [Ch.arr ty T a0 c xs]⟩ A [Ch.arr ty T a0 c (cpy xs ys)] [] w' := by
    rcases hym.2 with rfl | ⟨b, o', es, rfl, hb, hes, hc⟩
    · refine core [] (by simp; exact .nil) ?_
      cases a1 with
      | none => simp [Builtin.firstCells, Sem.run_pure]
      | some ad =>
        have := run_loadCells_list (P := G.P) w ad [] (fun j v h => by simp at h)
        simpa [Builtin.firstCells] using this
    · refine core (es.take (xs.length * ty.sz)) (hes.take xs.length) ?_
      have hl : (es.take (xs.length * ty.sz)).length = Nat.min ys.length xs.length * ty.sz := by
        rw [(hes.take xs.length).len, List.length_take]
        rw [Nat.min_comm]
      have := run_loadCells_list (P := G.P) w ⟨b, o', none⟩ (es.take (xs.length * ty.sz)) (fun j v h => by
        rw [add_lit]
        refine hc j v ?_
        rw [List.getElem?_take] at h
        split at h
        · exact h
        · cases h)
      rw [hl] at this
      exact this
  obtain ⟨w', h1, h2⟩ := hfin
  exact ⟨(), w', A, by rw [h1]; rfl, h2⟩
/-- a cut's value, of what is owned -/
theorem L.cap (i : Nat) {os : Array Oper} {l : List Oper} {T : Nat} (hS : S[i]? = some (Ch.arr ty T a0 c xs)) (h : xs.length ≤ c → L G n K os Q l m S I) : L G n K os Q l m S I := fun A a w hf hs => h (arr_reads (hs.st.ch _ (List.mem_of_getElem? hS))).1 A a w hf hs
theorem D.cap (i : Nat) {T : Nat} (hS : (C ++ V)[i]? = some (Ch.arr ty T a0 c xs)) (h : xs.length ≤ c → D G n K Q ops late l C m V I) : D G n K Q ops late l C m V I := fun A a w fuel hfu hf hs => h (arr_reads (hs.st.ch _ (List.mem_of_getElem? hS))).1 A a w fuel hfu hf hs
theorem Yl.sv {t e : Nat} {x : Operand} {lo hi : Option Operand} {lv hv : Int} {ti te : TI} {u : Unit} (hle : xs.length ≤ c) (hk0 : chk (cutok lv hv xs.length) = some u) (ho : o.op = .slice t x lo hi none) (hx : ev m x = some (.slice a0 xs.length c)) (hlo : evb m lo 0 = some lv) (hhi : evb m hi xs.length = some hv) (ht : tlook G.τ t = some ti) (hk : ti.k = .slice e) (he : tlook G.τ e = some te) (hsz : te.size = ty.sz) :
    Yl G n m S I o (.slice (cuta a0 c lv ty.sz) (cut xs lv hv).length (c - lv.toNat)) := fun A a w hf hS' _ => by
  obtain ⟨h0, h1, h2⟩ := chk_some hk0
  have hr := run_slice (P := G.P) (w := w) G.ok hf ht hk he hlo hhi h0 h1 (by omega : hv ≤ (c : Int)) a0
  rw [cut_length ⟨h0, h1, h2⟩, cuta, ← hsz]
  simp only [execOp, ho, hf.ev hx, Option.map_none, Sem.run_bind, hr, Result.andThen_ok, Sem.run_pure]
/-- of itself: the first ones behind themselves -/
def cpys (xs : List α) (lo : Nat) : List α := xs.take lo ++ (xs.take lo).take (xs.length - lo) ++ xs.drop (lo + min lo (xs.length - lo))
theorem cpys_len {lv : Int} {u : Unit} (h : chk (cutok lv xs.length xs.length) = some u) : (cpys xs lv.toNat).length = xs.length := by
  obtain ⟨h0, h1, _⟩ := chk_some h
  unfold cpys
  simp
  omega
theorem Ac.cps_some {t t2 T b : Nat} {x y : Operand} {lv : Int} {dc sc : Nat} {ti te : TI} {u : Unit} (hk0 : chk (cutok lv xs.length xs.length) = some u) (ho : o.op = .call { callee := .builtin .copy, args := #[x, y], argTypes := #[t, t2] }) (hx : ev m x = some (.slice (cuta (some ⟨b, 0, none⟩) c lv ty.sz) (cut xs lv xs.length).length dc)) (hy : ev m y = some (.slice (cuta (some ⟨b, 0, none⟩) c 0 ty.sz) (cut xs 0 lv).length sc)) (ht : tlook G.τ t = some ti) (hk : ti.k = .slice T) (he : tlook G.τ T = some te) (hsz : te.size = ty.sz) :
    Ac G n m o [Ch.arr ty T (some ⟨b, 0, none⟩) c xs] [] (fun _ : Unit => .int .i64 ((Nat.min lv.toNat (xs.length - lv.toNat) : Nat) : Int)) (fun _ => [Ch.arr ty T (some ⟨b, 0, none⟩) c (cpys xs lv.toNat)]) (fun _ => []) := by
  obtain ⟨h0, h1, _⟩ := chk_some hk0
  refine Ac.run (v := fun _ => some (.int .i64 ((Nat.min lv.toNat (xs.length - lv.toNat) : Nat) : Int))) fun A a w hf hs => ?_
  obtain ⟨dd, f, z0, hdd, hfi, hkk, _⟩ := G.ok.info ht
  rw [hk] at hkk
  cases hkk
  have hok := hs.ch _ (List.mem_singleton.2 rfl)
  have hl1 : (cut xs lv xs.length).length = xs.length - lv.toNat := by rw [cut_length ⟨h0, h1, Int.le_refl _⟩, Int.toNat_natCast]
  have hl2 : (cut xs 0 lv).length = lv.toNat := by rw [cut_length ⟨Int.le_refl _, h0, h1⟩]; simp
  have ha2 : cuta (some ⟨b, 0, none⟩) c 0 ty.sz = some ⟨b, 0, none⟩ := by
    unfold cuta
    simp [Addr.add]
  rw [hl1] at hx
  rw [hl2, ha2] at hy
  obtain ⟨hle, h2⟩ := arr_reads hok
  have e1 : (execOp a.eval o).run G.P w = ((Builtin.copy_ #[t, t2] o.type #[.slice (cuta (some ⟨b, 0, none⟩) c lv ty.sz) (xs.length - lv.toNat) dc, .slice (some ⟨b, 0, none⟩) lv.toNat sc]).run G.P w).andThen fun v w => .ok (.value v) w := by
    simp only [execOp, ho, resolve, invoke, builtin, Sem.run_bind, Sem.run_pure, Result.andThen_ok, List.map_toArray, List.map_cons, List.map_nil, hf.ev hx, hf.ev hy]
  rw [e1]
  generalize hk' : lv.toNat = k at *
  have hkl : k ≤ xs.length := by omega
  have hread : ∃ es, Els ty A w ((xs.take k).take (xs.length - k)) es ∧ (Builtin.firstCells ty.sz (Nat.min k (xs.length - k)) (.slice (some ⟨b, 0, none⟩) k sc)).run G.P w = .ok es.toArray w := by
    rcases h2 with rfl | ⟨b1, cs, e2, hels, hc⟩
    · refine ⟨[], by simp; exact .nil, ?_⟩
      have := run_loadCells_list (P := G.P) w ⟨b, 0, none⟩ [] (fun j v h => by simp at h)
      simpa [Builtin.firstCells] using this
    · injection e2 with e2
      injection e2 with e2 _
      subst e2
      refine ⟨(cs.take (k * ty.sz)).take ((xs.length - k) * ty.sz), (hels.take k).take _, ?_⟩
      have hl : ((cs.take (k * ty.sz)).take ((xs.length - k) * ty.sz)).length = Nat.min k (xs.length - k) * ty.sz := by
        rw [((hels.take k).take _).len, List.length_take, List.length_take, Nat.min_eq_left hkl, Nat.min_comm]
      have := run_loadCells_list (P := G.P) w ⟨b, 0, none⟩ ((cs.take (k * ty.sz)).take ((xs.length - k) * ty.sz)) (fun j v h => by
        rw [add_lit, Nat.zero_add]
        refine hc j v ?_
        rw [List.getElem?_take, List.getElem?_take] at h
        split at h
        · split at h
          · exact h
          · cases h
        · cases h)
      rw [hl] at this
      exact this
  obtain ⟨es, hes, hfc⟩ := hread
  have hlen2 : ((xs.take k).take (xs.length - k)).length = min k (xs.length - k) := by
    rw [List.length_take, List.length_take, Nat.min_eq_left hkl, Nat.min_comm]
  obtain ⟨w', h3, h4⟩ := arr_put (G := G) (lo := k) hs hes (by rw [hlen2]; omega)
  rw [hlen2] at h4
  refine ⟨(), w', A, ?_, h4⟩
  have hst : ((match cuta (some ⟨b, 0, none⟩) c lv ty.sz with | some a => storeCells a es | none => pure ()) : Sem Unit).run G.P w = .ok () w' := by
    unfold cuta
    by_cases hcl : c = lv.toNat
    · rw [if_pos hcl]
      have hz : xs.length - k = 0 := by omega
      have hes0 : es = [] := by
        apply List.eq_nil_of_length_eq_zero
        rw [hes.len, hlen2, hz]
        simp
      subst hes0
      simp only [storeCells, Sem.run_pure, Result.ok.injEq, true_and] at h3 ⊢
      exact h3
    · rw [if_neg hcl]
      simp only [Option.map_some, add_lit, Nat.zero_add, hk']
      exact h3
  have hrun : (Builtin.copy_ #[t, t2] o.type #[.slice (cuta (some ⟨b, 0, none⟩) c lv ty.sz) (xs.length - k) dc, .slice (some ⟨b, 0, none⟩) k sc]).run G.P w = (((match cuta (some ⟨b, 0, none⟩) c lv ty.sz with | some a => storeCells a es | none => pure ()) : Sem Unit).run G.P w).andThen fun _ w => .ok (.int .i64 ((Nat.min k (xs.length - k) : Nat) : Int)) w := by
    generalize cuta (some ⟨b, 0, none⟩) c lv ty.sz = a9
    simp only [Builtin.copy_, List.getElem?_toArray, List.getElem?_cons_zero, List.getElem?_cons_succ, Sem.run_bind, run_underlying hdd, Result.andThen_ok, Builtin.lenOf, Sem.run_pure, run_sizeOf G.ok he, hsz, hfc, goInt]
    cases a9 <;> simp [Sem.run_bind, Sem.run_pure]
  rw [hrun, hst]
  rfl
theorem Ac.cps {t t2 T : Nat} {x y : Operand} {lv : Int} {dc sc : Nat} {ti te : TI} {u : Unit} (hk0 : chk (cutok lv xs.length xs.length) = some u) (ho : o.op = .call { callee := .builtin .copy, args := #[x, y], argTypes := #[t, t2] }) (hx : ev m x = some (.slice (cuta a0 c lv ty.sz) (cut xs lv xs.length).length dc)) (hy : ev m y = some (.slice (cuta a0 c 0 ty.sz) (cut xs 0 lv).length sc)) (ht : tlook G.τ t = some ti) (hk : ti.k = .slice T) (he : tlook G.τ T = some te) (hsz : te.size = ty.sz) :
    Ac G n m o [Ch.arr ty T a0 c xs] [] (fun _ : Unit => .int .i64 ((Nat.min lv.toNat (xs.length - lv.toNat) : Nat) : Int)) (fun _ => [Ch.arr ty T a0 c (cpys xs lv.toNat)]) (fun _ => []) := by
  intro A a w Kc Q hf hs hkc
  have hok := hs.ch _ (List.mem_singleton.2 rfl)
  rcases arr_some hok with ⟨rfl, rfl, rfl⟩ | ⟨g, cur, cs, rfl, _⟩
  · obtain ⟨h0, h1, _⟩ := chk_some hk0
    have hl0 : lv = 0 := by simp at h1; omega
    subst hl0
    obtain ⟨dd, f, z0, hdd, hfi, hkk, _⟩ := G.ok.info ht
    rw [hk] at hkk
    cases hkk
    have hsame : SS ⟨w, A, Own [Ch.arr ty T none 0 ([] : List α)]⟩ A [Ch.arr ty T none 0 (cpys ([] : List α) (0 : Int).toNat)] [] w := SS.grown hs ⟨rfl, rfl, rfl, Nat.le_refl _, fun _ _ _ => rfl⟩ (fun b hb => by cases hb) hok
    have hr : (execOp a.eval o).run G.P w = .ok (.value (.int .i64 0)) w := by
      have e0 : cuta none 0 0 ty.sz = none := rfl
      simp only [e0, cut, List.take_nil, List.drop_nil, List.length_nil] at hx hy
      simp [execOp, ho, resolve, invoke, builtin, hf.ev hx, hf.ev hy, Builtin.copy_, run_underlying hdd, Builtin.lenOf, run_sizeOf G.ok he, Builtin.firstCells, goInt]
    unfold Oper.wp
    rw [hr]
    rw [Oper.upon_value]
    have := hkc () w A hsame
    simpa using this
  · exact Ac.cps_some hk0 ho hx hy ht hk he hsz A a w Kc Q hf hs hkc
/-- a cut of nil -/
theorem Yl.snil {t e : Nat} {x y : Operand} {kk : IntKind} {hv : Int} {ti te : TI} (hz : hv = 0) (ho : o.op = .slice t x none (some y) none) (hx : ev m x = some (.slice none 0 0)) (hy : ev m y = some (.int kk hv)) (ht : tlook G.τ t = some ti) (hk : ti.k = .slice e) (he : tlook G.τ e = some te) : Yl G n m S I o (.slice none 0 0) := fun A a w hf _ _ => by
  subst hz
  have hr := run_slice (P := G.P) (w := w) (lo := none) (hi := some y) (lv := 0) (hv := 0) (len := 0) (cap := 0) G.ok hf ht hk he rfl (by simp [evb, hy]) (Int.le_refl 0) (Int.le_refl 0) (Int.le_refl 0) none
  simp only [execOp, ho, hf.ev hx, Option.map_none, Sem.run_bind] at hr ⊢
  rw [hr]
  rfl
def gzok (k : Int) (bytes : Nat) : Bool := decide (0 < k ∧ k * bytes ≤ big ∧ k ≤ big)
/-- append(nil, make(.., k)...) -/
theorem Ac.gz (x0 : α) (h0 : ty.Hid) {t tn e : Nat} {x y : Operand} {kk kn : IntKind} {k : Int} {ti tin te : TI} {u : Unit} (hk0 : chk (gzok k te.bytes) = some u) (hfree : ∀ A w, ∀ f ∈ ty.im x0 h0, f.ok A w) (hz0 : te.zero = ty.cs x0 h0) (ho : o.op = .call { callee := .builtin .append, args := #[x, y], argTypes := #[t, tn] }) (hx : ev m x = some (.slice none 0 0)) (hy : ev m y = some (.int kk k)) (ht : tlook G.τ t = some ti) (hk : ti.k = .slice e) (htn : tlook G.τ tn = some tin) (hkn : tin.k = .int kn) (he : tlook G.τ e = some te) (hsz : (Nat.beq te.size ty.sz && Nat.blt 0 ty.sz) = true) :
    Ac G n m o [] [] (fun z : Option Addr × Nat => .slice z.1 (List.replicate k.toNat x0).length z.2) (fun z => [Ch.arr ty e z.1 z.2 (List.replicate k.toNat x0)]) (fun _ => []) := by
  simp only [Bool.and_eq_true] at hsz
  obtain ⟨hs1, hs2⟩ := hsz
  have hs1 := Nat.eq_of_beq_eq_true hs1
  have hs2 := blt_lt hs2
  have hk1 : 0 < k ∧ k * te.bytes ≤ big ∧ k ≤ big := chk_some hk0
  have ebig : ((big : Nat) : Int) = 140737488355328 := rfl
  obtain ⟨j, rfl⟩ : ∃ j : Nat, k = j := ⟨k.toNat, by omega⟩
  refine Ac.run (v := fun z : Option Addr × Nat => some (.slice z.1 (List.replicate (j : Int).toNat x0).length z.2)) fun A a w hf hs => ?_
  obtain ⟨dd, f, z0, hdd, hfi, hkk, _⟩ := G.ok.info ht
  rw [hk] at hkk
  cases hkk
  obtain ⟨dn, fn, zn, hdn, hfn, hkn', _⟩ := G.ok.info htn
  rw [hkn] at hkn'
  cases hkn'
  obtain ⟨de, fe, ze, hde, hfe, _, hfs, hfb, hfz, hzc, _⟩ := G.ok.info he
  have hj : 0 < j := by omega
  have hjb : j * fe.bytes ≤ 281474976710656 := by
    rw [hfb]
    have := hk1.2.1
    rw [← Int.natCast_mul] at this
    omega
  have hr := Go.Lib.run_append_nil_zeros (P := G.P) w t tn o.type e fe ze kk kn hdd hdn hfe hfz j hj (by rw [hfs, hs1]; exact hs2) (by omega) hjb
  have hzl : ze.cells.size = ty.sz := by rw [← Array.length_toList, hzc, hz0, ty.len]
  have hzz : ∀ i, (Builtin.zeroCells ze.cells i).toList = (List.replicate i (ty.cs x0 h0)).flatten := fun i => by
    rw [← hz0, ← hzc]
    exact made_eq _ (by rw [hzl]; exact hs2) i
  have hge := grownCap_ge w j 0 e
  have hle := grownCap_le_maxLen w j 0 e (by simp only [maxLen]; omega)
  have hlen : ∀ i, ((List.replicate i (ty.cs x0 h0)).flatten).length = i * ty.sz := fun i => by
    induction i with
    | zero => simp
    | succ i ih => rw [List.replicate_succ, List.flatten_cons, List.length_append, ih, ty.len, Nat.succ_mul, Nat.add_comm]
  refine ⟨(some ⟨w.heap.size, 0, none⟩, grownCap w j 0 e), w.drew.alloc (.cells (Builtin.zeroCells ze.cells j ++ Builtin.zeroCells ze.cells (grownCap w j 0 e - j)) e), A, ?_, ?_⟩
  · simp only [execOp, ho, resolve, invoke, builtin, Sem.run_bind, Sem.run_pure, Result.andThen_ok, List.map_toArray, List.map_cons, List.map_nil, hf.ev hx, hf.ev hy, hr, nx, Int.toNat_natCast, List.length_replicate]
  · refine SS.fresh (w' := w.drew.alloc (.cells (Builtin.zeroCells ze.cells j ++ Builtin.zeroCells ze.cells (grownCap w j 0 e - j)) e)) (o := .cells (Builtin.zeroCells ze.cells j ++ Builtin.zeroCells ze.cells (grownCap w j 0 e - j)) e) hs.lt rfl rfl rfl rfl (Ch.arr ty e (some ⟨w.heap.size, 0, none⟩) (grownCap w j 0 e) (List.replicate (j : Int).toNat x0)) rfl ?_
    refine ⟨(Builtin.zeroCells ze.cells j ++ Builtin.zeroCells ze.cells (grownCap w j 0 e - j)).toList.take ((List.replicate (j : Int).toNat x0).length * ty.sz), ⟨?_, .inr ⟨w.heap.size, grownCap w j 0 e, Builtin.zeroCells ze.cells j ++ Builtin.zeroCells ze.cells (grownCap w j 0 e - j), by rw [List.length_replicate, Int.toNat_natCast], Nat.zero_le _, ?_, ?_, hle, ?_, rfl⟩⟩, ?_⟩
    · simp only [List.length_replicate, Int.toNat_natCast, List.length_take, Array.toList_append, List.length_append, hzz, hlen]
      rw [Nat.min_eq_left (Nat.le_add_right _ _)]
    · exact heap_alloc_new w.drew _
    · rw [List.length_replicate, Int.toNat_natCast]
      exact hge
    · rw [← Array.length_toList, Array.toList_append, List.length_append, hzz, hzz, hlen, hlen, ← Nat.add_mul]
      congr 1
      omega
    · rw [List.length_replicate, Int.toNat_natCast, Array.toList_append, hzz, List.take_append_of_le_length (by rw [hlen]; exact Nat.le_refl _), List.take_of_length_le (by rw [hlen]; exact Nat.le_refl _)]
      exact els_rep (hfree _ _) j
end
end Go.Tw

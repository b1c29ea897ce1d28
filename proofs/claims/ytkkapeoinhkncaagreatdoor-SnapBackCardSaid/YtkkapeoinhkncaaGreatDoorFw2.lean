import Derived.Test.YtkkapeoinhkncaaGreatDoorFw1
import Derived.Laws.BytesString
import Derived.Laws.Concat
import Derived.Lib.AppendStr
import Derived.Deep.Slices
import Derived.OpenShut
import Derived.Carry
import Derived.ChangeVars
import Derived.WideShapes
import Derived.Below
set_option linter.unusedVariables false
set_option linter.unusedSimpArgs false
namespace Go.Tw
open Go
/-! ### views of what is owned -/
section
variable {G : Pg} {n : Nd} {K : Key} {Q : Exit → Act → World → Prop} {m : Env} {S : List Ch} {I : List Im} {ops : Array Oper} {o : Oper} {l : List Oper} {α : Type} {ty : Ty α} {xs ys : List α} {a0 a1 : Option Addr} {c c1 : Nat}
/-- may be read -/
def Rd {α : Type} (d : Ty α) (a0 : Option Addr) (c : Nat) (xs : List α) (A : Blks) (w : World) : Prop := xs.length ≤ c ∧ (xs = [] ∨ ∃ b o cs, a0 = some ⟨b, o, none⟩ ∧ Els d A w xs cs ∧ ∀ j u, cs[j]? = some u → w.cell? ⟨b, o + j, none⟩ = some u)
/-- it views [lo, hi) of the array (a0, c) that holds xs -/
structure Vw {α : Type} (ty : Ty α) (xs : List α) (a0 : Option Addr) (c : Nat) (A : Option Addr) (C : Nat) (lo hi : Int) : Prop where
  lo0 : 0 ≤ lo
  le : lo ≤ hi
  hi : hi ≤ xs.length
  cap : xs.length ≤ c
  C : C = c - lo.toNat
  A : lo.toNat < c → A = a0.map (·.add (lo.toNat * ty.sz))
theorem rd_view {T : Nat} {A : Blks} {w : World} {lv hv : Int} {a9 : Option Addr} {c9 : Nat} (hk0 : Vw ty xs a0 c a9 c9 lv hv) (h : (Ch.arr ty T a0 c xs).ok A w) : Rd ty a9 c9 (cut xs lv hv) A w := by
  obtain ⟨h0, h1, h2, hcap, hC, hA⟩ := hk0
  obtain ⟨h5, h6⟩ := arr_reads h
  refine ⟨by rw [cut_length ⟨h0, h1, h2⟩]; omega, ?_⟩
  rcases h6 with rfl | ⟨b, cs, rfl, hels, hc⟩
  · exact .inl (by simp [cut])
  · by_cases hcl : lv.toNat < c
    · refine .inr ⟨b, 0 + lv.toNat * ty.sz, _, by rw [hA hcl]; simp [add_lit], (hels.take hv.toNat).drop lv.toNat, fun j u hu => ?_⟩
      rw [Nat.zero_add]
      apply hc
      rw [List.getElem?_drop, List.getElem?_take] at hu
      split at hu
      · exact hu
      · cases hu
    · left
      apply List.eq_nil_of_length_eq_zero
      rw [cut_length ⟨h0, h1, h2⟩]
      omega
theorem Ac.apR {Sx : List Ch} {t T : Nat} {x y : Operand} {ti te : TI} {u : Unit} (hR : ∀ A w, (∀ d ∈ Sx, d.ok A w) → Rd ty a1 c1 ys A w) (hlim : chk (apok xs.length ys.length te.bytes) = some u) (ho : o.op = .call { callee := .builtin .append, args := #[x, y], argTypes := #[t, t] }) (hx : ev m x = some (.slice a0 xs.length c)) (hy : ev m y = some (.slice a1 ys.length c1)) (ht : tlook G.τ t = some ti) (hk : ti.k = .slice T) (he : tlook G.τ T = some te) (hsz : (Nat.beq te.size ty.sz && Nat.beq te.zero.length ty.sz && Nat.blt 0 ty.sz && Nat.blt 0 te.bytes) = true) :
    Ac G n m o (Ch.arr ty T a0 c xs :: Sx) [] (fun z : Option Addr × Nat => .slice z.1 (xs ++ ys).length z.2) (fun z => Ch.arr ty T z.1 z.2 (xs ++ ys) :: Sx) (fun _ => []) := by
  have hlim : (xs.length + ys.length) * te.bytes ≤ 140737488355328 := chk_some hlim
  simp only [Bool.and_eq_true] at hsz
  obtain ⟨⟨⟨hs1, hs2⟩, hpos⟩, hby⟩ := hsz
  have hs1 := Nat.eq_of_beq_eq_true hs1
  have hs2 := Nat.eq_of_beq_eq_true hs2
  have hpos' : 0 < ty.sz := blt_lt hpos
  have hby' : 0 < te.bytes := blt_lt hby
  refine Ac.run (v := fun z : Option Addr × Nat => some (.slice z.1 (xs ++ ys).length z.2)) fun A a w hf hs00 => ?_
  have hs : St A [Ch.arr ty T a0 c xs] [] w := St.left (R := Sx) (S := [_]) (I := []) hs00 (fun i hi => hi)
  have hfrm : ∀ (x : Option Addr × Nat) (w' : World) (A' : Blks), SS ⟨w, A, Own [Ch.arr ty T a0 c xs]⟩ A' [Ch.arr ty T x.1 x.2 (xs ++ ys)] [] w' → SS ⟨w, A, Own (Ch.arr ty T a0 c xs :: Sx)⟩ A' (Ch.arr ty T x.1 x.2 (xs ++ ys) :: Sx) [] w' := fun x w' A' h => SS.frame (S := [_]) (S' := [_]) (R := Sx) (I := []) (I' := []) (SS.start hs00) h
  obtain ⟨dd, f, z0, hdd, hfi, hkk, _⟩ := G.ok.info ht
  rw [hk] at hkk
  cases hkk
  obtain ⟨de, fe, ze, hde, hfe, _, hfs, hfb, hfz, hzc, _⟩ := G.ok.info he
  have hok := hs.ch _ (List.mem_singleton.2 rfl)
  obtain ⟨cs, hown, hels⟩ := hok
  have hym := hR A w (fun d hd => hs00.ch d (List.mem_cons_of_mem _ hd))
  have h63 : xs.length + ys.length ≤ maxLen := by
    have h1 : (xs.length + ys.length) * 1 ≤ (xs.length + ys.length) * te.bytes := Nat.mul_le_mul_left _ hby'
    simp only [maxLen]
    omega
  have hzs : ze.cells.size = ty.sz := by rw [← hs2, ← hzc, Array.length_toList]
  have key : ∀ (ad : Addr) (es : List Value), a1 = some ad → Els ty A w ys es → (∀ j u, es[j]? = some u → w.cell? (ad.add j) = some u) → ∃ (x : Option Addr × Nat) (w' : World) (A' : Blks), (execOp a.eval o).run G.P w = .ok (nx (some (.slice x.1 (xs ++ ys).length x.2))) w' ∧ SS ⟨w, A, Own (Ch.arr ty T a0 c xs :: Sx)⟩ A' (Ch.arr ty T x.1 x.2 (xs ++ ys) :: Sx) [] w' := by
    rintro ad es rfl hes hcells
    obtain ⟨v', w', hr, hown', hgr, hat⟩ := run_ap (P := G.P) w t o.type T fe ze ty.sz te.bytes hdd hfe hfz (hfs.trans hs1) hfb hzs hpos' (.slice a0 xs.length c) xs.length cs hown ad ys.length c1 es hes.len hcells hes.one h63 hlim
    have hv' : ∃ a2 c2, v' = .slice a2 (xs.length + ys.length) c2 := by
      rcases hown'.2 with ⟨rfl, e⟩ | ⟨g, cap, cur, rfl, _⟩
      · exact ⟨none, 0, by rw [e]⟩
      · exact ⟨_, _, rfl⟩
    obtain ⟨a2, c2, rfl⟩ := hv'
    have hblk : (Value.slice a0 xs.length c).ownBlock = a0.map (·.block) := by cases a0 <;> rfl
    have hblk2 : (Value.slice a2 (xs.length + ys.length) c2).ownBlock = a2.map (·.block) := by cases a2 <;> rfl
    have hA : ∀ b, A b → w'.heap[b]? = w.heap[b]? := fun b hb => hgr.block b (hs.lt b hb) (fun e => (hs.own _ (List.mem_singleton.2 rfl) b (hblk.symm.trans e.symm)).2 hb)
    rw [hblk2, hblk] at hat
    rw [← List.length_append] at hown'
    refine ⟨(a2, c2), w', A, ?_, hfrm (a2, c2) _ _ <| SS.grown hs (by rw [← hblk]; exact hgr) (fun b e => e) hat ⟨_, hown', (hels.app hes).st (fun _ h => h) hA⟩⟩
    simp only [execOp, ho, resolve, invoke, builtin, Sem.run_bind, Sem.run_pure, Result.andThen_ok, List.map_toArray, List.map_cons, List.map_nil, hf.ev hx, hf.ev hy, hr, nx, List.length_append]
  rcases hym.2 with rfl | ⟨b, o', es, ha1, hes, hc⟩
  · cases a1 with
    | none =>
      refine ⟨(a0, c), w, A, ?_, hfrm (a0, c) _ _ <| SS.grown hs (ob := none) ⟨rfl, rfl, rfl, Nat.le_refl _, fun _ _ _ => rfl⟩ (fun _ e => nomatch e) (fun b hb => ⟨.inl hb, (hs.own _ (List.mem_singleton.2 rfl) b hb).1⟩) ⟨cs, by rw [List.append_nil]; exact hown, by rw [List.append_nil]; exact hels⟩⟩
      have hle : xs.length ≤ c := (arr_reads ⟨cs, hown, hels⟩).1
      simp only [execOp, ho, resolve, invoke, builtin, Sem.run_bind, Sem.run_pure, Result.andThen_ok, List.map_toArray, List.map_cons, List.map_nil, hf.ev hx, hf.ev hy, List.length_nil, run_ap_nil w t o.type T fe hdd hfe a0 xs.length c hle, nx, List.append_nil]
    | some ad => exact key ad [] rfl .nil (fun j u hu => by simp at hu)
  · exact key _ es ha1 hes (fun j u hu => by rw [add_lit]; exact hc j u hu)

/-- append of a view -/
theorem Ac.apv {t T T2 : Nat} {x y : Operand} {ti te : TI} {u : Unit} {lv hv : Int} {zs : List α} {a2 : Option Addr} {c2 : Nat} {a9 : Option Addr} {c9 : Nat} (hk0 : Vw ty zs a2 c2 a9 c9 lv hv) (hlim : chk (apok xs.length (cut zs lv hv).length te.bytes) = some u) (ho : o.op = .call { callee := .builtin .append, args := #[x, y], argTypes := #[t, t] }) (hx : ev m x = some (.slice a0 xs.length c)) (hy : ev m y = some (.slice a9 (cut zs lv hv).length c9)) (ht : tlook G.τ t = some ti) (hk : ti.k = .slice T) (he : tlook G.τ T = some te) (hsz : (Nat.beq te.size ty.sz && Nat.beq te.zero.length ty.sz && Nat.blt 0 ty.sz && Nat.blt 0 te.bytes) = true) :
    Ac G n m o [Ch.arr ty T a0 c xs, Ch.arr ty T2 a2 c2 zs] [] (fun z : Option Addr × Nat => .slice z.1 (xs ++ cut zs lv hv).length z.2) (fun z => [Ch.arr ty T z.1 z.2 (xs ++ cut zs lv hv), Ch.arr ty T2 a2 c2 zs]) (fun _ => []) :=
  Ac.apR (Sx := [Ch.arr ty T2 a2 c2 zs]) (fun A w h => rd_view (T := T2) hk0 (h _ (List.mem_singleton.2 rfl))) hlim ho hx hy ht hk he hsz
/-- is a view nil? -/
theorem L.nilv (i : Nat) {os : Array Oper} {l : List Oper} {d t e T : Nat} {x : Operand} {ti : TI} {lv hv : Int} {a9 : Option Addr} {c9 : Nat} (hk0 : Vw ty xs a0 c a9 c9 lv hv) (hS : S[i]? = some (Ch.arr ty T a0 c xs)) (hw : wg os.toList m o = some true) (hd : o.dst = some d) (hn : Nat.blt d n.n = true) {y : Operand} {t2 : Nat} (ho : o.op = .binOp .eql t x y t2) (hx : ev m x = some (.slice a9 (cut xs lv hv).length c9)) (hy : ev m y = some (.slice none 0 0)) (ht : tlook G.τ t = some ti) (hk : ti.k = .slice e)
    (h1 : cut xs lv hv = [] → L G n K os Q l ((d, .bool true) :: m) S I) (h2 : L G n K os Q l ((d, .bool false) :: m) S I) : L G n K os Q (o :: l) m S I := by
  intro A a w hf hs
  have hb := rd_view hk0 (hs.st.ch _ (List.mem_of_getElem? hS))
  obtain ⟨dd, _, _, hdd, _, hkk, _⟩ := G.ok.info ht
  rw [hk] at hkk
  cases hkk
  have hg : ∀ a1, (eqGuard .eql t x y (.slice a1 (cut xs lv hv).length c9) (.slice none 0 0)).run G.P w = .ok () w := fun a1 => by
    unfold eqGuard
    split <;> rfl
  have he : ∀ a1 k, (Op.equalIn (k + 1) t (.slice a1 (cut xs lv hv).length c9) (.slice none 0 0)).run G.P w = .ok a1.isNone w := fun a1 k => by
    cases a1 <;> simp [Op.equalIn, run_underlying hdd]
  have hr : ∀ a1, (do eqGuard .eql t x y (.slice a1 (cut xs lv hv).length c9) (.slice none 0 0); binOp .eql t (.slice a1 (cut xs lv hv).length c9) (.slice none 0 0) : Sem Value).run G.P w = .ok (.bool a1.isNone) w := fun a1 => by
    have he2 : (Op.equal t (.slice a1 (cut xs lv hv).length c9) (.slice none 0 0)).run G.P w = .ok a1.isNone w := he a1 9999
    simp only [Sem.run_bind, hg, Result.andThen_ok, binOp, he2, Sem.run_pure]
  have hr2 : (execOp a.eval o).run G.P w = .ok (.value (.bool a9.isNone)) w := by
    have := hr a9
    simp only [execOp, ho, hf.ev hx, hf.ev hy, Sem.run_bind] at this ⊢
    rw [this]
    rfl
  unfold wpListIn
  rw [if_pos (wg_ok hw hf)]
  refine ⟨fun f _ => G.fn f, ?_⟩
  rw [G.sem (nd_of hr2 (by simp)), hr2, Oper.uponIn_value, hd]
  cases a9 with
  | none =>
    refine h1 ?_ A _ w (hf.put _ (blt_lt hn)) hs
    rcases hb.2 with h | ⟨b, o', cs, e, _⟩
    · exact h
    · cases e
  | some ad => exact h2 A _ w (hf.put _ (blt_lt hn)) hs
/-- some of it over others of it -/
def cpyv (xs : List α) (dlo dhi slo shi : Int) : List α := xs.take dlo.toNat ++ (cut xs slo shi).take (dhi.toNat - dlo.toNat) ++ xs.drop (dlo.toNat + ((cut xs slo shi).take (dhi.toNat - dlo.toNat)).length)
theorem cpyv_len {dlo dhi slo shi : Int} {da : Option Addr} {dc : Nat} (h : Vw ty xs a0 c da dc dlo dhi) : (cpyv xs dlo dhi slo shi).length = xs.length := by
  obtain ⟨h0, h1, h2, _⟩ := h
  unfold cpyv
  simp
  omega
theorem Ac.cpv {t t2 T : Nat} {x y : Operand} {dlo dhi slo shi : Int} {ti te : TI} {da sa : Option Addr} {dc sc : Nat} (hkd : Vw ty xs a0 c da dc dlo dhi) (hks : Vw ty xs a0 c sa sc slo shi) (ho : o.op = .call { callee := .builtin .copy, args := #[x, y], argTypes := #[t, t2] }) (hx : ev m x = some (.slice da (cut xs dlo dhi).length dc)) (hy : ev m y = some (.slice sa (cut xs slo shi).length sc)) (ht : tlook G.τ t = some ti) (hk : ti.k = .slice T) (he : tlook G.τ T = some te) (hsz : te.size = ty.sz) :
    Ac G n m o [Ch.arr ty T a0 c xs] [] (fun _ : Unit => .int .i64 ((Nat.min (cut xs slo shi).length (cut xs dlo dhi).length : Nat) : Int)) (fun _ => [Ch.arr ty T a0 c (cpyv xs dlo dhi slo shi)]) (fun _ => []) := by
  obtain ⟨d0, d1, d2, dcap, hdC, hdA⟩ := hkd
  refine Ac.run (v := fun _ => some (.int .i64 ((Nat.min (cut xs slo shi).length (cut xs dlo dhi).length : Nat) : Int))) fun A a w hf hs => ?_
  obtain ⟨dd, f, z0, hdd, hfi, hkk, _⟩ := G.ok.info ht
  rw [hk] at hkk
  cases hkk
  have hok := hs.ch _ (List.mem_singleton.2 rfl)
  have hsrc := rd_view hks hok
  have hld : (cut xs dlo dhi).length = dhi.toNat - dlo.toNat := cut_length ⟨d0, d1, d2⟩
  generalize hzs : (cut xs slo shi).take (dhi.toNat - dlo.toNat) = zs
  have hzl : zs.length = Nat.min (cut xs slo shi).length (cut xs dlo dhi).length := by rw [← hzs, List.length_take, hld, Nat.min_comm]
  have e1 : (execOp a.eval o).run G.P w = ((Builtin.copy_ #[t, t2] o.type #[.slice da (cut xs dlo dhi).length dc, .slice sa (cut xs slo shi).length sc]).run G.P w).andThen fun v w => .ok (.value v) w := by
    simp only [execOp, ho, resolve, invoke, builtin, Sem.run_bind, Sem.run_pure, Result.andThen_ok, List.map_toArray, List.map_cons, List.map_nil, hf.ev hx, hf.ev hy]
  rw [e1]
  have hread : ∃ es, Els ty A w zs es ∧ (Builtin.firstCells ty.sz zs.length (.slice sa (cut xs slo shi).length sc)).run G.P w = .ok es.toArray w := by
    rcases hsrc.2 with h | ⟨b, o', cs, e2, hels, hc⟩
    · have hz0 : zs = [] := by rw [← hzs, h]; simp
      rw [hz0]
      refine ⟨[], .nil, ?_⟩
      cases sa with
      | none => simp [Builtin.firstCells, Sem.run_pure]
      | some ad =>
        have := run_loadCells_list (P := G.P) w ad [] (fun j v h => by simp at h)
        simpa [Builtin.firstCells] using this
    · rw [e2, ← hzs]
      refine ⟨_, hels.take (dhi.toNat - dlo.toNat), ?_⟩
      have hl : (cs.take ((dhi.toNat - dlo.toNat) * ty.sz)).length = ((cut xs slo shi).take (dhi.toNat - dlo.toNat)).length * ty.sz := (hels.take (dhi.toNat - dlo.toNat)).len
      have := run_loadCells_list (P := G.P) w ⟨b, o', none⟩ (cs.take ((dhi.toNat - dlo.toNat) * ty.sz)) (fun j v h => by
        rw [add_lit]
        refine hc j v ?_
        rw [List.getElem?_take] at h
        split at h
        · exact h
        · cases h)
      rw [hl] at this
      exact this
  obtain ⟨es, hes, hfc⟩ := hread
  have hfit : dlo.toNat + zs.length ≤ xs.length := by
    have : zs.length ≤ dhi.toNat - dlo.toNat := by rw [← hzs, List.length_take]; exact Nat.min_le_left _ _
    omega
  have hrun : (Builtin.copy_ #[t, t2] o.type #[.slice da (cut xs dlo dhi).length dc, .slice sa (cut xs slo shi).length sc]).run G.P w = (((match da with | some a => storeCells a es | none => pure ()) : Sem Unit).run G.P w).andThen fun _ w => .ok (.int .i64 ((Nat.min (cut xs slo shi).length (cut xs dlo dhi).length : Nat) : Int)) w := by
    rw [hzl] at hfc
    simp only [Builtin.copy_, List.getElem?_toArray, List.getElem?_cons_zero, List.getElem?_cons_succ, Sem.run_bind, run_underlying hdd, Result.andThen_ok, Builtin.lenOf, Sem.run_pure, run_sizeOf G.ok he, hsz, hfc, goInt]
    cases da <;> simp [Sem.run_bind, Sem.run_pure]
  rw [hrun]
  have hcp : cpyv xs dlo dhi slo shi = xs.take dlo.toNat ++ zs ++ xs.drop (dlo.toNat + zs.length) := by unfold cpyv; rw [hzs]
  rcases arr_some hok with ⟨rfl, rfl, rfl⟩ | ⟨g, cur, cs, rfl, _⟩
  · have ez : zs = [] := by rw [← hzs]; simp [cut]
    subst ez
    have ee : es = [] := by cases hes; rfl
    subst ee
    rw [hcp]
    refine ⟨(), w, A, by cases da <;> simp [Sem.run_pure, nx, storeCells], ?_⟩
    simp only [List.take_nil, List.drop_nil, List.append_nil]
    exact SS.grown hs (ob := none) ⟨rfl, rfl, rfl, Nat.le_refl _, fun _ _ _ => rfl⟩ (fun _ e => nomatch e) (fun b hb => by cases hb) hok
  · obtain ⟨w', h3, h4⟩ := arr_put (G := G) (lo := dlo.toNat) hs hes hfit
    rw [← hcp] at h4
    refine ⟨(), w', A, ?_, h4⟩
    have hst : ((match da with | some a => storeCells a es | none => pure ()) : Sem Unit).run G.P w = .ok () w' := by
      by_cases hcl : dlo.toNat < c
      · rw [hdA hcl]
        simp only [Option.map_some, add_lit, Nat.zero_add]
        exact h3
      · have hz0 : zs = [] := List.eq_nil_of_length_eq_zero (by omega)
        subst hz0
        have ee : es = [] := by cases hes; rfl
        subst ee
        simp only [storeCells, Sem.run_pure, Result.ok.injEq, true_and] at h3
        cases da <;> simp [storeCells, Sem.run_pure, h3]
    rw [hst]
    rfl
/-- an element's address, within a view -/
theorem cut_get {lv hv i : Int} {x0 : α} (hi : idx (cut xs lv hv) i = some x0) : xs[lv.toNat + i.toNat]? = some x0 := by
  obtain ⟨_, h⟩ := idx_some hi
  unfold cut at h
  rw [List.getElem?_drop, List.getElem?_take] at h
  split at h
  · exact h
  · cases h
theorem Yl.iv (p : Nat) {t e b T : Nat} {x ix : Operand} {k : IntKind} {i lv hv : Int} {x0 : α} {ti te : TI} {a9 : Option Addr} {c9 : Nat} (hv0 : Vw ty xs (some ⟨b, 0, none⟩) c a9 c9 lv hv) (hi : idx (cut xs lv hv) i = some x0) (hS : S[p]? = some (Ch.arr ty T (some ⟨b, 0, none⟩) c xs)) (ho : o.op = .indexAddr t x ix) (hx : ev m x = some (.slice a9 (cut xs lv hv).length c9)) (hix : ev m ix = some (.int k i)) (ht : tlook G.τ t = some ti) (hk : ti.k = .slice e) (he : tlook G.τ e = some te) (hsz : te.size = ty.sz) : Yl G n m S I o (.pointer (some ⟨b, 0 + (lv.toNat + i.toNat) * ty.sz, none⟩)) := fun A a w hf hS' _ => by
  have h1 := idx_some hi
  have h2 := (List.getElem?_eq_some_iff.1 h1.2).1
  have h3 := (List.getElem?_eq_some_iff.1 (cut_get hi)).1
  have hle := (arr_reads (hS' _ (List.mem_of_getElem? hS))).1
  have ea : a9 = some ⟨b, lv.toNat * ty.sz, none⟩ := by rw [hv0.A (by omega)]; simp [add_lit]
  rw [ea] at hx
  have hr := run_indexAt (P := G.P) (w := w) (k := k) (i := i) (b := b) (o' := lv.toNat * ty.sz) (n := (cut xs lv hv).length) (c := c9) G.ok ht hk he h1.1 (by omega)
  have e2 : lv.toNat * ty.sz + i.toNat * te.size = 0 + (lv.toNat + i.toNat) * ty.sz := by rw [hsz, Nat.add_mul, Nat.zero_add]
  rw [e2] at hr
  simp only [execOp, ho, hf.ev hx, hf.ev hix, Sem.run_bind, hr, Result.andThen_ok, Sem.run_pure]
theorem cut_len {lv hv : Int} (h : ys.length = xs.length) : (cut ys lv hv).length = (cut xs lv hv).length := by unfold cut; simp [h]
theorem pos_of {k : Nat} {x : α} (h : xs[k]? = some x) : 0 < xs.length := by
  have := (List.getElem?_eq_some_iff.1 h).1
  omega
theorem set_some {i j : Nat} {x v : α} (h : xs[j]? = some x) : ∃ y, (xs.set i v)[j]? = some y := by
  have := (List.getElem?_eq_some_iff.1 h).1
  exact ⟨_, List.getElem?_eq_getElem (by rw [List.length_set]; exact this)⟩
theorem Vw.on {lv hv : Int} {a9 : Option Addr} {c9 : Nat} (h : Vw ty xs a0 c a9 c9 lv hv) (hl : ys.length = xs.length) : Vw ty ys a0 c a9 c9 lv hv := ⟨h.lo0, h.le, by rw [hl]; exact h.hi, by rw [hl]; exact h.cap, h.C, h.A⟩
theorem vw_re {lv hv : Int} {a9 : Option Addr} {c9 : Nat} {u : Unit} (h : Vw ty xs a0 c a9 c9 lv hv) (hk : chk (cutok lv hv ys.length) = some u) (hle : ys.length ≤ c) : Vw ty ys a0 c a9 c9 lv hv := by
  obtain ⟨h0, h1, h2⟩ := chk_some hk
  exact ⟨h0, h1, h2, hle, h.C, h.A⟩
theorem cut_cut {l0 h0 lo hi : Int} (h1 : 0 ≤ l0) (h2 : l0 ≤ h0) (h3 : h0 ≤ xs.length) (h4 : 0 ≤ lo) (h5 : lo ≤ hi) (h6 : hi ≤ h0 - l0) : cut (cut xs l0 h0) lo hi = cut xs (l0 + lo) (l0 + hi) := by
  unfold cut
  obtain ⟨a, rfl⟩ := Int.eq_ofNat_of_zero_le h1
  obtain ⟨b, rfl⟩ := Int.eq_ofNat_of_zero_le (Int.le_trans h1 h2)
  obtain ⟨d, rfl⟩ := Int.eq_ofNat_of_zero_le h4
  obtain ⟨e, rfl⟩ := Int.eq_ofNat_of_zero_le (Int.le_trans h4 h5)
  apply List.ext_getElem?
  intro i
  have e1 : ((a : Int) + (d : Int)).toNat = a + d := by omega
  have e2 : ((a : Int) + (e : Int)).toNat = a + e := by omega
  simp only [Int.toNat_natCast, e1, e2, List.getElem?_drop, List.getElem?_take]
  by_cases hh : d + i < e
  · rw [if_pos hh, if_pos (by omega), if_pos (by omega), Nat.add_assoc]
  · rw [if_neg hh, if_neg (by omega)]
/-- a view of an array -/
theorem vw_new {lv hv : Int} {u : Unit} (hk : chk (cutok lv hv xs.length) = some u) (hle : xs.length ≤ c) : Vw ty xs a0 c (cuta a0 c lv ty.sz) (c - lv.toNat) lv hv := by
  obtain ⟨h0, h1, h2⟩ := chk_some hk
  exact ⟨h0, h1, h2, hle, rfl, fun h => by rw [cuta, if_neg (by omega)]⟩
theorem add_add (ad : Addr) (i j : Nat) : (ad.add i).add j = ad.add (i + j) := by
  unfold Addr.add
  by_cases hi : i = 0
  · subst hi; simp
  · by_cases hj : j = 0
    · subst hj; simp
    · have : i + j ≠ 0 := by omega
      simp [hi, hj, this, Nat.add_assoc]
theorem vw_all (hle : xs.length ≤ c) : Vw ty xs a0 c a0 c 0 xs.length := ⟨Int.le_refl _, Int.natCast_nonneg _, Int.le_refl _, hle, by simp, fun _ => by cases a0 <;> simp [Addr.add]⟩
theorem cut_all (xs : List α) : cut xs 0 (xs.length : Int) = xs := by simp [cut]
theorem vw_cut {l0 h0 lv hv : Int} {a9 : Option Addr} {c9 : Nat} {u : Unit} (h : Vw ty xs a0 c a9 c9 l0 h0) (hk : chk (cutok lv hv (cut xs l0 h0).length) = some u) : Vw ty xs a0 c (cuta a9 c9 lv ty.sz) (c9 - lv.toNat) (l0 + lv) (l0 + hv) := by
  obtain ⟨h1, h2, h3⟩ := chk_some hk
  obtain ⟨g0, g1, g2, g3, g4, g5⟩ := h
  rw [cut_length ⟨g0, g1, g2⟩] at h3
  have e1 : (l0 + lv).toNat = l0.toNat + lv.toNat := by omega
  refine ⟨by omega, by omega, by omega, g3, by omega, fun h => ?_⟩
  rw [cuta, if_neg (by omega), g5 (by omega)]
  cases a0 with
  | none => rfl
  | some ad =>
    simp only [Option.map_some, e1, Nat.add_mul, add_add]
theorem vw_len {l0 h0 lv hv : Int} {a9 : Option Addr} {c9 : Nat} {u : Unit} (h : Vw ty xs a0 c a9 c9 l0 h0) (hk : chk (cutok lv hv (cut xs l0 h0).length) = some u) : hv.toNat - lv.toNat = (cut xs (l0 + lv) (l0 + hv)).length := by
  obtain ⟨h1, h2, h3⟩ := chk_some hk
  obtain ⟨g0, g1, g2, _⟩ := h
  rw [cut_length ⟨g0, g1, g2⟩] at h3
  rw [cut_length ⟨by omega, by omega, by omega⟩]
  omega
theorem L.vw (i : Nat) {os : Array Oper} {l : List Oper} {d t e T : Nat} {x : Operand} {lo hi : Option Operand} {lv hv : Int} {ti te : TI} {u : Unit} (hk0 : chk (cutok lv hv xs.length) = some u) (hS : S[i]? = some (Ch.arr ty T a0 c xs)) (hw : wg os.toList m o = some true) (hd : o.dst = some d) (hn : Nat.blt d n.n = true) (ho : o.op = .slice t x lo hi none) (hx : ev m x = some (.slice a0 xs.length c)) (hlo : evb m lo 0 = some lv) (hhi : evb m hi xs.length = some hv) (ht : tlook G.τ t = some ti) (hk : ti.k = .slice e) (he : tlook G.τ e = some te) (hsz : te.size = ty.sz)
    (h : ∀ a1 c1, Vw ty xs a0 c a1 c1 lv hv → L G n K os Q l ((d, .slice a1 (cut xs lv hv).length c1) :: m) S I) : L G n K os Q (o :: l) m S I := by
  intro A a w hf hs
  have hle := (arr_reads (hs.st.ch _ (List.mem_of_getElem? hS))).1
  exact L.y (Yl.sv (ty := ty) hle hk0 ho hx hlo hhi ht hk he hsz) hw hd hn (h _ _ (vw_new hk0 hle)) A a w hf hs
theorem L.vv {os : Array Oper} {l : List Oper} {d t e : Nat} {x : Operand} {lo hi : Option Operand} {lv hv l0 h0 : Int} {ti te : TI} {u : Unit} (hv0 : Vw ty xs a0 c a1 c1 l0 h0) (hk0 : chk (cutok lv hv (cut xs l0 h0).length) = some u) (hw : wg os.toList m o = some true) (hd : o.dst = some d) (hn : Nat.blt d n.n = true) (ho : o.op = .slice t x lo hi none) (hx : ev m x = some (.slice a1 (cut xs l0 h0).length c1)) (hlo : evb m lo 0 = some lv) (hhi : evb m hi (cut xs l0 h0).length = some hv) (ht : tlook G.τ t = some ti) (hk : ti.k = .slice e) (he : tlook G.τ e = some te) (hsz : te.size = ty.sz)
    (h : ∀ a2 c2, Vw ty xs a0 c a2 c2 (l0 + lv) (l0 + hv) → L G n K os Q l ((d, .slice a2 (cut xs (l0 + lv) (l0 + hv)).length c2) :: m) S I) : L G n K os Q (o :: l) m S I := by
  have hle : (cut xs l0 h0).length ≤ c1 := by
    obtain ⟨g0, g1, g2, g3, g4, _⟩ := hv0
    rw [cut_length ⟨g0, g1, g2⟩]
    omega
  have h2 := h _ _ (vw_cut hv0 hk0)
  rw [← vw_len hv0 hk0] at h2
  refine L.y ?_ hw hd hn h2
  intro A a w hf _ _
  obtain ⟨b0, b1, b2⟩ := chk_some hk0
  have hr := run_slice (P := G.P) (w := w) G.ok hf ht hk he hlo hhi b0 b1 (by omega : hv ≤ (c1 : Int)) a1
  rw [cuta, ← hsz]
  simp only [execOp, ho, hf.ev hx, Option.map_none, Sem.run_bind, hr, Result.andThen_ok, Sem.run_pure]
theorem Yl.vv {t e : Nat} {x : Operand} {lo hi : Option Operand} {lv hv l0 h0 : Int} {ti te : TI} {u : Unit} (hv0 : Vw ty xs a0 c a1 c1 l0 h0) (hk0 : chk (cutok lv hv (cut xs l0 h0).length) = some u) (ho : o.op = .slice t x lo hi none) (hx : ev m x = some (.slice a1 (cut xs l0 h0).length c1)) (hlo : evb m lo 0 = some lv) (hhi : evb m hi (cut xs l0 h0).length = some hv) (ht : tlook G.τ t = some ti) (hk : ti.k = .slice e) (he : tlook G.τ e = some te) (hsz : te.size = ty.sz) : Yl G n m S I o (.slice (cuta a1 c1 lv ty.sz) (cut xs (l0 + lv) (l0 + hv)).length (c1 - lv.toNat)) := by
  have hle : (cut xs l0 h0).length ≤ c1 := by
    obtain ⟨g0, g1, g2, g3, g4, _⟩ := hv0
    rw [cut_length ⟨g0, g1, g2⟩]
    omega
  rw [← vw_len hv0 hk0]
  intro A a w hf _ _
  obtain ⟨b0, b1, b2⟩ := chk_some hk0
  have hr := run_slice (P := G.P) (w := w) G.ok hf ht hk he hlo hhi b0 b1 (by omega : hv ≤ (c1 : Int)) a1
  rw [cuta, ← hsz]
  simp only [execOp, ho, hf.ev hx, Option.map_none, Sem.run_bind, hr, Result.andThen_ok, Sem.run_pure]
theorem D.vv {opl : List Oper} {late ls : List Nat} {C V : List Ch} (k : Nat) {d t e : Nat} {x : Operand} {lo hi : Option Operand} {lv hv l0 h0 : Int} {ti te : TI} {u : Unit} (hv0 : Vw ty xs a0 c a1 c1 l0 h0) (hk0 : chk (cutok lv hv (cut xs l0 h0).length) = some u) (hi' : opl[k]? = some o) (hc' : dchk opl late ls k = true) (hl0 : lateok opl late k = true) (hw : wg opl m o = some true) (hd : o.dst = some d) (hn : dok (some d) n.n = true) (ho : o.op = .slice t x lo hi none) (hx : ev m x = some (.slice a1 (cut xs l0 h0).length c1)) (hlo : evb m lo 0 = some lv) (hhi : evb m hi (cut xs l0 h0).length = some hv) (ht : tlook G.τ t = some ti) (hk : ti.k = .slice e) (he : tlook G.τ e = some te) (hsz : te.size = ty.sz)
    (h : ∀ a2 c2, Vw ty xs a0 c a2 c2 (l0 + lv) (l0 + hv) → D G n K Q opl late (k :: ls) C ((d, .slice a2 (cut xs (l0 + lv) (l0 + hv)).length c2) :: m) V I) : D G n K Q opl late ls C m V I :=
  D.y k (Yl.vv hv0 hk0 ho hx hlo hhi ht hk he hsz) hi' hc' hl0 hw hd hn (h _ _ (vw_cut hv0 hk0))
/-- a pointer that is not nil -/
theorem Yl.pn {t t2 e : Nat} {x y : Operand} {ad : Addr} {ti : TI} {op : BinOp} {b : Bool} (ho : o.op = .binOp op t x y t2) (hop : (match op with | .eql => some false | .neq => some true | _ => none) = some b) (hx : ev m x = some (.pointer (some ad))) (hy : ev m y = some (.pointer none)) (ht : tlook G.τ t = some ti) (hk : ti.k = .pointer e) : Yl G n m S I o (.bool b) := fun A a w hf _ _ => by
  obtain ⟨dd, _, _, hdd, _, hkk, _⟩ := G.ok.info ht
  rw [hk] at hkk
  cases hkk
  have he : ∀ k, (Op.equalIn (k + 1) t (.pointer (some ad)) (.pointer none)).run G.P w = .ok false w := fun k => by
    simp [Op.equalIn, run_underlying hdd]
  have he2 : (Op.equal t (.pointer (some ad)) (.pointer none)).run G.P w = .ok false w := he 9999
  have hg : (eqGuard op t x y (.pointer (some ad)) (.pointer none)).run G.P w = .ok () w := by
    unfold eqGuard
    split <;> rfl
  cases op <;> first | (cases hop; done) | skip
  · cases hop
    simp only [execOp, ho, hf.ev hx, hf.ev hy, Sem.run_bind, hg, Result.andThen_ok, binOp, he2, Sem.run_pure]
  · cases hop
    simp only [execOp, ho, hf.ev hx, hf.ev hy, Sem.run_bind, hg, Result.andThen_ok, binOp, he2, Sem.run_pure]
    rfl
end
end Go.Tw

set_option linter.unusedVariables false
set_option linter.unusedSimpArgs false
namespace Go.Tw
open Go
/-! ### strings -/
def sadd (n m : Nat) : Bool := decide (n + m ≤ 4611686018427387904)
def bstr (xs : List Int) : ByteArray := xs.foldl (fun r n => r.push (UInt8.ofNat n.toNat)) ByteArray.empty
def sidx (s : ByteArray) (i : Int) : Option Int := bif decide (0 ≤ i) then (s.data[i.toNat]?).map (fun b => (b.toNat : Int)) else none
def scut (s : ByteArray) (lo hi : Int) : ByteArray := s.extract lo.toNat hi.toNat
section
variable {G : Pg} {n : Nd} {K : Key} {Q : Exit → Act → World → Prop} {m : Env} {S : List Ch} {I : List Im} {ops : Array Oper} {o : Oper} {l : List Oper} {xs : List Int} {a0 : Option Addr} {c : Nat}
theorem Yl.sa {t t2 : Nat} {x y : Operand} {a b : ByteArray} {u : Unit} (h : chk (sadd a.size b.size) = some u) (ho : o.op = .binOp .add t x y t2) (hx : ev m x = some (.string a)) (hy : ev m y = some (.string b)) : Yl G n m S I o (.string (a ++ b)) := fun A ac w hf _ _ => by
  have h1 : a.size + b.size ≤ 4611686018427387904 := chk_some h
  have hr := run_string_add_sum (P := G.P) (w := w) a b (by omega)
  have hg : (eqGuard .add t x y (.string a) (.string b)).run G.P w = .ok () w := by unfold eqGuard; rfl
  simp only [execOp, ho, hf.ev hx, hf.ev hy, Sem.run_bind, hg, Result.andThen_ok, binOp_string_add, hr, Sem.run_pure]
theorem Yl.si {t : Nat} {x y : Operand} {a : ByteArray} {k : IntKind} {i r : Int} {ti : TI} (h : sidx a i = some r) (ho : o.op = .index t x y) (hx : ev m x = some (.string a)) (hy : ev m y = some (.int k i)) (ht : tlook G.τ t = some ti) (hk : ti.k = .string) : Yl G n m S I o (.int .u8 r) := fun A ac w hf _ _ => by
  obtain ⟨dd, _, _, hdd, _, hkk, _⟩ := G.ok.info ht
  rw [hk] at hkk
  cases hkk
  unfold sidx at h
  cases h0 : decide (0 ≤ i) with
  | false => rw [h0] at h; cases h
  | true =>
    rw [h0] at h
    have h0 := of_decide_eq_true h0
    simp only [cond_true, Option.map_eq_some_iff] at h
    obtain ⟨b, hb, rfl⟩ := h
    have hlt : i.toNat < a.size := (Array.getElem?_eq_some_iff.1 hb).1
    have hr := run_index_string (P := G.P) w t a k i hdd
    rw [dif_pos ⟨h0, by omega⟩] at hr
    have e : a[i.toNat]'hlt = b := (Array.getElem?_eq_some_iff.1 hb).2
    simp only [execOp, ho, hf.ev hx, hf.ev hy, Sem.run_bind, hr, Result.andThen_ok, Sem.run_pure, e]
theorem Yl.sc {t : Nat} {x : Operand} {lo hi : Option Operand} {a : ByteArray} {lv hv : Int} {ti : TI} {u : Unit} (h : chk (cutok lv hv a.size) = some u) (ho : o.op = .slice t x lo hi none) (hx : ev m x = some (.string a)) (hlo : evb m lo 0 = some lv) (hhi : evb m hi a.size = some hv) (ht : tlook G.τ t = some ti) (hk : ti.k = .string) : Yl G n m S I o (.string (scut a lv hv)) := fun A ac w hf _ _ => by
  obtain ⟨dd, _, _, hdd, _, hkk, _⟩ := G.ok.info ht
  rw [hk] at hkk
  cases hkk
  obtain ⟨h0, h1, h2⟩ := chk_some h
  have hr := run_bounds (P := G.P) (w := w) hf hlo hhi h0 h1 (cap := a.size) h2 false
  simp only [execOp, ho, hf.ev hx, Option.map_none, Instr.sliceAt, Instr.slice, Sem.run_bind, run_underlying hdd, Result.andThen_ok, Option.isSome_none, Bool.false_eq_true, if_false, Sem.run_pure, hr]
  rfl
theorem els_u8 {A : Blks} {w : World} : ∀ {xs : List Int} {cs : List Value}, Els (Ty.int .u8) A w xs cs → cs = xs.map (Value.int .u8)
  | _, _, .nil => rfl
  | _, _, .cons _ _ hr => by
    rw [els_u8 hr]
    rfl
theorem run_bs {P : Program} {τ : Tab} (hτ : TabOk P τ) {A : Blks} {w : World} {t t2 e : Nat} {ti ti2 te : TI} (hR : Rd (Ty.int .u8) a0 c xs A w) (ht : tlook τ t = some ti) (hk : ti.k = .slice e) (he : tlook τ e = some te) (hke : te.k = .int .u8) (ht2 : tlook τ t2 = some ti2) (hk2 : ti2.k = .string) : (convert t t2 (.slice a0 xs.length c)).run P w = .ok (.string (bstr xs)) w := by
  obtain ⟨d1, _, _, hd1, _, hq1, _⟩ := hτ.info ht
  obtain ⟨d2, _, _, hd2, _, hq2, _⟩ := hτ.info he
  obtain ⟨d3, _, _, hd3, _, hq3, _⟩ := hτ.info ht2
  rw [hk] at hq1
  rw [hke] at hq2
  rw [hk2] at hq3
  cases hq1
  cases hq2
  cases hq3
  rw [run_convert_bytes_string w t t2 e a0 xs.length c hd1 hd2 hd3]
  rcases hR.2 with rfl | ⟨b, o', cs, rfl, hes, hc⟩
  · cases a0 with
    | none => rfl
    | some ad =>
      exact run_bytesToString w ad 0 c [] (by
        have := run_loadCells_list (P := P) w ad [] (fun j v h => by simp at h)
        simpa using this)
  · rw [els_u8 hes] at hc
    have := run_loadCells_list (P := P) w ⟨b, o', none⟩ (xs.map (Value.int .u8)) (fun j v h => by rw [add_lit]; exact hc j v h)
    rw [List.length_map] at this
    exact run_bytesToString w ⟨b, o', none⟩ xs.length c xs this
theorem rd_im {α : Type} {ty : Ty α} {ys : List α} {A : Blks} {w : World} (h : (Im.sl ty a0 c ys).ok A w) : Rd ty a0 c ys A w :=
  ⟨h.1, h.2.imp id fun ⟨b, o', cs, h1, _, h3, h4⟩ => ⟨b, o', cs, h1, h3, h4⟩⟩
theorem rd_arr {α : Type} {ty : Ty α} {ys : List α} {T : Nat} {A : Blks} {w : World} (h : (Ch.arr ty T a0 c ys).ok A w) : Rd ty a0 c ys A w := by
  obtain ⟨h1, h2⟩ := arr_reads h
  refine ⟨h1, h2.imp id fun ⟨b, cs, e, h3, h4⟩ => ⟨b, 0, cs, e, h3, fun j u hu => ?_⟩⟩
  rw [Nat.zero_add]
  exact h4 j u hu
/-- bytes as a string -/
theorem Yl.bs (i : Nat) {t t2 e T : Nat} {x : Operand} {ti ti2 te : TI} (hS : S[i]? = some (Ch.arr (Ty.int .u8) T a0 c xs)) (ho : o.op = .convert t t2 x) (hx : ev m x = some (.slice a0 xs.length c)) (ht : tlook G.τ t = some ti) (hk : ti.k = .slice e) (he : tlook G.τ e = some te) (hke : te.k = .int .u8) (ht2 : tlook G.τ t2 = some ti2) (hk2 : ti2.k = .string) : Yl G n m S I o (.string (bstr xs)) := fun A ac w hf hS' _ => by
  have hr := run_bs (P := G.P) (w := w) G.ok (rd_arr (hS' _ (List.mem_of_getElem? hS))) ht hk he hke ht2 hk2
  simp only [execOp, ho, hf.ev hx, Sem.run_bind, hr, Result.andThen_ok, Sem.run_pure]
theorem Yl.bsi (i : Nat) {t t2 e : Nat} {x : Operand} {ti ti2 te : TI} (hI : I[i]? = some (Im.sl (Ty.int .u8) a0 c xs)) (ho : o.op = .convert t t2 x) (hx : ev m x = some (.slice a0 xs.length c)) (ht : tlook G.τ t = some ti) (hk : ti.k = .slice e) (he : tlook G.τ e = some te) (hke : te.k = .int .u8) (ht2 : tlook G.τ t2 = some ti2) (hk2 : ti2.k = .string) : Yl G n m S I o (.string (bstr xs)) := fun A ac w hf _ hI' => by
  have hr := run_bs (P := G.P) (w := w) G.ok (rd_im (hI' _ (List.mem_of_getElem? hI))) ht hk he hke ht2 hk2
  simp only [execOp, ho, hf.ev hx, Sem.run_bind, hr, Result.andThen_ok, Sem.run_pure]
end
end Go.Tw

set_option linter.unusedVariables false
set_option linter.unusedSimpArgs false
namespace Go.Tw
open Go Go.Lib
/-! ### a string's bytes behind a row of bytes -/
def sbs (s : ByteArray) : List Int := s.data.toList.map fun b => (b.toNat : Int)
theorem sbs_length (s : ByteArray) : (sbs s).length = s.size := by
  unfold sbs
  rw [List.length_map, Array.length_toList]
  rfl
def zu8b (P : Program) (T : Nat) : Bool := match P.info? T with
  | some i => match i.zero with
    | some (.int .u8 n) => decide (n = 0)
    | _ => false
  | none => false
theorem zu8_ok {P : Program} {T : Nat} (h : zu8b P T = true) {i : TypeInfo} (hi : P.info? T = some i) : i.zero = some (.int .u8 0) := by
  unfold zu8b at h
  rw [hi] at h
  dsimp only at h
  split at h
  · rename_i n hz
    rw [hz, of_decide_eq_true h]
  · cases h
theorem run_aps {P : Program} (w : World) (t u ty e : TypeId) (i : TypeInfo) (ht : P.underlying t = some (.slice e)) (hu : P.underlying u = some .string) (hi : P.info? e = some i) (hz : i.zero = some (.int .u8 0)) (hsize : i.size = 1) (hby : i.bytes = 1)
    (v : Value) (n : Nat) (xs : List Value) (hown : w.ownsRow 0 e 1 v n xs) (s : ByteArray) (h63 : n + s.size ≤ maxLen) (hbytes : n + s.size ≤ 140737488355328) :
    ∃ v' w', (Builtin.append_ #[t, u] ty #[v, .string s]).run P w = .ok v' w' ∧ w'.ownsRow 0 e 1 v' (n + s.size) (xs ++ strCells s) ∧ w.grownBy w' v.ownBlock ∧ (∀ b, v'.ownBlock = some b → (v.ownBlock = some b ∨ w.heap.size ≤ b) ∧ b < w'.heap.size) := by
  obtain ⟨v', w', hr, h2, h3, h4⟩ := run_append_own_string (P := P) w 0 t u ty e i ht hu hi hz hsize hby v n xs hown s h63 hbytes (Nat.zero_le _)
  refine ⟨v', w', hr, h2, h3, fun b hb => ⟨?_, (h2.lt b hb).2⟩⟩
  simp only [maxLen] at h63
  rcases hown.2 with ⟨rfl, rfl⟩ | ⟨g, cap, cur, rfl, hbg, hg, hnc, hcm, hcs, htake⟩
  · by_cases hm : s.size = 0
    · rw [h4.2 ⟨rfl, hm⟩] at hb
      cases hb
    · have hr2 := run_append_nil_string (P := P) w t u ty e i (.int .u8 0) ht hu hi hz s (by omega) (by omega) (by rw [hby]; omega)
      rw [hr] at hr2
      injection hr2 with hv
      rw [hv] at hb
      injection hb with hb
      exact .inr (Nat.le_of_eq hb)
  · by_cases hroom : n + s.size ≤ cap
    · have hr2 := run_append_room_string (P := P) w t u ty e i ht hu hi hsize g n cap cur hg s hroom (by simp only [Nat.mul_one] at hcs; omega)
      rw [hr] at hr2
      injection hr2 with hv
      rw [hv] at hb
      exact .inl hb
    · have hr2 := run_append_grow_string (P := P) w t u ty e i (.int .u8 0) ht hu hi hz ⟨g, 0, none⟩ n cap xs (by rw [hsize]; exact hown.1) (hown.cells (g := g) rfl) s (by omega) (by omega) (by rw [hby]; exact growslice_fits (by omega) (by omega))
      rw [hr] at hr2
      injection hr2 with hv
      rw [hv] at hb
      injection hb with hb
      exact .inr (Nat.le_of_eq hb)
theorem els_sbs {A : Blks} {w : World} (s : ByteArray) : Els (Ty.int .u8) A w (sbs s) (strCells s) := by
  unfold sbs strCells
  induction s.data.toList with
  | nil => exact .nil
  | cons b l ih => exact .cons (d := Ty.int .u8) () (fun f hf => by cases hf) ih
section
variable {G : Pg} {n : Nd} {m : Env} {o : Oper} {xs : List Int} {a0 : Option Addr} {c : Nat}
theorem Ac.aps {t t2 T : Nat} {x y : Operand} {ti te ti2 : TI} {u : Unit} {s : ByteArray} (hlim : chk (apok xs.length s.size te.bytes) = some u) (ho : o.op = .call { callee := .builtin .append, args := #[x, y], argTypes := #[t, t2] }) (hx : ev m x = some (.slice a0 xs.length c)) (hy : ev m y = some (.string s)) (ht : tlook G.τ t = some ti) (hk : ti.k = .slice T) (he : tlook G.τ T = some te) (hsz : (Nat.beq te.size 1 && Nat.beq te.bytes 1) = true) (ht2 : tlook G.τ t2 = some ti2) (hk2 : ti2.k = .string) (hz : zu8b G.P T = true) :
    Ac G n m o [Ch.arr (Ty.int .u8) T a0 c xs] [] (fun z : Option Addr × Nat => .slice z.1 (xs ++ sbs s).length z.2) (fun z => [Ch.arr (Ty.int .u8) T z.1 z.2 (xs ++ sbs s)]) (fun _ => []) := by
  have hlim : (xs.length + s.size) * te.bytes ≤ 140737488355328 := chk_some hlim
  simp only [Bool.and_eq_true] at hsz
  have hs1 := Nat.eq_of_beq_eq_true hsz.1
  have hs2 := Nat.eq_of_beq_eq_true hsz.2
  rw [hs2, Nat.mul_one] at hlim
  refine Ac.run (v := fun z : Option Addr × Nat => some (.slice z.1 (xs ++ sbs s).length z.2)) fun A a w hf hs => ?_
  obtain ⟨dd, f, z0, hdd, hfi, hkk, _⟩ := G.ok.info ht
  rw [hk] at hkk
  cases hkk
  obtain ⟨d2, f2, z2, hdd2, hfi2, hkk2, _⟩ := G.ok.info ht2
  rw [hk2] at hkk2
  cases hkk2
  obtain ⟨de, fe, ze, hde, hfe, _, hfs, hfb, hfz, hzc, _⟩ := G.ok.info he
  have hok := hs.ch _ (List.mem_singleton.2 rfl)
  obtain ⟨cs, hown, hels⟩ := hok
  have h63 : xs.length + s.size ≤ maxLen := by
    simp only [maxLen]
    omega
  obtain ⟨v', w', hr, hown', hgr, hat⟩ := run_aps (P := G.P) w t t2 o.type T fe hdd hdd2 hfe (zu8_ok hz hfe) (hfs.trans hs1) (hfb.trans hs2) (.slice a0 xs.length c) xs.length cs hown s h63 hlim
  have hv' : ∃ a2 c2, v' = .slice a2 (xs.length + s.size) c2 := by
    rcases hown'.2 with ⟨rfl, e⟩ | ⟨g, cap, cur, rfl, _⟩
    · exact ⟨none, 0, by rw [e]⟩
    · exact ⟨_, _, rfl⟩
  obtain ⟨a2, c2, rfl⟩ := hv'
  have hblk : (Value.slice a0 xs.length c).ownBlock = a0.map (·.block) := by cases a0 <;> rfl
  have hblk2 : (Value.slice a2 (xs.length + s.size) c2).ownBlock = a2.map (·.block) := by cases a2 <;> rfl
  have hA : ∀ b, A b → w'.heap[b]? = w.heap[b]? := fun b hb => hgr.block b (hs.lt b hb) (fun e => (hs.own _ (List.mem_singleton.2 rfl) b (hblk.symm.trans e.symm)).2 hb)
  rw [hblk2, hblk] at hat
  have hl : (xs ++ sbs s).length = xs.length + s.size := by rw [List.length_append, sbs_length]
  rw [← hl] at hown'
  refine ⟨(a2, c2), w', A, ?_, SS.grown hs (by rw [← hblk]; exact hgr) (fun b e => e) hat ⟨_, hown', (hels.app (els_sbs s)).st (fun _ h => h) hA⟩⟩
  simp only [execOp, ho, resolve, invoke, builtin, Sem.run_bind, Sem.run_pure, Result.andThen_ok, List.map_toArray, List.map_cons, List.map_nil, hf.ev hx, hf.ev hy, hr, nx, hl]
end
end Go.Tw

set_option linter.unusedVariables false
set_option linter.unusedSimpArgs false
namespace Go.Tw
open Go
/-! ### drawn regions: operations that take nothing of the others may come up whenever they may -/
theorem filter_lt {α : Type} {p q : α → Bool} (hpq : ∀ x, q x = true → p x = true) : ∀ {l : List α} {x : α}, x ∈ l → p x = true → q x = false → (l.filter q).length < (l.filter p).length
  | [], _, h, _, _ => by cases h
  | y :: l, x, h, hp, hq => by
    have hle : ∀ l : List α, (l.filter q).length ≤ (l.filter p).length := by
      intro l
      induction l with
      | nil => exact Nat.le_refl _
      | cons z l ih =>
        rw [List.filter_cons, List.filter_cons]
        split
        · rename_i hz
          rw [if_pos (hpq z hz)]
          simpa using ih
        · split
          · simp only [List.length_cons]
            omega
          · exact ih
    rw [List.filter_cons, List.filter_cons]
    rcases List.mem_cons.1 h with rfl | h
    · rw [if_pos hp, if_neg (by rw [hq]; simp)]
      have := hle l
      simp only [List.length_cons]
      omega
    · have ih := filter_lt hpq h hp hq
      split
      · rename_i hz
        rw [if_pos (hpq y hz)]
        simpa using ih
      · split
        · simp only [List.length_cons]
          omega
        · exact ih
def unl (n : Nat) (L : List Nat) : Nat := ((List.range n).filter fun i => !mem i L).length
theorem unl_cons {n i : Nat} {L : List Nat} (h : i < n) (hi : mem i L = false) : unl n (i :: L) + 1 ≤ unl n L := by
  unfold unl
  refine filter_lt (p := fun j => !mem j L) (q := fun j => !mem j (i :: L)) ?_ (x := i) (by simpa using h) (by simp [hi]) (by simp [mem])
  intro x hx
  simp only [mem, Bool.not_eq_true', Bool.or_eq_false_iff] at hx ⊢
  exact hx.2
theorem unl_pos {n i : Nat} {L : List Nat} (h : i < n) (hi : mem i L = false) : 0 < unl n L := by
  have := unl_cons h hi
  omega
theorem mem_false {i : Nat} {l : List Nat} : mem i l = false ↔ ¬ i ∈ l := by
  constructor
  · intro h h2
    rw [mem_iff.2 h2] at h
    cases h
  · intro h
    cases hb : mem i l with
    | false => rfl
    | true => exact absurd (mem_iff.1 hb) h
structure FO where
  i : Nat
  d : Nat
  σ : Type
  v : σ → Value
  S : σ → List Ch
  J : σ → List Im
/-- what waits is named ahead -/
def fwd (ops : List Oper) : Nat → List Oper → Bool
  | _, [] => true
  | k, o :: r => o.after.toList.all (fun e => !bindsA e || Nat.blt e.on k) && fwd ops (k + 1) r
theorem fwd_spec {ops : List Oper} : ∀ {r : List Oper} {k : Nat}, fwd ops k r = true → ∀ j oj, r[j]? = some oj → ∀ e ∈ oj.after, bindsA e = true → e.on < k + j
  | [], _, _, j, oj, h => by simp at h
  | o :: r, k, h, j, oj, hj => by
    simp only [fwd, Bool.and_eq_true] at h
    cases j with
    | zero =>
      simp at hj
      subst hj
      intro e he hb
      have := List.all_eq_true.1 h.1 e (by simpa using he)
      rw [hb] at this
      have := blt_lt (by simpa using this)
      omega
    | succ j =>
      have := fwd_spec h.2 j oj (by simpa using hj)
      intro e he hb
      have := this e he hb
      omega
def fmem (i : Nat) : List FO → Bool
  | [] => false
  | f :: F => Nat.beq i f.i || fmem i F
theorem fmem_iff {i : Nat} : ∀ {F : List FO}, fmem i F = true ↔ ∃ f ∈ F, f.i = i
  | [] => by simp [fmem]
  | f :: F => by
    simp only [fmem, Bool.or_eq_true, fmem_iff (F := F), List.mem_cons]
    constructor
    · rintro (h | ⟨g, hg, h⟩)
      · exact ⟨f, .inl rfl, (Nat.eq_of_beq_eq_true h).symm⟩
      · exact ⟨g, .inr hg, h⟩
    · rintro ⟨g, rfl | hg, h⟩
      · left
        rw [h]
        exact Nat.beq_refl _
      · exact .inr ⟨g, hg, h⟩
/-- those that may be next, but for the free ones -/
def cands (F : List FO) (l : List Nat) : Nat → List Oper → List Nat
  | _, [] => []
  | i, o :: r => match !mem i l && !fmem i F && o.after.toList.all (fun e => !bindsA e || mem e.on l || fmem e.on F) with
    | true => i :: cands F l (i + 1) r
    | false => cands F l (i + 1) r
theorem cands_mem {F : List FO} {l : List Nat} : ∀ {r : List Oper} {k i : Nat}, (∃ j o, i = k + j ∧ r[j]? = some o ∧ (!mem i l && !fmem i F && o.after.toList.all (fun e => !bindsA e || mem e.on l || fmem e.on F)) = true) → i ∈ cands F l k r
  | [], k, i, ⟨j, o, _, h, _⟩ => by simp at h
  | o :: r, k, i, ⟨j, o', he, h1, h2⟩ => by
    simp only [cands]
    cases j with
    | zero =>
      simp at h1
      subst h1
      rw [Nat.add_zero] at he
      subst he
      rw [h2]
      exact List.mem_cons_self ..
    | succ j =>
      have ih := cands_mem (F := F) (l := l) (r := r) (k := k + 1) (i := i) ⟨j, o', by omega, by simpa using h1, h2⟩
      split
      · exact List.mem_cons_of_mem _ ih
      · exact ih
def fnd : List FO → Bool
  | [] => true
  | f :: F => !fmem f.i F && fnd F
theorem fnd_eq : ∀ {F : List FO}, fnd F = true → ∀ {f g : FO}, f ∈ F → g ∈ F → f.i = g.i → f = g
  | [], _, _, _, h, _, _ => by cases h
  | x :: F, h, f, g, hf, hg, he => by
    simp only [fnd, Bool.and_eq_true, Bool.not_eq_true'] at h
    rcases List.mem_cons.1 hf with e1 | hf1
    · rcases List.mem_cons.1 hg with e2 | hg1
      · rw [e1, e2]
      · have h3 : fmem x.i F = true := fmem_iff.2 ⟨g, hg1, by rw [← he, e1]⟩
        rw [h.1] at h3
        cases h3
    · rcases List.mem_cons.1 hg with e2 | hg1
      · have h3 : fmem x.i F = true := fmem_iff.2 ⟨f, hf1, by rw [he, e2]⟩
        rw [h.1] at h3
        cases h3
      · exact fnd_eq h.2 hf1 hg1 he
/-- the slots of the free ones are new, and apart -/
def fok (F : List FO) (m : Env) : Bool := fnd F && F.all fun f => (look m f.d).isNone && F.all fun g => Nat.beq f.i g.i || !Nat.beq f.d g.d
/-- j waits for i -/
def onb (ops : List Oper) (j i : Nat) : Bool := match ops[j]? with
  | some oj => oj.after.toList.any fun e => bindsA e && Nat.beq e.on i
  | none => false
/-- what the free ones that have come up gave -/
def Exd (a : Act) (A : Blks) (w : World) : List FO → List Nat → List Ch → Prop
  | [], _, R => R = []
  | f :: F, L, R => (¬ f.i ∈ L ∧ Exd a A w F L R) ∨ (f.i ∈ L ∧ ∃ x R', a.tmps.getD f.d undef = f.v x ∧ (∀ g ∈ f.J x, g.ok A w) ∧ R = f.S x ++ R' ∧ Exd a A w F L R')
theorem Exd.get {a : Act} {A : Blks} {w : World} {L : List Nat} : ∀ {F : List FO} {R : List Ch}, Exd a A w F L R → ∀ f ∈ F, f.i ∈ L → ∃ x, a.tmps.getD f.d undef = f.v x ∧ ∀ g ∈ f.J x, g.ok A w
  | [], _, _, f, hf, _ => by cases hf
  | h :: F, R, he, f, hf, hL => by
    rcases he with ⟨h1, h2⟩ | ⟨h1, x, R', h2, h3, h4, h5⟩
    · rcases List.mem_cons.1 hf with rfl | hf
      · exact absurd hL h1
      · exact Exd.get h2 f hf hL
    · rcases List.mem_cons.1 hf with rfl | hf
      · exact ⟨x, h2, h3⟩
      · exact Exd.get h5 f hf hL
theorem Exd.mono {a a' : Act} {A A' : Blks} {w w' : World} {L L' : List Nat} (hk : ∀ g : Im, g.ok A w → g.ok A' w') : ∀ {F : List FO} {R : List Ch}, (∀ f ∈ F, a'.tmps.getD f.d undef = a.tmps.getD f.d undef) → (∀ f ∈ F, f.i ∈ L' ↔ f.i ∈ L) → Exd a A w F L R → Exd a' A' w' F L' R
  | [], _, _, _, he => he
  | h :: F, R, hs, hL, he => by
    rcases he with ⟨h1, h2⟩ | ⟨h1, x, R', h2, h3, h4, h5⟩
    · exact .inl ⟨fun hh => h1 ((hL h (List.mem_cons_self ..)).1 hh), h2.mono hk (fun f hf => hs f (List.mem_cons_of_mem _ hf)) fun f hf => hL f (List.mem_cons_of_mem _ hf)⟩
    · exact .inr ⟨(hL h (List.mem_cons_self ..)).2 h1, x, R', (hs h (List.mem_cons_self ..)).trans h2, fun g hg => hk g (h3 g hg), h4, h5.mono hk (fun f hf => hs f (List.mem_cons_of_mem _ hf)) fun f hf => hL f (List.mem_cons_of_mem _ hf)⟩
theorem Exd.exec {a a' : Act} {A A' : Blks} {w w' : World} {L : List Nat} {f : FO} {x : f.σ} (hk : ∀ g : Im, g.ok A w → g.ok A' w') (hL : ¬ f.i ∈ L) (hv : a'.tmps.getD f.d undef = f.v x) (hJ : ∀ g ∈ f.J x, g.ok A' w') : ∀ {F : List FO} {R : List Ch}, fnd F = true → (∀ g ∈ F, g.i ≠ f.i → a'.tmps.getD g.d undef = a.tmps.getD g.d undef) → f ∈ F → Exd a A w F L R → ∃ R', Exd a' A' w' F (f.i :: L) R' ∧ R'.Perm (f.S x ++ R)
  | [], _, _, _, hf, _ => by cases hf
  | h :: F, R, hn, hs, hf, he => by
    have hn' := hn
    simp only [fnd, Bool.and_eq_true, Bool.not_eq_true'] at hn'
    have hnot : ∀ g ∈ F, g.i ≠ h.i := fun g hg e => by
      have := fmem_iff.2 ⟨g, hg, e⟩
      rw [hn'.1] at this
      cases this
    by_cases hhf : h.i = f.i
    · obtain rfl := fnd_eq hn (List.mem_cons_self ..) hf hhf
      rcases he with ⟨h1, h2⟩ | ⟨h1, _⟩
      · refine ⟨h.S x ++ R, .inr ⟨List.mem_cons_self .., x, R, hv, hJ, rfl, ?_⟩, List.Perm.refl _⟩
        refine h2.mono hk (fun g hg => hs g (List.mem_cons_of_mem _ hg) (hnot g hg)) fun g hg => ?_
        rw [List.mem_cons]
        exact ⟨fun hh => hh.resolve_left (hnot g hg), .inr⟩
      · exact absurd h1 hL
    · have hfF : f ∈ F := (List.mem_cons.1 hf).resolve_left fun e => hhf (by rw [e])
      have hs' : ∀ g ∈ F, g.i ≠ f.i → a'.tmps.getD g.d undef = a.tmps.getD g.d undef := fun g hg => hs g (List.mem_cons_of_mem _ hg)
      rcases he with ⟨h1, h2⟩ | ⟨h1, y, R1, h2, h3, h4, h5⟩
      · obtain ⟨R', h6, h7⟩ := Exd.exec hk hL hv hJ hn'.2 hs' hfF h2
        exact ⟨R', .inl ⟨fun hh => h1 ((List.mem_cons.1 hh).resolve_left hhf), h6⟩, h7⟩
      · obtain ⟨R', h6, h7⟩ := Exd.exec hk hL hv hJ hn'.2 hs' hfF h5
        refine ⟨h.S y ++ R', .inr ⟨List.mem_cons_of_mem _ h1, y, R', (hs h (List.mem_cons_self ..) hhf).trans h2, fun g hg => hk g (h3 g hg), rfl, h6⟩, ?_⟩
        rw [h4]
        refine (h7.append_left (h.S y)).trans ?_
        rw [← List.append_assoc, ← List.append_assoc]
        exact List.perm_append_comm.append_right R1
theorem Exd.peel {a : Act} {A : Blks} {w : World} {L : List Nat} {f : FO} (hL : f.i ∈ L) : ∀ {F : List FO} {R : List Ch} {k : Nat}, F[k]? = some f → Exd a A w F L R → ∃ x R', a.tmps.getD f.d undef = f.v x ∧ (∀ g ∈ f.J x, g.ok A w) ∧ R.Perm (f.S x ++ R') ∧ Exd a A w (F.eraseIdx k) L R'
  | [], _, k, hk, _ => by simp at hk
  | h :: F, R, 0, hk, he => by
    simp at hk
    subst hk
    rcases he with ⟨h1, _⟩ | ⟨_, x, R', h2, h3, h4, h5⟩
    · exact absurd hL h1
    · exact ⟨x, R', h2, h3, by rw [h4], by simpa using h5⟩
  | h :: F, R, k + 1, hk, he => by
    have hk' : F[k]? = some f := by simpa using hk
    rcases he with ⟨h1, h2⟩ | ⟨h1, y, R1, h2, h3, h4, h5⟩
    · obtain ⟨x, R', q1, q2, q3, q4⟩ := Exd.peel hL hk' h2
      exact ⟨x, R', q1, q2, q3, by rw [List.eraseIdx_cons_succ]; exact .inl ⟨h1, q4⟩⟩
    · obtain ⟨x, R', q1, q2, q3, q4⟩ := Exd.peel hL hk' h5
      refine ⟨x, h.S y ++ R', q1, q2, ?_, by rw [List.eraseIdx_cons_succ]; exact .inr ⟨h1, y, R', h2, h3, rfl, q4⟩⟩
      rw [h4]
      refine (q3.append_left (h.S y)).trans ?_
      rw [← List.append_assoc, ← List.append_assoc]
      exact List.perm_append_comm.append_right R'
theorem perm_in {C V R X R' : List Ch} (h : R'.Perm (X ++ R)) : (C ++ (V ++ R')).Perm (X ++ (C ++ (V ++ R))) := by
  have h1 : (C ++ (V ++ R')).Perm (C ++ (V ++ (X ++ R))) := (h.append_left V).append_left C
  refine h1.trans ?_
  have h2 : (C ++ (V ++ (X ++ R))).Perm ((X ++ (C ++ V)) ++ R) := by
    have : C ++ (V ++ (X ++ R)) = ((C ++ V) ++ X) ++ R := by simp
    rw [this]
    exact List.perm_append_comm.append_right R
  refine h2.trans ?_
  simp
section
variable {G : Pg} {n : Nd} {K : Key} {Q : Exit → Act → World → Prop} {m : Env} {C V : List Ch} {I : List Im} {ops : List Oper} {late l : List Nat} {o : Oper} {F : List FO}
theorem Fr.addm {a : Act} {d : Nat} {v : Value} (h : Fr n m a) (hv : a.tmps.getD d undef = v) : Fr n ((d, v) :: m) a := by
  refine ⟨h.size, h.defers, fun i u hu => ?_⟩
  simp only [look] at hu
  cases hb : Nat.beq d i with
  | true =>
    rw [hb] at hu
    rw [← Nat.eq_of_beq_eq_true hb, hv]
    exact Option.some.inj hu
  | false =>
    rw [hb] at hu
    exact h.at_ i u hu
def FSp (G : Pg) (n : Nd) (Q : Exit → Act → World → Prop) (ops : List Oper) (C : List Ch) (m : Env) (I : List Im) (F : List FO) (f : FO) : Prop :=
  ∀ K A a w V (Kc : Act → World → Prop), Fr n m a → SS K A (C ++ V) I w → (∀ g ∈ F, onb ops f.i g.i = true → ∃ x, a.tmps.getD g.d undef = g.v x ∧ ∀ q ∈ g.J x, q.ok A w) → (∀ x w' A', SS K A' (f.S x ++ (C ++ V)) I w' → (∀ g ∈ f.J x, g.ok A' w') → (∀ g : Im, g.ok A w → g.ok A' w') → Kc (a.put (some f.d) (f.v x)) w') → f.d < n.n ∧ f.i < ops.length ∧ wpOp G.P ops.toArray (NP Q) f.i Kc a w
theorem FSp.mono {f : FO} {m' : Env} {I' : List Im} {F' : List FO} (h : FSp G n Q ops C m I F f) (hm : ∀ i v, look m i = some v → look m' i = some v) (hI : ∀ g ∈ I, g ∈ I') (hF : ∀ A a w, Fr n m' a → (∀ g ∈ I', g.ok A w) → (∀ g ∈ F', onb ops f.i g.i = true → ∃ x, a.tmps.getD g.d undef = g.v x ∧ ∀ q ∈ g.J x, q.ok A w) → ∀ g ∈ F, onb ops f.i g.i = true → ∃ x, a.tmps.getD g.d undef = g.v x ∧ ∀ q ∈ g.J x, q.ok A w) : FSp G n Q ops C m' I' F' f := by
  intro K A a w V Kc hf hs hd hk
  refine h K A a w V Kc (hf.sub hm) (hs.perm (List.Perm.refl _) hI) (hF A a w hf hs.st.im hd) fun x w' A' h1 h2 h3 => hk x w' A' ?_ h2 h3
  exact (h1.know (J := I') fun g hg => h3 g (hs.st.im g hg)).perm (List.Perm.refl _) fun g hg => List.mem_append_left _ hg
theorem im_keep {A A' : Blks} {S R S' : List Ch} {I I' : List Im} {w w' : World} (h : SS K A (S ++ R) I w) (h2 : SS ⟨w, A, Own S⟩ A' S' I' w') (g : Im) (hg : g.ok A w) : g.ok A' w' := by
  have h3 := (SS.know h (J := [g]) fun f hf => by rw [List.mem_singleton.1 hf]; exact hg).frame h2
  exact h3.st.im g (by simp)
theorem FSp.ac (i : Nat) {d : Nat} {J : List Im} {σ : Type} {v : σ → Value} {S' : σ → List Ch} {I' : σ → List Im} (js : List Nat) (hA : Ac G n m o [] J v S' I') (hi : ops[i]? = some o) (hw : wg ops m o = some true) (hd : o.dst = some d) (hn : Nat.blt d n.n = true) (hJ : pick I js = some J) : FSp G n Q ops C m I F ⟨i, d, σ, v, S', I'⟩ := by
  intro K A a w V Kc hf hs _ hk
  refine ⟨blt_lt hn, (List.getElem?_eq_some_iff.1 hi).1, ?_⟩
  have hi' : ops.toArray[i]? = some o := by simpa using hi
  unfold wpOp
  simp only [hi']
  rw [if_pos (wg_ok hw hf)]
  left
  have hs0 : SS K A ([] ++ (C ++ V)) I w := hs
  refine (hA A a w _ (NP Q) hf (St.left (S := []) hs0.st (pick_mem hJ)) fun x w' A' h2 => ?_).1
  have h3 := hs0.frame h2
  rw [hd]
  exact hk x w' A' (h3.perm (List.Perm.refl _) fun g hg => List.mem_append_right _ hg) (fun g hg => h3.st.im g (List.mem_append_left _ hg)) (im_keep hs0 h2)
theorem FSp.y (i : Nat) {d : Nat} {v : Value} (hy : Yl G n m C I o v) (hi : ops[i]? = some o) (hw : wg ops m o = some true) (hd : o.dst = some d) (hn : Nat.blt d n.n = true) : FSp G n Q ops C m I F ⟨i, d, Unit, fun _ => v, fun _ => [], fun _ => []⟩ := by
  intro K A a w V Kc hf hs _ hk
  refine ⟨blt_lt hn, (List.getElem?_eq_some_iff.1 hi).1, ?_⟩
  have hi' : ops.toArray[i]? = some o := by simpa using hi
  unfold wpOp
  simp only [hi']
  rw [if_pos (wg_ok hw hf)]
  left
  have hr := hy A a w hf (fun c hc => hs.st.ch c (List.mem_append_left _ hc)) hs.st.im
  have h4 : Kc (a.put (some d) v) w := hk () w A hs (fun g hg => by cases hg) (fun _ h => h)
  rw [← hd] at h4
  unfold Oper.wp
  rw [hr]
  exact h4
theorem FSp.q (i : Nat) {d : Nat} {v : Value} (hi : ops[i]? = some o) (hw : wg ops m o = some true) (hd : o.dst = some d) (hn : Nat.blt d n.n = true) (hq : qx G.τ m o.op = some v) : FSp G n Q ops C m I F ⟨i, d, Unit, fun _ => v, fun _ => [], fun _ => []⟩ :=
  FSp.y i (fun A a w hf _ _ => qx_ok G.ok hf hq w) hi hw hd hn
theorem FSp.sk (i : Nat) {d : Nat} (hi : ops[i]? = some o) (hw : wg ops m o = some false) (hd : o.dst = some d) (hn : Nat.blt d n.n = true) : FSp G n Q ops C m I F ⟨i, d, Unit, fun _ => undef, fun _ => [], fun _ => []⟩ := by
  intro K A a w V Kc hf hs _ hk
  refine ⟨blt_lt hn, (List.getElem?_eq_some_iff.1 hi).1, ?_⟩
  have hi' : ops.toArray[i]? = some o := by simpa using hi
  unfold wpOp
  simp only [hi']
  have h1 := wg_ok hw hf
  rw [h1, hd]
  exact hk () w A hs (fun g hg => by cases hg) (fun _ h => h)
/-- it waits for another free one -/
theorem FSp.dep {f g : FO} (k : Nat) (hk : F[k]? = some g) (hon : onb ops f.i g.i = true) (h : ∀ x, FSp G n Q ops C ((g.d, g.v x) :: m) (g.J x ++ I) F f) : FSp G n Q ops C m I F f := by
  intro K A a w V Kc hf hs hd hk'
  obtain ⟨x, h1, h2⟩ := hd g (List.mem_of_getElem? hk) hon
  refine h x K A a w V Kc (Fr.addm hf h1) (hs.know h2) hd fun y w' A' h3 h4 h5 => hk' y w' A' (h3.perm (List.Perm.refl _) fun q hq => List.mem_append_right _ hq) h4 h5
/-- the state: 'l' has come up, of 'F' perhaps some have -/
def DF (G : Pg) (n : Nd) (K : Key) (Q : Exit → Act → World → Prop) (ops : List Oper) (late : List Nat) (F : List FO) (l : List Nat) (C : List Ch) (m : Env) (V : List Ch) (I : List Im) : Prop :=
  (∀ f ∈ F, FSp G n Q ops C m I F f) → ∀ A a w fuel L, (∀ i ∈ l, i ∈ L) → (∀ i ∈ L, i ∈ l ∨ ∃ f ∈ F, f.i = i) → unl ops.length L ≤ fuel → Fr n m a → ∀ R, SS K A (C ++ (V ++ R)) I w →
    Exd a A w F L R → wpG G.P ops.toArray (NP Q) late fuel (WS C I) (lst ops.length L) a w
/-- j comes up -/
def DFp (G : Pg) (n : Nd) (K : Key) (Q : Exit → Act → World → Prop) (ops : List Oper) (late : List Nat) (j : Nat) (F : List FO) (l : List Nat) (C : List Ch) (m : Env) (V : List Ch) (I : List Im) : Prop :=
  (∀ f ∈ F, FSp G n Q ops C m I F f) → ∀ A a w fuel L, (∀ i ∈ l, i ∈ L) → (∀ i ∈ L, i ∈ l ∨ ∃ f ∈ F, f.i = i) → unl ops.length L ≤ fuel + 1 → mem j L = false → (∀ oj, ops[j]? = some oj → ∀ e ∈ oj.after, bindsA e = true → e.on ∈ L) → Fr n m a → ∀ R, SS K A (C ++ (V ++ R)) I w →
    Exd a A w F L R →
    wpOp G.P ops.toArray (NP Q) j (fun a' w' => ∃ S' : World → Prop, (j ∈ late ∨ ∀ w, S' w → WS C I w) ∧ S' w' ∧ wpG G.P ops.toArray (NP Q) late fuel S' ((lst ops.length L).setIfInBounds j true) a' w') a w
/-- all has come up -/
def DFe (G : Pg) (n : Nd) (K : Key) (Q : Exit → Act → World → Prop) (F : List FO) (C : List Ch) (m : Env) (V : List Ch) (I : List Im) : Prop :=
  ∀ A a w L, (∀ f ∈ F, f.i ∈ L) → Fr n m a → ∀ R, SS K A (C ++ (V ++ R)) I w → Exd a A w F L R → NP Q .normal a w
theorem DF.of (hl : Nat.ble (unl ops.length l + l.length) ops.length = true) (h : DF G n K Q ops late [] l C m V I) : D G n K Q ops late l C m V I := by
  intro A a w fuel hfu hf hs
  have := Nat.le_of_ble_eq_true hl
  exact h (fun f hf => by cases hf) A a w fuel l (fun i hi => hi) (fun i hi => .inl hi) (by omega) hf [] (by rw [List.append_nil]; exact hs) rfl
theorem DF.add (f : FO) (hsp : FSp G n Q ops C m I F f) (hc : (!mem f.i l && !fmem f.i F) = true) (h : DF G n K Q ops late (f :: F) l C m V I) : DF G n K Q ops late F l C m V I := by
  simp only [Bool.and_eq_true, Bool.not_eq_true'] at hc
  intro hF A a w fuel L h1 h2 hfu hf R hs hx
  have hnot : ¬ f.i ∈ L := fun hi => by
    rcases h2 _ hi with h3 | ⟨g, hg, h3⟩
    · exact mem_false.1 hc.1 h3
    · have := fmem_iff.2 ⟨g, hg, h3⟩
      rw [hc.2] at this
      cases this
  refine h (fun g hg => ?_) A a w fuel L h1 (fun i hi => (h2 i hi).imp id fun ⟨g, hg, e⟩ => ⟨g, List.mem_cons_of_mem _ hg, e⟩) hfu hf R hs (.inl ⟨hnot, hx⟩)
  · have hup : ∀ A a w, Fr n m a → (∀ g ∈ I, g.ok A w) → (∀ q ∈ f :: F, onb ops g.i q.i = true → ∃ x, a.tmps.getD q.d undef = q.v x ∧ ∀ p ∈ q.J x, p.ok A w) → ∀ q ∈ F, onb ops g.i q.i = true → ∃ x, a.tmps.getD q.d undef = q.v x ∧ ∀ p ∈ q.J x, p.ok A w := fun A a w _ _ hh q hq => hh q (List.mem_cons_of_mem _ hq)
    rcases List.mem_cons.1 hg with rfl | hg
    · exact hsp.mono (fun _ _ h => h) (fun _ h => h) hup
    · exact (hF g hg).mono (fun _ _ h => h) (fun _ h => h) hup
theorem getD_put {a : Act} {d e : Nat} {v : Value} (h : d ≠ e) : (a.put (some d) v).tmps.getD e undef = a.tmps.getD e undef := by
  show (a.tmps.setIfInBounds d v).getD e undef = _
  simp only [Array.getD_eq_getD_getElem?, Array.getElem?_setIfInBounds, if_neg h]
theorem getD_self {a : Act} {d : Nat} {v : Value} (h : d < a.tmps.size) : (a.put (some d) v).tmps.getD d undef = v := by
  show (a.tmps.setIfInBounds d v).getD d undef = _
  simp [Array.getD, h]
/-- what is ready is free, or the next one -/
theorem DF.core (hc : closed ops = true) (hfw : fwd ops 0 ops = true) (hfo : fok F m = true) {js : List Nat} (hcs : cands F l 0 ops = js) (h : ∀ j ∈ js, DFp G n K Q ops late j F l C m V I)
    (he : ∀ A a w (L : List Nat), (∀ i, i < ops.length → i ∈ L) → (∀ i ∈ L, i ∈ l ∨ ∃ f ∈ F, f.i = i) → Fr n m a → ∀ R, SS K A (C ++ (V ++ R)) I w → Exd a A w F L R → NP Q .normal a w) : DF G n K Q ops late F l C m V I := by
  intro hF A a w fuel
  induction fuel generalizing A a w with
  | zero =>
    intro L h1 h2 hfu hf R hs hx
    have hall : ∀ i, i < ops.length → i ∈ L := fun i hi => by
      cases hb : mem i L with
      | true => exact mem_iff.1 hb
      | false => have := unl_pos hi hb; omega
    refine ⟨List.eq_nil_iff_forall_not_mem.2 fun i hi => ?_, he A a w L hall h2 hf R hs hx⟩
    rw [ready_mem hc, rdys_mem] at hi
    obtain ⟨j, o, e, h3, h4⟩ := hi
    have hj : i < ops.length := by have := (List.getElem?_eq_some_iff.1 h3).1; omega
    rw [mem_iff.2 (hall i hj)] at h4
    simp at h4
  | succ fuel ih =>
    intro L h1 h2 hfu hf R hs hx
    refine ⟨fun hr => ?_, fun i hi => ?_⟩
    · have hall : ∀ i, i < ops.length → i ∈ L := by
        intro i
        induction i using Nat.strongRecOn with
        | _ i ihi =>
          intro hi
          cases hb : mem i L with
          | true => exact mem_iff.1 hb
          | false =>
            exfalso
            have hin : i ∈ Region.ready .any ops.toArray (lst ops.length L) := by
              rw [ready_mem hc, rdys_mem]
              refine ⟨i, ops[i], by omega, List.getElem?_eq_getElem hi, ?_⟩
              rw [hb]
              simp only [Bool.not_false, Bool.true_and, rdy1, List.all_eq_true, Bool.or_eq_true, Bool.not_eq_true']
              intro e hee
              cases hbe : bindsA e with
              | false => exact .inl rfl
              | true =>
                right
                have hlt := fwd_spec hfw i ops[i] (List.getElem?_eq_getElem hi) e (by simpa using hee) hbe
                exact mem_iff.2 (ihi e.on (by omega) (by omega))
            rw [hr] at hin
            cases hin
      exact he A a w L hall h2 hf R hs hx
    · rw [ready_mem hc, rdys_mem] at hi
      obtain ⟨j, o, e0, h3, h4⟩ := hi
      obtain rfl : i = j := by omega
      have hilt : i < ops.length := (List.getElem?_eq_some_iff.1 h3).1
      simp only [Bool.and_eq_true, Bool.not_eq_true'] at h4
      cases hb : fmem i F with
      | true =>
        obtain ⟨f, hfF, rfl⟩ := fmem_iff.1 hb
        have hdeps : ∀ g ∈ F, onb ops f.i g.i = true → ∃ x, a.tmps.getD g.d undef = g.v x ∧ ∀ q ∈ g.J x, q.ok A w := fun g hgF hon => by
          refine hx.get g hgF ?_
          unfold onb at hon
          rw [h3] at hon
          obtain ⟨e, hee, hbb⟩ := List.any_eq_true.1 hon
          simp only [Bool.and_eq_true] at hbb
          have h5 := List.all_eq_true.1 h4.2 e hee
          rw [hbb.1] at h5
          rw [← Nat.eq_of_beq_eq_true hbb.2]
          exact mem_iff.1 (by simpa using h5)
        refine (hF f hfF K A a w (V ++ R) _ hf hs hdeps fun x w' A' hs' hg hk => ?_).2.2
        have hdn : f.d < n.n := (hF f hfF K A a w (V ++ R) (fun _ _ => True) hf hs hdeps fun _ _ _ _ _ _ => trivial).1
        have hfo' := hfo
        simp only [fok, Bool.and_eq_true] at hfo'
        have hok := List.all_eq_true.1 hfo'.2 f hfF
        simp only [Bool.and_eq_true, Option.isNone_iff_eq_none] at hok
        obtain ⟨R', hx', hp⟩ := hx.exec (a' := a.put (some f.d) (f.v x)) hk (mem_false.1 h4.1) (getD_self (by rw [hf.size]; exact hdn)) hg hfo'.1 (fun g hgF hgi => by
          have h5 := List.all_eq_true.1 hok.2 g hgF
          simp only [Bool.or_eq_true, Bool.not_eq_true'] at h5
          exact getD_put (Nat.ne_of_beq_eq_false (h5.resolve_left fun hh => hgi (Nat.eq_of_beq_eq_true hh).symm))) hfF
        have hs2 := hs'.perm (perm_in (C := C) (V := V) hp) (fun _ h => h)
        refine ⟨WS C I, .inr fun _ h => h, hs2.ws, ?_⟩
        rw [lst_set]
        have hput : Fr n m (a.put (some f.d) (f.v x)) := by
          refine (hf.put (f.v x) hdn).sub fun i u hu => ?_
          simp only [look]
          cases hbb : Nat.beq f.d i with
          | true => rw [← Nat.eq_of_beq_eq_true hbb, hok.1] at hu; cases hu
          | false => exact hu
        refine ih A' _ w' (f.i :: L) (fun i hi => List.mem_cons_of_mem _ (h1 i hi)) (fun i hi => ?_) ?_ hput R' hs2 hx'
        · rcases List.mem_cons.1 hi with rfl | hi
          · exact .inr ⟨f, hfF, rfl⟩
          · exact h2 i hi
        · have := unl_cons hilt h4.1
          omega
      | false =>
        have hcand : i ∈ js := by
          rw [← hcs]
          refine cands_mem ⟨i, o, by omega, h3, ?_⟩
          have hml : mem i l = false := mem_false.2 fun hh => mem_false.1 h4.1 (h1 i hh)
          rw [hml, hb]
          simp only [Bool.not_false, Bool.true_and, List.all_eq_true, Bool.or_eq_true, Bool.not_eq_true']
          intro e hee
          cases hbe : bindsA e with
          | false => exact .inl (.inl rfl)
          | true =>
            have h5 := List.all_eq_true.1 h4.2 e hee
            rw [hbe] at h5
            have h6 := mem_iff.1 (by simpa using h5 : mem e.on L = true)
            rcases h2 _ h6 with h7 | h7
            · exact .inl (.inr (mem_iff.2 h7))
            · exact .inr (fmem_iff.2 h7)
        refine h i hcand hF A a w fuel L h1 h2 hfu h4.1 (fun oj hoj e hee hbe => ?_) hf R hs hx
        rw [h3] at hoj
        cases hoj
        have h5 := List.all_eq_true.1 h4.2 e (by simpa using hee)
        rw [hbe] at h5
        exact mem_iff.1 (by simpa using h5)
theorem DF.step (j : Nat) (hc : closed ops = true) (hfw : fwd ops 0 ops = true) (hfo : fok F m = true) (hcs : cands F l 0 ops = [j]) (hj : (!mem j l && !fmem j F && Nat.blt j ops.length) = true) (h : DFp G n K Q ops late j F l C m V I) : DF G n K Q ops late F l C m V I := by
  simp only [Bool.and_eq_true, Bool.not_eq_true'] at hj
  refine DF.core hc hfw hfo hcs (fun k hk => by rw [List.mem_singleton.1 hk]; exact h) (fun A a w L hall h2 hf R hs hx => ?_)
  exfalso
  rcases h2 j (hall j (blt_lt hj.2)) with h3 | h3
  · exact mem_false.1 hj.1.1 h3
  · have := fmem_iff.2 h3
    rw [hj.1.2] at this
    cases this
/-- all but free ones has come up -/
theorem DF.fin (hc : closed ops = true) (hfw : fwd ops 0 ops = true) (hfo : fok F m = true) (hcs : cands F l 0 ops = []) (hlt : (F.all fun f => Nat.blt f.i ops.length) = true) (h : DFe G n K Q F C m V I) : DF G n K Q ops late F l C m V I :=
  DF.core hc hfw hfo hcs (fun k hk => by cases hk) fun A a w L hall h1 hf R hs hx => h A a w L (fun f hfF => hall _ (blt_lt (List.all_eq_true.1 hlt f hfF))) hf R hs hx
theorem DFe.nil (h : E n K Q .normal m (C ++ V) I) : DFe G n K Q [] C m V I := fun A a w L _ hf R hs hx => by
  obtain rfl : R = [] := hx
  rw [List.append_nil] at hs
  exact h A a w hf hs
theorem perm_out {C V R X R' : List Ch} (h : R.Perm (X ++ R')) : (C ++ ((X ++ V) ++ R')).Perm (C ++ (V ++ R)) := by
  refine List.Perm.append_left C ?_
  refine List.Perm.trans ?_ (h.symm.append_left V)
  rw [← List.append_assoc]
  exact List.perm_append_comm.append_right R'
theorem DFe.use {f : FO} (h : ∀ x, DFe G n K Q F C ((f.d, f.v x) :: m) (f.S x ++ V) (f.J x ++ I)) : DFe G n K Q (f :: F) C m V I := by
  intro A a w L hL hf R hs hx
  obtain ⟨x, R', h1, h2, h3, h4⟩ := hx.peel (k := 0) (hL f (List.mem_cons_self ..)) rfl
  exact h x A a w L (fun g hg => hL g (List.mem_cons_of_mem _ hg)) (hf.addm h1) R' ((hs.perm (perm_out h3) fun _ h => h).know h2) (by simpa using h4)
theorem look_more {d : Nat} {v : Value} (h : look m d = none) : ∀ i u, look m i = some u → look ((d, v) :: m) i = some u := by
  intro i u hu
  simp only [look]
  cases hb : Nat.beq d i with
  | true => rw [← Nat.eq_of_beq_eq_true hb, h] at hu; cases hu
  | false => exact hu
theorem DFp.use {j : Nat} (k : Nat) {f : FO} (hk : F[k]? = some f) (hon : onb ops j f.i = true) (hnew : (look m f.d).isNone = true) (h : ∀ x, DFp G n K Q ops late j (F.eraseIdx k) (f.i :: l) C ((f.d, f.v x) :: m) (f.S x ++ V) (f.J x ++ I)) : DFp G n K Q ops late j F l C m V I := by
  intro hF A a w fuel L h1 h2 hfu hjL hdep hf R hs hx
  have hfF : f ∈ F := List.mem_of_getElem? hk
  have hfL : f.i ∈ L := by
    unfold onb at hon
    split at hon
    · rename_i oj hoj
      obtain ⟨e, he, hb⟩ := List.any_eq_true.1 hon
      simp only [Bool.and_eq_true] at hb
      have := hdep oj hoj e (by simpa using he) hb.1
      rwa [Nat.eq_of_beq_eq_true hb.2] at this
    · cases hon
  obtain ⟨x, R', hx1, hx2, hp, hx3⟩ := hx.peel hfL hk
  have hnew' : look m f.d = none := by simpa using hnew
  have hsub : ∀ g ∈ F.eraseIdx k, g ∈ F := fun g hg => List.mem_of_mem_eraseIdx hg
  have hsplit : ∀ g ∈ F, g = f ∨ g ∈ F.eraseIdx k := fun g hg => by
    obtain ⟨q, hq⟩ := List.getElem?_of_mem hg
    by_cases hqk : q = k
    · left
      subst hqk
      rw [hk] at hq
      cases hq
      rfl
    · exact .inr (List.mem_eraseIdx_iff_getElem?.2 ⟨q, hqk, hq⟩)
  have hF' : ∀ g ∈ F.eraseIdx k, FSp G n Q ops C ((f.d, f.v x) :: m) (f.J x ++ I) (F.eraseIdx k) g := fun g hg => (hF g (hsub g hg)).mono (look_more hnew') (fun q hq => List.mem_append_right _ hq) fun A a w hf hI hh q hq hon => by
    rcases hsplit q hq with rfl | hq'
    · exact ⟨x, hf.at_ _ _ (by simp [look]), fun p hp => hI p (List.mem_append_left _ hp)⟩
    · exact hh q hq' hon
  have h3 := h x hF' A a w fuel L (fun i hi => ?_) (fun i hi => ?_) hfu hjL hdep (hf.addm hx1) R' ((hs.perm (perm_out hp) fun _ h => h).know hx2) hx3
  · refine wpOp_mono (fun a' w' hh => ?_) h3
    obtain ⟨S', hS, h4⟩ := hh
    exact ⟨S', hS.imp id fun hw w0 hw0 => by obtain ⟨A0, q1, q2⟩ := hw w0 hw0; exact ⟨A0, q1, fun q hq => q2 q (List.mem_append_right _ hq)⟩, h4⟩
  · rcases List.mem_cons.1 hi with rfl | hi
    · exact hfL
    · exact h1 i hi
  · rcases h2 i hi with h4 | ⟨g, hg, h4⟩
    · exact .inl (List.mem_cons_of_mem _ h4)
    · rcases hsplit g hg with rfl | hg'
      · left
        rw [← h4]
        exact List.mem_cons_self ..
      · exact .inr ⟨g, hg', h4⟩
def newd (F : List FO) (m : Env) : Option Nat → Bool
  | some d => (look m d).isNone && F.all fun f => !Nat.beq f.d d
  | none => true
theorem newd_more {d : Option Nat} (h : newd F m d = true) (v : Value) : ∀ i u, look m i = some u → look (putm d v m) i = some u := by
  cases d with
  | none => exact fun _ _ h => h
  | some d =>
    simp only [newd, Bool.and_eq_true] at h
    exact look_more (by simpa using h.1)
theorem newd_put {d : Option Nat} (h : newd F m d = true) {a : Act} {v : Value} : ∀ f ∈ F, (a.put d v).tmps.getD f.d undef = a.tmps.getD f.d undef := by
  intro f hf
  cases d with
  | none => rfl
  | some d =>
    simp only [newd, Bool.and_eq_true] at h
    have := List.all_eq_true.1 h.2 f hf
    simp only [Bool.not_eq_true'] at this
    exact getD_put fun e => Nat.ne_of_beq_eq_false this e.symm
theorem listed_more {j : Nat} (hjF : fmem j F = false) {L : List Nat} : ∀ f ∈ F, f.i ∈ j :: L ↔ f.i ∈ L := by
  intro f hf
  rw [List.mem_cons]
  refine ⟨fun hh => hh.resolve_left fun e => ?_, .inr⟩
  have := fmem_iff.2 ⟨f, hf, e⟩
  rw [hjF] at this
  cases this
theorem perm_swap {α : Type} (X Y Z : List α) : (X ++ (Y ++ Z)).Perm (Y ++ (X ++ Z)) := by
  rw [← List.append_assoc, ← List.append_assoc]
  exact (List.perm_append_comm (l₁ := X) (l₂ := Y)).append_right Z
theorem DFp.a {j : Nat} (is js : List Nat) {d : Option Nat} {Sp R : List Ch} {J : List Im} {σ : Type} {v : σ → Value} {S' : σ → List Ch} {I' : σ → List Im} (hA : Ac G n m o Sp J v S' I') (hi : ops[j]? = some o) (hw : wg ops m o = some true) (hd : o.dst = d) (hn : dok d n.n = true) (hS : ext V is = some (Sp, R)) (hJ : pick I js = some J) (hjF : fmem j F = false) (hnew : newd F m d = true)
    (h : ∀ x, DF G n K Q ops late F (j :: l) C (putm d (v x) m) (S' x ++ R) (I' x ++ I)) : DFp G n K Q ops late j F l C m V I := by
  intro hF A a w fuel L h1 h2 hfu hjL hdep hf R0 hs hx
  have hi' : ops.toArray[j]? = some o := by simpa using hi
  have hjlt : j < ops.length := (List.getElem?_eq_some_iff.1 hi).1
  unfold wpOp
  simp only [hi']
  rw [if_pos (wg_ok hw hf)]
  left
  have hp : (Sp ++ (C ++ (R ++ R0))).Perm (C ++ (V ++ R0)) := by
    have h1 : (Sp ++ R).Perm V := ext_perm hS
    refine (perm_swap Sp C (R ++ R0)).trans (List.Perm.append_left C ?_)
    rw [← List.append_assoc]
    exact h1.append_right R0
  have hs' := hs.perm hp (fun i hi => hi)
  refine (hA A a w _ (NP Q) hf (hs'.st.left (pick_mem hJ)) fun x w' A' h2' => ?_).1
  have h3 := hs'.frame h2'
  have hp2 : (C ++ ((S' x ++ R) ++ R0)).Perm (S' x ++ (C ++ (R ++ R0))) := by
    rw [List.append_assoc]
    exact perm_swap C (S' x) (R ++ R0)
  have h4 := h3.perm hp2 (fun i hi => hi)
  refine ⟨WS C (I' x ++ I), .inr fun w ⟨A, h1, h2⟩ => ⟨A, h1, fun f hf => h2 f (List.mem_append_right _ hf)⟩, h4.ws, ?_⟩
  rw [lst_set, hd]
  refine h x (fun f hfF => (hF f hfF).mono (newd_more hnew _) (fun g hg => List.mem_append_right _ hg) fun _ _ _ _ _ hh => hh) A' _ w' fuel (j :: L) (fun i hi => ?_) (fun i hi => ?_) ?_ (hf.putd hn _) R0 h4 (hx.mono (im_keep hs' h2') (newd_put hnew) (listed_more hjF))
  · rcases List.mem_cons.1 hi with rfl | hi
    · exact List.mem_cons_self ..
    · exact List.mem_cons_of_mem _ (h1 i hi)
  · rcases List.mem_cons.1 hi with rfl | hi
    · exact .inl (List.mem_cons_self ..)
    · exact (h2 i hi).imp (List.mem_cons_of_mem _) id
  · have := unl_cons hjlt hjL
    omega
/-- late: nothing need stay, none is free any more -/
theorem DFp.al {j : Nat} (is js : List Nat) {d : Option Nat} {Sp R : List Ch} {J : List Im} {σ : Type} {v : σ → Value} {S' : σ → List Ch} {I' : σ → List Im} (hA : Ac G n m o Sp J v S' I') (hl : mem j late = true) (hi : ops[j]? = some o) (hw : wg ops m o = some true) (hd : o.dst = d) (hn : dok d n.n = true) (hS : ext (C ++ V) is = some (Sp, R)) (hJ : pick I js = some J)
    (h : ∀ x, DF G n K Q ops late [] (j :: l) [] (putm d (v x) m) (S' x ++ R) (I' x ++ I)) : DFp G n K Q ops late j [] l C m V I := by
  intro hF A a w fuel L h1 h2 hfu hjL hdep hf R0 hs hx
  obtain rfl : R0 = [] := hx
  rw [List.append_nil] at hs
  have hi' : ops.toArray[j]? = some o := by simpa using hi
  have hjlt : j < ops.length := (List.getElem?_eq_some_iff.1 hi).1
  unfold wpOp
  simp only [hi']
  rw [if_pos (wg_ok hw hf)]
  left
  have hs' := hs.perm (ext_perm hS) (fun i hi => hi)
  refine (hA A a w _ (NP Q) hf (hs'.st.left (pick_mem hJ)) fun x w' A' h2' => ?_).1
  have h3 := hs'.frame h2'
  refine ⟨WS [] (I' x ++ I), .inl (mem_iff.1 hl), SS.ws (C := []) h3, ?_⟩
  rw [lst_set, hd]
  refine h x (fun f hf => by cases hf) A' _ w' fuel (j :: L) (fun i hi => ?_) (fun i hi => ?_) ?_ (hf.putd hn _) [] (by rw [List.append_nil]; exact h3) rfl
  · rcases List.mem_cons.1 hi with rfl | hi
    · exact List.mem_cons_self ..
    · exact List.mem_cons_of_mem _ (h1 i hi)
  · rcases List.mem_cons.1 hi with rfl | hi
    · exact .inl (List.mem_cons_self ..)
    · exact (h2 i hi).imp (List.mem_cons_of_mem _) id
  · have := unl_cons hjlt hjL
    omega
theorem DFp.br {j : Nat} {d : Option Nat} {J : List Im} {σ : Type} {v : σ → Value} (hA : Ac G n m o [] J v (fun _ => []) (fun _ => [])) (hB : Bw (C ++ V) I J) (hi : ops[j]? = some o) (hw : wg ops m o = some true) (hd : o.dst = d) (hn : dok d n.n = true) (hjF : fmem j F = false) (hnew : newd F m d = true)
    (h : ∀ x, DF G n K Q ops late F (j :: l) C (putm d (v x) m) V I) : DFp G n K Q ops late j F l C m V I := by
  intro hF A a w fuel L h1 h2 hfu hjL hdep hf R0 hs hx
  have hi' : ops.toArray[j]? = some o := by simpa using hi
  have hjlt : j < ops.length := (List.getElem?_eq_some_iff.1 hi).1
  unfold wpOp
  simp only [hi']
  rw [if_pos (wg_ok hw hf)]
  left
  have hs0 : SS K A ((C ++ V) ++ R0) I w := by rw [List.append_assoc]; exact hs
  obtain ⟨A', h1', h2'⟩ := hB A w (hs0.st.left fun _ h => h)
  refine (hA A' a w _ (NP Q) hf h2' fun x w' A'' h3 => ?_).1
  have h4 := hs.grew h3
  refine ⟨WS C I, .inr fun _ h => h, h4.ws, ?_⟩
  rw [lst_set, hd]
  have hk : ∀ b, A b → w'.heap[b]? = w.heap[b]? := fun b hb => h3.fx.keep b (hs.st.lt b hb) (fun ⟨c, hc, _⟩ => by cases hc)
  refine h x (fun f hfF => (hF f hfF).mono (newd_more hnew _) (fun _ h => h) fun _ _ _ _ _ hh => hh) A _ w' fuel (j :: L) (fun i hi => ?_) (fun i hi => ?_) ?_ (hf.putd hn _) R0 h4 (hx.mono (fun g hg => g.st (fun _ h => h) hk hg) (newd_put hnew) (listed_more hjF))
  · rcases List.mem_cons.1 hi with rfl | hi
    · exact List.mem_cons_self ..
    · exact List.mem_cons_of_mem _ (h1 i hi)
  · rcases List.mem_cons.1 hi with rfl | hi
    · exact .inl (List.mem_cons_self ..)
    · exact (h2 i hi).imp (List.mem_cons_of_mem _) id
  · have := unl_cons hjlt hjL
    omega
/-- what may be said ahead of a step -/
theorem DF.pre {V' : List Ch} {I' : List Im} (hI : ∀ g ∈ I, g ∈ I') (hq : ∀ A w R, SS K A (C ++ (V ++ R)) I w → ∃ A', (∀ g : Im, g.ok A w → g.ok A' w) ∧ SS K A' (C ++ (V' ++ R)) I' w) (h : DF G n K Q ops late F l C m V' I') : DF G n K Q ops late F l C m V I := by
  intro hF A a w fuel L h1 h2 hfu hf R hs hx
  obtain ⟨A', hA, hs'⟩ := hq A w R hs
  exact wpG_weak (fun w ⟨A, h1, h2⟩ => ⟨A, h1, fun f hf => h2 f (hI f hf)⟩) (h (fun f hfF => (hF f hfF).mono (fun _ _ h => h) hI fun _ _ _ _ _ hh => hh) A' a w fuel L h1 h2 hfu hf R hs' (hx.mono hA (fun _ _ => rfl) fun _ _ => Iff.rfl))
theorem DFp.pre {j : Nat} {V' : List Ch} {I' : List Im} (hI : ∀ g ∈ I, g ∈ I') (hq : ∀ A w R, SS K A (C ++ (V ++ R)) I w → ∃ A', (∀ g : Im, g.ok A w → g.ok A' w) ∧ SS K A' (C ++ (V' ++ R)) I' w) (h : DFp G n K Q ops late j F l C m V' I') : DFp G n K Q ops late j F l C m V I := by
  intro hF A a w fuel L h1 h2 hfu hj hd hf R hs hx
  obtain ⟨A', hA, hs'⟩ := hq A w R hs
  refine wpOp_mono (fun a' w' hh => ?_) (h (fun f hfF => (hF f hfF).mono (fun _ _ h => h) hI fun _ _ _ _ _ hh => hh) A' a w fuel L h1 h2 hfu hj hd hf R hs' (hx.mono hA (fun _ _ => rfl) fun _ _ => Iff.rfl))
  obtain ⟨S', hS, h4⟩ := hh
  exact ⟨S', hS.imp id fun hw w0 hw0 => by obtain ⟨A0, q1, q2⟩ := hw w0 hw0; exact ⟨A0, q1, fun q hq => q2 q (hI q hq)⟩, h4⟩
theorem pre_know (J : List Im) (hq : ∀ A w, (∀ c ∈ C, c.ok A w) → (∀ f ∈ I, f.ok A w) → ∀ f ∈ J, f.ok A w) : ∀ A w R, SS K A (C ++ (V ++ R)) I w → ∃ A', (∀ g : Im, g.ok A w → g.ok A' w) ∧ SS K A' (C ++ (V ++ R)) (J ++ I) w :=
  fun A w R hs => ⟨A, fun _ h => h, hs.know (hq A w (fun c hc => hs.st.ch c (List.mem_append_left _ hc)) hs.st.im)⟩
theorem pre_frz {α : Type} {ty : Ty α} {xs : List α} {a0 : Option Addr} {c T0 p : Nat} {R : List Ch} (hS : ext V [p] = some ([Ch.arr ty T0 a0 c xs], R)) : ∀ A w R0, SS K A (C ++ (V ++ R0)) I w → ∃ A', (∀ g : Im, g.ok A w → g.ok A' w) ∧ SS K A' (C ++ (R ++ R0)) (Im.sl ty a0 c xs :: I) w := by
  intro A w R0 hs
  have hp : (Ch.arr ty T0 a0 c xs :: (C ++ (R ++ R0))).Perm (C ++ (V ++ R0)) := by
    have h1 : ([Ch.arr ty T0 a0 c xs] ++ R).Perm V := ext_perm hS
    refine (List.perm_middle (l₁ := C) (l₂ := R ++ R0)).symm.trans (List.Perm.append_left C ?_)
    exact h1.append_right R0
  exact ⟨_, fun g hg => g.st (fun _ h => .inl h) (fun _ _ => rfl) hg, (hs.perm hp fun _ h => h).frz arr_frz⟩
theorem pre_nil0 {α : Type} (ty : Ty α) (T0 : Nat) : ∀ A w R0, SS K A (C ++ (V ++ R0)) I w → ∃ A', (∀ g : Im, g.ok A w → g.ok A' w) ∧ SS K A' (C ++ ((Ch.arr ty T0 none 0 [] :: V) ++ R0)) I w :=
  fun A w R0 hs => ⟨A, fun _ h => h, (hs.nil0 (ty := ty) (T0 := T0)).perm List.perm_middle fun _ h => h⟩
theorem DF.know (J : List Im) (hq : ∀ A w, (∀ c ∈ C, c.ok A w) → (∀ f ∈ I, f.ok A w) → ∀ f ∈ J, f.ok A w) (h : DF G n K Q ops late F l C m V (J ++ I)) : DF G n K Q ops late F l C m V I := DF.pre (fun g hg => List.mem_append_right _ hg) (pre_know J hq) h
theorem DF.frz {α : Type} {ty : Ty α} {xs : List α} {a0 : Option Addr} {c T0 : Nat} (p : Nat) {R : List Ch} (hS : ext V [p] = some ([Ch.arr ty T0 a0 c xs], R)) (h : DF G n K Q ops late F l C m R (Im.sl ty a0 c xs :: I)) : DF G n K Q ops late F l C m V I := DF.pre (fun g hg => List.mem_cons_of_mem _ hg) (pre_frz hS) h
theorem DF.nil0 {α : Type} (ty : Ty α) (T0 : Nat) (h : DF G n K Q ops late F l C m (Ch.arr ty T0 none 0 [] :: V) I) : DF G n K Q ops late F l C m V I := DF.pre (fun _ h => h) (pre_nil0 ty T0) h
theorem DFp.know {j : Nat} (J : List Im) (hq : ∀ A w, (∀ c ∈ C, c.ok A w) → (∀ f ∈ I, f.ok A w) → ∀ f ∈ J, f.ok A w) (h : DFp G n K Q ops late j F l C m V (J ++ I)) : DFp G n K Q ops late j F l C m V I := DFp.pre (fun g hg => List.mem_append_right _ hg) (pre_know J hq) h
theorem DFp.frz {j : Nat} {α : Type} {ty : Ty α} {xs : List α} {a0 : Option Addr} {c T0 : Nat} (p : Nat) {R : List Ch} (hS : ext V [p] = some ([Ch.arr ty T0 a0 c xs], R)) (h : DFp G n K Q ops late j F l C m R (Im.sl ty a0 c xs :: I)) : DFp G n K Q ops late j F l C m V I := DFp.pre (fun g hg => List.mem_cons_of_mem _ hg) (pre_frz hS) h
theorem DFp.nil0 {j : Nat} {α : Type} (ty : Ty α) (T0 : Nat) (h : DFp G n K Q ops late j F l C m (Ch.arr ty T0 none 0 [] :: V) I) : DFp G n K Q ops late j F l C m V I := DFp.pre (fun _ h => h) (pre_nil0 ty T0) h
theorem Ac.frz {Sp : List Ch} {J : List Im} {σ α : Type} {v : σ → Value} {S' : σ → List Ch} {I' : σ → List Im} {ty : Ty α} {T : Nat} {a0 : σ → Option Addr} {c : σ → Nat} {xs : σ → List α} (hA : Ac G n m o Sp J v (fun x => Ch.arr ty T (a0 x) (c x) (xs x) :: S' x) I') : Ac G n m o Sp J v S' (fun x => Im.sl ty (a0 x) (c x) (xs x) :: I' x) :=
  fun A a w Kc Q hf hs hk => hA A a w Kc Q hf hs fun x w' A' h2 => hk x w' _ (h2.frz arr_frz)
end
/-! ### shifts by what is not written down -/
def shk (y : Int) : Bool := decide (0 ≤ y)
section
variable {G : Pg} {n : Nd} {m : Env} {S : List Ch} {I : List Im} {o : Oper}
theorem Yl.shl {t t2 nb : Nat} {x y : Operand} {k k' : IntKind} {a b : Int} {u : Unit} (hb : k.bits = nb) (h : chk (shk b) = some u) (ho : o.op = .binOp .shl t x y t2) (hx : ev m x = some (.int k a)) (hy : ev m y = some (.int k' b)) : Yl G n m S I o (.int k (k.wrap (a * 2 ^ (min b.toNat nb)))) := fun A ac w hf _ _ => by
  have h0 : 0 ≤ b := chk_some h
  have hg : (eqGuard .shl t x y (.int k a) (.int k' b)).run G.P w = .ok () w := by unfold eqGuard; rfl
  have hr : (binOp .shl t (.int k a) (.int k' b)).run G.P w = .ok (.int k (k.wrap (a * 2 ^ (min b.toNat nb)))) w := by
    subst hb
    simp only [binOp, Op.shift]
    rw [if_neg (by omega)]
    rfl
  simp only [execOp, ho, hf.ev hx, hf.ev hy, Sem.run_bind, hg, Result.andThen_ok, hr, Sem.run_pure]
theorem Yl.shr {t t2 nb : Nat} {x y : Operand} {k k' : IntKind} {a b : Int} {u : Unit} (hb : k.bits = nb) (h : chk (shk b) = some u) (ho : o.op = .binOp .shr t x y t2) (hx : ev m x = some (.int k a)) (hy : ev m y = some (.int k' b)) : Yl G n m S I o (.int k (a.fdiv (2 ^ (min b.toNat nb)))) := fun A ac w hf _ _ => by
  have h0 : 0 ≤ b := chk_some h
  have hg : (eqGuard .shr t x y (.int k a) (.int k' b)).run G.P w = .ok () w := by unfold eqGuard; rfl
  have hr : (binOp .shr t (.int k a) (.int k' b)).run G.P w = .ok (.int k (a.fdiv (2 ^ (min b.toNat nb)))) w := by
    subst hb
    simp only [binOp, Op.shift]
    rw [if_neg (by omega)]
    rfl
  simp only [execOp, ho, hf.ev hx, hf.ev hy, Sem.run_bind, hg, Result.andThen_ok, hr, Sem.run_pure]
end
end Go.Tw

set_option linter.unusedVariables false
set_option linter.unusedSimpArgs false
namespace Go.Tw
open Go
/-! ### arrays of whole numbers, by an index that is not written down -/
def sel (i : Int) (j : Nat) (v e : Int) : Int := if i.toNat = j then v else e
def selV (i : Int) (v : Int) : Nat → List Value → List Value
  | j, .int k e :: r => .int k (sel i j v e) :: selV i v (j + 1) r
  | _, _ => []
def ints (k : IntKind) (xs : List Int) : List Value := xs.map (Value.int k)
theorem selV_ints (i v : Int) (k : IntKind) : ∀ (xs : List Int) (j : Nat), selV i v j (ints k xs) = (ints k xs).mapIdx fun q c => if i.toNat = j + q then .int k v else c
  | [], j => rfl
  | x :: xs, j => by
    have ih := selV_ints i v k xs (j + 1)
    show Value.int k (sel i j v x) :: selV i v (j + 1) (ints k xs) = _
    rw [ih]
    show _ = (Value.int k x :: ints k xs).mapIdx _
    rw [List.mapIdx_cons]
    congr 1
    · unfold sel
      rw [Nat.add_zero]
      split <;> rfl
    · congr 1
      funext q c
      have : j + 1 + q = j + (q + 1) := by omega
      rw [this]
theorem selV_set (i v : Int) (k : IntKind) (xs : List Int) : selV i v 0 (ints k xs) = (ints k xs).set i.toNat (.int k v) := by
  rw [selV_ints]
  apply List.ext_getElem?
  intro q
  rw [List.getElem?_mapIdx, List.getElem?_set]
  by_cases h : i.toNat = q
  · subst h
    cases hg : (ints k xs)[i.toNat]? with
    | none =>
      have := List.getElem?_eq_none_iff.1 hg
      simp
      omega
    | some c =>
      have := (List.getElem?_eq_some_iff.1 hg).1
      simp [this]
  · rw [if_neg h]
    cases hg : (ints k xs)[q]? with
    | none => rfl
    | some c => simp [h]
section
variable {G : Pg} {n : Nd} {m : Env} {S : List Ch} {I : List Im} {o : Oper}
theorem Yl.xa {t e N : Nat} {x ix : Operand} {k k2 : IntKind} {i r : Int} {cs : Array Value} {ti te : TI} {xs : List Int} (hi : idx xs i = some r) (ho : o.op = .index t x ix) (hx : ev m x = some (.agg cs)) (hcs : cs.toList = ints k xs) (hix : ev m ix = some (.int k2 i)) (ht : tlook G.τ t = some ti) (hk : ti.k = .array N e) (hN : xs.length = N) (he : tlook G.τ e = some te) (hsz : (Nat.beq te.size 1 && !te.agg) = true) : Yl G n m S I o (.int k r) := fun A ac w hf _ _ => by
  obtain ⟨d, f, z, hd, hfi, hkk, _⟩ := G.ok.info ht
  rw [hk] at hkk
  cases hkk
  simp only [Bool.and_eq_true, Bool.not_eq_true'] at hsz
  have hs1 := Nat.eq_of_beq_eq_true hsz.1
  obtain ⟨h0, h1⟩ := idx_some hi
  have h2 := (List.getElem?_eq_some_iff.1 h1).1
  have hp : (part e cs (i.toNat * te.size)).run G.P w = .ok (.int k r) w := by
    refine run_part G.ok ?_ w
    unfold cutv
    rw [he]
    dsimp only
    rw [hsz.2, hs1, Nat.mul_one, hcs]
    show (xs.map (Value.int k))[i.toNat]? = _
    rw [List.getElem?_map, h1]
    rfl
  have hr : (Instr.index t (.agg cs) (.int k2 i)).run G.P w = .ok (.int k r) w := by
    simp only [Instr.index, asIntOf, Sem.run_bind, Sem.run_pure, Result.andThen_ok, run_underlying hd]
    rw [if_pos ⟨h0, by omega⟩]
    simp only [Sem.run_bind, run_sizeOf G.ok he, Result.andThen_ok, hp]
  simp only [execOp, ho, hf.ev hx, hf.ev hix, Sem.run_bind, hr, Result.andThen_ok, Sem.run_pure]
/-- within an array? -/
def ainb (i : Int) (N : Nat) : Bool := decide (0 ≤ i ∧ i < N)
theorem Yl.xp {t e N g off : Nat} {x ix : Operand} {k2 : IntKind} {i : Int} {ti te : TI} {u : Unit} (hb : chk (ainb i N) = some u) (ho : o.op = .indexAddr t x ix) (hx : ev m x = some (.pointer (some ⟨g, off, none⟩))) (hix : ev m ix = some (.int k2 i)) (ht : tlook G.τ t = some ti) (hk : ti.k = .array N e) (he : tlook G.τ e = some te) (hsz : Nat.beq te.size 1 = true) : Yl G n m S I o (.pointer (some ⟨g, off + i.toNat, none⟩)) := fun A ac w hf _ _ => by
  obtain ⟨d, f, z, hd, hfi, hkk, _⟩ := G.ok.info ht
  rw [hk] at hkk
  cases hkk
  have hs1 := Nat.eq_of_beq_eq_true hsz
  have h0 : 0 ≤ i ∧ i < N := chk_some hb
  have hr : (Instr.indexAt t (.pointer (some ⟨g, off, none⟩)) (.int k2 i)).run G.P w = .ok (.pointer (some ⟨g, off + i.toNat, none⟩)) w := by
    simp only [Instr.indexAt, asIntOf, Instr.sureAddr, Sem.run_bind, Sem.run_pure, Result.andThen_ok, run_underlying hd]
    rw [if_pos h0]
    simp only [Sem.run_bind, run_sizeOf G.ok he, Result.andThen_ok, Sem.run_pure, add_lit, hs1, Nat.mul_one]
  simp only [execOp, ho, hf.ev hx, hf.ev hix, Sem.run_bind, hr, Result.andThen_ok, Sem.run_pure]
theorem Yl.xl (j : Nat) {t g off T : Nat} {x : Operand} {k : IntKind} {i r : Int} {cs : List Value} {ti : TI} {xs : List Int} (hi : idx xs i = some r) (ho : o.op = .load t x) (hx : ev m x = some (.pointer (some ⟨g, off + i.toNat, none⟩))) (hS : S[j]? = some (Ch.box g T cs)) (hcs : (cs.drop off).take xs.length = ints k xs) (ht : tlook G.τ t = some ti) (ha : ti.agg = false) : Yl G n m S I o (.int k r) := fun A ac w hf hs _ => by
  have hb : w.heap[g]? = some (.cells cs.toArray T (0, 0)) := hs _ (List.mem_of_getElem? hS)
  obtain ⟨h0, h1⟩ := idx_some hi
  have h2 := (List.getElem?_eq_some_iff.1 h1).1
  have h3 : (cs.drop (off + i.toNat))[0]? = some (.int k r) := by
    have h4 : ((cs.drop off).take xs.length)[i.toNat]? = some (.int k r) := by
      rw [hcs]
      show (xs.map (Value.int k))[i.toNat]? = _
      rw [List.getElem?_map, h1]
      rfl
    rw [List.getElem?_take_of_lt h2, List.getElem?_drop] at h4
    rw [List.getElem?_drop]
    exact h4
  have hv : loadv G.τ t (cs.drop (off + i.toNat)) 0 = some (.int k r) := by
    unfold loadv
    rw [ht]
    dsimp only
    rw [ha]
    exact h3
  simp only [execOp, ho, hf.ev hx, Instr.loadAt, Instr.sureAddr, Sem.run_bind, Sem.run_pure, Result.andThen_ok]
  rw [run_loadVar G.ok hv (fun j u hu => by rw [cell_box hb]; simpa using hu)]
  rfl
theorem Ac.sx {t g off N T : Nat} {x y : Operand} {k : IntKind} {i v : Int} {cs cs' : List Value} {ti : TI} {u : Unit} (hbd : chk (ainb i N) = some u) (xs : List Int) (hN : xs.length = N) (ho : o.op = .store t x y) (hx : ev m x = some (.pointer (some ⟨g, off + i.toNat, none⟩))) (hy : ev m y = some (.int k v)) (hcs : (cs.drop off).take N = ints k xs) (ht : tlook G.τ t = some ti) (hsz : Nat.beq ti.size 1 = true) (hr0 : cs.take off ++ selV i v 0 ((cs.drop off).take N) ++ cs.drop (off + N) = cs') :
    Ac G n m o [Ch.box g T cs] [] (fun _ : Unit => undef) (fun _ => [Ch.box g T cs']) (fun _ => []) := by
  have hs1 := Nat.eq_of_beq_eq_true hsz
  have h0 : 0 ≤ i ∧ i < N := chk_some hbd
  have hlen : N ≤ (cs.drop off).length := by
    have h4 : ((cs.drop off).take N).length = N := by
      rw [hcs]
      show (xs.map (Value.int k)).length = N
      rw [List.length_map, hN]
    rw [List.length_take] at h4
    omega
  have hlen2 : off + N ≤ cs.length := by rw [List.length_drop] at hlen; omega
  have hset : cs' = cs.take (off + i.toNat) ++ [.int k v] ++ cs.drop (off + i.toNat + 1) := by
    rw [← hr0, hcs, selV_set, ← hcs]
    have h5 : cs = cs.take off ++ ((cs.drop off).take N) ++ cs.drop (off + N) := by
      rw [List.append_assoc, ← List.drop_drop, List.take_append_drop, List.take_append_drop]
    have h6 : cs.take off ++ ((cs.drop off).take N).set i.toNat (.int k v) ++ cs.drop (off + N) = cs.set (off + i.toNat) (.int k v) := by
      conv => rhs; rw [h5]
      have e1 : (cs.take off).length = off := by rw [List.length_take]; omega
      have e2 : ((cs.drop off).take N).length = N := by rw [List.length_take]; omega
      rw [List.set_append_left _ _ (by rw [List.length_append, e1, e2]; omega), List.set_append_right _ _ (by rw [e1]; omega), e1]
      congr 3
      omega
    rw [h6, List.set_eq_take_append_cons_drop, if_pos (by omega)]
    simp
  subst hset
  refine Ac.run (v := fun _ => none) fun A a w hf hs => ?_
  have hb : w.heap[g]? = some (.cells cs.toArray T (0, 0)) := hs.ch _ (List.mem_singleton.2 rfl)
  have hr := run_storeVar G.ok (P := G.P) (o := off + i.toNat) (v := .int k v) ht (by rw [hs1]; rfl) rfl hb (by show off + i.toNat + 1 ≤ cs.length; omega)
  have hk : w.grownBy (w.setRow g (cs.take (off + i.toNat) ++ [Value.int k v] ++ cs.drop (off + i.toNat + 1)).toArray) (some g) := ⟨rfl, rfl, rfl, by rw [setRow_size]; exact Nat.le_refl _, fun k _ hk => setRow_other _ _ _ _ (fun e => hk (by rw [e]))⟩
  refine ⟨(), w.setRow g (cs.take (off + i.toNat) ++ [Value.int k v] ++ cs.drop (off + i.toNat + 1)).toArray, A, ?_, SS.grown hs hk (fun b e => (Option.some.inj e).symm) (fun b hb2 => ⟨.inl hb2, ?_⟩) (setRow_heap w g _ _ T (0, 0) hb)⟩
  · have hvc : vc (.int k v) = [.int k v] := rfl
    rw [hvc] at hr
    simp only [execOp, ho, hf.ev hx, hf.ev hy, Instr.storeAt, Instr.sureAddr, Sem.run_bind, Sem.run_pure, Result.andThen_ok, hr, nx]
    rfl
  · rw [setRow_size]
    obtain rfl : b = g := hb2
    exact (Array.getElem?_eq_some_iff.1 hb).1
/-- an element's address, of a package's table -/
theorem Yl.xg {t e g N : Nat} {x ix : Operand} {k : IntKind} {i : Int} {α : Type} {x0 : α} {xs : List α} {ti te : TI} (hi : idx xs i = some x0) (hN : xs.length = N) (ho : o.op = .indexAddr t x ix) (hx : ev m x = some (.pointer (some ⟨g, 0, none⟩))) (hix : ev m ix = some (.int k i)) (ht : tlook G.τ t = some ti) (hk : ti.k = .array N e) (he : tlook G.τ e = some te) : Yl G n m S I o (.pointer (some ⟨g, 0 + i.toNat * te.size, none⟩)) := fun A ac w hf _ _ => by
  obtain ⟨h0, h1⟩ := idx_some hi
  have h2 := (List.getElem?_eq_some_iff.1 h1).1
  obtain ⟨d, f, z, hd, hfi, hkk, _⟩ := G.ok.info ht
  rw [hk] at hkk
  cases hkk
  have hr : (Instr.indexAt t (.pointer (some ⟨g, 0, none⟩)) (.int k i)).run G.P w = .ok (.pointer (some ⟨g, 0 + i.toNat * te.size, none⟩)) w := by
    simp only [Instr.indexAt, asIntOf, Instr.sureAddr, Sem.run_bind, Sem.run_pure, Result.andThen_ok, run_underlying hd]
    rw [if_pos ⟨h0, by omega⟩]
    simp only [Sem.run_bind, run_sizeOf G.ok he, Result.andThen_ok, Sem.run_pure, add_lit]
  simp only [execOp, ho, hf.ev hx, hf.ev hix, Sem.run_bind, hr, Result.andThen_ok, Sem.run_pure]
/-- all bits turned -/
theorem Yl.com {t : Nat} {x : Operand} {k : IntKind} {a c : Int} (hc : (if k.signed then -1 else k.max) = c) (ho : o.op = .unOp .xor t x) (hx : ev m x = some (.int k a)) : Yl G n m S I o (.int k (Go.bits .xor k c a)) := fun A ac w hf _ _ => by
  subst hc
  simp only [execOp, ho, hf.ev hx, Op.unary, intBits_xor, Sem.run_bind, Sem.run_pure, Result.andThen_ok]
end
end Go.Tw

set_option linter.unusedVariables false
set_option linter.unusedSimpArgs false
namespace Go.Tw
open Go Go.Deep

/-! ### what comes in -/
def Im.okW (w : World) (f : Im) : Prop := f.ok (fun b => b < w.heap.size) w
/-- whatever reads as data of type t is a value of ty -/
def Opn {α : Type} (P : Program) (t : TypeId) (ty : Ty α) (wf : α → Prop) : Prop :=
  ∀ {H : Type} (enc : TypeId × Value → H) (w : World) (sp : Nat → Bool) (hd : Bool) (fuel : Nat) (cs : List Value) (x : DataW H × List MemPlace), DataW.trod enc P w 0 sp hd fuel t cs = some x → ∃ y h, cs = ty.cs y h ∧ wf y ∧ ∀ f ∈ ty.im y h, f.okW w
variable {P : Program} {α β : Type}
theorem Opn.int {t : TypeId} {k : IntKind} (ht : P.underlying t = some (.int k)) : Opn P t (Ty.int k) (inK k) := by
  intro H enc w sp hd fuel cs x h
  obtain ⟨n, rfl, _, hw⟩ := DataW.trod_int ht h
  simp only [Lit.wf, Bool.and_eq_true, decide_eq_true_eq] at hw
  exact ⟨n, (), rfl, hw, fun f hf => by cases hf⟩
theorem Opn.bool {t : TypeId} (ht : P.underlying t = some .bool) : Opn P t Ty.bool (fun _ => True) := by
  intro H enc w sp hd fuel cs x h
  obtain ⟨b, rfl, _⟩ := DataW.trod_bool ht h
  exact ⟨b, (), rfl, trivial, fun f hf => by cases hf⟩
theorem Opn.str {t : TypeId} (ht : P.underlying t = some .string) : Opn P t Ty.str (fun s => s.size ≤ maxLen) := by
  intro H enc w sp hd fuel cs x h
  obtain ⟨s, rfl, _, hs⟩ := DataW.trod_string ht h
  exact ⟨s, (), rfl, hs, fun f hf => by cases hf⟩
theorem els_of {ty : Ty α} {wf : α → Prop} {A : Blks} {w : World} {a : Addr} : ∀ n : Nat, (∀ i, i < n → ∃ y h, (∀ j u, (ty.cs y h)[j]? = some u → w.cell? (a.add (i * ty.sz + j)) = some u) ∧ wf y ∧ ∀ f ∈ ty.im y h, f.ok A w) →
    ∃ xs cs, xs.length = n ∧ Els ty A w xs cs ∧ (∀ j u, cs[j]? = some u → w.cell? (a.add j) = some u) ∧ ∀ x ∈ xs, wf x
  | 0, _ => ⟨[], [], rfl, .nil, by simp, by simp⟩
  | n + 1, h => by
    obtain ⟨xs, cs, hl, he, hc, hw⟩ := els_of n fun i hi => h i (Nat.lt_succ_of_lt hi)
    obtain ⟨y, hd, h1, h2, h3⟩ := h n (Nat.lt_succ_self n)
    refine ⟨xs ++ [y], cs ++ (ty.cs y hd ++ []), by simp [hl], he.app (.cons hd h3 .nil), ?_, ?_⟩
    · intro j u hu
      rw [List.append_nil] at hu
      have hlen := he.len
      rw [hl] at hlen
      by_cases hj : j < cs.length
      · rw [List.getElem?_append_left hj] at hu
        exact hc j u hu
      · rw [List.getElem?_append_right (by omega)] at hu
        have := h1 (j - cs.length) u hu
        rw [hlen] at this hj
        rwa [show n * ty.sz + (j - n * ty.sz) = j by omega] at this
    · intro x hx
      rcases List.mem_append.1 hx with hx | hx
      · exact hw x hx
      · rw [List.mem_singleton.1 hx]; exact h2
theorem Opn.slice {t e : TypeId} {ty : Ty α} {wf : α → Prop} (ht : P.underlying t = some (.slice e)) (he : Opn P e ty wf) (hsz : P.cellsOf e = ty.sz) (hpos : 0 < ty.sz) : Opn P t (Ty.slice ty) (fun xs => ∀ x ∈ xs, wf x) := by
  intro H enc w sp hd fuel cs x h
  rcases open_slice ht h with ⟨rfl, _⟩ | ⟨a, len, cap, m, n, D, Pl, rfl, hb, hl, hm, hmm, _, hx⟩
  · exact ⟨[], (none, 0), rfl, by simp, fun f hf => by rw [List.mem_singleton.1 hf]; exact Im.sl_nil _ _⟩
  · have hlm : len ≤ m := by rw [hmm]; split <;> omega
    obtain ⟨xs, cs, h1, h2, h3, h4⟩ := els_of (ty := ty) (wf := wf) (A := fun b => b < w.heap.size) (w := w) (a := a) len fun i hi => by
      obtain ⟨cs', h5, h6⟩ := hx i (Nat.lt_of_lt_of_le hi hlm)
      obtain ⟨y, hh, rfl, hw, hf⟩ := he enc w sp hd n cs' _ h6
      refine ⟨y, hh, fun j u hu => ?_, hw, hf⟩
      obtain ⟨_, hlen, hc⟩ := World.cells?_some h5
      have hj : j < P.cellsOf e := by rw [← hlen]; exact (List.getElem?_eq_some_iff.1 hu).1
      rw [← hsz, ← add_add, hc j hj]
      exact hu
    refine ⟨xs, (some a, cap), by rw [← h1]; rfl, h4, fun f hf => ?_⟩
    rw [List.mem_singleton.1 hf]
    refine ⟨by rw [h1]; exact hl, ?_⟩
    cases hxs : xs with
    | nil => exact .inl rfl
    | cons x0 xr =>
      right
      have hcl := h2.len
      have hpos2 : 0 < cs.length := by
        rw [hcl, hxs, List.length_cons]
        exact Nat.mul_pos (Nat.succ_pos _) hpos
      have hc0 := h3 0 cs[0] (by simp [hpos2])
      have ha0 : a.add 0 = a := by simp [Addr.add]
      rw [ha0] at hc0
      have hsp : a.spot = none ∧ a.block < w.heap.size := by
        unfold World.cell? at hc0
        split at hc0
        · rename_i hh
          have hlt := (Array.getElem?_eq_some_iff.1 hh).1
          split at hc0
          · cases hc0
          · rename_i hs
            refine ⟨?_, hlt⟩
            cases hsp : a.spot with
            | none => rfl
            | some _ => rw [hsp] at hs; simp at hs
        · cases hc0
      obtain ⟨b, o, s⟩ := a
      obtain ⟨rfl, hlt⟩ := hsp
      refine ⟨b, o, cs, rfl, hlt, by rw [← hxs]; exact h2, fun j u hu => ?_⟩
      have := h3 j u hu
      rwa [add_lit] at this
/-- fields, one behind the other from cell o on -/
inductive OpnF (P : Program) : Nat → List (Nat × Nat) → {α : Type} → Ty α → (α → Prop) → Prop where
  | nil {o} : OpnF P o [] (⟨0, Unit, fun _ _ => [], fun _ _ => [], fun _ _ => rfl, by simp⟩ : Ty Unit) (fun _ => True)
  | cons {α β : Type} {o t r} {ta : Ty α} {tb : Ty β} {wa : α → Prop} {wb : β → Prop} (ha : Opn P t ta wa) (hsz : P.cellsOf t = ta.sz) (hr : OpnF P (o + ta.sz) r tb wb) : OpnF P o ((t, o) :: r) (Ty.pair ta tb) (fun y => wa y.1 ∧ wb y.2)
theorem OpnF.open {H : Type} {enc : TypeId × Value → H} {w : World} {sp : Nat → Bool} {hd : Bool} {n : Nat} {cs : List Value} {o : Nat} {fs : List (Nat × Nat)} {ty : Ty α} {wf : α → Prop} (h : OpnF P o fs ty wf) (hc : cs.length = o + ty.sz) (hx : ∀ f ∈ fs, ∃ x, DataW.trod enc P w 0 sp hd n f.1 ((cs.drop f.2).take (P.cellsOf f.1)) = some x) : ∃ y h, cs.drop o = ty.cs y h ∧ wf y ∧ ∀ f ∈ ty.im y h, f.okW w := by
  induction h with
  | nil => exact ⟨(), (), List.drop_of_length_le (Nat.le_of_eq hc), trivial, fun f hf => by cases hf⟩
  | @cons α β o t r ta tb wa wb ha hsz hr ih =>
    obtain ⟨x, hx0⟩ := hx (t, o) (by simp)
    obtain ⟨y, hy, e, hw, hf⟩ := ha enc w sp hd n _ x hx0
    have hc' : cs.length = o + ta.sz + tb.sz := by rw [hc]; show o + (ta.sz + tb.sz) = _; omega
    obtain ⟨z, hz, e2, hw2, hf2⟩ := ih hc' fun f hf => hx f (by simp [hf])
    refine ⟨(y, z), (hy, hz), ?_, ⟨hw, hw2⟩, fun f hf' => ?_⟩
    · show _ = ta.cs y hy ++ tb.cs z hz
      rw [← e, ← e2, hsz, ← List.drop_drop]
      exact (List.take_append_drop _ _).symm
    · rcases List.mem_append.1 hf' with h | h
      · exact hf f h
      · exact hf2 f h
def structb (P : Program) (t : TypeId) (fs : List (Nat × Nat)) : Bool := match P.underlying t with
  | some (.struct a) => fsb fs a.toList
  | _ => false
theorem structb_ok {t : TypeId} {fs : List (Nat × Nat)} (h : structb P t fs = true) : ∃ fa, P.underlying t = some (.struct fa) ∧ fsb fs fa.toList = true := by
  unfold structb at h
  split at h
  · rename_i a ha; exact ⟨a, ha, h⟩
  · cases h
theorem Opn.struct {t : TypeId} {fs : List (Nat × Nat)} {ty : Ty α} {wf : α → Prop} (hst : structb P t fs = true) (hsz : P.cellsOf t = ty.sz) (h : OpnF P 0 fs ty wf) : Opn P t ty wf := by
  obtain ⟨fa, ht, hfs⟩ := structb_ok hst
  intro H enc w sp hd fuel cs x hx
  obtain ⟨xs, n, rfl, _, hlen, hxl, hfx⟩ := DataW.trod_struct ht hx
  have he := fsb_eq hfs
  obtain ⟨y, hh, e, hw, hf⟩ := h.open (enc := enc) (w := w) (sp := sp) (hd := hd) (n := n) (cs := cs) (by rw [hlen, hsz, Nat.zero_add]) fun f hf => by
    rw [← he] at hf
    obtain ⟨f0, hf0, rfl⟩ := List.mem_map.1 hf
    obtain ⟨i, hi⟩ := List.getElem?_of_mem hf0
    have hi' : fa[i]? = some f0 := by simpa using hi
    have h1 := hfx i f0 hi'
    have hlt : i < xs.length := by rw [hxl]; exact (Array.getElem?_eq_some_iff.1 hi').1
    exact ⟨xs[i], by rw [h1]; simp [hlt]⟩
  exact ⟨y, hh, e, hw, hf⟩
/-- the same cells, another name -/
theorem Opn.to {t : TypeId} {ty : Ty α} {ty' : Ty β} {wf : α → Prop} {wf' : β → Prop} (g : α → β) (gh : ty.Hid → ty'.Hid) (h : Opn P t ty wf) (h1 : ∀ y hh, ty'.cs (g y) (gh hh) = ty.cs y hh) (h2 : ∀ y hh, ty'.im (g y) (gh hh) = ty.im y hh) (h3 : ∀ y, wf y → wf' (g y)) : Opn P t ty' wf' := by
  intro H enc w sp hd fuel cs x hx
  obtain ⟨y, hh, e, hw, hf⟩ := h enc w sp hd fuel cs x hx
  exact ⟨g y, gh hh, by rw [h1]; exact e, h3 y hw, by rw [h2]; exact hf⟩

/-! ### tables -/
/-- data's cells -/
def unlay {H : Type} : Nat → DataW H → List Value
  | _, .lit (.int k n) => [.int k n]
  | _, .lit (.bool b) => [.bool b]
  | d + 1, .agg l => l.flatMap (unlay d)
  | _, _ => []
def flatF (P : Program) (f : TypeId → Bool) : Nat → List (Nat × Nat) → Nat → Bool
  | o, [], m => Nat.beq o m
  | o, (t, o') :: r, m => Nat.beq o o' && f t && flatF P f (o + P.cellsOf t) r m
/-- whole numbers and bools, one behind the other -/
def flatb (P : Program) : Nat → TypeId → Bool
  | 0, _ => false
  | d + 1, t => match P.underlying t with
    | some (.int _) => true
    | some .bool => true
    | some (.struct fa) => flatF P (flatb P d) 0 (fa.toList.map fun f => (f.type, f.offset)) (P.cellsOf t)
    | some (.array n e) => Nat.beq (P.cellsOf t) (n * P.cellsOf e) && flatb P d e
    | _ => false
theorem rows_eq {γ : Type} {sz : Nat} {f : Nat → List γ} : ∀ {n : Nat} {cs : List γ}, cs.length = n * sz → (∀ i, i < n → (cs.drop (i * sz)).take sz = f i) → cs = (List.range n).flatMap f
  | 0, cs, hl, _ => by
    have : cs = [] := List.eq_nil_of_length_eq_zero (by simpa using hl)
    simp [this]
  | n + 1, cs, hl, h => by
    have h1 := rows_eq (sz := sz) (n := n) (cs := cs.take (n * sz)) (f := f) (by rw [List.length_take, hl, Nat.succ_mul]; omega) fun i hi => by
      rw [← h i (Nat.lt_succ_of_lt hi)]
      have hle : (i + 1) * sz ≤ n * sz := Nat.mul_le_mul_right sz hi
      rw [Nat.succ_mul] at hle
      rw [List.drop_take, List.take_take]
      congr 1
      omega
    have h2 := h n (Nat.lt_succ_self n)
    rw [List.range_succ, List.flatMap_append, ← h1]
    have h3 : (cs.drop (n * sz)).take sz = cs.drop (n * sz) := List.take_of_length_le (by rw [List.length_drop, hl, Nat.succ_mul]; omega)
    rw [h3] at h2
    simp only [List.flatMap_cons, List.flatMap_nil, List.append_nil, ← h2]
    exact (List.take_append_drop _ _).symm
theorem flatF_cells {H : Type} {enc : TypeId × Value → H} {w : World} {sp : Nat → Bool} {hd : Bool} {f : TypeId → Bool} {g : DataW H → List Value} (hf : ∀ t, f t = true → ∀ {fuel : Nat} {cs : List Value} {x : DataW H × List MemPlace}, DataW.trod enc P w 0 sp hd fuel t cs = some x → cs = g x.1) : ∀ {fs : List (Nat × Nat)} {o m : Nat}, flatF P f o fs m = true → ∀ {n : Nat} {cs : List Value} {xs : List (DataW H × List MemPlace)}, cs.length = m → (∀ (i : Nat) (f : Nat × Nat), fs[i]? = some f → DataW.trod enc P w 0 sp hd n f.1 ((cs.drop f.2).take (P.cellsOf f.1)) = xs[i]?) → xs.length = fs.length → cs.drop o = xs.flatMap fun x => g x.1
  | [], o, m, hb, n, cs, xs, hl, _, hx => by
    have : xs = [] := List.eq_nil_of_length_eq_zero hx
    subst this
    have := Nat.eq_of_beq_eq_true hb
    exact List.drop_of_length_le (by omega)
  | (t, o') :: r, o, m, hb, n, cs, xs, hl, h, hx => by
    simp only [flatF, Bool.and_eq_true] at hb
    obtain rfl := Nat.eq_of_beq_eq_true hb.1.1
    cases xs with
    | nil => simp at hx
    | cons x xs =>
      have h0 := h 0 (t, o) rfl
      have e0 := hf t hb.1.2 h0
      have e1 := flatF_cells hf hb.2 (n := n) (cs := cs) (xs := xs) hl (fun i f hi => h (i + 1) f hi) (by simpa using hx)
      rw [List.flatMap_cons, ← e0, ← e1, ← List.drop_drop]
      exact (List.take_append_drop _ _).symm
theorem flat_cells {H : Type} {enc : TypeId × Value → H} {w : World} {sp : Nat → Bool} {hd : Bool} : ∀ {d : Nat} {t : TypeId}, flatb P d t = true → ∀ {fuel : Nat} {cs : List Value} {x : DataW H × List MemPlace}, DataW.trod enc P w 0 sp hd fuel t cs = some x → cs = unlay d x.1
  | 0, t, hb, fuel, cs, x, h => by cases hb
  | d + 1, t, hb, fuel, cs, x, h => by
    unfold flatb at hb
    split at hb
    · rename_i ht
      obtain ⟨n, rfl, rfl, _⟩ := DataW.trod_int ht h
      rfl
    · rename_i ht
      obtain ⟨b, rfl, rfl⟩ := DataW.trod_bool ht h
      rfl
    · rename_i fa ht
      obtain ⟨xs, n, rfl, rfl, hlen, hxl, hfx⟩ := DataW.trod_struct ht h
      have key := flatF_cells (g := unlay d) (fun t ht => flat_cells ht) hb (enc := enc) (w := w) (sp := sp) (hd := hd) (n := n) (cs := cs) (xs := xs) hlen (fun i f hi => by
        rw [List.getElem?_map] at hi
        cases hfa : fa[i]? with
        | none => simp [hfa] at hi
        | some f0 =>
          simp [hfa] at hi
          subst hi
          exact hfx i f0 hfa) (by rw [hxl, List.length_map, Array.length_toList])
      show cs = (xs.map (·.1)).flatMap (unlay d)
      rw [List.flatMap_map]
      simpa using key
    · rename_i m e ht
      simp only [Bool.and_eq_true] at hb
      have hc := Nat.eq_of_beq_eq_true hb.1
      obtain ⟨xs, n, rfl, rfl, hlen, hxl, hfx⟩ := DataW.trod_array ht h
      show cs = (xs.map (·.1)).flatMap (unlay d)
      rw [List.flatMap_map]
      have h1 : ∀ i, i < m → (cs.drop (i * P.cellsOf e)).take (P.cellsOf e) = ((xs[i]?).map fun x => unlay d x.1).getD [] := fun i hi => by
        have h2 := hfx i hi
        have hlt : i < xs.length := by rw [hxl]; exact hi
        rw [List.getElem?_eq_getElem hlt] at h2 ⊢
        exact flat_cells hb.2 h2
      rw [rows_eq (by rw [hlen, hc]) h1]
      clear h1 hfx
      subst hxl
      rw [flatMap_by_index xs (.nil, []) fun x => unlay d x.1]
      exact flatMap_congr_range fun i hi => by simp [List.getD, hi]
    · cases hb
/-- a table's cells -/
theorem tab_cells {w : World} {name : String} {d : DataW Unit} {laid : List (String × DataW Unit)} {ps : List MemPlace} {g : Nat} {t : TypeId} (h : DataW.LaidVars P w laid ps) (hm : (name, d) ∈ laid) (hg : P.globalNamed name = some g) (hty : (P.globals[g]?).map (·.type) = some t) {dp : Nat} (hf : flatb P dp t = true) : ∀ i, w.cell? ⟨g, i, none⟩ = (unlay dp d)[i]? := by
  induction laid generalizing ps with
  | nil => cases hm
  | cons y laid ih =>
    obtain ⟨n, d'⟩ := y
    obtain ⟨g', t', cs, fuel, p, q, hg', ht', hvar, hd, hr, _⟩ := h
    rcases List.mem_cons.1 hm with e | hm
    · injection e with e1 e2
      subst e1 e2
      obtain rfl := Option.some.inj (hg.symm.trans hg')
      obtain rfl := Option.some.inj (hty.symm.trans ht')
      have := flat_cells hf hd
      intro i
      rw [World.var?_cell hg hvar i, ← this]
      simp
    · exact ih hr hm
/-- a package's table, as a slice that never turns -/
theorem tab_sl {ty : Ty α} {w : World} {g n : Nat} {cs : List Value} {xs : List α} (h0 : ty.Hid) (hfree : ∀ x, ty.im x h0 = []) (hc : ∀ i, w.cell? ⟨g, i, none⟩ = cs[i]?) (he : cs = xs.flatMap fun x => ty.cs x h0) (hn : xs.length ≤ n) (hlt : g < w.heap.size) : (Im.sl ty (some ⟨g, 0, none⟩) n xs).okW w := by
  refine ⟨hn, .inr ⟨g, 0, cs, rfl, hlt, ?_, fun j u hu => by rw [Nat.zero_add, hc]; exact hu⟩⟩
  rw [he]
  clear he hc hn
  induction xs with
  | nil => exact .nil
  | cons x xs ih => exact .cons h0 (fun f hf => by rw [hfree] at hf; cases hf) ih
theorem tab_lt {w : World} {g : Nat} {cs : List Value} (hc : ∀ i, w.cell? ⟨g, i, none⟩ = cs[i]?) (hpos : 0 < cs.length) : g < w.heap.size := by
  have h := hc 0
  rw [List.getElem?_eq_getElem hpos] at h
  unfold World.cell? at h
  split at h
  · rename_i hh; exact (Array.getElem?_eq_some_iff.1 hh).1
  · cases h
/-- behind the call -/
theorem SS.below {w w' : World} {A A' : Blks} {S' : List Ch} {I' : List Im} (h : SS ⟨w, A, Own []⟩ A' S' I' w') : RowKit.Below w.heap.size w w' :=
  ⟨h.fx.os, h.fx.tape, h.fx.output, h.fx.size, fun k hk => h.fx.keep k hk fun ⟨c, hc, _⟩ => by cases hc⟩
theorem St.first {w : World} {I : List Im} (h : ∀ f ∈ I, f.okW w) : St (fun b => b < w.heap.size) [] I w :=
  ⟨fun _ h => h, (fun _ h => by cases h), (fun _ h => by cases h), List.Pairwise.nil, h⟩
end Go.Tw
namespace Go.Tw
open Go
theorem v_int {k : IntKind} {n m : Int} (e : (Value.int k n).cells.toList = [Value.int k m]) : m = n := by simpa [Value.cells, eq_comm] using e
theorem v_bool {n m : Bool} (e : (Value.bool n).cells.toList = [Value.bool m]) : m = n := by simpa [Value.cells, eq_comm] using e
theorem v_str {n m : ByteArray} (e : (Value.string n).cells.toList = [Value.string m]) : m = n := by simpa [Value.cells, eq_comm] using e
theorem v_sl {a b : Option Addr} {n m c d : Nat} (e : (Value.slice a n c).cells.toList = [Value.slice b m d]) : a = b ∧ n = m ∧ c = d := by simpa [Value.cells] using e
theorem okW_struct {P : Program} {w : World} {r : Reach} {base : Nat} {t : TypeId} {v : Value} {fs : List (Nat × Nat)} (hst : structb P t fs = true) (h : Value.okWide P w r base t v) : ∃ cs, v = .agg cs := by
  obtain ⟨fa, ht, _⟩ := structb_ok hst
  obtain ⟨cs, h1, _⟩ := WideShapes.okWide_struct ht h
  exact ⟨cs, h1⟩
theorem v_agg {cs : Array Value} {l : List Value} (e : (Value.agg cs).cells.toList = l) : cs = l.toArray := by
  apply Array.ext'
  simpa [Value.cells] using e
end Go.Tw

set_option linter.unusedVariables false
set_option linter.unusedSimpArgs false
namespace Go.Tw
open Go
/-! ### words for the plain laws -/
theorem w64 {x : Int} (h1 : -9223372036854775808 ≤ x) (h2 : x ≤ 9223372036854775807) : IntKind.i64.wrap x = x := by rw [IntKind.wrap_i64]; omega
theorem idx_nat {α : Type} (xs : List α) (n : Nat) : idx xs (n : Int) = xs[n]? := by simp [idx]
theorem idx_zero {α : Type} (xs : List α) : idx xs 0 = xs[0]? := idx_nat xs 0
theorem idx_mid {α : Type} (l r : List α) (x : α) : idx (l ++ x :: r) (l.length : Int) = some x := by rw [idx_nat]; simp
theorem idx_neg {α : Type} (xs : List α) {i : Int} (h : i < 0) : idx xs i = none := by
  unfold idx
  rw [show decide (0 ≤ i) = false by simp; omega]
  rfl
theorem chk_true {p : Prop} [Decidable p] (h : p) : chk (decide p) = some () := by simp [chk, h]
theorem apok_true {n m b : Nat} (h : (n + m) * b ≤ 140737488355328) : chk (apok n m b) = some () := chk_true h
theorem cutok_true {lo hi n : Int} (h0 : 0 ≤ lo) (h1 : lo ≤ hi) (h2 : hi ≤ n) : chk (cutok lo hi n) = some () := chk_true ⟨h0, h1, h2⟩
theorem mkok_true {k : Int} {b : Nat} (h0 : 0 ≤ k) (h1 : k * b ≤ 140737488355328) (h2 : k ≤ 140737488355328) : chk (mkok k b) = some () := chk_true ⟨h0, h1, h2⟩
theorem gzok_true {k : Int} {b : Nat} (h0 : 0 < k) (h1 : k * b ≤ 140737488355328) (h2 : k ≤ 140737488355328) : chk (gzok k b) = some () := chk_true ⟨h0, h1, h2⟩
theorem bnd_some {α β : Type _} (x : α) (f : α → Option β) : Option.bind (some x) f = f x := rfl
/-- what stands last -/
def lastD {α : Type} (d : α) : List α → α
  | [] => d
  | [x] => x
  | _ :: y :: l => lastD d (y :: l)
theorem lastD_snoc {α : Type} (d x : α) : ∀ l : List α, lastD d (l ++ [x]) = x
  | [] => rfl
  | [y] => rfl
  | a :: b :: l => by
    show lastD d (b :: (l ++ [x])) = x
    exact lastD_snoc d x (b :: l)
theorem idx_last {α : Type} (l r : List α) (d x : α) (h : 0 < l.length) : idx (l ++ x :: r) ((l.length : Int) - 1) = some (lastD d l) := by
  have e : ((l.length : Int) - 1) = ((l.length - 1 : Nat) : Int) := by omega
  rw [e, idx_nat]
  have hl : l = l.take (l.length - 1) ++ [lastD d l] := by
    clear e
    induction l with
    | nil => simp at h
    | cons a t ih =>
      cases t with
      | nil => rfl
      | cons b t =>
        have := ih (by simp)
        simp only [List.length_cons, Nat.add_sub_cancel] at this ⊢
        rw [List.take_succ_cons, List.cons_append]
        congr 1
  rw [List.getElem?_append_left (by omega)]
  have h2 : (l.take (l.length - 1)).length = l.length - 1 := by rw [List.length_take]; omega
  conv => lhs; rw [hl]
  rw [List.getElem?_append_right (by simp)]
  simp
theorem idx_next {α : Type} (l r : List α) (x : α) : idx (l ++ x :: r) ((l.length : Int) + 1) = r[0]? := by
  have e : ((l.length : Int) + 1) = ((l.length + 1 : Nat) : Int) := by omega
  rw [e, idx_nat, List.getElem?_append_right (by omega)]
  have : l.length + 1 - l.length = 1 := by omega
  rw [this]
  simp
end Go.Tw

import Derived.Test.YtojpockgiaihoaaDoorFw6
import Derived.Great.BuildSlice
import Derived.Laws.OwnMore
set_option linter.unusedVariables false
set_option linter.unusedSimpArgs false
namespace Go.Tw
open Go

/-! ### new arrays -/
/-- elements whose facts are at hand -/
inductive Elb {α : Type} (ty : Ty α) (J : List Im) : List α → List Value → Prop where
  | nil : Elb ty J [] []
  | cons {x xs cs} (h : ty.Hid) (is : List Nat) (hp : pick J is = some (ty.im x h)) (hr : Elb ty J xs cs) : Elb ty J (x :: xs) (ty.cs x h ++ cs)
theorem Elb.els {α : Type} {ty : Ty α} {J : List Im} {xs : List α} {cs : List Value} {A : Blks} {w : World} (hJ : ∀ f ∈ J, f.ok A w) (h : Elb ty J xs cs) : Els ty A w xs cs := by
  induction h with
  | nil => exact .nil
  | cons h is hp hr ih => exact .cons h (fun f hf => hJ f (pick_mem hp f hf)) ih
def zcells (z : List Value) (n : Nat) : List Value := (List.range n).map fun j => (z[j % z.length]?).getD default
theorem zcells_ok (z : Array Value) (n : Nat) : ((Array.range n).map (z[· % z.size]!)).toList = zcells z.toList n := by
  unfold zcells
  rw [Array.toList_map, Array.toList_range]
  apply List.map_congr_left
  intro j _
  rw [Array.length_toList, Array.getElem!_eq_getD, Array.getD_eq_getD_getElem?]
  simp only [Array.getElem?_toList]
section
variable {G : Pg} {n : Nat} {K : Key} {Q : Exit → Act → World → Prop} {m : Env} {S : List Ch} {I : List Im} {ops : Array Oper} {o : Oper} {l : List Oper} {α : Type} {ty : Ty α} {xs ys : List α} {a0 a1 : Option Addr} {c c1 : Nat}
theorem Ac.bs {t e k : Nat} {ps : Array (Nat × Operand)} {ti te : TI} {pv : List (Nat × Value)} {cs : List Value} {J : List Im} (hE : Elb ty J xs cs) (ho : o.op = .buildSlice t k ps) (ht : tlook G.τ t = some ti) (hk : ti.k = .slice e) (he : tlook G.τ e = some te) (hsz : (Nat.beq te.size ty.sz && Nat.beq xs.length k && Nat.blt (k * te.size) 1000000 && Nat.blt k 1000000) = true) (hp : evs m ps.toList = some pv) (hb : bfill (fun i => some (i * te.size, te.size)) (zcells te.zero (k * te.size)) pv = some cs) :
    Ac G n m o [] J (fun g : Nat => .slice (some ⟨g, 0, none⟩) xs.length k) (fun g => [Ch.arr ty e (some ⟨g, 0, none⟩) k xs]) (fun _ => []) := by
  simp only [Bool.and_eq_true] at hsz
  obtain ⟨⟨⟨hs1, hs2⟩, hs3⟩, hs4⟩ := hsz
  have hs4 := blt_lt hs4
  have hs1 := Nat.eq_of_beq_eq_true hs1
  have hs2 := Nat.eq_of_beq_eq_true hs2
  have hs3 := blt_lt hs3
  refine Ac.run (v := fun g : Nat => some (.slice (some ⟨g, 0, none⟩) xs.length k)) fun A a w hf hs => ?_
  obtain ⟨dd, f, z0, hdd, hfi, hkk, _⟩ := G.ok.info ht
  rw [hk] at hkk
  cases hkk
  obtain ⟨de, fe, ze, hde, hfe, _, hfs, hfb, hfz, hzc, _⟩ := G.ok.info he
  have hels := hE.els (A := A) (w := w) hs.im
  have hlen := hels.len
  have hb' : bfill (fun i => some (i * fe.size, fe.size)) ((Array.range (k * fe.size)).map (ze.cells[· % ze.cells.size]!)).toList pv = some cs := by
    rw [zcells_ok, hzc, hfs]
    exact hb
  obtain ⟨ra, hra, hrl⟩ := fill_of hb'
  have hcells : ra = cs.toArray := by apply Array.ext'; simpa using hrl
  subst hcells
  have hev : (ps.map fun (x : Nat × Operand) => (x.1, a.eval x.2)).toList = pv := (Array.toList_map).trans (evs_ok hf hp)
  have hr : (Instr.buildSlice t k (ps.map fun (x : Nat × Operand) => (x.1, a.eval x.2))).run G.P w = .ok (.slice (some ⟨w.heap.size, 0, none⟩) k k) (w.alloc (.cells cs.toArray e)) := by
    by_cases hpos : k * fe.size = 0
    · have hcs : cs = [] := by
        apply List.eq_nil_of_length_eq_zero
        rw [hlen, hs2, ← hs1, ← hfs]
        exact hpos
      subst hcs
      rw [← hev, hpos] at hra
      have hra2 : Instr.fill (fun i => some (i * fe.size, fe.size)) #[] (ps.map fun (x : Nat × Operand) => (x.1, a.eval x.2)).toList = some #[] := by simpa [Array.range_zero'] using hra
      have hp0 : k * te.size = 0 := by rw [← hfs]; exact hpos
      rw [hfs] at hra2
      have hgt : ¬ (k * te.size > 2 ^ 24) := by omega
      simp only [Instr.buildSlice, Sem.run_bind, run_underlying hdd, run_sizeOf G.ok he, Result.andThen_ok]
      rw [if_neg hgt, if_pos hp0]
      simp only [Sem.run_bind, Sem.run_pure, Result.andThen_ok, hp0, Array.range_zero', List.map_toArray, Array.map_empty, hra2]
      simp only [Array.toList_map] at hra2
      simp [newRow, newObj, Sem.run, hra2]
    · rw [← hev] at hra
      exact run_buildSlice w t e k _ _ fe ze hdd hfe hfz (by rw [hfs]; omega) hpos hra
  refine ⟨w.heap.size, w.alloc (.cells cs.toArray e), A, ?_, ?_⟩
  · simp only [execOp, ho, Sem.run_bind, hr, Result.andThen_ok, Sem.run_pure, nx, hs2]
  · refine SS.fresh (w' := w.alloc (.cells cs.toArray e)) (o := .cells cs.toArray e) hs.lt rfl rfl rfl rfl (Ch.arr ty e (some ⟨w.heap.size, 0, none⟩) k xs) rfl ?_
    have hA : ∀ b, A b → (w.alloc (.cells cs.toArray e)).heap[b]? = w.heap[b]? := fun b hb => by
      have := hs.lt b hb
      show (w.heap.push _)[b]? = _
      rw [Array.getElem?_push_lt this, Array.getElem?_eq_getElem this]
    refine ⟨cs, ?_, hels.st (fun _ h => h) hA⟩
    rw [hs2]
    have h5 := World.ownsRow_lit w cs.toArray k (base := 0) (size := ty.sz) (e := e) (Nat.zero_le _) (by simp only [maxLen]; omega) (by simpa [hs2] using hlen)
    simpa using h5
end
end Go.Tw

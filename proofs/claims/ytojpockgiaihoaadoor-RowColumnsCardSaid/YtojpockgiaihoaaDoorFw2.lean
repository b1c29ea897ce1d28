import Derived.Test.YtojpockgiaihoaaDoorFw1
import Derived.Laws.Cells
import Derived.Laws.Build
import Derived.Laws.Tables
import Derived.Laws.Entries
set_option linter.unusedVariables false
set_option linter.unusedSimpArgs false
namespace Go.Tw
open Go

/-! ### what a quiet operation gives -/
def ikb : IntKind → IntKind → Bool
  | .i8, .i8 | .i16, .i16 | .i32, .i32 | .i64, .i64 | .u8, .u8 | .u16, .u16 | .u32, .u32 | .u64, .u64 => true
  | _, _ => false
theorem ikb_eq {a b : IntKind} (h : ikb a b = true) : a = b := by cases a <;> cases b <;> first | rfl | cases h
def qint (op : BinOp) (k : IntKind) (a b : Int) : Option Value :=
  match op with
  | .add => some (.int k (k.wrap (a + b)))
  | .sub => some (.int k (k.wrap (a - b)))
  | .mul => some (.int k (k.wrap (a * b)))
  | .eql => some (.bool (a == b))
  | .neq => some (.bool (a != b))
  | .lss => some (.bool (decide (a < b)))
  | .leq => some (.bool (decide (a ≤ b)))
  | .gtr => some (.bool (decide (a > b)))
  | .geq => some (.bool (decide (a ≥ b)))
  | .and => some (.int k (Go.bits .and k a b))
  | .or => some (.int k (Go.bits .or k a b))
  | .xor => some (.int k (Go.bits .xor k a b))
  | _ => none
/-- by a constant that is not 0; by a constant count -/
def qcon (op : BinOp) (k : IntKind) (a : Int) (b : Int) : Option Value :=
  match op, b with
  | .quo, .ofNat (c + 1) => some (.int k (k.wrap (a.tdiv (.ofNat (c + 1)))))
  | .rem, .ofNat (c + 1) => some (.int k (a.tmod (.ofNat (c + 1))))
  | .shl, .ofNat c => some (.int k (k.wrap (a * 2 ^ (min c k.bits))))
  | .shr, .ofNat c => some (.int k (a.fdiv (2 ^ (min c k.bits))))
  | _, _ => none
def qstr (op : BinOp) (a b : ByteArray) : Option Value :=
  match op with
  | .eql => some (.bool (a.toList == b.toList))
  | .neq => some (.bool (!(a.toList == b.toList)))
  | .lss => some (.bool (Op.bytesLess a.toList b.toList))
  | .gtr => some (.bool (!(Op.bytesLess a.toList b.toList || a.toList == b.toList)))
  | _ => none
def BinOp.sh : BinOp → Bool
  | .shl | .shr => true
  | _ => false
def qbin (op : BinOp) (con : Bool) (x y : Value) : Option Value :=
  match x, y with
  | .int k a, .int k' b => match con with
    | true => match ikb k k' || BinOp.sh op with
      | true => qcon op k a b
      | false => none
    | false => match ikb k k' with
      | true => qint op k a b
      | false => none
  | .string a, .string b => qstr op a b
  | _, _ => none
def BinOp.con : BinOp → Operand → Bool
  | .quo, .const _ | .rem, .const _ | .shl, .const _ | .shr, .const _ => true
  | _, _ => false
def qun (op : UnOp) (x : Value) : Option Value :=
  match op, x with
  | .neg, .int k n => some (.int k (k.wrap (0 - n)))
  | .not, .bool b => some (.bool (!b))
  | _, _ => none
def vc (v : Value) : List Value := v.cells.toList
def setl : List Value → Nat → List Value → List Value
  | cs, _, [] => cs
  | cs, o, v :: vs => setl (cs.set o v) (o + 1) vs
def bfill (pl : Nat → Option (Nat × Nat)) : List Value → List (Nat × Value) → Option (List Value)
  | cs, [] => some cs
  | cs, (i, v) :: r => match pl i with
    | none => none
    | some (o, s) => match Nat.beq (vc v).length s, Nat.ble (o + s) cs.length with
      | true, true => bfill pl (setl cs o (vc v)) r
      | _, _ => none
def cutv (τ : Tab) (t : Nat) (cs : List Value) (o : Nat) : Option Value :=
  match tlook τ t with
  | some i => match i.agg with
    | true => some (.agg ((cs.drop o).take i.size).toArray)
    | false => cs[o]?
  | none => none
def evs (m : Env) : List (Nat × Operand) → Option (List (Nat × Value))
  | [] => some []
  | (i, x) :: r => match ev m x, evs m r with
    | some v, some l => some ((i, v) :: l)
    | _, _ => none
def evl (m : Env) : List Operand → Option (List Value)
  | [] => some []
  | x :: r => match ev m x, evl m r with
    | some v, some l => some (v :: l)
    | _, _ => none
def spl (τ : Tab) : List (Nat × Nat) → Option (List (Nat × Nat))
  | [] => some []
  | (t, o) :: r => match tlook τ t, spl τ r with
    | some j, some l => some ((o, j.size) :: l)
    | _, _ => none
def mx2 (x y : Value) : Option Value := match x, y with | .int k a, .int _ b => some (.int k (if b > a then b else a)) | _, _ => none
def mn2 (x y : Value) : Option Value := match x, y with | .int k a, .int _ b => some (.int k (if b < a then b else a)) | _, _ => none
def TK.isSl : TK → Bool
  | .slice _ => true
  | _ => false
def TK.isStr : TK → Bool
  | .string => true
  | _ => false
def lenOk (τ : Tab) (f : TK → Bool) : List Nat → Bool
  | t :: _ => match tlook τ t with
    | some i => f i.k
    | none => false
  | [] => false
def qbuiltin (τ : Tab) (b : Builtin) (ts : List Nat) (vs : List Value) : Option Value :=
  match b, vs with
  | .len, [.string s] => match lenOk τ TK.isStr ts with
    | true => some (.int .i64 s.size)
    | false => none
  | .len, [.slice _ n _] => match lenOk τ TK.isSl ts with
    | true => some (.int .i64 n)
    | false => none
  | .max, [x, y] => mx2 x y
  | .min, [x, y] => mn2 x y
  | .cap, [.slice _ _ c] => match lenOk τ TK.isSl ts with
    | true => some (.int .i64 c)
    | false => none
  | _, _ => none
/-- equality of structs -/
def qeqf (f : Nat → Value → Value → Option Bool) (τ : Tab) (xs ys : List Value) : List (Nat × Nat) → Option Bool
  | [] => some true
  | (t, o) :: r => match cutv τ t xs o, cutv τ t ys o with
    | some a, some b => match f t a b, qeqf f τ xs ys r with
      | some x, some y => some (x && y)
      | _, _ => none
    | _, _ => none
def qeq (τ : Tab) : Nat → Nat → Value → Value → Option Bool
  | 0, _, _, _ => none
  | d + 1, t, x, y => match tlook τ t with
    | some { k := .bool, .. } => match x, y with
      | .bool a, .bool b => some (a == b)
      | _, _ => none
    | some { k := .int _, .. } => match x, y with
      | .int k a, .int k' b => match ikb k k' with
        | true => some (a == b)
        | false => none
      | _, _ => none
    | some { k := .string, .. } => match x, y with
      | .string a, .string b => some (a.data.toList == b.data.toList)
      | _, _ => none
    | some { k := .struct fs, eq := true, .. } => match x, y with
      | .agg xs, .agg ys => qeqf (qeq τ d) τ xs.toList ys.toList fs
      | _, _ => none
    | _ => none
def qagg (τ : Tab) (op : BinOp) (t : Nat) (x y : Value) : Option Value :=
  match x, y with
  | .agg _, .agg _ => match op with
    | .eql => match tlook τ t, qeq τ 9 t x y with
      | some { eq := true, .. }, some b => some (.bool b)
      | _, _ => none
    | .neq => match tlook τ t, qeq τ 9 t x y with
      | some { eq := true, .. }, some b => some (.bool (!b))
      | _, _ => none
    | _ => none
  | _, _ => none
def qbool (τ : Tab) (op : BinOp) (t : Nat) (x y : Value) : Option Value :=
  match x, y with
  | .bool a, .bool b => match tlook τ t with
    | some { k := .bool, .. } => match op with
      | .eql => some (.bool (a == b))
      | .neq => some (.bool (!(a == b)))
      | _ => none
    | _ => none
  | _, _ => none
inductive VK where
  | agg | bool | other
def vkind : Value → VK
  | .agg _ => .agg
  | .bool _ => .bool
  | _ => .other
def isagg : Value → Bool
  | .agg _ => true
  | _ => false
def qx (τ : Tab) (m : Env) : Op → Option Value
  | .move x | .assign x => ev m x
  | .pick c a b => match ev m c with
    | some (.bool true) => ev m a
    | some (.bool false) => ev m b
    | _ => none
  | .binOp op t x y _ => match ev m x, ev m y with
    | some v, some u => match vkind v with
      | .agg => qagg τ op t v u
      | .bool => qbool τ op t v u
      | .other => qbin op (BinOp.con op y) v u
    | _, _ => none
  | .unOp op _ x => match ev m x with
    | some v => qun op v
    | none => none
  | .convert s d x => match tlook τ s, tlook τ d, ev m x with
    | some { k := .int _, .. }, some { k := .int k, .. }, some (.int _ n) => some (.int k (k.wrap n))
    | some { k := .string, .. }, some { k := .string, .. }, some (.string s) => some (.string s)
    | _, _, _ => none
  | .fieldAddr s x f => match tlook τ s, ev m x with
    | some { k := .struct fs, .. }, some (.pointer (some ⟨g, o, none⟩)) => match fs[f]? with
      | some (t, o') => match tlook τ t with
        | some { size := _ + 1, .. } => some (.pointer (some ⟨g, o + o', none⟩))
        | _ => none
      | none => none
    | _, _ => none
  | .field s x f => match tlook τ s, ev m x with
    | some { k := .struct fs, .. }, some (.agg cs) => match fs[f]? with
      | some (t, o) => cutv τ t cs.toList o
      | none => none
    | _, _ => none
  | .build t ps => match tlook τ t, evs m ps.toList with
    | some { k := .struct fs, zero := z, .. }, some l => match spl τ fs with
      | some pl => match bfill (pl[·]?) z l with
        | some cs => some (.agg cs.toArray)
        | none => none
      | none => none
    | some { k := .array _ e, zero := z, .. }, some l => match tlook τ e with
      | some te => match bfill (fun i => some (i * te.size, te.size)) z l with
        | some cs => some (.agg cs.toArray)
        | none => none
      | none => none
    | _, _ => none
  | .indexAddr t x ix => match tlook τ t, ev m x, ev m ix with
    | some { k := .array n e, .. }, some (.pointer (some ⟨g, o, none⟩)), some (.int _ (.ofNat i)) => match Nat.blt i n, tlook τ e with
      | true, some te => some (.pointer (some ⟨g, o + i * te.size, none⟩))
      | _, _ => none
    | _, _, _ => none
  | .slice t x none none none => match tlook τ t, ev m x with
    | some { k := .array (n + 1) e, .. }, some (.pointer (some ⟨g, o, none⟩)) => match tlook τ e with
      | some _ => some (.slice (some ⟨g, o, none⟩) (n + 1) (n + 1))
      | none => none
    | _, _ => none
  | .extract x i => match ev m x with
    | some (.tuple vs) => vs.toList[i]?
    | _ => none
  | .nilCheck x => match ev m x with
    | some (.pointer (some a)) => some (.pointer (some a))
    | _ => none
  | .makeFunc fn f c => match evl m f.toList, evl m c.toList with
    | some a, some b => some (.func fn a.toArray b.toArray)
    | _, _ => none
  | .call { callee := .builtin b, args := as, argTypes := ts } => match evl m as.toList with
    | some vs => qbuiltin τ b ts.toList vs
    | none => none
  | _ => none
def putm (d : Option Nat) (v : Value) (m : Env) : Env := match d with
  | some d => (d, v) :: m
  | none => m
/-! ### guards -/
def wg (ops : List Oper) (m : Env) (o : Oper) : Option Bool :=
  match o.guard with
  | none => some true
  | some (j, b) => match ops[j]? with
    | some oj => match oj.dst with
      | some d => match look m d with
        | some (.bool true) => some b
        | some (.bool false) => some (!b)
        | _ => none
      | none => none
    | none => none
theorem Fr.bool {n : Nat} {m : Env} {a : Act} (hf : Fr n m a) {d : Nat} {c : Bool} (h : look m d = some (.bool c)) : a.tmps[d]? = some (.bool c) := by
  have h1 := hf.at_ d _ h
  rw [Array.getD_eq_getD_getElem?] at h1
  cases h2 : a.tmps[d]? with
  | none => rw [h2] at h1; simp [undef] at h1
  | some v => rw [h2] at h1; simp at h1; rw [h1]
theorem wg_ok {n : Nat} {ops : Array Oper} {m : Env} {o : Oper} {b : Bool} {a : Act} (h : wg ops.toList m o = some b) (hf : Fr n m a) : Region.wanted o (yielded ops a.tmps) = b := by
  unfold wg at h
  unfold Region.wanted
  split at h
  · rename_i hg; rw [hg]; injection h
  · rename_i j c hg
    rw [hg]
    split at h
    · rename_i oj hj
      split at h
      · rename_i d hd
        have hy : ∀ u, look m d = some (.bool u) → yielded ops a.tmps j = some u := fun u hu => by
          have e1 : ops[j]? = some oj := by simpa using hj
          simp [yielded, e1, hd, hf.bool hu]
        split at h
        · rename_i hl; injection h with h; subst h; show (yielded ops a.tmps j == some c) = _; rw [hy _ hl]; cases c <;> rfl
        · rename_i hl; injection h with h; subst h; show (yielded ops a.tmps j == some c) = _; rw [hy _ hl]; cases c <;> rfl
        · cases h
      · cases h
    · cases h
def dok (d : Option Nat) (n : Nat) : Bool := match d with
  | some d => Nat.blt d n
  | none => true
theorem blt_lt {a b : Nat} (h : Nat.blt a b = true) : a < b := Nat.lt_of_lt_of_le (Nat.lt_succ_self a) (Nat.le_of_ble_eq_true h)
theorem Fr.putd {n : Nat} {m : Env} {a : Act} (hf : Fr n m a) {d : Option Nat} (h : dok d n = true) (v : Value) : Fr n (putm d v m) (a.put d v) := by
  cases d with
  | none => exact hf.put_none _
  | some d => exact hf.put _ (blt_lt h)

/-- so many operations, all of them quiet -/
def qrun (τ : Tab) (n : Nat) (ops : List Oper) : Nat → List Oper → Env → Option (Env × List Oper)
  | 0, l, m => some (m, l)
  | _ + 1, [], _ => none
  | k + 1, o :: l, m => match wg ops m o with
    | some true => match o.dst with
      | some d => match Nat.blt d n, qx τ m o.op with
        | true, some v => qrun τ n ops k l ((d, v) :: m)
        | _, _ => none
      | none => none
    | some false => match dok o.dst n with
      | true => qrun τ n ops k l (putm o.dst undef m)
      | false => none
    | none => none

/-! ### and does -/
theorem TabOk.info {P : Program} {τ : Tab} (h : TabOk P τ) {t : Nat} {i : TI} (hi : tlook τ t = some i) : ∃ (d : TypeDesc) (f : TypeInfo) (z : Value), P.underlying t = some d ∧ P.info? t = some f ∧ i.k.fits d ∧ f.size = i.size ∧ f.bytes = i.bytes ∧ f.zero = some z ∧ z.cells.toList = i.zero ∧ i.agg = i.k.isAgg ∧ (i.k.isAgg = false → ∀ a, d ≠ .struct a) ∧ (i.k.isAgg = false → ∀ a b, d ≠ .array a b) ∧ (i.eq = true → EqOk P t) := h t i hi
theorem run_isAgg {P : Program} {τ : Tab} (h : TabOk P τ) {t : Nat} {i : TI} (hi : tlook τ t = some i) (w : World) : (isAgg t).run P w = .ok i.agg w := by
  obtain ⟨d, f, z, hd, hf, hk, _, _, _, _, ha, h1, h2, _⟩ := h.info hi
  simp only [isAgg, Sem.run_bind, run_underlying hd, Result.andThen_ok]
  rw [ha]
  cases hb : i.k.isAgg with
  | true =>
    cases hk' : i.k <;> rw [hk'] at hb hk <;> first | cases hb | skip
    · obtain ⟨a, rfl, _⟩ := hk; rfl
    · cases hk; rfl
  | false =>
    split
    · exact absurd rfl (h1 hb _)
    · exact absurd rfl (h2 hb _ _)
    · rfl
theorem run_sizeOf {P : Program} {τ : Tab} (h : TabOk P τ) {t : Nat} {i : TI} (hi : tlook τ t = some i) (w : World) : (sizeOf t).run P w = .ok i.size w := by
  obtain ⟨d, f, z, hd, hf, hk, hs, _⟩ := h.info hi
  simp [sizeOf, typeInfo, hf, hs]
theorem run_part {P : Program} {τ : Tab} (h : TabOk P τ) {t o : Nat} {cs : Array Value} {v : Value} (hv : cutv τ t cs.toList o = some v) (w : World) : (part t cs o).run P w = .ok v w := by
  unfold cutv at hv
  split at hv
  · rename_i i hi
    simp only [part, Sem.run_bind, run_isAgg h hi, Result.andThen_ok]
    cases ha : i.agg with
    | true =>
      rw [ha] at hv
      injection hv with hv
      subst hv
      simp only [if_true, Sem.run_bind, run_sizeOf h hi, Result.andThen_ok, Sem.run_pure]
      congr 2
      apply Array.ext'
      simp
    | false =>
      rw [ha] at hv
      simp only [Bool.false_eq_true, if_false]
      have : cs[o]? = some v := by simpa using hv
      rw [this]
      rfl
  · cases hv
theorem setl_fold (off : Nat) : ∀ (vs : List Value) (k : Nat) (cs : Array Value), ((vs.zipIdx k).foldl (fun (cs : Array Value) (p : Value × Nat) => cs.setIfInBounds (off + p.2) p.1) cs).toList = setl cs.toList (off + k) vs
  | [], _, _ => rfl
  | v :: vs, k, cs => by
    simp only [List.zipIdx_cons, List.foldl_cons, setl]
    rw [setl_fold off vs (k + 1)]
    simp [Nat.add_assoc]
theorem setl_length : ∀ (vs cs : List Value) (o : Nat), (setl cs o vs).length = cs.length
  | [], _, _ => rfl
  | v :: vs, cs, o => by simp [setl, setl_length vs]
theorem fill_of {pl : Nat → Option (Nat × Nat)} : ∀ {l : List (Nat × Value)} {cs : Array Value} {r : List Value}, bfill pl cs.toList l = some r → ∃ a : Array Value, Instr.fill pl cs l = some a ∧ a.toList = r
  | [], cs, r, h => ⟨cs, rfl, Option.some.inj h⟩
  | (i, v) :: l, cs, r, h => by
    simp only [bfill] at h
    split at h
    · cases h
    · rename_i o s hp
      split at h
      · rename_i h1 h2
        have e1 := Nat.eq_of_beq_eq_true h1
        have e2 := Nat.le_of_ble_eq_true h2
        simp only [Instr.fill, hp]
        have e1' : v.cells.size = s := by simpa [vc] using e1
        have e2' : ¬ (v.cells.size ≠ s ∨ o + v.cells.size > cs.size) := by
          rw [e1']
          simp at e2
          omega
        rw [if_neg (by simpa using e2')]
        have e3 := setl_fold o v.cells.toList 0 cs
        have e4 : (v.cells.zipIdx.foldl (fun (cs : Array Value) (p : Value × Nat) => cs.setIfInBounds (o + p.2) p.1) cs).toList = setl cs.toList o (vc v) := by
          rw [← Array.foldl_toList, Array.toList_zipIdx]
          exact e3
        rw [← e4] at h
        exact fill_of h
      · cases h
theorem evl_ok {n : Nat} {m : Env} {a : Act} (hf : Fr n m a) : ∀ {l : List Operand} {vs : List Value}, evl m l = some vs → l.map a.eval = vs
  | [], vs, h => Option.some.inj h
  | x :: l, vs, h => by
    simp only [evl] at h
    split at h
    · rename_i v l' hv hl
      injection h with h
      subst h
      simp [hf.ev hv, evl_ok hf hl]
    · cases h
theorem evs_ok {n : Nat} {m : Env} {a : Act} (hf : Fr n m a) : ∀ {l : List (Nat × Operand)} {vs : List (Nat × Value)}, evs m l = some vs → l.map (fun p => (p.1, a.eval p.2)) = vs
  | [], vs, h => Option.some.inj h
  | (i, x) :: l, vs, h => by
    simp only [evs] at h
    split at h
    · rename_i v l' hv hl
      injection h with h
      subst h
      simp [hf.ev hv, evs_ok hf hl]
    · cases h
theorem run_eqGuard_int {P : Program} (op : BinOp) (t : Nat) (x y : Operand) (k k' : IntKind) (a b : Int) (w : World) : (eqGuard op t x y (.int k a) (.int k' b)).run P w = .ok () w := by
  unfold eqGuard
  split <;> rfl
theorem run_eqGuard_str {P : Program} (op : BinOp) (t : Nat) (x y : Operand) (a b : ByteArray) (w : World) : (eqGuard op t x y (.string a) (.string b)).run P w = .ok () w := by
  unfold eqGuard
  split <;> rfl
theorem run_qint {P : Program} {op : BinOp} {t : Nat} {k : IntKind} {a b : Int} {v : Value} (h : qint op k a b = some v) (w : World) : (binOp op t (.int k a) (.int k b)).run P w = .ok v w := by
  cases op <;> simp only [qint] at h <;> first | cases h; done | (injection h with h; subst h) 
  all_goals first
    | (simp [binOp, Op.intArith]; done)
    | (simp [binOp, Op.intCmp]; done)
    | (simp [binOp, Op.intBits, Go.bits]; done)
theorem run_qcon {P : Program} {op : BinOp} {t : Nat} {k k' : IntKind} {a b : Int} {v : Value} (hc : ∃ x, BinOp.con op x = true) (h : qcon op k a b = some v) (hk : ikb k k' = true ∨ op = .shl ∨ op = .shr) (w : World) : (binOp op t (.int k a) (.int k' b)).run P w = .ok v w := by
  unfold qcon at h
  split at h
  · injection h with h
    subst h
    rcases hk with hk | hk | hk <;> first | cases hk; done | skip
    obtain rfl := ikb_eq hk
    rename_i c
    have hne : ¬ (Int.ofNat (c + 1) = 0) := by simp; omega
    simp only [binOp, ne_eq, not_true_eq_false, if_false, Op.intDiv]
    rw [if_neg hne]
    rfl
  · injection h with h
    subst h
    rcases hk with hk | hk | hk <;> first | cases hk; done | skip
    obtain rfl := ikb_eq hk
    rename_i c
    have hne : ¬ (Int.ofNat (c + 1) = 0) := by simp; omega
    simp only [binOp, ne_eq, not_true_eq_false, if_false, Op.intDiv]
    rw [if_neg hne]
    rfl
  · injection h with h
    subst h
    rename_i c
    have hne : ¬ (Int.ofNat c < 0) := by simp
    simp only [binOp, Op.shift]
    rw [if_neg hne]
    simp
  · injection h with h
    subst h
    rename_i c
    have hne : ¬ (Int.ofNat c < 0) := by simp
    simp only [binOp, Op.shift]
    rw [if_neg hne]
    simp
  · cases h
theorem run_qstr {P : Program} {op : BinOp} {t : Nat} {a b : ByteArray} {v : Value} (h : qstr op a b = some v) (w : World) : (binOp op t (.string a) (.string b)).run P w = .ok v w := by
  cases op <;> simp only [qstr] at h <;> first | cases h; done | (injection h with h; subst h; simp [binOp, Op.stringOp])
theorem qbin_ok {P : Program} {op : BinOp} {t : Nat} {x y : Operand} {v u r : Value} (h : qbin op (BinOp.con op y) v u = some r) (w : World) : (do eqGuard op t x y v u; binOp op t v u : Sem Value).run P w = .ok r w := by
  unfold qbin at h
  split at h
  · rename_i k a k' b
    simp only [Sem.run_bind, run_eqGuard_int, Result.andThen_ok]
    cases hc : BinOp.con op y with
    | true =>
      rw [hc] at h
      simp only at h
      split at h
      · rename_i hk
        refine run_qcon ⟨y, hc⟩ h ?_ w
        rcases Bool.or_eq_true_iff.1 hk with hk | hk
        · exact .inl hk
        · cases op <;> first | cases hk; done | exact .inr (.inl rfl) | exact .inr (.inr rfl)
      · cases h
    | false =>
      rw [hc] at h
      simp only at h
      split at h
      · rename_i hk
        obtain rfl := ikb_eq hk
        exact run_qint h w
      · cases h
  · simp only [Sem.run_bind, run_eqGuard_str, Result.andThen_ok]
    exact run_qstr h w
  · cases h
theorem str_beq (a b : ByteArray) : (a == b) = (a.data.toList == b.data.toList) := by
  cases a with
  | mk a => cases b with
    | mk b =>
      show (a == b) = (a.toList == b.toList)
      cases a; cases b; simp
theorem qeqf_ok {P : Program} {τ : Tab} (hτ : TabOk P τ) {f : Nat → Value → Value → Option Bool} {k : Nat} (ih : ∀ t x y b w, f t x y = some b → (Op.equalIn k t x y).run P w = .ok b w) {xs ys : Array Value} : ∀ (fs : List Field) (b : Bool) (w : World), (∀ g ∈ fs, (g.name == "_") = false) → qeqf f τ xs.toList ys.toList (fs.map fun g => (g.type, g.offset)) = some b → (Op.eqFields k xs ys fs).run P w = .ok b w
  | [], b, w, _, h => by
    injection h with h
    subst h
    simp [Op.eqFields]
  | g :: fs, b, w, hn, h => by
    simp only [List.map_cons, qeqf] at h
    split at h
    · rename_i a c ha hc
      split at h
      · rename_i x y hx hy
        injection h with h
        subst h
        have hn' : g.name ≠ "_" := by simpa using hn g (by simp)
        have h1 := run_part hτ ha w
        have h2 := run_part hτ hc w
        have h3 := ih _ _ _ _ w hx
        have h4 := qeqf_ok hτ ih fs y w (fun g' hg' => hn g' (by simp [hg'])) hy
        rw [Op.eqFields]
        simp only [if_pos hn', Sem.run_bind, h1, h2, h3, Result.andThen_ok]
        cases x
        · simp
        · simpa using h4
      · cases h
    · cases h
theorem qeq_ok {P : Program} {τ : Tab} (hτ : TabOk P τ) : ∀ (d : Nat) (t : Nat) (x y : Value) (b : Bool) (w : World), qeq τ d t x y = some b → ∀ k, d ≤ k → (Op.equalIn k t x y).run P w = .ok b w
  | 0, t, x, y, b, w, h, k, _ => by cases h
  | d + 1, t, x, y, b, w, h, k, hk => by
    obtain ⟨k, rfl⟩ : ∃ j, k = j + 1 := ⟨k - 1, by omega⟩
    simp only [qeq] at h
    split at h
    · rename_i hi
      obtain ⟨dd, _, _, hd, _, hf, _⟩ := hτ.info hi
      cases hf
      split at h
      · injection h with h
        subst h
        simp [Op.equalIn, run_underlying hd]
      · cases h
    · rename_i hi
      obtain ⟨dd, _, _, hd, _, hf, _⟩ := hτ.info hi
      cases hf
      split at h
      · split at h
        · rename_i hk'
          injection h with h
          subst h
          obtain rfl := ikb_eq hk'
          simp [Op.equalIn, run_underlying hd]
        · cases h
      · cases h
    · rename_i hi
      obtain ⟨dd, _, _, hd, _, hf, _⟩ := hτ.info hi
      cases hf
      split at h
      · injection h with h
        subst h
        simp only [Op.equalIn, Sem.run_bind, run_underlying hd, Result.andThen_ok, Sem.run_pure, str_beq]
      · cases h
    · rename_i fs _ _ _ _ hi
      obtain ⟨dd, _, _, hd, _, hf, _, _, _, _, _, _, _, he⟩ := hτ.info hi
      obtain ⟨fa, rfl, hfa⟩ := hf
      obtain ⟨he1, he2⟩ := he rfl
      obtain ⟨hn, hs⟩ := he1 fa hd
      split at h
      · rename_i xs ys
        rw [← hfa] at h
        have h1 := qeqf_ok hτ (k := k) (fun t x y b w h => qeq_ok hτ d t x y b w h k (by omega)) fa.toList b w hn h
        have hf : P.fieldsOf t = fa := by simp [Program.fieldsOf, hd]
        rw [run_equalIn_struct (P := P) w k t xs ys (by rw [hf]; exact hd) hs, hf]
        exact h1
      · cases h
    · cases h
theorem qagg_ok {P : Program} {τ : Tab} (hτ : TabOk P τ) {op : BinOp} {t : Nat} {x y : Operand} {v u r : Value} (h : qagg τ op t v u = some r) (w : World) : (do eqGuard op t x y v u; binOp op t v u : Sem Value).run P w = .ok r w := by
  have guard : ∀ (i : TI) (xs ys : Array Value), tlook τ t = some i → i.eq = true → (eqGuard op t x y (.agg xs) (.agg ys)).run P w = .ok () w := by
    intro i xs ys hi he
    obtain ⟨_, _, _, _, _, _, _, _, _, _, _, _, _, he'⟩ := hτ.info hi
    have h2 := (he' he).2
    cases op <;> simp [eqGuard, program, Sem.run, h2]
  unfold qagg at h
  split at h
  · rename_i xs ys
    split at h
    · split at h
      · rename_i hi hq
        injection h with h
        subst h
        simp only [Sem.run_bind, guard _ _ _ hi rfl, Result.andThen_ok, binOp, Op.equal, qeq_ok hτ 9 _ _ _ _ w hq _ (by decide : 9 ≤ Op.maxDepth), Sem.run_pure]
      · cases h
    · split at h
      · rename_i hi hq
        injection h with h
        subst h
        simp only [Sem.run_bind, guard _ _ _ hi rfl, Result.andThen_ok, binOp, Op.equal, qeq_ok hτ 9 _ _ _ _ w hq _ (by decide : 9 ≤ Op.maxDepth), Sem.run_pure]
      · cases h
    · cases h
  · cases h
theorem qbool_ok {P : Program} {τ : Tab} (hτ : TabOk P τ) {op : BinOp} {t : Nat} {x y : Operand} {v u r : Value} (h : qbool τ op t v u = some r) (w : World) : (do eqGuard op t x y v u; binOp op t v u : Sem Value).run P w = .ok r w := by
  unfold qbool at h
  split at h
  · rename_i a b
    split at h
    · rename_i hi
      obtain ⟨dd, _, _, hd, _, hf, _⟩ := hτ.info hi
      cases hf
      have hg : (eqGuard op t x y (.bool a) (.bool b)).run P w = .ok () w := by
        unfold eqGuard
        split <;> rfl
      have he : ∀ k, (Op.equalIn (k + 1) t (.bool a) (.bool b)).run P w = .ok (a == b) w := fun k => by simp [Op.equalIn, run_underlying hd]
      have he2 : (Op.equal t (.bool a) (.bool b)).run P w = .ok (a == b) w := he 9999
      split at h
      · injection h with h
        subst h
        simp only [Sem.run_bind, hg, Result.andThen_ok, binOp, he2, Sem.run_pure]
      · injection h with h
        subst h
        simp only [Sem.run_bind, hg, Result.andThen_ok, binOp, he2, Sem.run_pure]
      · cases h
    · cases h
  · cases h
theorem lenOk_some {P : Program} {τ : Tab} (hτ : TabOk P τ) {f : TK → Bool} {ts : Array Nat} (h : lenOk τ f ts.toList = true) : ∃ t i d, ts[0]? = some t ∧ f i = true ∧ P.underlying t = some d ∧ TK.fits i d := by
  unfold lenOk at h
  split at h
  · rename_i t l e
    split at h
    · rename_i i hi
      obtain ⟨d, _, _, hd, _, hk, _⟩ := hτ.info hi
      exact ⟨t, i.k, d, by rw [← Array.getElem?_toList, e]; rfl, h, hd, hk⟩
    · cases h
  · cases h
theorem lenOk_str {P : Program} {τ : Tab} (hτ : TabOk P τ) {ts : Array Nat} (h : lenOk τ TK.isStr ts.toList = true) : ∃ t, ts[0]? = some t ∧ P.underlying t = some .string := by
  obtain ⟨t, i, d, h1, h2, h3, h4⟩ := lenOk_some hτ h
  cases i <;> first | cases h2; done | skip
  cases h4
  exact ⟨t, h1, h3⟩
theorem lenOk_sl {P : Program} {τ : Tab} (hτ : TabOk P τ) {ts : Array Nat} (h : lenOk τ TK.isSl ts.toList = true) : ∃ t e, ts[0]? = some t ∧ P.underlying t = some (.slice e) := by
  obtain ⟨t, i, d, h1, h2, h3, h4⟩ := lenOk_some hτ h
  cases i <;> first | cases h2; done | skip
  cases h4
  exact ⟨t, _, h1, h3⟩
theorem run_qbuiltin {P : Program} {τ : Tab} (hτ : TabOk P τ) {b : Builtin} {ts : Array Nat} {ty : Nat} {cs : Array Bool} {vs : List Value} {v : Value} (h : qbuiltin τ b ts.toList vs = some v) (w : World) : (builtin b ts ty cs vs.toArray).run P w = .ok (.value v) w := by
  unfold qbuiltin at h
  split at h
  · split at h
    · rename_i hl
      injection h with h
      subst h
      obtain ⟨t, h1, h2⟩ := lenOk_str hτ hl
      simp [builtin, Builtin.len_, h1, run_underlying h2, goInt]
    · cases h
  · split at h
    · rename_i hl
      injection h with h
      subst h
      obtain ⟨t, e, h1, h2⟩ := lenOk_sl hτ hl
      simp [builtin, Builtin.len_, h1, run_underlying h2, goInt]
    · cases h
  · rename_i x y
    unfold mx2 at h
    split at h
    · injection h with h
      subst h
      simp [builtin, Builtin.max_, Builtin.max2]
    · cases h
  · rename_i x y
    unfold mn2 at h
    split at h
    · injection h with h
      subst h
      simp [builtin, Builtin.min_, Builtin.min2]
    · cases h
  · split at h
    · rename_i hl
      injection h with h
      subst h
      obtain ⟨t, e, h1, h2⟩ := lenOk_sl hτ hl
      simp [builtin, Builtin.cap_, h1, run_underlying h2, goInt]
    · cases h
  · cases h
theorem spl_ok {P : Program} {τ : Tab} (hτ : TabOk P τ) : ∀ {l : List Field} {pl : List (Nat × Nat)}, spl τ (l.map fun f => (f.type, f.offset)) = some pl → l.mapM (fun f => (P.info? f.type).map fun i => (f.offset, i.size)) = some pl
  | [], pl, h => h
  | f :: l, pl, h => by
    simp only [List.map_cons, spl] at h
    split at h
    · rename_i j r hj hr
      injection h with h
      subst h
      obtain ⟨_, fi, _, _, hfi, _, hsz, _⟩ := hτ.info hj
      simp [List.mapM_cons, hfi, hsz, spl_ok hτ hr]
    · cases h
theorem qx_ok {P : Program} {τ : Tab} (hτ : TabOk P τ) {n : Nat} {m : Env} {a : Act} (hf : Fr n m a) {o : Oper} {v : Value} (h : qx τ m o.op = some v) (w : World) : (execOp a.eval o).run P w = .ok (.value v) w := by
  obtain ⟨dst, op, ty, pos, aft, gd⟩ := o
  simp only at h
  have hv0 : ∃ v0, v0 = v := ⟨v, rfl⟩
  cases op with
  | move x => simp only [qx] at h; simp [execOp, hf.ev h]
  | assign x => simp only [qx] at h; simp [execOp, hf.ev h]
  | pick c x y =>
    simp only [qx] at h
    split at h
    · rename_i hc
      simp [execOp, hf.ev hc, hf.ev h, asBool]
    · rename_i hc
      simp [execOp, hf.ev hc, hf.ev h, asBool]
    · cases h
  | binOp op xt x y yt =>
    simp only [qx] at h
    obtain ⟨v0, e0⟩ := hv0
    rw [← e0]
    split at h
    · rename_i v u hv hu
      have : (do eqGuard op xt x y v u; binOp op xt v u : Sem Value).run P w = .ok v0 w := by
        rw [e0]
        split at h
        · exact qagg_ok hτ (x := x) (y := y) h w
        · exact qbool_ok hτ (x := x) (y := y) h w
        · exact qbin_ok (P := P) (t := xt) (x := x) h w
      simp only [execOp, hf.ev hv, hf.ev hu, Sem.run_bind] at this ⊢
      rw [this]
      rfl
    · cases h
  | unOp op xt x =>
    simp only [qx] at h
    split at h
    · rename_i u hu
      simp only [execOp, hf.ev hu]
      unfold qun at h
      split at h
      · injection h with h
        subst h
        simp [Op.unary, Op.intArith]
      · injection h with h
        subst h
        simp [Op.unary]
      · cases h
    · cases h
  | convert s d x =>
    simp only [qx] at h
    split at h
    · rename_i hs hi hx
      injection h with h
      subst h
      obtain ⟨dd, _, _, hd, _, hk, _⟩ := hτ.info hi
      obtain ⟨ds, _, _, hds, _, hks, _⟩ := hτ.info hs
      cases hk
      cases hks
      simp [execOp, hf.ev hx, convert, run_underlying hd, run_underlying hds, Conv.intToInt]
    · rename_i hs hi hx
      injection h with h
      subst h
      obtain ⟨dd, _, _, hd, _, hk, _⟩ := hτ.info hi
      obtain ⟨ds, _, _, hds, _, hks, _⟩ := hτ.info hs
      cases hk
      cases hks
      simp [execOp, hf.ev hx, convert, run_underlying hd, run_underlying hds]
    · cases h
  | fieldAddr s x f =>
    simp only [qx] at h
    split at h
    · rename_i hi hx
      split at h
      · rename_i t o' hfs
        split at h
        · rename_i hj
          injection h with h
          subst h
          obtain ⟨dd, _, _, hd, _, ⟨fa, rfl, hfa⟩, _⟩ := hτ.info hi
          have hg : ∃ f0 : Field, fa[f]? = some f0 ∧ f0.type = t ∧ f0.offset = o' := by
            rw [← hfa] at hfs
            simp only [List.getElem?_map, Option.map_eq_some_iff, Prod.mk.injEq] at hfs
            obtain ⟨f0, h1, h2, h3⟩ := hfs
            exact ⟨f0, by simpa using h1, h2, h3⟩
          obtain ⟨f0, h1, h2, h3⟩ := hg
          have hsz := run_sizeOf (P := P) hτ hj w
          simp only [execOp, hf.ev hx, Instr.fieldAt, Sem.run_bind, run_underlying hd, Result.andThen_ok, h1, Instr.sureAddr, Sem.run_pure, fieldPlace, h2, hsz, h3]
          rw [if_neg (by omega)]
          simp only [Sem.run_pure, Result.andThen_ok, Addr.add]
          split <;> simp_all
        · cases h
      · cases h
    · cases h
  | field s x f =>
    simp only [qx] at h
    split at h
    · rename_i hi hx
      split at h
      · rename_i t o' hfs
        obtain ⟨dd, _, _, hd, _, ⟨fa, rfl, hfa⟩, _⟩ := hτ.info hi
        have hg : ∃ f0 : Field, fa[f]? = some f0 ∧ f0.type = t ∧ f0.offset = o' := by
          rw [← hfa] at hfs
          simp only [List.getElem?_map, Option.map_eq_some_iff, Prod.mk.injEq] at hfs
          obtain ⟨f0, h1, h2, h3⟩ := hfs
          exact ⟨f0, by simpa using h1, h2, h3⟩
        obtain ⟨f0, h1, h2, h3⟩ := hg
        simp only [execOp, hf.ev hx, Instr.field, Sem.run_bind, run_underlying hd, Result.andThen_ok, h1, asAgg, Sem.run_pure, h2, h3, run_part hτ h]
      · cases h
    · cases h
  | build t ps =>
    simp only [qx] at h
    split at h
    · rename_i fs _ _ _ _ _ hi hl
      split at h
      · rename_i pl hpl
        split at h
        · rename_i cs hb
          injection h with h
          subst h
          obtain ⟨dd, f1, z1, hd, hinf, ⟨fa, rfl, hfa⟩, _, _, hz, hzc, _⟩ := hτ.info hi
          have hev := evs_ok hf hl
          have hparts : (ps.map fun (x : Nat × Operand) => (x.1, a.eval x.2)).toList = _ := (Array.toList_map).trans hev
          simp only at hzc
          rw [← hzc] at hb
          obtain ⟨ra, hra, hrl⟩ := fill_of hb
          have hpl' : fa.toList.mapM (fun f => (P.info? f.type).map fun i => (f.offset, i.size)) = some pl := spl_ok hτ (by rw [hfa]; exact hpl)
          have hcells : ra = cs.toArray := by apply Array.ext'; simpa using hrl
          have hbu : P.built t (ps.map fun (x : Nat × Operand) => (x.1, a.eval x.2)).toList = some ra := by
            rw [hparts]
            simp only [Program.built, hinf, hd, hz, hpl', List.getElem?_toArray]
            exact hra
          simp only [execOp, Sem.run_bind, run_build w t _ _ hbu, Result.andThen_ok, Sem.run_pure, hcells]
        · cases h
      · cases h
    · rename_i nn e _ z _ _ _ _ l hi hl
      split at h
      · rename_i te he
        split at h
        · rename_i cs hb
          injection h with h
          subst h
          obtain ⟨dd, f1, z1, hd, hinf, hfa, _, _, hz, hzc, _⟩ := hτ.info hi
          cases hfa
          have hev := evs_ok hf hl
          have hparts : (ps.map fun (x : Nat × Operand) => (x.1, a.eval x.2)).toList = _ := (Array.toList_map).trans hev
          simp only at hzc
          rw [← hzc] at hb
          obtain ⟨ra, hra, hrl⟩ := fill_of hb
          have hcells : ra = cs.toArray := by apply Array.ext'; simpa using hrl
          have hr : (Instr.build t (ps.map fun (x : Nat × Operand) => (x.1, a.eval x.2))).run P w = .ok (.agg ra) w := by
            rw [← hparts] at hra
            simp only [Instr.build, Sem.run_bind, zeroValue, typeInfo, program, Sem.run, hinf, hz, Result.andThen_ok, run_underlying hd, run_sizeOf hτ he, Sem.run_pure]
            simp only [Sem.run_pure, Result.andThen_ok, hra]
          simp only [execOp, Sem.run_bind, hr, Result.andThen_ok, Sem.run_pure, hcells]
        · cases h
      · cases h
    · cases h
  | indexAddr t x ix =>
    simp only [qx] at h
    split at h
    · rename_i hi hx hix
      split at h
      · rename_i hlt he
        injection h with h
        subst h
        obtain ⟨dd, _, _, hd, _, hk, _⟩ := hτ.info hi
        cases hk
        have hlt := blt_lt hlt
        simp only [execOp, hf.ev hx, hf.ev hix, Instr.indexAt, asIntOf, Instr.sureAddr, Sem.run_bind, Sem.run_pure, Result.andThen_ok, run_underlying hd]
        rw [if_pos ⟨Int.natCast_nonneg _, Int.ofNat_lt.2 hlt⟩]
        simp only [Sem.run_bind, run_sizeOf hτ he, Result.andThen_ok, Sem.run_pure, Addr.add, Int.toNat_natCast]
        split <;> simp_all
      · cases h
    · cases h
  | slice t x lo hi mx =>
    cases lo with
    | some _ => simp [qx] at h
    | none =>
    cases hi with
    | some _ => simp [qx] at h
    | none =>
    cases mx with
    | some _ => simp [qx] at h
    | none =>
      simp only [qx] at h
      split at h
      · rename_i hi hx
        split at h
        · rename_i he
          injection h with h
          subst h
          obtain ⟨dd, _, _, hd, _, hk, _⟩ := hτ.info hi
          cases hk
          simp only [execOp, hf.ev hx, Option.map_none, Instr.sliceAt, Sem.run_bind, run_underlying hd, Result.andThen_ok, Instr.sureAddr, Sem.run_pure, Instr.sliceBounds, run_sizeOf hτ he]
          simp [Addr.add]
        · cases h
      · cases h
  | extract x i =>
    simp only [qx] at h
    split at h
    · rename_i vs hx
      have : vs[i]? = some v := by simpa using h
      simp [execOp, hf.ev hx, Instr.extract, this]
    · cases h
  | nilCheck x =>
    simp only [qx] at h
    split at h
    · rename_i ad hx
      injection h with h
      subst h
      simp [execOp, hf.ev hx]
    · cases h
  | makeFunc fn f c =>
    simp only [qx] at h
    split at h
    · rename_i x y hx hy
      injection h with h
      subst h
      have h1 := evl_ok hf hx
      have h2 := evl_ok hf hy
      have h3 : f.map a.eval = x.toArray := by apply Array.ext'; simpa using h1
      have h4 : c.map a.eval = y.toArray := by apply Array.ext'; simpa using h2
      simp [execOp, Instr.makeFunc, h3, h4]
    · cases h
  | call c =>
    obtain ⟨callee, args, ats⟩ := c
    cases callee with
    | builtin b =>
      simp only [qx] at h
      split at h
      · rename_i vs hvs
        have h1 := evl_ok hf hvs
        have h3 : args.map a.eval = vs.toArray := by apply Array.ext'; simpa using h1
        simp [execOp, resolve, invoke, h3, run_qbuiltin hτ h]
      · cases h
    | value f => simp [qx] at h
    | invoke r m => simp [qx] at h
  | _ => simp [qx] at h
section
variable {G : Pg} {n : Nat} {K : Key} {Q : Exit → Act → World → Prop} {m : Env} {S : List Ch} {I : List Im} {ops : Array Oper}
theorem qrun_ok : ∀ {k : Nat} {l : List Oper} {m m' : Env} {l' : List Oper}, qrun G.τ n ops.toList k l m = some (m', l') → L G n K ops Q l' m' S I → L G n K ops Q l m S I
  | 0, l, m, m', l', h, hl => by
    simp only [qrun, Option.some.injEq, Prod.mk.injEq] at h
    obtain ⟨rfl, rfl⟩ := h
    exact hl
  | k + 1, [], m, m', l', h, hl => by cases h
  | k + 1, o :: l, m, m', l', h, hl => by
    simp only [qrun] at h
    split at h
    · rename_i hw
      split at h
      · rename_i d hd
        split at h
        · rename_i v hn hv
          intro A a w hf hs
          unfold wpList
          rw [if_pos (wg_ok hw hf)]
          left
          unfold Oper.wp
          rw [qx_ok G.ok hf hv w, Oper.upon_value, hd]
          exact qrun_ok h hl A _ w (hf.put v (blt_lt hn)) hs
        · cases h
      · cases h
    · rename_i hw
      split at h
      · rename_i hn
        intro A a w hf hs
        unfold wpList
        rw [if_neg (by rw [wg_ok hw hf]; decide)]
        exact qrun_ok h hl A _ w (hf.putd hn undef) hs
      · cases h
    · cases h
/-- the next k operations, all of them quiet -/
theorem L.q (k : Nat) {l l' : List Oper} {m' : Env} (h : qrun G.τ n ops.toList k l m = some (m', l')) (hl : L G n K ops Q l' m' S I) : L G n K ops Q l m S I := qrun_ok h hl
end
end Go.Tw

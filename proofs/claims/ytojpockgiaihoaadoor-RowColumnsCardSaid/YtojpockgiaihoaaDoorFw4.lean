import Derived.Test.YtojpockgiaihoaaDoorFw3
import Derived.KernelRfl
set_option linter.unusedVariables false
set_option linter.unusedSimpArgs false
namespace Go.Tw
open Go

/-! ### a table is right: by a run -/
def veq : Value → Value → Bool
  | .int k a, .int k' b => ikb k k' && decide (a = b)
  | .bool a, .bool b => a == b
  | .string a, .string b => a.data.toList.isEmpty && b.data.toList.isEmpty
  | .slice none a b, .slice none c d => Nat.beq a c && Nat.beq b d
  | .pointer none, .pointer none => true
  | .map none, .map none => true
  | .nilFunc, .nilFunc => true
  | .nilIface, .nilIface => true
  | _, _ => false
theorem veq_eq {a b : Value} (h : veq a b = true) : a = b := by
  unfold veq at h
  split at h
  · simp only [Bool.and_eq_true, decide_eq_true_eq] at h
    rw [ikb_eq h.1, h.2]
  · rw [eq_of_beq h]
  · rename_i x y
    simp only [Bool.and_eq_true, List.isEmpty_iff] at h
    have hx : x.data = #[] := Array.ext' h.1
    have hy : y.data = #[] := Array.ext' h.2
    cases x; cases y
    simp_all
  · simp only [Bool.and_eq_true] at h
    rw [Nat.eq_of_beq_eq_true h.1, Nat.eq_of_beq_eq_true h.2]
  all_goals first | rfl | cases h
def veqs : List Value → List Value → Bool
  | [], [] => true
  | a :: r, b :: s => veq a b && veqs r s
  | _, _ => false
theorem veqs_eq : ∀ {a b : List Value}, veqs a b = true → a = b
  | [], [], _ => rfl
  | [], _ :: _, h => by cases h
  | _ :: _, [], h => by cases h
  | a :: r, b :: s, h => by
    simp only [veqs, Bool.and_eq_true] at h
    rw [veq_eq h.1, veqs_eq h.2]
def fsb : List (Nat × Nat) → List Field → Bool
  | [], [] => true
  | (t, o) :: r, f :: s => Nat.beq f.type t && Nat.beq f.offset o && fsb r s
  | _, _ => false
theorem fsb_eq : ∀ {r : List (Nat × Nat)} {s : List Field}, fsb r s = true → s.map (fun f => (f.type, f.offset)) = r
  | [], [], _ => rfl
  | [], _ :: _, h => by cases h
  | _ :: _, [], h => by cases h
  | (t, o) :: r, f :: s, h => by
    simp only [fsb, Bool.and_eq_true] at h
    rw [List.map_cons, fsb_eq h.2, Nat.eq_of_beq_eq_true h.1.1, Nat.eq_of_beq_eq_true h.1.2]
def fitb : TK → TypeDesc → Bool
  | .int k, .int k' => ikb k k'
  | .bool, .bool => true
  | .string, .string => true
  | .pointer e, .pointer e' => Nat.beq e e'
  | .slice e, .slice e' => Nat.beq e e'
  | .struct fs, .struct a => fsb fs a.toList
  | .array n e, .array n' e' => Nat.beq n n' && Nat.beq e e'
  | .map k e, .map k' e' => Nat.beq k k' && Nat.beq e e'
  | .func, .func _ _ _ => true
  | .other, .interface _ => true
  | .other, .tuple _ => true
  | _, _ => false
theorem fitb_fits {k : TK} {d : TypeDesc} (h : fitb k d = true) : k.fits d ∧ (k.isAgg = false → ∀ a, d ≠ .struct a) ∧ (k.isAgg = false → ∀ a b, d ≠ .array a b) := by
  unfold fitb at h
  split at h
  · obtain rfl := ikb_eq h; exact ⟨rfl, by simp, by simp⟩
  · exact ⟨rfl, by simp, by simp⟩
  · exact ⟨rfl, by simp, by simp⟩
  · obtain rfl := Nat.eq_of_beq_eq_true h; exact ⟨rfl, by simp, by simp⟩
  · obtain rfl := Nat.eq_of_beq_eq_true h; exact ⟨rfl, by simp, by simp⟩
  · exact ⟨⟨_, rfl, fsb_eq h⟩, by simp [TK.isAgg], by simp⟩
  · simp only [Bool.and_eq_true] at h
    obtain rfl := Nat.eq_of_beq_eq_true h.1
    obtain rfl := Nat.eq_of_beq_eq_true h.2
    exact ⟨rfl, by simp, by simp [TK.isAgg]⟩
  · simp only [Bool.and_eq_true] at h
    obtain rfl := Nat.eq_of_beq_eq_true h.1
    obtain rfl := Nat.eq_of_beq_eq_true h.2
    exact ⟨rfl, by simp, by simp⟩
  · exact ⟨⟨_, _, _, rfl⟩, by simp, by simp⟩
  · exact ⟨trivial, by simp, by simp⟩
  · exact ⟨trivial, by simp, by simp⟩
  · cases h
def eqb (P : Program) (t : Nat) : Bool :=
  (match P.underlying t with
    | some (.struct a) => a.toList.all (fun f => !(f.name == "_")) && !P.stoodInHeld t
    | _ => true) && !P.eqGuardType P.depth t
theorem eqb_ok {P : Program} {t : Nat} (h : eqb P t = true) : EqOk P t := by
  unfold eqb at h
  simp only [Bool.and_eq_true, Bool.not_eq_true'] at h
  refine ⟨fun a ha => ?_, h.2⟩
  have h1 := h.1
  rw [ha] at h1
  simp only [Bool.and_eq_true, List.all_eq_true, Bool.not_eq_true'] at h1
  exact h1
def tib (P : Program) (t : Nat) (i : TI) : Bool :=
  match P.underlying t, P.info? t with
  | some d, some f => fitb i.k d && Nat.beq f.size i.size && Nat.beq f.bytes i.bytes && (i.agg == i.k.isAgg) && (match f.zero with | some z => veqs z.cells.toList i.zero | none => false) && (match i.eq with | true => eqb P t | false => true)
  | _, _ => false
theorem tib_ok {P : Program} {t : Nat} {i : TI} (h : tib P t i = true) : i.ok P t := by
  unfold tib at h
  split at h
  · rename_i d f hd hf
    simp only [Bool.and_eq_true] at h
    obtain ⟨⟨⟨⟨⟨h1, h2⟩, h3⟩, h4⟩, h5⟩, h7⟩ := h
    split at h5
    · rename_i z hz
      have h6 := fitb_fits h1
      exact ⟨d, f, z, hd, hf, h6.1, Nat.eq_of_beq_eq_true h2, Nat.eq_of_beq_eq_true h3, hz, veqs_eq h5, eq_of_beq h4, h6.2.1, h6.2.2, fun e => eqb_ok (by rw [e] at h7; exact h7)⟩
    · cases h5
  · cases h
def tabb (P : Program) : Tab → Bool
  | [] => true
  | (t, i) :: r => tib P t i && tabb P r
theorem tabb_ok {P : Program} : ∀ {τ : Tab}, tabb P τ = true → TabOk P τ
  | [], _, t, i, h => by simp [tlook] at h
  | (t, i) :: r, hb, t', i', h => by
    simp only [tabb, Bool.and_eq_true] at hb
    simp only [tlook] at h
    split at h
    · rename_i he
      injection h with h
      subst h
      rw [← Nat.eq_of_beq_eq_true he]
      exact tib_ok hb.1
    · exact tabb_ok hb.2 t' i' h
end Go.Tw

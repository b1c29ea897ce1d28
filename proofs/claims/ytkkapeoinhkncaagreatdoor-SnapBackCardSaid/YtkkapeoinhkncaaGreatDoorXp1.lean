import Derived.Test.YtkkapeoinhkncaaGreatDoorFw2
set_option linter.unusedVariables false
set_option linter.unusedSimpArgs false
set_option maxRecDepth 10000
namespace Go.Tw.X
open Go Go.Tw
structure NumOut where
  b : List Int
  deriving DecidableEq, Inhabited

structure NumIn where
  s : ByteArray
  e : Int
  deriving DecidableEq, Inhabited

def wfNumOut (x : NumOut) : Prop := (fun xs : List Int => ∀ x ∈ xs, (inK .u8) x) x.b ∧ True
def wfNumIn (x : NumIn) : Prop := (fun s : ByteArray => s.size ≤ maxLen) x.s ∧ (inK .i64) x.e ∧ True
noncomputable def p_num_digits (n_ : Int) : Option Int :=
  some n_

noncomputable def p_num_clip (n_ : Int) : Option Int :=
  some (imax 0 (imin n_ 4611686018427387904))

noncomputable def p_num_digits_1 {σ : Type} (Y : σ → Int → Option (σ × Bool)) (y0 : σ) (x1 : Int) : Option (σ × Int) :=
  (Option.bind (p_num_clip x1) fun r1 => (Option.bind (iter (σ := Int × σ) (ρ := (Int × σ) ⊕ (σ × Int)) (fun s37 => (bif (decide (s37.1 ≥ 128)) then (Option.bind (Y s37.2 (Go.bits .or .u8 (Go.bits .and .u8 (IntKind.u8.wrap s37.1) 127) 128)) fun z68 => (bif (!z68.2) then (inrr (some (z68.1, s37.1))) else some (.inl ((s37.1.fdiv (2 ^ (min 7 64))), z68.1)))) else some (.inr (.inl (s37.1, s37.2))))) (r1, y0)) fun | .inl e53 => (Option.bind (Y e53.2 (IntKind.u8.wrap e53.1)) fun z75 => some (z75.1, e53.1)) | .inr w => some w))

noncomputable def p_num_Out_Num (o : NumOut) (l : List Int) : Option NumOut :=
  (Option.bind (iter (σ := NumOut × Int) (ρ := NumOut) (fun s348 => (bif (decide (s348.2 < (l.length : Int))) then (Option.bind (idx l s348.2) fun x608 => (Option.bind (p_num_digits x608) fun r615 => (Option.bind (p_num_digits_1 (fun s661 x619 => (Option.bind (chk (apok s661.b.length [x619].length 1)) fun _ => some ((NumOut.mk (s661.b ++ [x619])), true))) (s348.1 : NumOut) r615) fun r680 => some (.inl (r680.1, (IntKind.i64.wrap (s348.2 + 1))))))) else some (.inr s348.1))) (o, 0)) fun e518 => some e518)

noncomputable def p_num_Out_Raw (o : NumOut) (l : List ByteArray) : Option NumOut :=
  (Option.bind (iter (σ := NumOut × Int) (ρ := NumOut) (fun s68 => (bif (decide (s68.2 < (l.length : Int))) then (Option.bind (idx l s68.2) fun x120 => (Option.bind (chk (apok s68.1.b.length x120.size 1)) fun _ => some (.inl ((NumOut.mk (s68.1.b ++ sbs x120)), (IntKind.i64.wrap (s68.2 + 1)))))) else some (.inr s68.1))) (o, 0)) fun e99 => some e99)

noncomputable def p_num_Out_Text (o : NumOut) (l : List ByteArray) : Option NumOut :=
  (Option.bind (iter (σ := NumOut × Int) (ρ := NumOut) (fun s120 => (bif (decide (s120.2 < (l.length : Int))) then (Option.bind (idx l s120.2) fun x211 => (Option.bind (p_num_Out_Num s120.1 [(x211.size : Int)]) fun r221 => (Option.bind (p_num_Out_Raw r221 [x211]) fun r230 => some (.inl (r230, (IntKind.i64.wrap (s120.2 + 1))))))) else some (.inr s120.1))) (o, 0)) fun e177 => some e177)

noncomputable def p_num_Out_Bytes (o : NumOut) : Option ByteArray :=
  some (bstr o.b)

noncomputable def p_num_Of (s_ : ByteArray) : Option NumIn :=
  some (NumIn.mk s_ 0)

noncomputable def p_num_In_Fail (in_ : NumIn) (e : Int) : Option NumIn :=
  (Option.bind ((bif (in_.e == 0) then some (e != 0) else some false) : Option Bool) fun e4 => (bif e4 then some (NumIn.mk (ByteArray.mk #[]) e) else some in_))

noncomputable def p_num_In_Num (in_ : NumIn) : Option (Int × NumIn) :=
  (Option.bind (iter (σ := Int × Int) (ρ := Unit ⊕ (Int × NumIn)) (fun s119 => (bif (decide (s119.1 < (imin (in_.s.size : Int) 9))) then (Option.bind (sidx in_.s s119.1) fun b213 => (Option.bind (chk (shk (IntKind.i64.wrap (7 * s119.1)))) fun _ => (bif (decide (b213 ≥ 128)) then some (.inl ((IntKind.i64.wrap (s119.1 + 1)), (Go.bits .or .i64 s119.2 (IntKind.i64.wrap ((IntKind.i64.wrap (Go.bits .and .u8 b213 127)) * 2 ^ (min (IntKind.i64.wrap (7 * s119.1)).toNat 64)))))) else (Option.bind ((bif (decide (s119.1 > 0)) then (bif (b213 == 0) then some true else some (decide ((Go.bits .or .i64 s119.2 (IntKind.i64.wrap ((IntKind.i64.wrap (Go.bits .and .u8 b213 127)) * 2 ^ (min (IntKind.i64.wrap (7 * s119.1)).toNat 64)))) > 4611686018427387904))) else some (decide ((Go.bits .or .i64 s119.2 (IntKind.i64.wrap ((IntKind.i64.wrap (Go.bits .and .u8 b213 127)) * 2 ^ (min (IntKind.i64.wrap (7 * s119.1)).toNat 64)))) > 4611686018427387904))) : Option Bool) fun e225 => (bif e225 then (Option.bind (p_num_In_Fail in_ 1) fun r235 => (inrr (some (0, r235)))) else (Option.bind (chk (cutok (IntKind.i64.wrap (s119.1 + 1)) (in_.s.size : Int) in_.s.size)) fun _ => (inrr (some ((Go.bits .or .i64 s119.2 (IntKind.i64.wrap ((IntKind.i64.wrap (Go.bits .and .u8 b213 127)) * 2 ^ (min (IntKind.i64.wrap (7 * s119.1)).toNat 64)))), (NumIn.mk (scut in_.s (IntKind.i64.wrap (s119.1 + 1)) (in_.s.size : Int)) in_.e)))))))))) else some (.inr (.inl ())))) (0, 0)) fun | .inl e176 => (Option.bind ((bif (decide ((in_.s.size : Int) ≥ 9)) then (Option.bind (p_num_In_Fail in_ 1) fun r257 => some r257) else some in_) : Option NumIn) fun e253 => (Option.bind (p_num_In_Fail e253 2) fun r260 => some (0, r260))) | .inr w => some w)

noncomputable def p_num_In_Raw (in_ : NumIn) (n_ : Int) : Option (ByteArray × NumIn) :=
  (bif (decide ((imax 0 n_) > (in_.s.size : Int))) then (Option.bind (p_num_In_Fail in_ 2) fun r6 => some ((ByteArray.mk #[]), r6)) else (Option.bind (chk (cutok 0 (imax 0 n_) in_.s.size)) fun _ => (Option.bind (chk (cutok (imax 0 n_) (in_.s.size : Int) in_.s.size)) fun _ => some ((scut in_.s 0 (imax 0 n_)), (NumIn.mk (scut in_.s (imax 0 n_) (in_.s.size : Int)) in_.e)))))

noncomputable def p_num_In_Text (in_ : NumIn) : Option (ByteArray × NumIn) :=
  (Option.bind (p_num_In_Num in_) fun r1 => (Option.bind (p_num_In_Raw r1.2 r1.1) fun r4 => some (r4.1, r4.2)))

noncomputable def p_num_In_Err (in_ : NumIn) : Option Int :=
  some in_.e

noncomputable def p_num_In_End (in_ : NumIn) : Option Int :=
  (bif (!(in_.s.toList == (ByteArray.mk #[]).toList)) then some 1 else some in_.e)

noncomputable def p_num_In_Left (in_ : NumIn) : Option Int :=
  some (in_.s.size : Int)
end Go.Tw.X

set_option linter.unusedVariables false
set_option linter.unusedSimpArgs false
set_option maxRecDepth 10000
namespace Go.Tw.X
open Go Go.Tw
structure Arr2Int where
  e0 : Int
  e1 : Int
  deriving DecidableEq, Inhabited

structure Arr3Int where
  e0 : Int
  e1 : Int
  e2 : Int
  deriving DecidableEq, Inhabited

def wfArr2Int (x : Arr2Int) : Prop := (inK .i64) x.e0 ∧ (inK .i64) x.e1 ∧ True
def wfArr3Int (x : Arr3Int) : Prop := (inK .i64) x.e0 ∧ (inK .i64) x.e1 ∧ (inK .i64) x.e2 ∧ True
noncomputable def p_bits_Mul64 (x_ : Int) (y : Int) : Option (Int × Int) :=
  some ((IntKind.u64.wrap ((IntKind.u64.wrap ((IntKind.u64.wrap ((x_.fdiv (2 ^ (min 32 64))) * (y.fdiv (2 ^ (min 32 64))))) + ((IntKind.u64.wrap ((IntKind.u64.wrap ((x_.fdiv (2 ^ (min 32 64))) * (Go.bits .and .u64 y 4294967295))) + ((IntKind.u64.wrap ((Go.bits .and .u64 x_ 4294967295) * (Go.bits .and .u64 y 4294967295))).fdiv (2 ^ (min 32 64))))).fdiv (2 ^ (min 32 64))))) + ((IntKind.u64.wrap ((Go.bits .and .u64 (IntKind.u64.wrap ((IntKind.u64.wrap ((x_.fdiv (2 ^ (min 32 64))) * (Go.bits .and .u64 y 4294967295))) + ((IntKind.u64.wrap ((Go.bits .and .u64 x_ 4294967295) * (Go.bits .and .u64 y 4294967295))).fdiv (2 ^ (min 32 64))))) 4294967295) + (IntKind.u64.wrap ((Go.bits .and .u64 x_ 4294967295) * (y.fdiv (2 ^ (min 32 64))))))).fdiv (2 ^ (min 32 64))))), (IntKind.u64.wrap (x_ * y)))

noncomputable def p_bits_Mul (x_ : Int) (y : Int) : Option (Int × Int) :=
  (Option.bind (p_bits_Mul64 x_ y) fun r1 => some (r1.1, r1.2))
end Go.Tw.X

set_option linter.unusedVariables false
set_option linter.unusedSimpArgs false
set_option maxRecDepth 10000
namespace Go.Tw.X
open Go Go.Tw
structure WideSpan where
  from_ : Int
  to : Int
  deriving DecidableEq, Inhabited

def wfWideSpan (x : WideSpan) : Prop := (inK .i32) x.from_ ∧ (inK .i32) x.to ∧ True
def t_wide_nones : List WideSpan := [⟨(-2147483648), 31⟩, ⟨127, 159⟩, ⟨768, 879⟩, ⟨6832, 6911⟩, ⟨7616, 7679⟩, ⟨8203, 8207⟩, ⟨8400, 8447⟩, ⟨55296, 57343⟩, ⟨65024, 65039⟩, ⟨65056, 65071⟩, ⟨65279, 65279⟩, ⟨917760, 917999⟩, ⟨1114112, 2147483647⟩]
def t_wide_twos : List WideSpan := [⟨4352, 4447⟩, ⟨11904, 12350⟩, ⟨12353, 13311⟩, ⟨13312, 19903⟩, ⟨19968, 40959⟩, ⟨40960, 42191⟩, ⟨44032, 55203⟩, ⟨63744, 64255⟩, ⟨65072, 65135⟩, ⟨65280, 65376⟩, ⟨65504, 65510⟩, ⟨127744, 128591⟩, ⟨129280, 129535⟩, ⟨131072, 262141⟩]
noncomputable def p_wide_in (l : List WideSpan) (r_ : Int) : Option Bool :=
  (Option.bind (iter (σ := Int × Int) (ρ := Int) (fun s27 => (bif (decide (s27.1 < s27.2)) then (Option.bind (idx l (IntKind.i64.wrap ((IntKind.i64.wrap (s27.1 + s27.2)).tdiv 2))) fun x48 => (bif (decide (x48.to < r_)) then some (.inl ((IntKind.i64.wrap ((IntKind.i64.wrap ((IntKind.i64.wrap (s27.1 + s27.2)).tdiv 2)) + 1)), s27.2)) else some (.inl (s27.1, (IntKind.i64.wrap ((IntKind.i64.wrap (s27.1 + s27.2)).tdiv 2)))))) else some (.inr s27.1))) (0, (l.length : Int))) fun e39 => (Option.bind ((bif (decide (e39 < (l.length : Int))) then (Option.bind (idx l e39) fun x77 => some (decide (x77.from_ ≤ r_))) else some false) : Option Bool) fun e73 => some e73))

noncomputable def p_wide_Of (r_ : Int) : Option Int :=
  (Option.bind (p_wide_in t_wide_nones r_) fun r9 => (bif r9 then some 0 else (Option.bind (p_wide_in t_wide_twos r_) fun r13 => (bif r13 then some 2 else some 1))))
end Go.Tw.X

set_option linter.unusedVariables false
set_option linter.unusedSimpArgs false
set_option maxRecDepth 10000
namespace Go.Tw.X
open Go Go.Tw
structure RowCell where
  rune : Int
  style : Int
  part : Int
  deriving DecidableEq, Inhabited

structure RowRow where
  cells : List RowCell
  wrapped : Bool
  deriving DecidableEq, Inhabited

structure RowGlyph where
  rune : Int
  style : Int
  deriving DecidableEq, Inhabited

def wfRowCell (x : RowCell) : Prop := (inK .i32) x.rune ∧ (inK .i64) x.style ∧ (inK .i64) x.part ∧ True
def wfRowRow (x : RowRow) : Prop := (fun xs : List RowCell => ∀ x ∈ xs, wfRowCell x) x.cells ∧ (fun _ => True) x.wrapped ∧ True
def wfRowGlyph (x : RowGlyph) : Prop := (inK .i32) x.rune ∧ (inK .i64) x.style ∧ True
noncomputable def p_row_clip (n_ : Int) (lo : Int) (hi : Int) : Option Int :=
  some (imax lo (imin n_ hi))

noncomputable def p_row_blank (style : Int) : Option RowCell :=
  some (RowCell.mk 32 style 0)

noncomputable def p_slices_Repeat_row_Cell (x_ : List RowCell) (count : Int) : Option (List RowCell) :=
  (bif (decide (count < 0)) then none else (Option.bind (p_bits_Mul (IntKind.u64.wrap (x_.length : Int)) (IntKind.u64.wrap count)) fun r3 => (Option.bind ((bif (decide (r3.1 > 0)) then some true else some (decide (r3.2 > 9223372036854775807))) : Option Bool) fun e9 => (bif e9 then none else (Option.bind (chk (mkok (IntKind.i64.wrap r3.2) 24)) fun _ => (Option.bind (iter (σ := (List RowCell) × Int) (ρ := (List RowCell)) (fun s67 => (bif (decide (s67.2 < (s67.1.length : Int))) then (Option.bind (chk (cutok s67.2 (s67.1.length : Int) s67.1.length)) fun _ => (Option.bind (chk (cutok 0 s67.2 s67.1.length)) fun _ => some (.inl ((cpys s67.1 s67.2.toNat), (IntKind.i64.wrap (s67.2 + ((Nat.min s67.2.toNat (s67.1.length - s67.2.toNat) : Nat) : Int))))))) else some (.inr s67.1))) ((cpy (List.replicate (IntKind.i64.wrap r3.2).toNat (RowCell.mk 0 0 0)) x_), ((Nat.min x_.length (List.replicate (IntKind.i64.wrap r3.2).toNat (RowCell.mk 0 0 0)).length : Nat) : Int))) fun e88 => some e88))))))

noncomputable def p_row_blanks (n_ : Int) (style : Int) : Option (List RowCell) :=
  (Option.bind (p_row_blank style) fun r1 => (Option.bind (p_slices_Repeat_row_Cell [r1] (imax 0 n_)) fun r7 => some r7))

noncomputable def p_row_Blank (w : Int) (style : Int) : Option RowRow :=
  (Option.bind (p_row_clip w 0 1000) fun r2 => (Option.bind (p_row_blanks r2 style) fun r5 => some (RowRow.mk r5 false)))

noncomputable def p_slices_Clone_row_Cell (s_ : List RowCell) : Option (List RowCell) :=
  (Option.bind (chk (apok ([] : List RowCell).length s_.length 24)) fun _ => some (([] : List RowCell) ++ s_))

noncomputable def p_row_Row_cells (r_ : RowRow) : Option (List RowCell) :=
  (Option.bind (p_slices_Clone_row_Cell r_.cells) fun r2 => some r2)

noncomputable def p_row_broken (l : List RowCell) (i : Int) : Option Bool :=
  (Option.bind (idx l i) fun x1 => (bif (x1.part == 1) then (Option.bind ((bif (decide ((IntKind.i64.wrap (i + 1)) ≥ (l.length : Int))) then some true else (Option.bind (idx l (IntKind.i64.wrap (i + 1))) fun x65 => some (x65.part != 2))) : Option Bool) fun e61 => some e61) else (bif (x1.part == 2) then (Option.bind ((bif (i == 0) then some true else (Option.bind (idx l (IntKind.i64.wrap (i - 1))) fun x85 => some (x85.part != 1))) : Option Bool) fun e81 => some e81) else (bif (x1.part == 3) then some (i != (IntKind.i64.wrap ((l.length : Int) - 1))) else some false))))

noncomputable def p_row_mend (l : List RowCell) : Option RowRow :=
  (Option.bind (iter (σ := (List RowCell) × Int) (ρ := (List RowCell)) (fun s121 => (bif (decide (s121.2 < (l.length : Int))) then (Option.bind ((Option.bind (p_row_broken s121.1 s121.2) fun r225 => (bif r225 then (Option.bind (idx s121.1 s121.2) fun x229 => (Option.bind (p_row_blank x229.style) fun r234 => (Option.bind (idx s121.1 s121.2) fun x237 => some (s121.1.set s121.2.toNat r234)))) else some s121.1)) : Option (List RowCell)) fun e222 => some (.inl (e222, (IntKind.i64.wrap (s121.2 + 1))))) else some (.inr s121.1))) (l, 0)) fun e179 => some (RowRow.mk e179 false))

noncomputable def p_row_Row_Put (r_ : RowRow) (at_ : Int) (x_ : Int) (style : Int) : Option RowRow :=
  (Option.bind (p_row_Row_cells r_) fun r3 => (Option.bind (p_wide_Of x_) fun r9 => (Option.bind ((Option.bind ((bif (r9 == 0) then some true else (bif (decide (at_ < 0)) then some true else some (decide (at_ > (IntKind.i64.wrap ((r3.length : Int) - r9)))))) : Option Bool) fun e132 => (bif e132 then some r3 else (bif (r9 == 1) then (Option.bind (idx r3 at_) fun x139 => some (r3.set at_.toNat (RowCell.mk x_ style 0))) else (Option.bind (idx r3 at_) fun x145 => (Option.bind (idx (r3.set at_.toNat (RowCell.mk x_ style 1)) (IntKind.i64.wrap (at_ + 1))) fun x151 => (Option.bind ((bif (decide (at_ > 0)) then (Option.bind (idx ((r3.set at_.toNat (RowCell.mk x_ style 1)).set ((IntKind.i64.wrap (at_ + 1)).toNat) (RowCell.mk x_ style 2)) (IntKind.i64.wrap (at_ - 1))) fun x168 => some (x168.part == 1)) else some false) : Option Bool) fun e164 => (bif e164 then (Option.bind (idx ((r3.set at_.toNat (RowCell.mk x_ style 1)).set ((IntKind.i64.wrap (at_ + 1)).toNat) (RowCell.mk x_ style 2)) (IntKind.i64.wrap (at_ - 1))) fun x172 => (Option.bind (p_row_blank x172.style) fun r175 => (Option.bind (idx ((r3.set at_.toNat (RowCell.mk x_ style 1)).set ((IntKind.i64.wrap (at_ + 1)).toNat) (RowCell.mk x_ style 2)) (IntKind.i64.wrap (at_ - 1))) fun x178 => some (((r3.set at_.toNat (RowCell.mk x_ style 1)).set ((IntKind.i64.wrap (at_ + 1)).toNat) (RowCell.mk x_ style 2)).set ((IntKind.i64.wrap (at_ - 1)).toNat) r175)))) else some ((r3.set at_.toNat (RowCell.mk x_ style 1)).set ((IntKind.i64.wrap (at_ + 1)).toNat) (RowCell.mk x_ style 2))))))))) : Option (List RowCell)) fun e124 => (Option.bind (p_row_mend e124) fun r182 => some r182))))

noncomputable def p_row_Row_Glyphs (r_ : RowRow) : Option (List RowGlyph) :=
  (Option.bind (iter (σ := (List RowCell)) (ρ := (List RowCell)) (fun s180 => (Option.bind ((bif (!r_.wrapped) then (bif (decide ((s180.length : Int) > 0)) then (Option.bind (idx s180 (IntKind.i64.wrap ((s180.length : Int) - 1))) fun x341 => (Option.bind (p_row_blank 0) fun r348 => some ((x341.rune == r348.rune) && ((x341.style == r348.style) && ((x341.part == r348.part) && true))))) else some false) else some false) : Option Bool) fun e324 => (bif e324 then (Option.bind (chk (cutok 0 (IntKind.i64.wrap ((s180.length : Int) - 1)) s180.length)) fun _ => some (.inl (cut s180 0 (IntKind.i64.wrap ((s180.length : Int) - 1))))) else some (.inr s180)))) r_.cells) fun e268 => (Option.bind (iter (σ := Int × (List RowGlyph)) (ρ := (List RowGlyph)) (fun s539 => (bif (decide (s539.1 < (e268.length : Int))) then (Option.bind ((Option.bind (idx e268 s539.1) fun x689 => (Option.bind ((bif (x689.part == 0) then some true else some (x689.part == 1)) : Option Bool) fun e700 => (bif e700 then (Option.bind (chk (apok s539.2.length [(RowGlyph.mk x689.rune x689.style)].length 16)) fun _ => some (s539.2 ++ [(RowGlyph.mk x689.rune x689.style)])) else some s539.2))) : Option (List RowGlyph)) fun e686 => some (.inl ((IntKind.i64.wrap (s539.1 + 1)), e686))) else some (.inr s539.2))) (0, [])) fun e625 => some e625))

noncomputable def p_row_Row_Erase (r_ : RowRow) (from_ : Int) (to : Int) (style : Int) : Option RowRow :=
  (Option.bind (p_row_Row_cells r_) fun r3 => (Option.bind (p_row_clip from_ 0 (r3.length : Int)) fun r9 => (Option.bind (iter (σ := Int × (List RowCell)) (ρ := (List RowCell)) (fun s67 => (Option.bind (p_row_clip to 0 (s67.2.length : Int)) fun r100 => (bif (decide (s67.1 < r100)) then (Option.bind (p_row_blank style) fun r114 => (Option.bind (idx s67.2 s67.1) fun x117 => some (.inl ((IntKind.i64.wrap (s67.1 + 1)), (s67.2.set s67.1.toNat r114))))) else some (.inr s67.2)))) (r9, r3)) fun e93 => (Option.bind (p_row_mend e93) fun r123 => some r123))))

noncomputable def p_row_Row_within (r_ : RowRow) (at_ : Int) (n_ : Int) : Option Int :=
  (Option.bind ((bif (decide (at_ < 0)) then some true else some (decide (at_ ≥ (r_.cells.length : Int)))) : Option Bool) fun e5 => (bif e5 then some 0 else (Option.bind (p_row_clip n_ 0 (IntKind.i64.wrap ((r_.cells.length : Int) - at_))) fun r11 => some r11)))

noncomputable def p_slices_Grow_row_Cell (n_ : Int) : Option (List RowCell) :=
  (bif (decide (n_ < 0)) then none else (Option.bind ((bif (decide ((IntKind.i64.wrap (n_ - (IntKind.i64.wrap (0 - 0)))) > 0)) then (Option.bind (chk (gzok (IntKind.i64.wrap (n_ - (IntKind.i64.wrap (0 - 0)))) 24)) fun _ => (Option.bind (chk (cutok 0 0 (List.replicate (IntKind.i64.wrap (n_ - (IntKind.i64.wrap (0 - 0)))).toNat (RowCell.mk 0 0 0)).length)) fun _ => some (cut (List.replicate (IntKind.i64.wrap (n_ - (IntKind.i64.wrap (0 - 0)))).toNat (RowCell.mk 0 0 0)) 0 0))) else some []) : Option (List RowCell)) fun e29 => some e29))

noncomputable def p_slices_Concat_row_Cell (slices : List (List RowCell)) : Option (List RowCell) :=
  (Option.bind (iter (σ := Int × Int) (ρ := Int) (fun s55 => (bif (decide (s55.1 < (slices.length : Int))) then (Option.bind (idx slices s55.1) fun x101 => (bif (decide ((IntKind.i64.wrap (s55.2 + (x101.length : Int))) < 0)) then none else some (.inl ((IntKind.i64.wrap (s55.1 + 1)), (IntKind.i64.wrap (s55.2 + (x101.length : Int))))))) else some (.inr s55.2))) (0, 0)) fun e81 => (Option.bind (p_slices_Grow_row_Cell e81) fun r112 => (Option.bind (iter (σ := Int × (List RowCell)) (ρ := (List RowCell)) (fun s197 => (bif (decide (s197.1 < (slices.length : Int))) then (Option.bind (idx slices s197.1) fun x258 => (Option.bind (chk (apok s197.2.length x258.length 24)) fun _ => some (.inl ((IntKind.i64.wrap (s197.1 + 1)), (s197.2 ++ x258))))) else some (.inr s197.2))) (0, r112)) fun e234 => some e234)))

noncomputable def p_row_Row_Insert (r_ : RowRow) (at_ : Int) (n_ : Int) (style : Int) : Option RowRow :=
  (Option.bind (p_row_Row_within r_ at_ n_) fun r3 => (bif (r3 == 0) then (Option.bind (p_row_Row_cells r_) fun r18 => (Option.bind (p_row_mend r18) fun r24 => some r24)) else (Option.bind (chk (cutok 0 at_ r_.cells.length)) fun _ => (Option.bind (chk (cutok at_ (r_.cells.length : Int) r_.cells.length)) fun _ => (Option.bind (p_row_blanks r3 style) fun r116 => (Option.bind (p_slices_Concat_row_Cell [(cut r_.cells 0 at_), r116, (cut r_.cells at_ (r_.cells.length : Int))]) fun r126 => (Option.bind (chk (cutok 0 (r_.cells.length : Int) r126.length)) fun _ => (Option.bind (p_row_mend (cut r126 0 (r_.cells.length : Int))) fun r137 => some r137))))))))

noncomputable def p_row_Row_Delete (r_ : RowRow) (at_ : Int) (n_ : Int) (style : Int) : Option RowRow :=
  (Option.bind (p_row_Row_within r_ at_ n_) fun r3 => (bif (r3 == 0) then (Option.bind (p_row_Row_cells r_) fun r18 => (Option.bind (p_row_mend r18) fun r24 => some r24)) else (Option.bind (chk (cutok 0 at_ r_.cells.length)) fun _ => (Option.bind (chk (cutok (IntKind.i64.wrap (at_ + r3)) (r_.cells.length : Int) r_.cells.length)) fun _ => (Option.bind (p_row_blanks r3 style) fun r128 => (Option.bind (p_slices_Concat_row_Cell [(cut r_.cells 0 at_), (cut r_.cells (IntKind.i64.wrap (at_ + r3)) (r_.cells.length : Int)), r128]) fun r138 => (Option.bind (p_row_mend r138) fun r144 => some r144)))))))

noncomputable def p_row_Row_Fill (r_ : RowRow) (style : Int) : Option RowRow :=
  (Option.bind (p_row_Row_cells r_) fun r3 => (Option.bind ((bif (decide ((r3.length : Int) > 0)) then (Option.bind (idx r3 (IntKind.i64.wrap ((r3.length : Int) - 1))) fun x29 => some (r3.set ((IntKind.i64.wrap ((r3.length : Int) - 1)).toNat) (RowCell.mk 32 style 3))) else some r3) : Option (List RowCell)) fun e25 => (Option.bind (p_row_mend e25) fun r35 => some (RowRow.mk r35.cells true))))

noncomputable def p_row_Row_Resize (r_ : RowRow) (w : Int) : Option RowRow :=
  (Option.bind (p_row_clip w 0 1000) fun r3 => (Option.bind (p_row_Row_cells r_) fun r6 => (bif (r3 == (r6.length : Int)) then some (RowRow.mk r6 r_.wrapped) else (Option.bind ((Option.bind (chk (cutok 0 (imin r3 (r6.length : Int)) r6.length)) fun _ => (Option.bind (p_row_blanks (IntKind.i64.wrap (r3 - (r6.length : Int))) 0) fun r282 => (Option.bind (chk (apok (cut r6 0 (imin r3 (r6.length : Int))).length r282.length 24)) fun _ => (Option.bind (p_row_mend ((cut r6 0 (imin r3 (r6.length : Int))) ++ r282)) fun r294 => some r294)))) : Option RowRow) fun e223 => some e223))))

noncomputable def p_slices_Equal_row_Cell (s1_ : List RowCell) (s2_ : List RowCell) : Option Bool :=
  (bif ((s1_.length : Int) != (s2_.length : Int)) then some false else (Option.bind (iter (σ := Int) (ρ := Unit ⊕ Bool) (fun s238 => (bif (decide (s238 < (s1_.length : Int))) then (Option.bind (idx s1_ s238) fun x464 => (Option.bind (idx s2_ s238) fun x471 => (bif (!((x464.rune == x471.rune) && ((x464.style == x471.style) && ((x464.part == x471.part) && true)))) then (inrr (some false)) else some (.inl (IntKind.i64.wrap (s238 + 1)))))) else some (.inr (.inl ())))) 0) fun | .inl e355 => some true | .inr w => some w))

noncomputable def p_row_Row_Same (r_ : RowRow) (q : RowRow) : Option Bool :=
  (Option.bind ((bif (r_.wrapped == q.wrapped) then (Option.bind (p_slices_Equal_row_Cell r_.cells q.cells) fun r16 => some r16) else some false) : Option Bool) fun e12 => some e12)

noncomputable def p_slices_Clone_row_Row (s_ : List RowRow) : Option (List RowRow) :=
  (Option.bind (chk (apok ([] : List RowRow).length s_.length 32)) fun _ => some (([] : List RowRow) ++ s_))

noncomputable def p_slices_Reverse_row_Row (s_ : List RowRow) : Option (List RowRow) :=
  (Option.bind (iter (σ := (List RowRow) × Int × Int) (ρ := (List RowRow)) (fun s627 => (bif (decide (s627.2.1 < s627.2.2)) then (Option.bind ((Option.bind (idx s627.1 s627.2.2) fun x1201 => (Option.bind (idx s627.1 s627.2.1) fun x1206 => (Option.bind (idx s627.1 s627.2.1) fun x1215 => (Option.bind (idx s627.1 s627.2.2) fun x1219 => some ((s627.1.set s627.2.1.toNat x1201).set s627.2.2.toNat x1206))))) : Option (List RowRow)) fun e1148 => some (.inl (e1148, (IntKind.i64.wrap (s627.2.1 + 1)), (IntKind.i64.wrap (s627.2.2 - 1))))) else some (.inr s627.1))) (s_, 0, (IntKind.i64.wrap ((s_.length : Int) - 1)))) fun e937 => some e937)

noncomputable def p_slices_EqualFunc_row_Row_Row_Same (s1_ : List RowRow) (s2_ : List RowRow) : Option Bool :=
  (bif ((s1_.length : Int) != (s2_.length : Int)) then some false else (Option.bind (iter (σ := Int) (ρ := Unit ⊕ Bool) (fun s114 => (bif (decide (s114 < (s1_.length : Int))) then (Option.bind (idx s1_ s114) fun x205 => (Option.bind (idx s2_ s114) fun x216 => (Option.bind (p_row_Row_Same x205 x216) fun r227 => (bif (!r227) then (inrr (some false)) else some (.inl (IntKind.i64.wrap (s114 + 1))))))) else some (.inr (.inl ())))) 0) fun | .inl e169 => some true | .inr w => some w))

noncomputable def p_slices_Clone_row_Glyph (s_ : List RowGlyph) : Option (List RowGlyph) :=
  (Option.bind (chk (apok ([] : List RowGlyph).length s_.length 16)) fun _ => some (([] : List RowGlyph) ++ s_))

noncomputable def p_slices_Equal_row_Glyph (s1_ : List RowGlyph) (s2_ : List RowGlyph) : Option Bool :=
  (bif ((s1_.length : Int) != (s2_.length : Int)) then some false else (Option.bind (iter (σ := Int) (ρ := Unit ⊕ Bool) (fun s238 => (bif (decide (s238 < (s1_.length : Int))) then (Option.bind (idx s1_ s238) fun x464 => (Option.bind (idx s2_ s238) fun x471 => (bif (!((x464.rune == x471.rune) && ((x464.style == x471.style) && true))) then (inrr (some false)) else some (.inl (IntKind.i64.wrap (s238 + 1)))))) else some (.inr (.inl ())))) 0) fun | .inl e355 => some true | .inr w => some w))
end Go.Tw.X

set_option linter.unusedVariables false
set_option linter.unusedSimpArgs false
set_option maxRecDepth 10000
namespace Go.Tw.X
open Go Go.Tw
structure BookBook where
  l : List (List RowGlyph)
  chains : List Int
  begun : List RowGlyph
  deriving DecidableEq, Inhabited

def wfBookBook (x : BookBook) : Prop := (fun xs : List (List RowGlyph) => ∀ x ∈ xs, (fun xs : List RowGlyph => ∀ x ∈ xs, wfRowGlyph x) x) x.l ∧ (fun xs : List Int => ∀ x ∈ xs, (inK .i64) x) x.chains ∧ (fun xs : List RowGlyph => ∀ x ∈ xs, wfRowGlyph x) x.begun ∧ True
noncomputable def p_book_New : Option BookBook :=
  some (BookBook.mk ([] : List (List RowGlyph)) [0] ([] : List RowGlyph))

noncomputable def p_book_Book_Len (b : BookBook) : Option Int :=
  some (b.l.length : Int)

noncomputable def p_book_Book_Chain (b : BookBook) (n_ : Int) : Option Int :=
  (Option.bind (idx b.chains (imax 0 (imin n_ (b.l.length : Int)))) fun x22 => some x22)

noncomputable def p_book_Book_Begun (b : BookBook) : Option (List RowGlyph) :=
  (Option.bind (p_slices_Clone_row_Glyph b.begun) fun r1 => some r1)

noncomputable def p_book_Pack (l : List RowGlyph) : Option ByteArray :=
  (Option.bind (p_num_Out_Num (NumOut.mk ([] : List Int)) [(l.length : Int)]) fun r6 => (Option.bind (iter (σ := NumOut × Int) (ρ := NumOut) (fun s99 => (bif (decide (s99.2 < (l.length : Int))) then (Option.bind (idx l s99.2) fun x166 => (Option.bind (p_num_Out_Num s99.1 [(IntKind.i64.wrap x166.rune), x166.style]) fun r177 => some (.inl (r177, (IntKind.i64.wrap (s99.2 + 1)))))) else some (.inr s99.1))) (r6, 0)) fun e140 => (Option.bind (p_num_Out_Bytes e140) fun r183 => some r183)))

noncomputable def p_book_limited (in_ : NumIn) (most : Int) : Option (Int × NumIn) :=
  (Option.bind (p_num_In_Num in_) fun r1 => (bif (decide (r1.1 > most)) then (Option.bind (p_num_In_Fail r1.2 1) fun r9 => some (0, r9)) else some (r1.1, r1.2)))

noncomputable def p_book_Read (in_ : NumIn) : Option ((List RowGlyph) × NumIn) :=
  (Option.bind (p_book_limited in_ 1024) fun r1 => (Option.bind (iter (σ := NumIn × (List RowGlyph) × Int) (ρ := (List RowGlyph) × NumIn) (fun s84 => (bif (decide (s84.2.2 < r1.1)) then (Option.bind (p_book_limited s84.1 1114111) fun r143 => (Option.bind (p_book_limited r143.2 647) fun r146 => (Option.bind (chk (apok s84.2.1.length [(RowGlyph.mk (IntKind.i32.wrap r143.1) r146.1)].length 16)) fun _ => some (.inl (r146.2, (s84.2.1 ++ [(RowGlyph.mk (IntKind.i32.wrap r143.1) r146.1)]), (IntKind.i64.wrap (s84.2.2 + 1))))))) else some (.inr (s84.2.1, s84.1)))) (r1.2, [], 0)) fun e120 => (Option.bind (p_num_In_Err e120.2) fun r157 => (bif (r157 != 0) then some (([] : List RowGlyph), e120.2) else some (e120.1, e120.2)))))
end Go.Tw.X

set_option linter.unusedVariables false
set_option linter.unusedSimpArgs false
set_option maxRecDepth 10000
namespace Go.Tw.X
open Go Go.Tw

noncomputable def p_glyph_Encode (l : List Int) : Option ByteArray :=
  (Option.bind (iter (σ := (List Int) × Int) (ρ := (List Int)) (fun s418 => (bif (decide (s418.2 < (l.length : Int))) then (Option.bind ((Option.bind (idx l s418.2) fun x758 => (Option.bind ((bif (decide (x758 < 0)) then some true else (bif (decide (x758 > 1114111)) then some true else (bif (decide (x758 ≥ 55296)) then some (decide (x758 ≤ 57343)) else some false))) : Option Bool) fun e772 => (Option.bind ((bif e772 then some 65533 else some x758) : Option Int) fun e781 => (bif (decide (e781 < 128)) then (Option.bind (chk (apok s418.1.length [(IntKind.u8.wrap e781)].length 1)) fun _ => some (s418.1 ++ [(IntKind.u8.wrap e781)])) else (bif (decide (e781 < 2048)) then (Option.bind (chk (apok s418.1.length [(IntKind.u8.wrap (Go.bits .or .i32 192 (e781.fdiv (2 ^ (min 6 32))))), (IntKind.u8.wrap (Go.bits .or .i32 128 (Go.bits .and .i32 e781 63)))].length 1)) fun _ => some (s418.1 ++ [(IntKind.u8.wrap (Go.bits .or .i32 192 (e781.fdiv (2 ^ (min 6 32))))), (IntKind.u8.wrap (Go.bits .or .i32 128 (Go.bits .and .i32 e781 63)))])) else (bif (decide (e781 < 65536)) then (Option.bind (chk (apok s418.1.length [(IntKind.u8.wrap (Go.bits .or .i32 224 (e781.fdiv (2 ^ (min 12 32))))), (IntKind.u8.wrap (Go.bits .or .i32 128 (Go.bits .and .i32 (e781.fdiv (2 ^ (min 6 32))) 63))), (IntKind.u8.wrap (Go.bits .or .i32 128 (Go.bits .and .i32 e781 63)))].length 1)) fun _ => some (s418.1 ++ [(IntKind.u8.wrap (Go.bits .or .i32 224 (e781.fdiv (2 ^ (min 12 32))))), (IntKind.u8.wrap (Go.bits .or .i32 128 (Go.bits .and .i32 (e781.fdiv (2 ^ (min 6 32))) 63))), (IntKind.u8.wrap (Go.bits .or .i32 128 (Go.bits .and .i32 e781 63)))])) else (Option.bind (chk (apok s418.1.length [(IntKind.u8.wrap (Go.bits .or .i32 240 (e781.fdiv (2 ^ (min 18 32))))), (IntKind.u8.wrap (Go.bits .or .i32 128 (Go.bits .and .i32 (e781.fdiv (2 ^ (min 12 32))) 63))), (IntKind.u8.wrap (Go.bits .or .i32 128 (Go.bits .and .i32 (e781.fdiv (2 ^ (min 6 32))) 63))), (IntKind.u8.wrap (Go.bits .or .i32 128 (Go.bits .and .i32 e781 63)))].length 1)) fun _ => some (s418.1 ++ [(IntKind.u8.wrap (Go.bits .or .i32 240 (e781.fdiv (2 ^ (min 18 32))))), (IntKind.u8.wrap (Go.bits .or .i32 128 (Go.bits .and .i32 (e781.fdiv (2 ^ (min 12 32))) 63))), (IntKind.u8.wrap (Go.bits .or .i32 128 (Go.bits .and .i32 (e781.fdiv (2 ^ (min 6 32))) 63))), (IntKind.u8.wrap (Go.bits .or .i32 128 (Go.bits .and .i32 e781 63)))])))))))) : Option (List Int)) fun e755 => some (.inl (e755, (IntKind.i64.wrap (s418.2 + 1))))) else some (.inr s418.1))) ([], 0)) fun e618 => some (bstr e618))
end Go.Tw.X

set_option linter.unusedVariables false
set_option linter.unusedSimpArgs false
set_option maxRecDepth 10000
namespace Go.Tw.X
open Go Go.Tw
structure GridGrid where
  w : Int
  l : List RowRow
  deriving DecidableEq, Inhabited

def wfGridGrid (x : GridGrid) : Prop := (inK .i64) x.w ∧ (fun xs : List RowRow => ∀ x ∈ xs, wfRowRow x) x.l ∧ True
noncomputable def p_grid_clip (n_ : Int) (lo : Int) (hi : Int) : Option Int :=
  some (imax lo (imin n_ hi))

noncomputable def p_grid_size (n_ : Int) : Option Int :=
  (Option.bind (p_grid_clip n_ 1 1000) fun r1 => some r1)

noncomputable def p_grid_New (w : Int) (h_ : Int) : Option GridGrid :=
  (Option.bind (p_grid_size w) fun r1 => (Option.bind (p_grid_size h_) fun r5 => (Option.bind (iter (σ := GridGrid × Int) (ρ := GridGrid) (fun s143 => (bif (decide (s143.2 < r5)) then (Option.bind (p_row_Blank s143.1.w 0) fun r257 => (Option.bind (chk (apok s143.1.l.length [r257].length 32)) fun _ => some (.inl ((GridGrid.mk s143.1.w (s143.1.l ++ [r257])), (IntKind.i64.wrap (s143.2 + 1)))))) else some (.inr s143.1))) ((GridGrid.mk r1 ([] : List RowRow)), 0)) fun e206 => some e206)))

noncomputable def p_grid_own (r_ : RowRow) : Option RowRow :=
  (Option.bind (p_slices_Clone_row_Cell r_.cells) fun r21 => some (RowRow.mk r21 r_.wrapped))

noncomputable def p_grid_Grid_Row (g : GridGrid) (y : Int) : Option RowRow :=
  (Option.bind ((bif (decide (y < 0)) then some true else some (decide (y ≥ (g.l.length : Int)))) : Option Bool) fun e5 => (bif e5 then some (RowRow.mk ([] : List RowCell) false) else (Option.bind (idx g.l y) fun x12 => (Option.bind (p_grid_own x12) fun r20 => some r20))))

noncomputable def p_grid_Grid_Set (g : GridGrid) (y : Int) (r_ : RowRow) : Option (Bool × GridGrid) :=
  (Option.bind ((bif (decide (y < 0)) then some true else some (decide (y ≥ (g.l.length : Int)))) : Option Bool) fun e5 => (bif e5 then some (false, g) else (Option.bind (p_row_Row_Resize r_ g.w) fun r47 => (Option.bind (idx g.l y) fun x53 => some (true, (GridGrid.mk g.w (g.l.set y.toNat r47)))))))

noncomputable def p_grid_Grid_region (g : GridGrid) (top : Int) (bottom : Int) : Option (Unit ⊕ (Int × Int)) :=
  (Option.bind (p_grid_clip top 0 (IntKind.i64.wrap ((g.l.length : Int) - 1))) fun r1 => (Option.bind (p_grid_clip bottom 0 (IntKind.i64.wrap ((g.l.length : Int) - 1))) fun r4 => (bif (decide (r4 < r1)) then some (.inl ()) else (Option.bind (chk (cutok r1 (IntKind.i64.wrap (r4 + 1)) g.l.length)) fun _ => some (.inr (r1, (IntKind.i64.wrap (r4 + 1))))))))

noncomputable def p_grid_Grid_Up (g : GridGrid) (top : Int) (bottom : Int) (n_ : Int) (style : Int) : Option ((List RowRow) × GridGrid) :=
  (Option.bind (p_grid_Grid_region g top bottom) fun | .inl r1 => some (([] : List RowRow), g) | .inr r1 => (Option.bind (chk (cutok r1.1 r1.2 g.l.length)) fun _ => (Option.bind (p_grid_clip n_ 0 ((cut g.l r1.1 r1.2).length : Int)) fun r9 => (Option.bind (chk (cutok 0 r9 (cut g.l r1.1 r1.2).length)) fun _ => (Option.bind (p_slices_Clone_row_Row (cut g.l (r1.1 + 0) (r1.1 + r9))) fun r17 => (Option.bind (chk (cutok r9 ((cut g.l r1.1 r1.2).length : Int) (cut g.l r1.1 r1.2).length)) fun _ => (Option.bind (iter (σ := GridGrid × Int) (ρ := GridGrid) (fun s103 => (bif (decide (s103.2 < ((cut s103.1.l r1.1 r1.2).length : Int))) then (Option.bind (p_row_Blank s103.1.w style) fun r168 => (Option.bind (chk (cutok r1.1 r1.2 s103.1.l.length)) fun _ => (Option.bind (idx (cut s103.1.l r1.1 r1.2) s103.2) fun x178 => some (.inl ((GridGrid.mk s103.1.w (s103.1.l.set (r1.1.toNat + s103.2.toNat) r168)), (IntKind.i64.wrap (s103.2 + 1))))))) else some (.inr s103.1))) ((GridGrid.mk g.w (cpyv g.l r1.1 r1.2 (r1.1 + r9) (r1.1 + ((cut g.l r1.1 r1.2).length : Int)))), (IntKind.i64.wrap (((cut (cpyv g.l r1.1 r1.2 (r1.1 + r9) (r1.1 + ((cut g.l r1.1 r1.2).length : Int))) r1.1 r1.2).length : Int) - r9)))) fun e142 => some (r17, e142))))))))

noncomputable def p_grid_Grid_Text (g : GridGrid) : Option (List ByteArray) :=
  (Option.bind (iter (σ := Int × (List ByteArray)) (ρ := (List ByteArray)) (fun s726 => (bif (decide (s726.1 < (g.l.length : Int))) then (Option.bind (idx g.l s726.1) fun x1270 => (Option.bind (p_row_Row_Glyphs x1270) fun r1279 => (Option.bind (iter (σ := Int × (List Int)) (ρ := (List Int)) (fun s1362 => (bif (decide (s1362.1 < (r1279.length : Int))) then (Option.bind (idx r1279 s1362.1) fun x1420 => (Option.bind (chk (apok s1362.2.length [x1420.rune].length 4)) fun _ => some (.inl ((IntKind.i64.wrap (s1362.1 + 1)), (s1362.2 ++ [x1420.rune]))))) else some (.inr s1362.2))) (0, [])) fun e1397 => (Option.bind (p_glyph_Encode e1397) fun r1434 => (Option.bind (chk (apok s726.2.length [r1434].length 16)) fun _ => some (.inl ((IntKind.i64.wrap (s726.1 + 1)), (s726.2 ++ [r1434])))))))) else some (.inr s726.2))) (0, [])) fun e1085 => some e1085)

noncomputable def p_grid_Grid_Down (g : GridGrid) (top : Int) (bottom : Int) (n_ : Int) (style : Int) : Option ((List RowRow) × GridGrid) :=
  (Option.bind (p_grid_Grid_region g top bottom) fun | .inl r1 => some (([] : List RowRow), g) | .inr r1 => (Option.bind (chk (cutok r1.1 r1.2 g.l.length)) fun _ => (Option.bind (p_grid_clip n_ 0 ((cut g.l r1.1 r1.2).length : Int)) fun r9 => (Option.bind (chk (cutok (IntKind.i64.wrap (((cut g.l r1.1 r1.2).length : Int) - r9)) ((cut g.l r1.1 r1.2).length : Int) (cut g.l r1.1 r1.2).length)) fun _ => (Option.bind (p_slices_Clone_row_Row (cut g.l (r1.1 + (IntKind.i64.wrap (((cut g.l r1.1 r1.2).length : Int) - r9))) (r1.1 + ((cut g.l r1.1 r1.2).length : Int)))) fun r17 => (Option.bind (p_slices_Reverse_row_Row r17) fun r23 => (Option.bind (chk (decide (r23.length = r17.length))) fun _ => (Option.bind (chk (cutok r9 ((cut g.l r1.1 r1.2).length : Int) (cut g.l r1.1 r1.2).length)) fun _ => (Option.bind (chk (cutok 0 (IntKind.i64.wrap (((cut g.l r1.1 r1.2).length : Int) - r9)) (cut g.l r1.1 r1.2).length)) fun _ => (Option.bind (iter (σ := GridGrid × Int) (ρ := GridGrid) (fun s150 => (bif (decide (s150.2 < r9)) then (Option.bind (p_row_Blank s150.1.w style) fun r215 => (Option.bind (chk (cutok r1.1 r1.2 s150.1.l.length)) fun _ => (Option.bind (idx (cut s150.1.l r1.1 r1.2) s150.2) fun x225 => some (.inl ((GridGrid.mk s150.1.w (s150.1.l.set (r1.1.toNat + s150.2.toNat) r215)), (IntKind.i64.wrap (s150.2 + 1))))))) else some (.inr s150.1))) ((GridGrid.mk g.w (cpyv g.l (r1.1 + r9) (r1.1 + ((cut g.l r1.1 r1.2).length : Int)) (r1.1 + 0) (r1.1 + (IntKind.i64.wrap (((cut g.l r1.1 r1.2).length : Int) - r9))))), 0)) fun e189 => some (r23, e189)))))))))))

noncomputable def p_grid_Grid_Resize (g : GridGrid) (w : Int) (h_ : Int) (off : Int) : Option ((List RowRow) × GridGrid) :=
  (Option.bind (p_grid_clip off 0 (IntKind.i64.wrap ((g.l.length : Int) - 1))) fun r1 => (Option.bind (chk (cutok 0 r1 g.l.length)) fun _ => (Option.bind (p_slices_Clone_row_Row (cut g.l 0 r1)) fun r10 => (Option.bind (chk (cutok r1 (g.l.length : Int) g.l.length)) fun _ => (Option.bind (p_slices_Clone_row_Row (cut g.l r1 (g.l.length : Int))) fun r22 => (Option.bind (p_grid_size h_) fun r28 => (Option.bind (chk (cutok 0 (imin (r22.length : Int) r28) r22.length)) fun _ => (Option.bind (iter (σ := (List RowRow)) (ρ := (List RowRow)) (fun s92 => (Option.bind (p_grid_size h_) fun r126 => (bif (decide ((s92.length : Int) < r126)) then (Option.bind (p_grid_size w) fun r131 => (Option.bind (p_row_Blank r131 0) fun r134 => (Option.bind (chk (apok s92.length [r134].length 32)) fun _ => some (.inl (s92 ++ [r134]))))) else some (.inr s92)))) (cut r22 0 (imin (r22.length : Int) r28))) fun e119 => (Option.bind (p_grid_size w) fun r148 => (Option.bind (iter (σ := GridGrid × Int) (ρ := GridGrid) (fun s218 => (bif (decide (s218.2 < (e119.length : Int))) then (Option.bind (idx s218.1.l s218.2) fun x270 => (Option.bind (p_grid_Grid_Set s218.1 s218.2 x270) fun r278 => some (.inl (r278.2, (IntKind.i64.wrap (s218.2 + 1)))))) else some (.inr s218.1))) ((GridGrid.mk r148 e119), 0)) fun e249 => some (r10, e249)))))))))))

noncomputable def p_grid_Grid_Size (g : GridGrid) : Option (Int × Int) :=
  some (g.w, (g.l.length : Int))

noncomputable def p_grid_each (l : List RowRow) : Option (List RowRow) :=
  some l

noncomputable def p_grid_each_1 {σ : Type} (Y : σ → RowRow → Option (σ × Bool)) (y0 : σ) (x1 : List RowRow) : Option σ :=
  (Option.bind (iter (σ := Int × σ) (ρ := σ ⊕ σ) (fun s102 => (bif (decide (s102.1 < (x1.length : Int))) then (Option.bind (idx x1 s102.1) fun x183 => (Option.bind (p_grid_own x183) fun r194 => (Option.bind (Y s102.2 r194) fun z200 => (bif (!z200.2) then (inrr (some z200.1)) else some (.inl ((IntKind.i64.wrap (s102.1 + 1)), z200.1)))))) else some (.inr (.inl s102.2)))) (0, y0)) fun | .inl e151 => some e151 | .inr w => some w)

noncomputable def p_grid_copies (l : List RowRow) : Option (List RowRow) :=
  (Option.bind (p_grid_each l) fun r2 => (Option.bind (p_grid_each_1 (fun s40 x9 => (Option.bind (chk (apok s40.length [x9].length 32)) fun _ => some ((s40 ++ [x9]), true))) ([] : (List RowRow)) r2) fun r54 => some r54))

noncomputable def p_grid_each_v2 (l : List RowRow) : Option (List RowRow) :=
  some l

noncomputable def p_grid_each_1_v2 {σ : Type} (Y : σ → RowRow → Option (σ × Bool)) (y0 : σ) (x1 : List RowRow) : Option σ :=
  (Option.bind (iter (σ := Int × σ) (ρ := σ ⊕ σ) (fun s94 => (bif (decide (s94.1 < (x1.length : Int))) then (Option.bind (idx x1 s94.1) fun x169 => (Option.bind (p_grid_own x169) fun r178 => (Option.bind (Y s94.2 r178) fun z184 => (bif (!z184.2) then (inrr (some z184.1)) else some (.inl ((IntKind.i64.wrap (s94.1 + 1)), z184.1)))))) else some (.inr (.inl s94.2)))) (0, y0)) fun | .inl e139 => some e139 | .inr w => some w)

noncomputable def p_grid_copies_v2 (l : List RowRow) : Option ((List RowRow) × (List RowRow)) :=
  (Option.bind (p_grid_each_v2 l) fun r2 => (Option.bind (p_grid_each_1_v2 (fun s40 x9 => (Option.bind (chk (apok s40.length [x9].length 32)) fun _ => some ((s40 ++ [x9]), true))) ([] : (List RowRow)) r2) fun r54 => some (r54, r2)))

noncomputable def p_grid_Grid_Rows (g : GridGrid) : Option ((List RowRow) × GridGrid) :=
  (Option.bind (p_grid_copies_v2 g.l) fun r1 => (Option.bind (chk (decide (r1.2.length = g.l.length))) fun _ => some (r1.1, (GridGrid.mk g.w r1.2))))

noncomputable def p_grid_Grid_Clone (g : GridGrid) : Option (GridGrid × GridGrid) :=
  (Option.bind (p_grid_copies_v2 g.l) fun r31 => (Option.bind (chk (decide (r31.2.length = g.l.length))) fun _ => some ((GridGrid.mk g.w r31.1), (GridGrid.mk g.w r31.2))))

noncomputable def p_grid_Grid_Same (g : GridGrid) (h_ : GridGrid) : Option Bool :=
  (Option.bind ((bif (g.w == h_.w) then (Option.bind (p_slices_EqualFunc_row_Row_Row_Same g.l h_.l) fun r26 => some r26) else some false) : Option Bool) fun e18 => some e18)
end Go.Tw.X

set_option linter.unusedVariables false
set_option linter.unusedSimpArgs false
set_option maxRecDepth 10000
namespace Go.Tw.X
open Go Go.Tw
structure StyleStyle where
  fore : Int
  back : Int
  bold : Bool
  under : Bool
  inverse : Bool
  deriving DecidableEq, Inhabited

def wfStyleStyle (x : StyleStyle) : Prop := (inK .i64) x.fore ∧ (inK .i64) x.back ∧ (fun _ => True) x.bold ∧ (fun _ => True) x.under ∧ (fun _ => True) x.inverse ∧ True
end Go.Tw.X

set_option linter.unusedVariables false
set_option linter.unusedSimpArgs false
set_option maxRecDepth 10000
namespace Go.Tw.X
open Go Go.Tw
structure ScreenSpot where
  x : Int
  y : Int
  style : StyleStyle
  deriving DecidableEq, Inhabited

structure ScreenScreen where
  g : GridGrid
  spot : ScreenSpot
  saved : ScreenSpot
  waiting : Bool
  top : Int
  bottom : Int
  wraps : Bool
  title : ByteArray
  deriving DecidableEq, Inhabited

def wfScreenSpot (x : ScreenSpot) : Prop := (inK .i64) x.x ∧ (inK .i64) x.y ∧ wfStyleStyle x.style ∧ True
noncomputable def p_screen_New (w : Int) (h_ : Int) : Option ScreenScreen :=
  (Option.bind (p_grid_New w h_) fun r1 => (Option.bind (p_grid_Grid_Size r1) fun r9 => some (ScreenScreen.mk r1 (ScreenSpot.mk 0 0 (StyleStyle.mk 0 0 false false false)) (ScreenSpot.mk 0 0 (StyleStyle.mk 0 0 false false false)) false 0 (IntKind.i64.wrap (r9.2 - 1)) true (ByteArray.mk #[]))))

noncomputable def p_screen_Screen_Grid (s_ : ScreenScreen) : Option (GridGrid × ScreenScreen) :=
  (Option.bind (p_grid_Grid_Clone s_.g) fun r1 => some (r1.1, (ScreenScreen.mk r1.2 s_.spot s_.saved s_.waiting s_.top s_.bottom s_.wraps s_.title)))

noncomputable def p_screen_Screen_Title (s_ : ScreenScreen) : Option ByteArray :=
  some s_.title

noncomputable def p_screen_Screen_Cursor (s_ : ScreenScreen) : Option (Int × Int) :=
  some (s_.spot.x, s_.spot.y)
end Go.Tw.X

set_option linter.unusedVariables false
set_option linter.unusedSimpArgs false
set_option maxRecDepth 10000
namespace Go.Tw.X
open Go Go.Tw

def t_sum_half : List Int := [0, 498536548, 997073096, 651767980, 1994146192, 1802195444, 1303535960, 1342533948, 3988292384, 4027552580, 3604390888, 3412177804, 2607071920, 2262029012, 2685067896, 3183342108]
noncomputable def p_sum_step (x_ : Int) (b : Int) : Option Int :=
  (Option.bind (idx t_sum_half (Go.bits .and .u32 (Go.bits .xor .u32 x_ (IntKind.u32.wrap b)) 15)) fun x1 => (Option.bind (idx t_sum_half (Go.bits .and .u32 (Go.bits .xor .u32 ((Go.bits .xor .u32 x_ (IntKind.u32.wrap b)).fdiv (2 ^ (min 4 32))) x1) 15)) fun x5 => some (Go.bits .xor .u32 ((Go.bits .xor .u32 ((Go.bits .xor .u32 x_ (IntKind.u32.wrap b)).fdiv (2 ^ (min 4 32))) x1).fdiv (2 ^ (min 4 32))) x5)))

noncomputable def p_sum_Of (l : List ByteArray) : Option Int :=
  (Option.bind (iter (σ := Int × Int) (ρ := Int) (fun s323 => (bif (decide (s323.2 < (l.length : Int))) then (Option.bind (idx l s323.2) fun x570 => (Option.bind (iter (σ := Int × Int) (ρ := Int) (fun s611 => (bif (decide (s611.1 < (x570.size : Int))) then (Option.bind (sidx x570 s611.1) fun b642 => (Option.bind (p_sum_step s611.2 b642) fun r645 => some (.inl ((IntKind.i64.wrap (s611.1 + 1)), r645)))) else some (.inr s611.2))) (0, s323.1)) fun e627 => some (.inl (e627, (IntKind.i64.wrap (s323.2 + 1)))))) else some (.inr s323.1))) (4294967295, 0)) fun e483 => some (Go.bits .xor .u32 4294967295 e483))
end Go.Tw.X

set_option linter.unusedVariables false
set_option linter.unusedSimpArgs false
set_option maxRecDepth 10000
namespace Go.Tw.X
open Go Go.Tw
structure SnapSnap where
  k : Int
  w : Int
  h : Int
  x : Int
  y : Int
  title : ByteArray
  rows : List RowRow
  len : Int
  chain : Int
  begun : List RowGlyph
  deriving DecidableEq, Inhabited

def wfSnapSnap (x : SnapSnap) : Prop := (inK .i64) x.k ∧ (inK .i64) x.w ∧ (inK .i64) x.h ∧ (inK .i64) x.x ∧ (inK .i64) x.y ∧ (fun s : ByteArray => s.size ≤ maxLen) x.title ∧ (fun xs : List RowRow => ∀ x ∈ xs, wfRowRow x) x.rows ∧ (inK .i64) x.len ∧ (inK .i64) x.chain ∧ (fun xs : List RowGlyph => ∀ x ∈ xs, wfRowGlyph x) x.begun ∧ True
noncomputable def p_snap_Of (k : Int) (s_ : ScreenScreen) (b : BookBook) : Option (SnapSnap × ScreenScreen) :=
  (Option.bind (p_screen_Screen_Grid (ScreenScreen.mk s_.g s_.spot s_.saved s_.waiting s_.top s_.bottom s_.wraps s_.title)) fun r2 => (Option.bind (p_screen_Screen_Title (ScreenScreen.mk r2.2.g r2.2.spot r2.2.saved r2.2.waiting r2.2.top r2.2.bottom r2.2.wraps r2.2.title)) fun r10 => (Option.bind (p_grid_Grid_Rows r2.1) fun r13 => (Option.bind (p_book_Book_Len b) fun r20 => (Option.bind (p_book_Book_Len b) fun r23 => (Option.bind (p_book_Book_Chain b r23) fun r26 => (Option.bind (p_book_Book_Begun b) fun r29 => (Option.bind (p_grid_Grid_Size r13.2) fun r36 => (Option.bind (p_screen_Screen_Cursor (ScreenScreen.mk r2.2.g r2.2.spot r2.2.saved r2.2.waiting r2.2.top r2.2.bottom r2.2.wraps r2.2.title)) fun r39 => some ((SnapSnap.mk k r36.1 r36.2 r39.1 r39.2 r10 r13.1 r20 r26 r29), (ScreenScreen.mk r2.2.g r2.2.spot r2.2.saved r2.2.waiting r2.2.top r2.2.bottom r2.2.wraps r2.2.title)))))))))))

noncomputable def p_snap_Snap_empty (s_ : SnapSnap) : Option Bool :=
  (Option.bind ((bif (s_.k == 0) then (bif (s_.w == 0) then (bif (s_.h == 0) then (bif (s_.x == 0) then (bif (s_.y == 0) then (bif (s_.title.toList == (ByteArray.mk #[]).toList) then (bif ((s_.rows.length : Int) == 0) then (bif (s_.len == 0) then (bif (s_.chain == 0) then some ((s_.begun.length : Int) == 0) else some false) else some false) else some false) else some false) else some false) else some false) else some false) else some false) else some false) : Option Bool) fun e21 => some e21)

noncomputable def p_snap_within (n_ : Int) (lo : Int) (hi : Int) : Option Bool :=
  (Option.bind ((bif (decide (n_ ≥ lo)) then some (decide (n_ ≤ hi)) else some false) : Option Bool) fun e4 => some e4)

noncomputable def p_snap_Snap_sizes (s_ : SnapSnap) : Option Bool :=
  (Option.bind ((Option.bind (p_snap_within s_.k 1 1152921504606846976) fun r66 => (bif r66 then (Option.bind (p_snap_within s_.w 1 1000) fun r70 => (bif r70 then (Option.bind (p_snap_within s_.h 1 1000) fun r74 => (bif r74 then (Option.bind (p_snap_within s_.x 0 (IntKind.i64.wrap (s_.w - 1))) fun r78 => (bif r78 then (Option.bind (p_snap_within s_.y 0 (IntKind.i64.wrap (s_.h - 1))) fun r82 => (bif r82 then (bif ((s_.rows.length : Int) == s_.h) then (bif (decide ((s_.title.size : Int) ≤ 200)) then (Option.bind (p_snap_within s_.len 0 1152921504606846976) fun r88 => (bif r88 then (Option.bind (p_snap_within s_.chain 0 281474976710656) fun r92 => (bif r92 then some (decide ((s_.begun.length : Int) ≤ 1024)) else some false)) else some false)) else some false) else some false) else some false)) else some false)) else some false)) else some false)) else some false)) : Option Bool) fun e63 => some e63)

noncomputable def p_snap_shows (r_ : Int) (style : Int) : Option Bool :=
  (Option.bind ((Option.bind (p_snap_within (IntKind.i64.wrap r_) 0 1114111) fun r19 => (bif r19 then (Option.bind (p_snap_within style 0 647) fun r23 => some r23) else some false)) : Option Bool) fun e16 => some e16)

noncomputable def p_snap_Snap_Check_1 (g : RowGlyph) : Option Bool :=
  (Option.bind (p_snap_shows g.rune g.style) fun r2 => some (!r2))

noncomputable def p_slices_IndexFunc_row_Glyph_Snap_Check_1 (s_ : List RowGlyph) : Option Int :=
  (Option.bind (iter (σ := Int) (ρ := Unit ⊕ Int) (fun s52 => (bif (decide (s52 < (s_.length : Int))) then (Option.bind (idx s_ s52) fun x98 => (Option.bind (p_snap_Snap_Check_1 x98) fun r105 => (bif r105 then (inrr (some s52)) else some (.inl (IntKind.i64.wrap (s52 + 1)))))) else some (.inr (.inl ())))) 0) fun | .inl e77 => some (-1) | .inr w => some w)

noncomputable def p_slices_ContainsFunc_row_Glyph_Snap_Check_1 (s_ : List RowGlyph) : Option Bool :=
  (Option.bind (p_slices_IndexFunc_row_Glyph_Snap_Check_1 s_) fun r1 => some (decide (r1 ≥ 0)))

noncomputable def p_snap_cell (c : RowCell) : Option Bool :=
  (Option.bind ((Option.bind (p_snap_shows c.rune c.style) fun r20 => (bif r20 then (Option.bind (p_snap_within c.part 0 3) fun r24 => some r24) else some false)) : Option Bool) fun e17 => some e17)

noncomputable def p_snap_Snap_Check_2 (c : RowCell) : Option Bool :=
  (Option.bind (p_snap_cell c) fun r2 => some (!r2))

noncomputable def p_slices_IndexFunc_row_Cell_Snap_Check_2 (s_ : List RowCell) : Option Int :=
  (Option.bind (iter (σ := Int) (ρ := Unit ⊕ Int) (fun s52 => (bif (decide (s52 < (s_.length : Int))) then (Option.bind (idx s_ s52) fun x98 => (Option.bind (p_snap_Snap_Check_2 x98) fun r105 => (bif r105 then (inrr (some s52)) else some (.inl (IntKind.i64.wrap (s52 + 1)))))) else some (.inr (.inl ())))) 0) fun | .inl e77 => some (-1) | .inr w => some w)

noncomputable def p_slices_ContainsFunc_row_Cell_Snap_Check_2 (s_ : List RowCell) : Option Bool :=
  (Option.bind (p_slices_IndexFunc_row_Cell_Snap_Check_2 s_) fun r1 => some (decide (r1 ≥ 0)))

noncomputable def p_snap_Snap_Check (s_ : SnapSnap) : Option Int :=
  (Option.bind (p_snap_Snap_empty s_) fun r2 => (bif r2 then some 0 else (Option.bind ((Option.bind (p_snap_Snap_sizes s_) fun r25 => (bif (!r25) then some true else (Option.bind (p_slices_ContainsFunc_row_Glyph_Snap_Check_1 s_.begun) fun r29 => some r29))) : Option Bool) fun e22 => (bif e22 then some 1 else (Option.bind (iter (σ := Int) (ρ := Unit ⊕ Int) (fun s153 => (bif (decide (s153 < (s_.rows.length : Int))) then (Option.bind (idx s_.rows s153) fun x250 => (Option.bind ((bif ((x250.cells.length : Int) != s_.w) then some true else (Option.bind (p_slices_ContainsFunc_row_Cell_Snap_Check_2 x250.cells) fun r274 => some r274)) : Option Bool) fun e270 => (bif e270 then (inrr (some 1)) else some (.inl (IntKind.i64.wrap (s153 + 1)))))) else some (.inr (.inl ())))) 0) fun | .inl e212 => some 0 | .inr w => some w)))))

noncomputable def p_snap_bit (is : Bool) : Option Int :=
  (bif is then some 1 else some 0)

noncomputable def p_snap_runs (l : List RowCell) : Option (List RowCell) :=
  some l

noncomputable def p_snap_runs_1 {σ : Type} (Y : σ → (Int × RowCell) → Option (σ × Bool)) (y0 : σ) (x1 : List RowCell) : Option (σ × (List RowCell)) :=
  (Option.bind (iter (σ := (List RowCell) × σ) (ρ := ((List RowCell) × σ) ⊕ (σ × (List RowCell))) (fun s707 => (bif (decide ((s707.1.length : Int) > 0)) then (Option.bind (iter (σ := Int) (ρ := Int) (fun s1227 => (Option.bind ((bif (decide (s1227 < (s707.1.length : Int))) then (Option.bind (idx s707.1 s1227) fun x1379 => (Option.bind (idx s707.1 0) fun x1386 => some ((x1379.rune == x1386.rune) && ((x1379.style == x1386.style) && ((x1379.part == x1386.part) && true))))) else some false) : Option Bool) fun e1363 => (bif e1363 then some (.inl (IntKind.i64.wrap (s1227 + 1))) else some (.inr s1227)))) 1) fun e1307 => (Option.bind (idx s707.1 0) fun x1392 => (Option.bind (Y s707.2 (e1307, x1392)) fun z1399 => (bif (!z1399.2) then (inrr (some (z1399.1, s707.1))) else (Option.bind (chk (cutok e1307 (s707.1.length : Int) s707.1.length)) fun _ => some (.inl ((cut s707.1 e1307 (s707.1.length : Int)), z1399.1))))))) else some (.inr (.inl (s707.1, s707.2))))) (x1, y0)) fun | .inl e1058 => some (e1058.2, e1058.1) | .inr w => some w)

noncomputable def p_snap_PackRow (r_ : RowRow) : Option ByteArray :=
  (Option.bind (p_snap_bit r_.wrapped) fun r3 => (Option.bind (p_num_Out_Num (NumOut.mk ([] : List Int)) [r3]) fun r10 => (Option.bind (p_snap_runs r_.cells) fun r16 => (Option.bind (p_snap_runs_1 (fun s51 x21 => (Option.bind (p_num_Out_Num s51 [x21.1, (IntKind.i64.wrap x21.2.rune), x21.2.style, x21.2.part]) fun r58 => some (r58, true))) (r10 : NumOut) r16) fun r64 => (Option.bind (p_num_Out_Bytes r64.1) fun r76 => some r76)))))

noncomputable def p_snap_Snap_Pack (s_ : SnapSnap) : Option ByteArray :=
  (Option.bind ((Option.bind (p_snap_Snap_empty s_) fun r20 => (bif r20 then some true else (Option.bind (p_snap_Snap_Check s_) fun r24 => some (r24 != 0)))) : Option Bool) fun e17 => (bif e17 then some (ByteArray.mk #[]) else (Option.bind (p_num_Out_Num (NumOut.mk ([] : List Int)) [s_.k, s_.w, s_.h, s_.x, s_.y]) fun r160 => (Option.bind (p_num_Out_Text r160 [s_.title]) fun r166 => (Option.bind (p_num_Out_Num r166 [s_.len, s_.chain]) fun r172 => (Option.bind (p_book_Pack s_.begun) fun r178 => (Option.bind (p_num_Out_Raw r172 [r178]) fun r184 => (Option.bind (iter (σ := NumOut × Int) (ρ := NumOut) (fun s301 => (bif (decide (s301.2 < (s_.rows.length : Int))) then (Option.bind (idx s_.rows s301.2) fun x386 => (Option.bind (p_snap_PackRow x386) fun r397 => (Option.bind (p_num_Out_Raw s301.1 [r397]) fun r403 => some (.inl (r403, (IntKind.i64.wrap (s301.2 + 1))))))) else some (.inr s301.1))) (r184, 0)) fun e354 => (Option.bind (p_num_Out_Bytes e354) fun r409 => some r409)))))))))

noncomputable def p_snap_size (in_ : NumIn) : Option (Int × NumIn) :=
  (Option.bind (p_num_In_Num in_) fun r1 => (bif (decide (r1.1 > 1000)) then (Option.bind (p_num_In_Fail r1.2 1) fun r9 => some (0, r9)) else some (r1.1, r1.2)))

noncomputable def p_snap_run (in_ : NumIn) (left : Int) : Option (Int × RowCell × Bool × NumIn) :=
  (Option.bind (p_num_In_Num in_) fun r2 => (Option.bind ((bif (r2.1 == 0) then some true else some (decide (r2.1 > left))) : Option Bool) fun e8 => (Option.bind ((bif e8 then (Option.bind (p_num_In_Fail r2.2 1) fun r25 => some r25) else some r2.2) : Option NumIn) fun e21 => (Option.bind (iter (σ := Arr3Int × NumIn × Int) (ρ := Arr3Int × NumIn) (fun s154 => (bif (decide (s154.2.2 < 3)) then (Option.bind ((Option.bind (idx [1114111, 647, 3] s154.2.2) fun x263 => (Option.bind (p_num_In_Num s154.2.1) fun r266 => (Option.bind (chk (ainb s154.2.2 3)) fun _ => (Option.bind (chk (ainb s154.2.2 3)) fun _ => (Option.bind (idx [(sel s154.2.2 0 r266.1 s154.1.e0), (sel s154.2.2 1 r266.1 s154.1.e1), (sel s154.2.2 2 r266.1 s154.1.e2)] s154.2.2) fun x273 => (bif (decide (x273 > x263)) then (Option.bind (p_num_In_Fail r266.2 1) fun r277 => some ((Arr3Int.mk (sel s154.2.2 0 r266.1 s154.1.e0) (sel s154.2.2 1 r266.1 s154.1.e1) (sel s154.2.2 2 r266.1 s154.1.e2)), r277)) else some ((Arr3Int.mk (sel s154.2.2 0 r266.1 s154.1.e0) (sel s154.2.2 1 r266.1 s154.1.e1) (sel s154.2.2 2 r266.1 s154.1.e2)), r266.2))))))) : Option (Arr3Int × NumIn)) fun e260 => some (.inl (e260.1, e260.2, (IntKind.i64.wrap (s154.2.2 + 1))))) else some (.inr (s154.1, s154.2.1)))) ((Arr3Int.mk 0 0 0), e21, 0)) fun e215 => (Option.bind (p_num_In_Err e215.2) fun r280 => (bif (r280 != 0) then some (0, (RowCell.mk 0 0 0), false, e215.2) else some (r2.1, (RowCell.mk (IntKind.i32.wrap e215.1.e0) e215.1.e1 e215.1.e2), true, e215.2)))))))

noncomputable def p_snap_ReadRow (in_ : NumIn) (w : Int) : Option (RowRow × NumIn) :=
  (Option.bind (p_num_In_Num in_) fun r2 => (Option.bind ((bif (decide (r2.1 > 1)) then (Option.bind (p_num_In_Fail r2.2 1) fun r18 => some r18) else some r2.2) : Option NumIn) fun e14 => (Option.bind (iter (σ := NumIn × (List RowCell)) (ρ := (List RowCell) × NumIn) (fun s173 => (Option.bind ((bif (decide ((s173.2.length : Int) < w)) then (Option.bind (p_num_In_Err s173.1) fun r281 => some (r281 == 0)) else some false) : Option Bool) fun e277 => (bif e277 then (Option.bind (p_snap_run s173.1 (IntKind.i64.wrap (w - (s173.2.length : Int)))) fun r286 => (bif (!r286.2.2.1) then some (.inl (r286.2.2.2, s173.2)) else (Option.bind ((bif (decide ((s173.2.length : Int) > 0)) then (Option.bind (idx s173.2 (IntKind.i64.wrap ((s173.2.length : Int) - 1))) fun x326 => some ((x326.rune == r286.2.1.rune) && ((x326.style == r286.2.1.style) && ((x326.part == r286.2.1.part) && true)))) else some false) : Option Bool) fun e316 => (bif e316 then (Option.bind (p_num_In_Fail r286.2.2.2 1) fun r332 => some (.inl (r332, s173.2))) else (Option.bind (p_slices_Repeat_row_Cell [r286.2.1] r286.1) fun r338 => (Option.bind (chk (apok s173.2.length r338.length 24)) fun _ => some (.inl (r286.2.2.2, (s173.2 ++ r338))))))))) else some (.inr (s173.2, s173.1))))) (e14, [])) fun e261 => (Option.bind (p_num_In_Err e261.2) fun r350 => (bif (r350 != 0) then some ((RowRow.mk ([] : List RowCell) false), e261.2) else some ((RowRow.mk e261.1 (r2.1 == 1)), e261.2))))))

noncomputable def p_snap_Parse (s_ : ByteArray) : Option (SnapSnap × Int) :=
  (bif (s_.toList == (ByteArray.mk #[]).toList) then some ((SnapSnap.mk 0 0 0 0 0 (ByteArray.mk #[]) ([] : List RowRow) 0 0 ([] : List RowGlyph)), 0) else (Option.bind (p_num_Of s_) fun r6 => (Option.bind (p_num_In_Num r6) fun r10 => (Option.bind (p_snap_size r10.2) fun r13 => (Option.bind (p_snap_size r13.2) fun r16 => (Option.bind (p_num_In_Num r16.2) fun r19 => (Option.bind (p_num_In_Num r19.2) fun r22 => (Option.bind (p_num_In_Text r22.2) fun r25 => (Option.bind (p_num_In_Num r25.2) fun r28 => (Option.bind (p_num_In_Num r28.2) fun r31 => (Option.bind (p_book_Read r31.2) fun r34 => (Option.bind (iter (σ := SnapSnap × NumIn × Int) (ρ := SnapSnap × NumIn) (fun s283 => (bif (decide (s283.2.2 < r16.1)) then (Option.bind ((Option.bind (p_num_In_Err s283.2.1) fun r479 => (bif (r479 == 0) then (Option.bind (p_snap_ReadRow s283.2.1 s283.1.w) fun r497 => (Option.bind (chk (apok s283.1.rows.length [r497.1].length 32)) fun _ => some ((SnapSnap.mk s283.1.k s283.1.w s283.1.h s283.1.x s283.1.y s283.1.title (s283.1.rows ++ [r497.1]) s283.1.len s283.1.chain s283.1.begun), r497.2))) else some (s283.1, s283.2.1))) : Option (SnapSnap × NumIn)) fun e476 => some (.inl (e476.1, e476.2, (IntKind.i64.wrap (s283.2.2 + 1))))) else some (.inr (s283.1, s283.2.1)))) ((SnapSnap.mk r10.1 r13.1 r16.1 r19.1 r22.1 r25.1 ([] : List RowRow) r28.1 r31.1 r34.1), r34.2, 0)) fun e397 => (Option.bind (p_num_In_End e397.2) fun r511 => (Option.bind ((bif (r511 == 0) then (Option.bind (p_snap_Snap_empty e397.1) fun r548 => (bif r548 then some (true, e397.1) else (Option.bind (p_snap_Snap_Check e397.1) fun r552 => some ((r552 != 0), e397.1)))) else some (false, e397.1)) : Option (Bool × SnapSnap)) fun e542 => (Option.bind ((bif e542.1 then some 1 else some r511) : Option Int) fun e560 => (bif (e560 != 0) then some ((SnapSnap.mk 0 0 0 0 0 (ByteArray.mk #[]) ([] : List RowRow) 0 0 ([] : List RowGlyph)), e560) else some (e542.2, 0)))))))))))))))))

noncomputable def p_snap_Snap_Same (s_ : SnapSnap) (t_ : SnapSnap) : Option Bool :=
  (Option.bind ((bif (s_.k == t_.k) then (bif (s_.w == t_.w) then (bif (s_.h == t_.h) then (bif (s_.x == t_.x) then (bif (s_.y == t_.y) then (bif (s_.title.toList == t_.title.toList) then (bif (s_.len == t_.len) then (bif (s_.chain == t_.chain) then (Option.bind (p_slices_EqualFunc_row_Row_Row_Same s_.rows t_.rows) fun r45 => (bif r45 then (Option.bind (p_slices_Equal_row_Glyph s_.begun t_.begun) fun r49 => some r49) else some false)) else some false) else some false) else some false) else some false) else some false) else some false) else some false) else some false) : Option Bool) fun e34 => some e34)

noncomputable def p_snap_Snap_Clone (s_ : SnapSnap) : Option SnapSnap :=
  (Option.bind (iter (σ := (List RowRow) × Int) (ρ := (List RowRow)) (fun s190 => (bif (decide (s190.2 < (s_.rows.length : Int))) then (Option.bind (idx s_.rows s190.2) fun x329 => (Option.bind (p_slices_Clone_row_Cell x329.cells) fun r355 => (Option.bind (chk (apok s190.1.length [(RowRow.mk r355 x329.wrapped)].length 32)) fun _ => some (.inl ((s190.1 ++ [(RowRow.mk r355 x329.wrapped)]), (IntKind.i64.wrap (s190.2 + 1))))))) else some (.inr s190.1))) ([], 0)) fun e279 => (Option.bind (p_slices_Clone_row_Glyph s_.begun) fun r370 => some (SnapSnap.mk s_.k s_.w s_.h s_.x s_.y s_.title e279 s_.len s_.chain r370)))

noncomputable def p_snap_Snap_Sum (s_ : SnapSnap) : Option Int :=
  (Option.bind (p_snap_Snap_Pack s_) fun r2 => (Option.bind (p_sum_Of [r2]) fun r7 => some (IntKind.i64.wrap r7)))
end Go.Tw.X

set_option linter.unusedVariables false
set_option linter.unusedSimpArgs false
set_option maxRecDepth 10000
namespace Go.Tw.X
open Go Go.Tw

noncomputable def p_law01_Cut (s_ : ByteArray) (n_ : Int) : Option ByteArray :=
  (bif (decide ((s_.size : Int) > n_)) then (Option.bind (chk (cutok 0 n_ s_.size)) fun _ => some (scut s_ 0 n_)) else some s_)
end Go.Tw.X

set_option linter.unusedVariables false
set_option linter.unusedSimpArgs false
set_option maxRecDepth 10000
namespace Go.Tw.X
open Go Go.Tw

noncomputable def p_ref06_Of (r_ : Int) : Option Int :=
  (Option.bind ((bif (decide (r_ < 32)) then some true else some (decide (r_ > 1114111))) : Option Bool) fun e8 => (bif e8 then some 0 else (Option.bind (iter (σ := Int) (ρ := Unit ⊕ Int) (fun s69 => (bif (decide (s69 < ([(Arr2Int.mk 127 159), (Arr2Int.mk 768 879), (Arr2Int.mk 6832 6911), (Arr2Int.mk 7616 7679), (Arr2Int.mk 8203 8207), (Arr2Int.mk 8400 8447), (Arr2Int.mk 55296 57343), (Arr2Int.mk 65024 65039), (Arr2Int.mk 65056 65071), (Arr2Int.mk 65279 65279), (Arr2Int.mk 917760 917999)].length : Int))) then (Option.bind (idx [(Arr2Int.mk 127 159), (Arr2Int.mk 768 879), (Arr2Int.mk 6832 6911), (Arr2Int.mk 7616 7679), (Arr2Int.mk 8203 8207), (Arr2Int.mk 8400 8447), (Arr2Int.mk 55296 57343), (Arr2Int.mk 65024 65039), (Arr2Int.mk 65056 65071), (Arr2Int.mk 65279 65279), (Arr2Int.mk 917760 917999)] s69) fun x118 => (Option.bind ((bif (decide (r_ ≥ x118.e0)) then some (decide (r_ ≤ x118.e1)) else some false) : Option Bool) fun e125 => (bif e125 then (inrr (some 0)) else some (.inl (IntKind.i64.wrap (s69 + 1)))))) else some (.inr (.inl ())))) 0) fun | .inl e96 => (Option.bind (iter (σ := Int) (ρ := Unit ⊕ Int) (fun s187 => (bif (decide (s187 < ([(Arr2Int.mk 4352 4447), (Arr2Int.mk 11904 12350), (Arr2Int.mk 12353 13311), (Arr2Int.mk 13312 19903), (Arr2Int.mk 19968 40959), (Arr2Int.mk 40960 42191), (Arr2Int.mk 44032 55203), (Arr2Int.mk 63744 64255), (Arr2Int.mk 65072 65135), (Arr2Int.mk 65280 65376), (Arr2Int.mk 65504 65510), (Arr2Int.mk 127744 128591), (Arr2Int.mk 129280 129535), (Arr2Int.mk 131072 262141)].length : Int))) then (Option.bind (idx [(Arr2Int.mk 4352 4447), (Arr2Int.mk 11904 12350), (Arr2Int.mk 12353 13311), (Arr2Int.mk 13312 19903), (Arr2Int.mk 19968 40959), (Arr2Int.mk 40960 42191), (Arr2Int.mk 44032 55203), (Arr2Int.mk 63744 64255), (Arr2Int.mk 65072 65135), (Arr2Int.mk 65280 65376), (Arr2Int.mk 65504 65510), (Arr2Int.mk 127744 128591), (Arr2Int.mk 129280 129535), (Arr2Int.mk 131072 262141)] s187) fun x236 => (Option.bind ((bif (decide (r_ ≥ x236.e0)) then some (decide (r_ ≤ x236.e1)) else some false) : Option Bool) fun e243 => (bif e243 then (inrr (some 2)) else some (.inl (IntKind.i64.wrap (s187 + 1)))))) else some (.inr (.inl ())))) 0) fun | .inl e214 => some 1 | .inr w => some w) | .inr w => some w)))
end Go.Tw.X

set_option linter.unusedVariables false
set_option linter.unusedSimpArgs false
set_option maxRecDepth 10000
namespace Go.Tw.X
open Go Go.Tw
structure Ref09Cell where
  rune : Int
  style : Int
  part : Int
  deriving DecidableEq, Inhabited

structure Ref09Row where
  l : List Ref09Cell
  wrapped : Bool
  deriving DecidableEq, Inhabited

structure Ref09Glyph where
  rune : Int
  style : Int
  deriving DecidableEq, Inhabited

def wfRef09Cell (x : Ref09Cell) : Prop := (inK .i64) x.rune ∧ (inK .i64) x.style ∧ (inK .i64) x.part ∧ True
def wfRef09Row (x : Ref09Row) : Prop := (fun xs : List Ref09Cell => ∀ x ∈ xs, wfRef09Cell x) x.l ∧ (fun _ => True) x.wrapped ∧ True
def wfRef09Glyph (x : Ref09Glyph) : Prop := (inK .i64) x.rune ∧ (inK .i64) x.style ∧ True
noncomputable def p_ref09_near (n_ : Int) (lo : Int) (hi : Int) : Option Int :=
  (bif (decide (n_ < lo)) then some lo else (bif (decide (n_ > hi)) then some hi else some n_))

noncomputable def p_ref09_Blank (w : Int) (style : Int) : Option Ref09Row :=
  (Option.bind (iter (σ := (List Ref09Cell) × Int) (ρ := (List Ref09Cell)) (fun s61 => (Option.bind (p_ref09_near w 0 1000) fun r94 => (bif (decide (s61.2 < r94)) then (Option.bind (chk (apok s61.1.length [(Ref09Cell.mk 32 style 0)].length 24)) fun _ => some (.inl ((s61.1 ++ [(Ref09Cell.mk 32 style 0)]), (IntKind.i64.wrap (s61.2 + 1))))) else some (.inr s61.1)))) (([] : List Ref09Cell), 0)) fun e87 => some (Ref09Row.mk e87 false))

noncomputable def p_ref09_mend (l : List Ref09Cell) : Option Ref09Row :=
  (Option.bind (iter (σ := Int × (List Ref09Cell)) (ρ := (List Ref09Cell)) (fun s287 => (bif (decide (s287.1 < (l.length : Int))) then (Option.bind (idx l s287.1) fun x510 => (Option.bind ((bif (x510.part == 1) then (bif ((IntKind.i64.wrap (s287.1 + 1)) == (l.length : Int)) then some true else (Option.bind (idx l (IntKind.i64.wrap (s287.1 + 1))) fun x552 => some (x552.part != 2))) else (bif (x510.part == 2) then (bif (s287.1 == 0) then some true else (Option.bind (idx s287.2 (IntKind.i64.wrap (s287.1 - 1))) fun x558 => some (x558.part != 1))) else (bif (x510.part == 3) then some (decide (s287.1 < (IntKind.i64.wrap ((l.length : Int) - 1)))) else some false))) : Option Bool) fun e547 => (Option.bind ((bif e547 then some (Ref09Cell.mk 32 x510.style 0) else some x510) : Option Ref09Cell) fun e567 => (Option.bind (chk (apok s287.2.length [e567].length 24)) fun _ => some (.inl ((IntKind.i64.wrap (s287.1 + 1)), (s287.2 ++ [e567]))))))) else some (.inr s287.2))) (0, ([] : List Ref09Cell))) fun e432 => some (Ref09Row.mk e432 false))

noncomputable def p_ref09_Put (r_ : Ref09Row) (at_ : Int) (x_ : Int) (style : Int) : Option Ref09Row :=
  (Option.bind (p_ref06_Of x_) fun r3 => (Option.bind ((bif (r3 == 0) then some true else (bif (decide (at_ < 0)) then some true else some (decide (at_ > (IntKind.i64.wrap ((r_.l.length : Int) - r3)))))) : Option Bool) fun e11 => (bif e11 then (Option.bind (p_ref09_mend r_.l) fun r24 => some r24) else (Option.bind (chk (apok ([] : List Ref09Cell).length r_.l.length 24)) fun _ => (Option.bind (idx (([] : List Ref09Cell) ++ r_.l) at_) fun x37 => (Option.bind ((bif (r3 == 2) then (Option.bind (idx ((([] : List Ref09Cell) ++ r_.l).set at_.toNat (Ref09Cell.mk x_ style 0)) at_) fun x115 => (Option.bind (idx (((([] : List Ref09Cell) ++ r_.l).set at_.toNat (Ref09Cell.mk x_ style 0)).set at_.toNat (Ref09Cell.mk x_ style 1)) (IntKind.i64.wrap (at_ + 1))) fun x119 => (Option.bind ((bif (decide (at_ > 0)) then (Option.bind (idx ((((([] : List Ref09Cell) ++ r_.l).set at_.toNat (Ref09Cell.mk x_ style 0)).set at_.toNat (Ref09Cell.mk x_ style 1)).set ((IntKind.i64.wrap (at_ + 1)).toNat) (Ref09Cell.mk x_ style 2)) (IntKind.i64.wrap (at_ - 1))) fun x136 => some (x136.part == 1)) else some false) : Option Bool) fun e132 => (bif e132 then (Option.bind (idx ((((([] : List Ref09Cell) ++ r_.l).set at_.toNat (Ref09Cell.mk x_ style 0)).set at_.toNat (Ref09Cell.mk x_ style 1)).set ((IntKind.i64.wrap (at_ + 1)).toNat) (Ref09Cell.mk x_ style 2)) (IntKind.i64.wrap (at_ - 1))) fun x140 => (Option.bind (idx ((((([] : List Ref09Cell) ++ r_.l).set at_.toNat (Ref09Cell.mk x_ style 0)).set at_.toNat (Ref09Cell.mk x_ style 1)).set ((IntKind.i64.wrap (at_ + 1)).toNat) (Ref09Cell.mk x_ style 2)) (IntKind.i64.wrap (at_ - 1))) fun x143 => some (((((([] : List Ref09Cell) ++ r_.l).set at_.toNat (Ref09Cell.mk x_ style 0)).set at_.toNat (Ref09Cell.mk x_ style 1)).set ((IntKind.i64.wrap (at_ + 1)).toNat) (Ref09Cell.mk x_ style 2)).set ((IntKind.i64.wrap (at_ - 1)).toNat) (Ref09Cell.mk 32 x140.style 0)))) else some ((((([] : List Ref09Cell) ++ r_.l).set at_.toNat (Ref09Cell.mk x_ style 0)).set at_.toNat (Ref09Cell.mk x_ style 1)).set ((IntKind.i64.wrap (at_ + 1)).toNat) (Ref09Cell.mk x_ style 2)))))) else some ((([] : List Ref09Cell) ++ r_.l).set at_.toNat (Ref09Cell.mk x_ style 0))) : Option (List Ref09Cell)) fun e111 => (Option.bind (p_ref09_mend e111) fun r148 => some r148)))))))

noncomputable def p_ref09_Erase (r_ : Ref09Row) (from_ : Int) (to : Int) (style : Int) : Option Ref09Row :=
  (Option.bind (chk (apok ([] : List Ref09Cell).length r_.l.length 24)) fun _ => (Option.bind (iter (σ := Int × (List Ref09Cell)) (ρ := (List Ref09Cell)) (fun s117 => (bif (decide (s117.1 < ((([] : List Ref09Cell) ++ r_.l).length : Int))) then (Option.bind ((Option.bind ((bif (decide (s117.1 ≥ from_)) then some (decide (s117.1 < to)) else some false) : Option Bool) fun e214 => (bif e214 then (Option.bind (idx s117.2 s117.1) fun x219 => some (s117.2.set s117.1.toNat (Ref09Cell.mk 32 style 0))) else some s117.2)) : Option (List Ref09Cell)) fun e208 => some (.inl ((IntKind.i64.wrap (s117.1 + 1)), e208))) else some (.inr s117.2))) (0, (([] : List Ref09Cell) ++ r_.l))) fun e169 => (Option.bind (p_ref09_mend e169) fun r226 => some r226)))

noncomputable def p_ref09_Insert (r_ : Ref09Row) (at_ : Int) (n_ : Int) (style : Int) : Option Ref09Row :=
  (Option.bind ((bif (decide (at_ < 0)) then some true else (bif (decide (at_ ≥ (r_.l.length : Int))) then some true else some (decide (n_ ≤ 0)))) : Option Bool) fun e8 => (bif e8 then (Option.bind (p_ref09_mend r_.l) fun r21 => some r21) else (Option.bind (chk (cutok 0 at_ r_.l.length)) fun _ => (Option.bind (chk (apok ([] : List Ref09Cell).length (cut r_.l 0 at_).length 24)) fun _ => (Option.bind (p_ref09_Blank (imin n_ (IntKind.i64.wrap ((r_.l.length : Int) - at_))) style) fun r39 => (Option.bind (chk (apok (([] : List Ref09Cell) ++ (cut r_.l 0 at_)).length r39.l.length 24)) fun _ => (Option.bind (chk (cutok at_ (IntKind.i64.wrap ((r_.l.length : Int) - (imin n_ (IntKind.i64.wrap ((r_.l.length : Int) - at_))))) r_.l.length)) fun _ => (Option.bind (chk (apok ((([] : List Ref09Cell) ++ (cut r_.l 0 at_)) ++ r39.l).length (cut r_.l at_ (IntKind.i64.wrap ((r_.l.length : Int) - (imin n_ (IntKind.i64.wrap ((r_.l.length : Int) - at_)))))).length 24)) fun _ => (Option.bind (p_ref09_mend (((([] : List Ref09Cell) ++ (cut r_.l 0 at_)) ++ r39.l) ++ (cut r_.l at_ (IntKind.i64.wrap ((r_.l.length : Int) - (imin n_ (IntKind.i64.wrap ((r_.l.length : Int) - at_)))))))) fun r61 => some r61)))))))))

noncomputable def p_ref09_Delete (r_ : Ref09Row) (at_ : Int) (n_ : Int) (style : Int) : Option Ref09Row :=
  (Option.bind ((bif (decide (at_ < 0)) then some true else (bif (decide (at_ ≥ (r_.l.length : Int))) then some true else some (decide (n_ ≤ 0)))) : Option Bool) fun e8 => (bif e8 then (Option.bind (p_ref09_mend r_.l) fun r21 => some r21) else (Option.bind (chk (cutok 0 at_ r_.l.length)) fun _ => (Option.bind (chk (apok ([] : List Ref09Cell).length (cut r_.l 0 at_).length 24)) fun _ => (Option.bind (chk (cutok (IntKind.i64.wrap (at_ + (imin n_ (IntKind.i64.wrap ((r_.l.length : Int) - at_))))) (r_.l.length : Int) r_.l.length)) fun _ => (Option.bind (chk (apok (([] : List Ref09Cell) ++ (cut r_.l 0 at_)).length (cut r_.l (IntKind.i64.wrap (at_ + (imin n_ (IntKind.i64.wrap ((r_.l.length : Int) - at_))))) (r_.l.length : Int)).length 24)) fun _ => (Option.bind (p_ref09_Blank (imin n_ (IntKind.i64.wrap ((r_.l.length : Int) - at_))) style) fun r49 => (Option.bind (chk (apok ((([] : List Ref09Cell) ++ (cut r_.l 0 at_)) ++ (cut r_.l (IntKind.i64.wrap (at_ + (imin n_ (IntKind.i64.wrap ((r_.l.length : Int) - at_))))) (r_.l.length : Int))).length r49.l.length 24)) fun _ => (Option.bind (p_ref09_mend (((([] : List Ref09Cell) ++ (cut r_.l 0 at_)) ++ (cut r_.l (IntKind.i64.wrap (at_ + (imin n_ (IntKind.i64.wrap ((r_.l.length : Int) - at_))))) (r_.l.length : Int))) ++ r49.l)) fun r61 => some r61)))))))))

noncomputable def p_ref09_Fill (r_ : Ref09Row) (style : Int) : Option Ref09Row :=
  (Option.bind (chk (apok ([] : List Ref09Cell).length r_.l.length 24)) fun _ => (Option.bind ((bif (decide (((([] : List Ref09Cell) ++ r_.l).length : Int) > 0)) then (Option.bind (idx (([] : List Ref09Cell) ++ r_.l) (IntKind.i64.wrap (((([] : List Ref09Cell) ++ r_.l).length : Int) - 1))) fun x30 => some ((([] : List Ref09Cell) ++ r_.l).set ((IntKind.i64.wrap (((([] : List Ref09Cell) ++ r_.l).length : Int) - 1)).toNat) (Ref09Cell.mk 32 style 3))) else some (([] : List Ref09Cell) ++ r_.l)) : Option (List Ref09Cell)) fun e26 => (Option.bind (p_ref09_mend e26) fun r37 => some (Ref09Row.mk r37.l true))))

noncomputable def p_ref09_Resize (r_ : Ref09Row) (w : Int) : Option Ref09Row :=
  (Option.bind (p_ref09_near w 0 1000) fun r3 => (bif (r3 == (r_.l.length : Int)) then some r_ else (Option.bind (chk (cutok 0 (imin r3 (r_.l.length : Int)) r_.l.length)) fun _ => (Option.bind (chk (apok ([] : List Ref09Cell).length (cut r_.l 0 (imin r3 (r_.l.length : Int))).length 24)) fun _ => (Option.bind (p_ref09_Blank (IntKind.i64.wrap (r3 - ((([] : List Ref09Cell) ++ (cut r_.l 0 (imin r3 (r_.l.length : Int)))).length : Int))) 0) fun r20 => (Option.bind (chk (apok (([] : List Ref09Cell) ++ (cut r_.l 0 (imin r3 (r_.l.length : Int)))).length r20.l.length 24)) fun _ => (Option.bind (p_ref09_mend ((([] : List Ref09Cell) ++ (cut r_.l 0 (imin r3 (r_.l.length : Int)))) ++ r20.l)) fun r32 => some r32)))))))

noncomputable def p_ref09_Whole (r_ : Ref09Row) : Option Bool :=
  (Option.bind (p_ref09_mend r_.l) fun r2 => (Option.bind (iter (σ := Int) (ρ := Unit ⊕ Bool) (fun s163 => (bif (decide (s163 < (r2.l.length : Int))) then (Option.bind (idx r2.l s163) fun x287 => (Option.bind (idx r_.l s163) fun x316 => (bif (!((x287.rune == x316.rune) && ((x287.style == x316.style) && ((x287.part == x316.part) && true)))) then (inrr (some false)) else some (.inl (IntKind.i64.wrap (s163 + 1)))))) else some (.inr (.inl ())))) 0) fun | .inl e240 => some true | .inr w => some w))

noncomputable def p_ref09_Glyphs (r_ : Ref09Row) : Option (List Ref09Glyph) :=
  (Option.bind (iter (σ := Int) (ρ := Int) (fun s71 => (Option.bind ((bif (decide (s71 > 0)) then (bif (!r_.wrapped) then (Option.bind (idx r_.l (IntKind.i64.wrap (s71 - 1))) fun x137 => some ((x137.rune == 32) && ((x137.style == 0) && ((x137.part == 0) && true)))) else some false) else some false) : Option Bool) fun e132 => (bif e132 then some (.inl (IntKind.i64.wrap (s71 - 1))) else some (.inr s71)))) (r_.l.length : Int)) fun e106 => (Option.bind (chk (cutok 0 e106 r_.l.length)) fun _ => (Option.bind (iter (σ := Int × (List Ref09Glyph)) (ρ := (List Ref09Glyph)) (fun s330 => (bif (decide (s330.1 < ((cut r_.l 0 e106).length : Int))) then (Option.bind ((Option.bind (idx (cut r_.l 0 e106) s330.1) fun x480 => (Option.bind ((bif (x480.part == 0) then some true else some (x480.part == 1)) : Option Bool) fun e491 => (bif e491 then (Option.bind (chk (apok s330.2.length [(Ref09Glyph.mk x480.rune x480.style)].length 16)) fun _ => some (s330.2 ++ [(Ref09Glyph.mk x480.rune x480.style)])) else some s330.2))) : Option (List Ref09Glyph)) fun e477 => some (.inl ((IntKind.i64.wrap (s330.1 + 1)), e477))) else some (.inr s330.2))) (0, ([] : List Ref09Glyph))) fun e416 => some e416)))
end Go.Tw.X

set_option linter.unusedVariables false
set_option linter.unusedSimpArgs false
set_option maxRecDepth 10000
namespace Go.Tw.X
open Go Go.Tw
structure Law09Act where
  kind : Int
  at_ : Int
  n : Int
  style : Int
  rune : Int
  deriving DecidableEq, Inhabited

def wfLaw09Act (x : Law09Act) : Prop := (inK .i64) x.kind ∧ (inK .i64) x.at_ ∧ (inK .i64) x.n ∧ (inK .i64) x.style ∧ (inK .i32) x.rune ∧ True
noncomputable def p_law09_awake : Option Bool :=
  (Option.bind (p_row_Blank 3 0) fun r1 => (Option.bind (p_row_Row_Put r1 0 20013 0) fun r7 => (Option.bind (p_row_Row_Put r7 1 97 0) fun r13 => (Option.bind ((bif ((r13.cells.length : Int) == 3) then (Option.bind (idx r13.cells 0) fun x85 => (bif (x85.rune == 32) then (Option.bind (idx r13.cells 1) fun x93 => (bif (x93.rune == 97) then (Option.bind (idx r13.cells 2) fun x98 => (bif (x98.rune == 32) then (Option.bind (idx r13.cells 2) fun x103 => (bif (x103.part == 0) then (Option.bind (p_row_Row_Glyphs r13) fun r108 => some ((r108.length : Int) == 2)) else some false)) else some false)) else some false)) else some false)) else some false) : Option Bool) fun e81 => some e81))))

noncomputable def p_law09_Do (r_ : RowRow) (x_ : Ref09Row) (a : Law09Act) : Option (RowRow × Ref09Row) :=
  (bif (a.kind == 0) then (Option.bind (p_row_Row_Put r_ a.at_ a.rune a.style) fun r288 => (Option.bind (p_ref09_Put x_ a.at_ (IntKind.i64.wrap a.rune) a.style) fun r294 => some (r288, r294))) else (bif (a.kind == 1) then (Option.bind (p_row_Row_Erase r_ a.at_ a.n a.style) fun r337 => (Option.bind (p_ref09_Erase x_ a.at_ a.n a.style) fun r343 => some (r337, r343))) else (bif (a.kind == 2) then (Option.bind (p_row_Row_Insert r_ a.at_ a.n a.style) fun r386 => (Option.bind (p_ref09_Insert x_ a.at_ a.n a.style) fun r392 => some (r386, r392))) else (bif (a.kind == 3) then (Option.bind (p_row_Row_Delete r_ a.at_ a.n a.style) fun r435 => (Option.bind (p_ref09_Delete x_ a.at_ a.n a.style) fun r441 => some (r435, r441))) else (bif (a.kind == 4) then (Option.bind (p_row_Row_Fill r_ a.style) fun r484 => (Option.bind (p_ref09_Fill x_ a.style) fun r490 => some (r484, r490))) else (Option.bind ((bif (decide (a.n > 60)) then some (decide (a.n < 1000)) else some false) : Option Bool) fun e499 => (Option.bind ((bif e499 then some 60 else some a.n) : Option Int) fun e506 => (Option.bind (p_row_Row_Resize r_ e506) fun r546 => (Option.bind (p_ref09_Resize x_ e506) fun r552 => some (r546, r552))))))))))

noncomputable def p_law09_Is (r_ : RowRow) (x_ : Ref09Row) : Option Bool :=
  (Option.bind ((bif ((r_.cells.length : Int) != (x_.l.length : Int)) then some true else some (!(r_.wrapped == x_.wrapped))) : Option Bool) fun e6 => (bif e6 then some false else (Option.bind (iter (σ := Int) (ρ := Unit ⊕ Bool) (fun s479 => (bif (decide (s479 < (r_.cells.length : Int))) then (Option.bind (idx r_.cells s479) fun x837 => (Option.bind ((Option.bind (idx x_.l s479) fun x934 => (bif ((IntKind.i64.wrap x837.rune) != x934.rune) then some true else (Option.bind (idx x_.l s479) fun x942 => (bif (x837.style != x942.style) then some true else (Option.bind (idx x_.l s479) fun x947 => some (x837.part != x947.part)))))) : Option Bool) fun e914 => (bif e914 then (inrr (some false)) else some (.inl (IntKind.i64.wrap (s479 + 1)))))) else some (.inr (.inl ())))) 0) fun | .inl e712 => some true | .inr w => some w)))

noncomputable def p_law09_RowPlays (w : Int) (style : Int) (acts : List Law09Act) : Option Bool :=
  (Option.bind p_law09_awake fun r1 => (bif (!r1) then some false else (Option.bind ((bif (decide (w > 60)) then some (decide (w < 1000)) else some false) : Option Bool) fun e9 => (Option.bind ((bif e9 then some 60 else some w) : Option Int) fun e16 => (Option.bind (p_row_Blank e16 style) fun r20 => (Option.bind (p_ref09_Blank e16 style) fun r26 => (Option.bind (iter (σ := RowRow × Ref09Row × Int) (ρ := (Ref09Row × RowRow) ⊕ Bool) (fun s439 => (Option.bind ((bif (decide (s439.2.2 < (acts.length : Int))) then some (decide (s439.2.2 < 30)) else some false) : Option Bool) fun e648 => (bif e648 then (Option.bind (idx acts s439.2.2) fun x792 => (Option.bind (p_law09_Do s439.1 s439.2.1 x792) fun r799 => (Option.bind ((Option.bind (p_law09_Is r799.1 r799.2) fun r826 => (bif (!r826) then some true else (Option.bind (p_ref09_Whole r799.2) fun r830 => some (!r830)))) : Option Bool) fun e823 => (bif e823 then (inrr (some false)) else some (.inl (r799.1, r799.2, (IntKind.i64.wrap (s439.2.2 + 1)))))))) else some (.inr (.inl (s439.2.1, s439.1)))))) (r20, r26, 0)) fun | .inl e637 => (Option.bind (p_law09_Is e637.2 e637.1) fun r836 => some r836) | .inr w => some w)))))))

noncomputable def p_law09_Any (l : List RowCell) (wrapped : Bool) : Option RowRow :=
  (Option.bind (chk (cutok 0 (imin (l.length : Int) 40) l.length)) fun _ => (Option.bind (chk (apok ([] : List RowCell).length (cut l 0 (imin (l.length : Int) 40)).length 24)) fun _ => some (RowRow.mk (([] : List RowCell) ++ (cut l 0 (imin (l.length : Int) 40))) wrapped)))

noncomputable def p_law09_Told (r_ : RowRow) : Option Ref09Row :=
  (Option.bind (iter (σ := Ref09Row × Int) (ρ := Ref09Row) (fun s89 => (bif (decide (s89.2 < (r_.cells.length : Int))) then (Option.bind (idx r_.cells s89.2) fun x153 => (Option.bind (chk (apok s89.1.l.length [(Ref09Cell.mk (IntKind.i64.wrap x153.rune) x153.style x153.part)].length 24)) fun _ => some (.inl ((Ref09Row.mk (s89.1.l ++ [(Ref09Cell.mk (IntKind.i64.wrap x153.rune) x153.style x153.part)]) s89.1.wrapped), (IntKind.i64.wrap (s89.2 + 1)))))) else some (.inr s89.1))) ((Ref09Row.mk ([] : List Ref09Cell) r_.wrapped), 0)) fun e128 => some e128)

noncomputable def p_law09_RowKeeps (l : List RowCell) (wrapped : Bool) (acts : List Law09Act) : Option Bool :=
  (Option.bind p_law09_awake fun r1 => (bif (!r1) then some false else (Option.bind (p_law09_Any l wrapped) fun r6 => (Option.bind (p_law09_Told r6) fun r13 => (Option.bind (iter (σ := Int) (ρ := Unit ⊕ Bool) (fun s3473 => (Option.bind ((bif (decide (s3473 < (acts.length : Int))) then some (decide (s3473 < 10)) else some false) : Option Bool) fun e5210 => (bif e5210 then (Option.bind ((Option.bind (idx acts s3473) fun x6517 => (Option.bind (p_law09_Do r6 r13 x6517) fun r6524 => some (r6524.1, r6524.2))) : Option (RowRow × Ref09Row)) fun e6428 => (Option.bind (iter (σ := Int) (ρ := Unit) (fun s6752 => (Option.bind ((bif (decide (s6752 < (acts.length : Int))) then some (decide (s6752 < (IntKind.i64.wrap (s3473 + 3)))) else some false) : Option Bool) fun e6836 => (bif e6836 then (Option.bind (idx acts s6752) fun x6890 => (Option.bind (p_law09_Do (RowRow.mk e6428.1.cells e6428.1.wrapped) (Ref09Row.mk e6428.2.l e6428.2.wrapped) x6890) fun r6897 => some (.inl (IntKind.i64.wrap (s6752 + 1))))) else some (.inr ())))) (IntKind.i64.wrap (s3473 + 1))) fun e6826 => (Option.bind ((Option.bind (p_law09_Is r6 r13) fun r6924 => (bif (!r6924) then some true else (Option.bind (p_law09_Is (RowRow.mk e6428.1.cells e6428.1.wrapped) (Ref09Row.mk e6428.2.l e6428.2.wrapped)) fun r6928 => some (!r6928)))) : Option Bool) fun e6921 => (bif e6921 then (inrr (some false)) else some (.inl (IntKind.i64.wrap (s3473 + 1))))))) else some (.inr (.inl ()))))) 0) fun | .inl e5199 => some true | .inr w => some w)))))

noncomputable def p_law09_RowColumns (w : Int) (acts : List Law09Act) : Option Bool :=
  (Option.bind p_law09_awake fun r1 => (bif (!r1) then some false else (Option.bind (p_row_Blank (Go.bits .and .i64 w 31) 0) fun r6 => (Option.bind (iter (σ := RowRow × Int) (ρ := RowRow) (fun s216 => (Option.bind ((bif (decide (s216.2 < (acts.length : Int))) then some (decide (s216.2 < 20)) else some false) : Option Bool) fun e325 => (bif e325 then (Option.bind ((Option.bind (idx acts s216.2) fun x390 => (Option.bind ((bif (decide (x390.kind ≥ 0)) then some (decide (x390.kind < 4)) else some false) : Option Bool) fun e401 => (bif e401 then (Option.bind (p_law09_Do s216.1 (Ref09Row.mk ([] : List Ref09Cell) false) x390) fun r407 => some r407.1) else some s216.1))) : Option RowRow) fun e387 => some (.inl (e387, (IntKind.i64.wrap (s216.2 + 1))))) else some (.inr s216.1)))) (r6, 0)) fun e315 => (Option.bind (p_row_Row_Glyphs (RowRow.mk e315.cells true)) fun r416 => (Option.bind (iter (σ := Int × Int) (ρ := Int) (fun s468 => (bif (decide (s468.1 < (r416.length : Int))) then (Option.bind (idx r416 s468.1) fun x508 => (Option.bind (p_wide_Of x508.rune) fun r514 => some (.inl ((IntKind.i64.wrap (s468.1 + 1)), (IntKind.i64.wrap (s468.2 + r514)))))) else some (.inr s468.2))) (0, 0)) fun e490 => (bif (e490 != (Go.bits .and .i64 w 31)) then some false else (Option.bind (p_row_Row_Fill (RowRow.mk e315.cells true) 0) fun r519 => (Option.bind (p_row_Row_Glyphs r519) fun r526 => (Option.bind (iter (σ := Int × Int) (ρ := Int) (fun s578 => (bif (decide (s578.1 < (r526.length : Int))) then (Option.bind (idx r526 s578.1) fun x618 => (Option.bind (p_wide_Of x618.rune) fun r624 => some (.inl ((IntKind.i64.wrap (s578.1 + 1)), (IntKind.i64.wrap (s578.2 + r624)))))) else some (.inr s578.2))) (0, 0)) fun e600 => some (e600 == (imax 0 (IntKind.i64.wrap ((Go.bits .and .i64 w 31) - 1))))))))))))))

noncomputable def p_law09_RowLength (l : List RowCell) (wrapped : Bool) (a : Law09Act) : Option Bool :=
  (Option.bind p_law09_awake fun r2 => (bif (!r2) then some false else (Option.bind (p_law09_Any l wrapped) fun r7 => (Option.bind (p_row_Row_Erase r7 0 (r7.cells.length : Int) a.style) fun r14 => (Option.bind ((Option.bind (p_row_Row_Put r7 a.at_ a.rune a.style) fun r245 => (bif ((r245.cells.length : Int) == (r7.cells.length : Int)) then (Option.bind (p_row_Row_Erase r7 a.at_ a.n a.style) fun r252 => (bif ((r252.cells.length : Int) == (r7.cells.length : Int)) then (Option.bind (p_row_Row_Insert r7 a.at_ a.n a.style) fun r259 => (bif ((r259.cells.length : Int) == (r7.cells.length : Int)) then (Option.bind (p_row_Row_Delete r7 a.at_ a.n a.style) fun r266 => (bif ((r266.cells.length : Int) == (r7.cells.length : Int)) then (Option.bind (p_row_Row_Fill r7 a.style) fun r273 => (bif ((r273.cells.length : Int) == (r7.cells.length : Int)) then (Option.bind (p_row_Blank (r7.cells.length : Int) a.style) fun r280 => (Option.bind (p_row_Row_Same r14 r280) fun r286 => some r286)) else some false)) else some false)) else some false)) else some false)) else some false)) : Option Bool) fun e198 => some e198)))))

noncomputable def p_law09_Glyphs (l : List RowGlyph) (x_ : List Ref09Glyph) : Option Bool :=
  (bif ((l.length : Int) != (x_.length : Int)) then some false else (Option.bind (iter (σ := Int) (ρ := Unit ⊕ Bool) (fun s350 => (bif (decide (s350 < (l.length : Int))) then (Option.bind (idx l s350) fun x618 => (Option.bind ((Option.bind (idx x_ s350) fun x690 => (bif ((IntKind.i64.wrap x618.rune) != x690.rune) then some true else (Option.bind (idx x_ s350) fun x698 => some (x618.style != x698.style)))) : Option Bool) fun e675 => (bif e675 then (inrr (some false)) else some (.inl (IntKind.i64.wrap (s350 + 1)))))) else some (.inr (.inl ())))) 0) fun | .inl e523 => some true | .inr w => some w))
end Go.Tw.X

set_option linter.unusedVariables false
set_option linter.unusedSimpArgs false
set_option maxRecDepth 10000
namespace Go.Tw.X
open Go Go.Tw

noncomputable def p_ref05_Encode (r_ : Int) : Option ByteArray :=
  (Option.bind ((bif (decide (r_ < 0)) then some true else (bif (decide (r_ > 1114111)) then some true else (bif (decide (r_ ≥ 55296)) then some (decide (r_ ≤ 57343)) else some false))) : Option Bool) fun e8 => (Option.bind ((bif e8 then some 65533 else some r_) : Option Int) fun e17 => (bif (decide (e17 < 128)) then some (bstr [(IntKind.u8.wrap e17)]) else (bif (decide (e17 < 2048)) then some (bstr [(IntKind.u8.wrap (IntKind.i64.wrap (192 + (IntKind.i64.wrap (e17.tdiv 64))))), (IntKind.u8.wrap (IntKind.i64.wrap (128 + (e17.tmod 64))))]) else (bif (decide (e17 < 65536)) then some (bstr [(IntKind.u8.wrap (IntKind.i64.wrap (224 + (IntKind.i64.wrap (e17.tdiv 4096))))), (IntKind.u8.wrap (IntKind.i64.wrap (128 + ((IntKind.i64.wrap (e17.tdiv 64)).tmod 64)))), (IntKind.u8.wrap (IntKind.i64.wrap (128 + (e17.tmod 64))))]) else some (bstr [(IntKind.u8.wrap (IntKind.i64.wrap (240 + (IntKind.i64.wrap (e17.tdiv 262144))))), (IntKind.u8.wrap (IntKind.i64.wrap (128 + ((IntKind.i64.wrap (e17.tdiv 4096)).tmod 64)))), (IntKind.u8.wrap (IntKind.i64.wrap (128 + ((IntKind.i64.wrap (e17.tdiv 64)).tmod 64)))), (IntKind.u8.wrap (IntKind.i64.wrap (128 + (e17.tmod 64))))]))))))
end Go.Tw.X

set_option linter.unusedVariables false
set_option linter.unusedSimpArgs false
set_option maxRecDepth 10000
namespace Go.Tw.X
open Go Go.Tw
structure Ref10Grid where
  w : Int
  l : List Ref09Row
  deriving DecidableEq, Inhabited

def wfRef10Grid (x : Ref10Grid) : Prop := (inK .i64) x.w ∧ (fun xs : List Ref09Row => ∀ x ∈ xs, wfRef09Row x) x.l ∧ True
noncomputable def p_ref10_size (n_ : Int) : Option Int :=
  some (imax 1 (imin n_ 1000))

noncomputable def p_ref10_New (w : Int) (h_ : Int) : Option Ref10Grid :=
  (Option.bind (p_ref10_size w) fun r2 => (Option.bind (iter (σ := Ref10Grid × Int) (ρ := Ref10Grid) (fun s147 => (Option.bind (p_ref10_size h_) fun r220 => (bif (decide (s147.2 < r220)) then (Option.bind (p_ref09_Blank s147.1.w 0) fun r267 => (Option.bind (chk (apok s147.1.l.length [r267].length 32)) fun _ => some (.inl ((Ref10Grid.mk s147.1.w (s147.1.l ++ [r267])), (IntKind.i64.wrap (s147.2 + 1)))))) else some (.inr s147.1)))) ((Ref10Grid.mk r2 ([] : List Ref09Row)), 0)) fun e213 => some e213))

noncomputable def p_ref10_Set (g : Ref10Grid) (y : Int) (r_ : Ref09Row) : Option (Ref10Grid × Bool) :=
  (Option.bind ((bif (decide (y < 0)) then some true else some (decide (y ≥ (g.l.length : Int)))) : Option Bool) fun e7 => (bif e7 then some (g, false) else (Option.bind (chk (apok ([] : List Ref09Row).length g.l.length 32)) fun _ => (Option.bind (p_ref09_Resize r_ g.w) fun r20 => (Option.bind (idx (([] : List Ref09Row) ++ g.l) y) fun x26 => some ((Ref10Grid.mk g.w ((([] : List Ref09Row) ++ g.l).set y.toNat r20)), true))))))

noncomputable def p_ref10_Move (g : Ref10Grid) (up : Bool) (top : Int) (bottom : Int) (n_ : Int) (style : Int) : Option (Ref10Grid × (List Ref09Row)) :=
  (bif (decide ((imax 0 (imin bottom (IntKind.i64.wrap ((g.l.length : Int) - 1)))) < (imax 0 (imin top (IntKind.i64.wrap ((g.l.length : Int) - 1)))))) then some (g, ([] : List Ref09Row)) else (Option.bind (chk (apok ([] : List Ref09Row).length g.l.length 32)) fun _ => (Option.bind (p_ref09_Blank g.w style) fun r14 => (Option.bind (iter (σ := (List Ref09Row) × (List Ref09Row) × Int) (ρ := (List Ref09Row) × (List Ref09Row)) (fun s1608 => (Option.bind ((bif (decide (s1608.2.2 < n_)) then some (decide (s1608.2.2 ≤ (IntKind.i64.wrap ((imax 0 (imin bottom (IntKind.i64.wrap ((g.l.length : Int) - 1)))) - (imax 0 (imin top (IntKind.i64.wrap ((g.l.length : Int) - 1)))))))) else some false) : Option Bool) fun e2408 => (bif e2408 then (Option.bind ((bif up then (Option.bind (idx s1608.2.1 (imax 0 (imin top (IntKind.i64.wrap ((g.l.length : Int) - 1))))) fun x2934 => (Option.bind (chk (apok s1608.1.length [x2934].length 32)) fun _ => (Option.bind (iter (σ := (List Ref09Row) × Int) (ρ := (List Ref09Row)) (fun s3003 => (bif (decide (s3003.2 < (imax 0 (imin bottom (IntKind.i64.wrap ((g.l.length : Int) - 1)))))) then (Option.bind (idx s3003.1 (IntKind.i64.wrap (s3003.2 + 1))) fun x3047 => (Option.bind (idx s3003.1 s3003.2) fun x3053 => some (.inl ((s3003.1.set s3003.2.toNat x3047), (IntKind.i64.wrap (s3003.2 + 1)))))) else some (.inr s3003.1))) (s1608.2.1, (imax 0 (imin top (IntKind.i64.wrap ((g.l.length : Int) - 1)))))) fun e3028 => (Option.bind (idx e3028 (imax 0 (imin bottom (IntKind.i64.wrap ((g.l.length : Int) - 1))))) fun x3057 => some ((s1608.1 ++ [x2934]), (e3028.set ((imax 0 (imin bottom (IntKind.i64.wrap ((g.l.length : Int) - 1)))).toNat) r14)))))) else (Option.bind (idx s1608.2.1 (imax 0 (imin bottom (IntKind.i64.wrap ((g.l.length : Int) - 1))))) fun x3061 => (Option.bind (chk (apok s1608.1.length [x3061].length 32)) fun _ => (Option.bind (iter (σ := (List Ref09Row) × Int) (ρ := (List Ref09Row)) (fun s3130 => (bif (decide (s3130.2 > (imax 0 (imin top (IntKind.i64.wrap ((g.l.length : Int) - 1)))))) then (Option.bind (idx s3130.1 (IntKind.i64.wrap (s3130.2 - 1))) fun x3174 => (Option.bind (idx s3130.1 s3130.2) fun x3180 => some (.inl ((s3130.1.set s3130.2.toNat x3174), (IntKind.i64.wrap (s3130.2 - 1)))))) else some (.inr s3130.1))) (s1608.2.1, (imax 0 (imin bottom (IntKind.i64.wrap ((g.l.length : Int) - 1)))))) fun e3155 => (Option.bind (idx e3155 (imax 0 (imin top (IntKind.i64.wrap ((g.l.length : Int) - 1))))) fun x3184 => some ((s1608.1 ++ [x3061]), (e3155.set ((imax 0 (imin top (IntKind.i64.wrap ((g.l.length : Int) - 1)))).toNat) r14))))))) : Option ((List Ref09Row) × (List Ref09Row))) fun e2930 => some (.inl (e2930.1, e2930.2, (IntKind.i64.wrap (s1608.2.2 + 1))))) else some (.inr (s1608.1, s1608.2.1))))) (([] : List Ref09Row), (([] : List Ref09Row) ++ g.l), 0)) fun e2398 => some ((Ref10Grid.mk g.w e2398.2), e2398.1)))))

noncomputable def p_ref10_Resize (g : Ref10Grid) (w : Int) (h_ : Int) (off : Int) : Option (Ref10Grid × (List Ref09Row)) :=
  (Option.bind (p_ref10_size w) fun r3 => (Option.bind (iter (σ := Ref10Grid × Int) (ρ := Ref10Grid) (fun s520 => (Option.bind (p_ref10_size h_) fun r775 => (bif (decide (s520.2 < r775)) then (Option.bind ((bif (decide ((IntKind.i64.wrap ((imax 0 (imin off (IntKind.i64.wrap ((g.l.length : Int) - 1)))) + s520.2)) < (g.l.length : Int))) then (Option.bind (idx g.l (IntKind.i64.wrap ((imax 0 (imin off (IntKind.i64.wrap ((g.l.length : Int) - 1)))) + s520.2))) fun x966 => (Option.bind (p_ref09_Resize x966 s520.1.w) fun r976 => (Option.bind (chk (apok s520.1.l.length [r976].length 32)) fun _ => some (Ref10Grid.mk s520.1.w (s520.1.l ++ [r976]))))) else (Option.bind (p_ref09_Blank s520.1.w 0) fun r1004 => (Option.bind (chk (apok s520.1.l.length [r1004].length 32)) fun _ => some (Ref10Grid.mk s520.1.w (s520.1.l ++ [r1004]))))) : Option Ref10Grid) fun e938 => some (.inl (e938, (IntKind.i64.wrap (s520.2 + 1))))) else some (.inr s520.1)))) ((Ref10Grid.mk r3 ([] : List Ref09Row)), 0)) fun e768 => (Option.bind (chk (cutok 0 (imax 0 (imin off (IntKind.i64.wrap ((g.l.length : Int) - 1)))) g.l.length)) fun _ => some (e768, (cut g.l 0 (imax 0 (imin off (IntKind.i64.wrap ((g.l.length : Int) - 1)))))))))

noncomputable def p_ref10_Text (r_ : Ref09Row) : Option ByteArray :=
  (Option.bind (p_ref09_Glyphs r_) fun r2 => (Option.bind (iter (σ := ByteArray × Int) (ρ := ByteArray) (fun s62 => (bif (decide (s62.2 < (r2.length : Int))) then (Option.bind (idx r2 s62.2) fun x108 => (Option.bind (p_ref05_Encode x108.rune) fun r114 => (Option.bind (chk (sadd s62.1.size r114.size)) fun _ => some (.inl ((s62.1 ++ r114), (IntKind.i64.wrap (s62.2 + 1))))))) else some (.inr s62.1))) ((ByteArray.mk #[]), 0)) fun e88 => some e88))
end Go.Tw.X

set_option linter.unusedVariables false
set_option linter.unusedSimpArgs false
set_option maxRecDepth 10000
namespace Go.Tw.X
open Go Go.Tw
structure Law10Act where
  kind : Int
  y : Int
  top : Int
  bottom : Int
  n : Int
  style : Int
  w : Int
  h : Int
  row : Law09Act
  deriving DecidableEq, Inhabited

def wfLaw10Act (x : Law10Act) : Prop := (inK .i64) x.kind ∧ (inK .i64) x.y ∧ (inK .i64) x.top ∧ (inK .i64) x.bottom ∧ (inK .i64) x.n ∧ (inK .i64) x.style ∧ (inK .i64) x.w ∧ (inK .i64) x.h ∧ wfLaw09Act x.row ∧ True
noncomputable def p_law10_awake : Option Bool :=
  (Option.bind (p_grid_New 3 3) fun r1 => (Option.bind (iter (σ := GridGrid × Int) (ρ := GridGrid) (fun s99 => (bif (decide (s99.2 < ([97, 98, 99].length : Int))) then (Option.bind (idx [97, 98, 99] s99.2) fun x170 => (Option.bind (p_grid_Grid_Row s99.1 s99.2) fun r173 => (Option.bind (p_row_Row_Put r173 0 x170 0) fun r179 => (Option.bind (p_grid_Grid_Set s99.1 s99.2 r179) fun r185 => some (.inl (r185.2, (IntKind.i64.wrap (s99.2 + 1)))))))) else some (.inr s99.1))) (r1, 0)) fun e142 => (Option.bind (p_grid_Grid_Up e142 0 1 1 0) fun r189 => (Option.bind (p_grid_Grid_Text r189.2) fun r196 => (Option.bind ((bif ((r189.1.length : Int) == 1) then (Option.bind (idx r189.1 0) fun x283 => (bif ((x283.cells.length : Int) == 3) then (Option.bind (idx r189.1 0) fun x292 => (Option.bind (idx x292.cells 0) fun x298 => (bif (x298.rune == 97) then (bif ((r196.length : Int) == 3) then (Option.bind (idx r196 0) fun x307 => (bif (x307.toList == (ByteArray.mk #[98]).toList) then (Option.bind (idx r196 1) fun x313 => (bif (x313.toList == (ByteArray.mk #[]).toList) then (Option.bind (idx r196 2) fun x317 => some (x317.toList == (ByteArray.mk #[99]).toList)) else some false)) else some false)) else some false) else some false))) else some false)) else some false) : Option Bool) fun e279 => some e279)))))

noncomputable def p_law10_small (n_ : Int) : Option Int :=
  (Option.bind ((bif (decide (n_ > 12)) then some (decide (n_ < 1000)) else some false) : Option Bool) fun e4 => (bif e4 then some 12 else some (imin n_ 12)))

noncomputable def p_law10_Rows (l : List RowRow) (x_ : List Ref09Row) : Option Bool :=
  (bif ((l.length : Int) != (x_.length : Int)) then some false else (Option.bind (iter (σ := Int) (ρ := Unit ⊕ Bool) (fun s382 => (bif (decide (s382 < (x_.length : Int))) then (Option.bind (idx l s382) fun x743 => (Option.bind (idx x_ s382) fun x753 => (Option.bind (p_law09_Is x743 x753) fun r763 => (bif (!r763) then (inrr (some false)) else some (.inl (IntKind.i64.wrap (s382 + 1))))))) else some (.inr (.inl ())))) 0) fun | .inl e571 => some true | .inr w => some w))

noncomputable def p_law10_do (g : GridGrid) (x_ : Ref10Grid) (a : Law10Act) : Option (Ref10Grid × Bool × GridGrid) :=
  (bif (a.kind == 0) then (Option.bind (p_grid_Grid_Row g a.y) fun r241 => (Option.bind ((bif (decide (a.y ≥ 0)) then some (decide (a.y < (x_.l.length : Int))) else some false) : Option Bool) fun e252 => (Option.bind ((bif e252 then (Option.bind (idx x_.l a.y) fun x286 => some x286) else some (Ref09Row.mk ([] : List Ref09Cell) false)) : Option Ref09Row) fun e282 => (Option.bind (p_law09_Is r241 e282) fun r297 => (bif (!r297) then some (x_, false, g) else (Option.bind (p_law09_Do r241 e282 a.row) fun r302 => (Option.bind (p_ref10_Set x_ a.y r302.2) fun r313 => (Option.bind (p_grid_Grid_Set g a.y r302.1) fun r332 => some (r313.1, (r332.1 == r313.2), r332.2))))))))) else (Option.bind ((bif (a.kind == 1) then some (a.kind == 1) else some (a.kind == 2)) : Option Bool) fun e339 => (bif e339 then (Option.bind (p_ref10_Move x_ (a.kind == 1) a.top a.bottom a.n a.style) fun r344 => (bif (a.kind == 1) then (Option.bind (p_grid_Grid_Up g a.top a.bottom a.n a.style) fun r426 => (Option.bind (p_law10_Rows r426.1 r344.2) fun r433 => some (r344.1, r433, r426.2))) else (Option.bind (p_grid_Grid_Down g a.top a.bottom a.n a.style) fun r466 => (Option.bind (p_law10_Rows r466.1 r344.2) fun r473 => some (r344.1, r473, r466.2))))) else (Option.bind ((Option.bind (p_law10_small a.w) fun r1198 => (Option.bind (p_law10_small a.h) fun r1201 => (Option.bind (p_ref10_Resize x_ r1198 r1201 a.n) fun r1204 => some (r1204.1, r1204.2)))) : Option (Ref10Grid × (List Ref09Row))) fun e1053 => (Option.bind (p_law10_small a.w) fun r1394 => (Option.bind (p_law10_small a.h) fun r1397 => (Option.bind (p_grid_Grid_Resize g r1394 r1397 a.n) fun r1400 => (Option.bind (p_law10_Rows r1400.1 e1053.2) fun r1409 => some ((Ref10Grid.mk e1053.1.w e1053.1.l), r1409, r1400.2)))))))))

noncomputable def p_law10_Is (g : GridGrid) (x_ : Ref10Grid) : Option (Bool × GridGrid) :=
  (Option.bind (p_grid_Grid_Size g) fun r2 => (Option.bind (p_grid_Grid_Text g) fun r5 => (Option.bind ((bif (r2.1 != x_.w) then some (true, g) else (bif (r2.2 != (x_.l.length : Int)) then some (true, g) else (Option.bind (p_grid_Grid_Rows g) fun r154 => (Option.bind (p_law10_Rows r154.1 x_.l) fun r161 => (bif (!r161) then some (true, r154.2) else (bif ((r5.length : Int) != r2.2) then some (true, r154.2) else (Option.bind (p_grid_Grid_Row r154.2 (-1)) fun r166 => (bif ((r166.cells.length : Int) != 0) then some (true, r154.2) else (Option.bind (p_grid_Grid_Row r154.2 r2.2) fun r173 => some (((r173.cells.length : Int) != 0), r154.2)))))))))) : Option (Bool × GridGrid)) fun e122 => (bif e122.1 then some (false, e122.2) else (Option.bind (iter (σ := Int) (ρ := Unit ⊕ (Bool × GridGrid)) (fun s684 => (bif (decide (s684 < (x_.l.length : Int))) then (Option.bind (idx x_.l s684) fun x1069 => (Option.bind ((Option.bind (p_grid_Grid_Row e122.2 s684) fun r1174 => (Option.bind (p_law09_Is r1174 x1069) fun r1180 => (bif (!r1180) then some true else (Option.bind (idx r5 s684) fun x1184 => (Option.bind (p_ref10_Text x1069) fun r1189 => some (!(x1184.toList == r1189.toList))))))) : Option Bool) fun e1153 => (bif e1153 then (inrr (some (false, e122.2))) else some (.inl (IntKind.i64.wrap (s684 + 1)))))) else some (.inr (.inl ())))) 0) fun | .inl e935 => some (true, e122.2) | .inr w => some w)))))

noncomputable def p_law10_GridPlays (w : Int) (h_ : Int) (acts : List Law10Act) : Option Bool :=
  (Option.bind p_law10_awake fun r1 => (bif (!r1) then some false else (Option.bind (p_law10_small w) fun r6 => (Option.bind (p_law10_small h_) fun r9 => (Option.bind (p_grid_New r6 r9) fun r12 => (Option.bind (p_law10_small w) fun r19 => (Option.bind (p_law10_small h_) fun r22 => (Option.bind (p_ref10_New r19 r22) fun r25 => (Option.bind (iter (σ := GridGrid × Ref10Grid × Int) (ρ := (Ref10Grid × GridGrid) ⊕ Bool) (fun s421 => (Option.bind ((bif (decide (s421.2.2 < (acts.length : Int))) then some (decide (s421.2.2 < 25)) else some false) : Option Bool) fun e622 => (bif e622 then (Option.bind (idx acts s421.2.2) fun x762 => (Option.bind (p_law10_do s421.1 s421.2.1 x762) fun r769 => (Option.bind ((bif (!r769.2.1) then some (true, r769.2.2) else (Option.bind (p_law10_Is r769.2.2 r769.1) fun r795 => some ((!r795.1), r795.2))) : Option (Bool × GridGrid)) fun e791 => (bif e791.1 then (inrr (some false)) else some (.inl (e791.2, r769.1, (IntKind.i64.wrap (s421.2.2 + 1)))))))) else some (.inr (.inl (s421.2.1, s421.1)))))) (r12, r25, 0)) fun | .inl e611 => (Option.bind (p_law10_Is e611.2 e611.1) fun r802 => some r802.1) | .inr w => some w)))))))))

noncomputable def p_law10_GridRows (w : Int) (h_ : Int) (acts : List Law10Act) : Option Bool :=
  (Option.bind p_law10_awake fun r1 => (bif (!r1) then some false else (Option.bind (p_law10_small w) fun r6 => (Option.bind (p_law10_small h_) fun r9 => (Option.bind (p_grid_New r6 r9) fun r12 => (Option.bind (p_law10_small w) fun r19 => (Option.bind (p_law10_small h_) fun r22 => (Option.bind (p_ref10_New r19 r22) fun r25 => (Option.bind (iter (σ := GridGrid × Ref10Grid × Int) (ρ := (Ref10Grid × GridGrid) ⊕ Bool) (fun s829 => (Option.bind ((bif (decide (s829.2.2 < (acts.length : Int))) then some (decide (s829.2.2 < 20)) else some false) : Option Bool) fun e1234 => (bif e1234 then (Option.bind (idx acts s829.2.2) fun x1476 => (Option.bind (p_law10_do s829.1 s829.2.1 x1476) fun r1483 => (Option.bind (p_grid_Grid_Size r1483.2.2) fun r1492 => (Option.bind (p_grid_Grid_Rows r1483.2.2) fun r1495 => (Option.bind ((bif (decide (r1492.1 < 1)) then some true else (bif (decide (r1492.2 < 1)) then some true else some ((r1495.1.length : Int) != r1492.2))) : Option Bool) fun e1507 => (bif e1507 then (inrr (some false)) else (Option.bind (iter (σ := Int) (ρ := Unit ⊕ ((GridGrid × Ref10Grid × Int) ⊕ ((Ref10Grid × GridGrid) ⊕ Bool))) (fun s1563 => (bif (decide (s1563 < (r1495.1.length : Int))) then (Option.bind (idx r1495.1 s1563) fun x1606 => (bif ((x1606.cells.length : Int) != r1492.1) then (inrr (inrr (some false))) else some (.inl (IntKind.i64.wrap (s1563 + 1))))) else some (.inr (.inl ())))) 0) fun | .inl e1586 => some (.inl (r1495.2, r1483.1, (IntKind.i64.wrap (s829.2.2 + 1)))) | .inr w => some w))))))) else some (.inr (.inl (s829.2.1, s829.1)))))) (r12, r25, 0)) fun | .inl e1223 => some true | .inr w => some w)))))))))

noncomputable def p_law10_GridRegions (acts : List Law10Act) (a : Law10Act) : Option Bool :=
  (Option.bind p_law10_awake fun r2 => (bif (!r2) then some false else (Option.bind (p_grid_New 4 6) fun r7 => (Option.bind (p_ref10_New 4 6) fun r14 => (Option.bind (iter (σ := GridGrid × Ref10Grid × Int) (ρ := Ref10Grid × GridGrid) (fun s526 => (Option.bind ((bif (decide (s526.2.2 < (acts.length : Int))) then some (decide (s526.2.2 < 12)) else some false) : Option Bool) fun e784 => (bif e784 then (Option.bind ((Option.bind ((Option.bind (idx acts s526.2.2) fun x975 => (bif (decide (x975.kind < 3)) then (Option.bind (idx acts s526.2.2) fun x983 => some (decide (x983.kind ≥ 0))) else some false)) : Option Bool) fun e972 => (bif e972 then (Option.bind (idx acts s526.2.2) fun x1004 => (Option.bind (p_law10_do s526.1 s526.2.1 x1004) fun r1011 => some (r1011.1, r1011.2.2))) else some (s526.2.1, s526.1))) : Option (Ref10Grid × GridGrid)) fun e944 => some (.inl (e944.2, e944.1, (IntKind.i64.wrap (s526.2.2 + 1))))) else some (.inr (s526.2.1, s526.1))))) (r7, r14, 0)) fun e774 => (Option.bind (p_grid_Grid_Rows e774.2) fun r1020 => (Option.bind (p_grid_Grid_Up r1020.2 (Go.bits .and .i64 a.top 7) (Go.bits .and .i64 a.bottom 7) 1 a.style) fun r1027 => (Option.bind (p_grid_Grid_Rows r1027.2) fun r1034 => (bif (decide ((imin (Go.bits .and .i64 a.bottom 7) 5) < (imin (Go.bits .and .i64 a.top 7) 5))) then (Option.bind ((bif ((r1027.1.length : Int) == 0) then (Option.bind (p_law10_Rows r1034.1 e774.1.l) fun r1072 => some r1072) else some false) : Option Bool) fun e1068 => some e1068) else (Option.bind ((bif ((r1027.1.length : Int) != 1) then some true else (bif ((r1034.1.length : Int) != 6) then some true else (Option.bind (idx r1027.1 0) fun x1196 => (Option.bind (idx e774.1.l (imin (Go.bits .and .i64 a.top 7) 5)) fun x1201 => (Option.bind (p_law09_Is x1196 x1201) fun r1214 => some (!r1214)))))) : Option Bool) fun e1168 => (bif e1168 then some false else (Option.bind (iter (σ := Int) (ρ := Unit ⊕ Bool) (fun s8542 => (bif (decide (s8542 < 6)) then (Option.bind ((bif (decide (s8542 < (imin (Go.bits .and .i64 a.top 7) 5))) then (Option.bind (idx r1034.1 s8542) fun x15567 => (Option.bind (idx r1020.1 s8542) fun x15572 => (Option.bind (p_row_Row_Same x15567 x15572) fun r15583 => (bif (!r15583) then some true else (bif (decide (s8542 ≥ (imin (Go.bits .and .i64 a.top 7) 5))) then (bif (decide (s8542 < (imin (Go.bits .and .i64 a.bottom 7) 5))) then (Option.bind (idx r1034.1 s8542) fun x15630 => (Option.bind (idx r1020.1 (IntKind.i64.wrap (s8542 + 1))) fun x15633 => (Option.bind (p_row_Row_Same x15630 x15633) fun r15642 => some (!r15642)))) else some false) else some false))))) else (bif (decide (s8542 > (imin (Go.bits .and .i64 a.bottom 7) 5))) then (Option.bind (idx r1034.1 s8542) fun x15701 => (Option.bind (idx r1020.1 s8542) fun x15706 => (Option.bind (p_row_Row_Same x15701 x15706) fun r15717 => (bif (!r15717) then some true else (bif (decide (s8542 ≥ (imin (Go.bits .and .i64 a.top 7) 5))) then (bif (decide (s8542 < (imin (Go.bits .and .i64 a.bottom 7) 5))) then (Option.bind (idx r1034.1 s8542) fun x15764 => (Option.bind (idx r1020.1 (IntKind.i64.wrap (s8542 + 1))) fun x15767 => (Option.bind (p_row_Row_Same x15764 x15767) fun r15776 => some (!r15776)))) else some false) else some false))))) else (bif (decide (s8542 ≥ (imin (Go.bits .and .i64 a.top 7) 5))) then (bif (decide (s8542 < (imin (Go.bits .and .i64 a.bottom 7) 5))) then (Option.bind (idx r1034.1 s8542) fun x15836 => (Option.bind (idx r1020.1 (IntKind.i64.wrap (s8542 + 1))) fun x15841 => (Option.bind (p_row_Row_Same x15836 x15841) fun r15852 => some (!r15852)))) else some false) else some false))) : Option Bool) fun e15259 => (bif e15259 then (inrr (some false)) else some (.inl (IntKind.i64.wrap (s8542 + 1))))) else some (.inr (.inl ())))) 0) fun | .inl e12203 => (Option.bind (p_grid_Grid_Down r1034.2 (imin (Go.bits .and .i64 a.top 7) 5) (imin (Go.bits .and .i64 a.bottom 7) 5) 1 0) fun r15873 => (Option.bind (idx r1027.1 0) fun x15880 => (Option.bind (p_grid_Grid_Set r15873.2 (imin (Go.bits .and .i64 a.top 7) 5) x15880) fun r15888 => (Option.bind (p_grid_Grid_Rows r15888.2) fun r15922 => (Option.bind (p_law10_Rows r15922.1 e774.1.l) fun r15929 => some r15929))))) | .inr w => some w))))))))))))

noncomputable def p_law10_GridSteps (acts : List Law10Act) (a : Law10Act) (n_ : Int) : Option Bool :=
  (Option.bind p_law10_awake fun r2 => (bif (!r2) then some false else (Option.bind (p_grid_New 4 5) fun r7 => (Option.bind (p_ref10_New 4 5) fun r14 => (Option.bind (iter (σ := GridGrid × Ref10Grid × Int) (ρ := Ref10Grid × GridGrid) (fun s526 => (Option.bind ((bif (decide (s526.2.2 < (acts.length : Int))) then some (decide (s526.2.2 < 10)) else some false) : Option Bool) fun e784 => (bif e784 then (Option.bind ((Option.bind ((Option.bind (idx acts s526.2.2) fun x975 => (bif (decide (x975.kind ≥ 0)) then (Option.bind (idx acts s526.2.2) fun x983 => some (decide (x983.kind < 3))) else some false)) : Option Bool) fun e972 => (bif e972 then (Option.bind (idx acts s526.2.2) fun x1004 => (Option.bind (p_law10_do s526.1 s526.2.1 x1004) fun r1011 => some (r1011.1, r1011.2.2))) else some (s526.2.1, s526.1))) : Option (Ref10Grid × GridGrid)) fun e944 => some (.inl (e944.2, e944.1, (IntKind.i64.wrap (s526.2.2 + 1))))) else some (.inr (s526.2.1, s526.1))))) (r7, r14, 0)) fun e774 => (Option.bind (p_grid_Grid_Clone e774.2) fun r1020 => (Option.bind (p_grid_Grid_Up r1020.2 a.top a.bottom (Go.bits .and .i64 n_ 3) a.style) fun r1028 => (Option.bind (iter (σ := GridGrid × (List RowRow) × Int) (ρ := (List RowRow) × GridGrid) (fun s1114 => (bif (decide (s1114.2.2 < (Go.bits .and .i64 n_ 3))) then (Option.bind (p_grid_Grid_Up s1114.1 a.top a.bottom 1 a.style) fun r1171 => (Option.bind (chk (apok s1114.2.1.length r1171.1.length 32)) fun _ => some (.inl (r1171.2, (s1114.2.1 ++ r1171.1), (IntKind.i64.wrap (s1114.2.2 + 1)))))) else some (.inr (s1114.2.1, s1114.1)))) (r1020.1, [], 0)) fun e1149 => (Option.bind ((bif (decide ((e1149.1.length : Int) > (r1028.1.length : Int))) then (Option.bind (chk (cutok 0 (r1028.1.length : Int) e1149.1.length)) fun _ => some (cut e1149.1 0 (r1028.1.length : Int))) else some e1149.1) : Option (List RowRow)) fun e1198 => (Option.bind ((bif ((r1028.1.length : Int) != (e1198.length : Int)) then some true else (Option.bind (p_grid_Grid_Same r1028.2 e1149.2) fun r1220 => some (!r1220))) : Option Bool) fun e1216 => (bif e1216 then some false else (Option.bind (iter (σ := Int) (ρ := Unit ⊕ Bool) (fun s2068 => (bif (decide (s2068 < (r1028.1.length : Int))) then (Option.bind ((Option.bind (idx r1028.1 s2068) fun x2882 => (Option.bind (idx e1198 s2068) fun x2887 => (Option.bind (p_row_Row_Same x2882 x2887) fun r2898 => some (!r2898)))) : Option Bool) fun e2845 => (bif e2845 then (inrr (some false)) else some (.inl (IntKind.i64.wrap (s2068 + 1))))) else some (.inr (.inl ())))) 0) fun | .inl e2489 => some true | .inr w => some w))))))))))))

noncomputable def p_law10_GridClones (acts : List Law10Act) (more : List Law10Act) : Option Bool :=
  (Option.bind p_law10_awake fun r1 => (bif (!r1) then some false else (Option.bind (p_grid_New 5 4) fun r6 => (Option.bind (p_ref10_New 5 4) fun r13 => (Option.bind (iter (σ := Ref10Grid × GridGrid × Int) (ρ := (Ref10Grid × GridGrid) ⊕ Bool) (fun s325 => (Option.bind ((bif (decide (s325.2.2 < (acts.length : Int))) then some (decide (s325.2.2 < 12)) else some false) : Option Bool) fun e484 => (bif e484 then (Option.bind (idx acts s325.2.2) fun x603 => (Option.bind (p_law10_do s325.2.1 s325.1 x603) fun r610 => (bif (!r610.2.1) then (inrr (some false)) else some (.inl (r610.1, r610.2.2, (IntKind.i64.wrap (s325.2.2 + 1))))))) else some (.inr (.inl (s325.1, s325.2.1)))))) (r13, r6, 0)) fun | .inl e473 => (Option.bind ((Option.bind (p_grid_Grid_Clone e473.2) fun r757 => some (r757.1, e473.1, r757.2)) : Option (GridGrid × Ref10Grid × GridGrid)) fun e730 => (Option.bind (p_grid_Grid_Same (GridGrid.mk e730.1.w e730.1.l) e730.2.2) fun r784 => (bif (!r784) then some false else (Option.bind (iter (σ := GridGrid × Ref10Grid × Int) (ρ := (GridGrid × Ref10Grid) ⊕ Bool) (fun s1094 => (Option.bind ((bif (decide (s1094.2.2 < (more.length : Int))) then some (decide (s1094.2.2 < 12)) else some false) : Option Bool) fun e1253 => (bif e1253 then (Option.bind (idx more s1094.2.2) fun x1372 => (Option.bind (p_law10_do s1094.1 s1094.2.1 x1372) fun r1379 => (bif (!r1379.2.1) then (inrr (some false)) else some (.inl (r1379.2.2, r1379.1, (IntKind.i64.wrap (s1094.2.2 + 1))))))) else some (.inr (.inl (s1094.1, s1094.2.1)))))) ((GridGrid.mk e730.1.w e730.1.l), (Ref10Grid.mk e730.2.1.w e730.2.1.l), 0)) fun | .inl e1242 => (Option.bind ((bif (e473.1.w == e1242.2.w) then some ((e473.1.l.length : Int) == (e1242.2.l.length : Int)) else some false) : Option Bool) fun e1394 => (Option.bind (iter (σ := Bool × Int) (ρ := Bool) (fun s1574 => (Option.bind ((bif s1574.1 then some (decide (s1574.2 < (e473.1.l.length : Int))) else some false) : Option Bool) fun e1671 => (bif e1671 then (Option.bind (idx e1242.2.l s1574.2) fun x1734 => (Option.bind (p_grid_Grid_Row e730.2.2 s1574.2) fun r1744 => (Option.bind (p_law09_Is r1744 x1734) fun r1750 => some (.inl (r1750, (IntKind.i64.wrap (s1574.2 + 1))))))) else some (.inr s1574.1)))) (e1394, 0)) fun e1661 => (Option.bind ((Option.bind (p_law10_Is e730.2.2 e473.1) fun r1787 => (bif r1787.1 then (Option.bind (p_law10_Is e1242.1 e1242.2) fun r1792 => (bif r1792.1 then (Option.bind (p_grid_Grid_Same r1787.2 r1792.2) fun r1797 => some ((r1797 == e1661), r1792.2, r1787.2)) else some (false, r1792.2, r1787.2))) else some (false, e1242.1, r1787.2))) : Option (Bool × GridGrid × GridGrid)) fun e1784 => some e1784.1))) | .inr w => some w)))) | .inr w => some w)))))
end Go.Tw.X

set_option linter.unusedVariables false
set_option linter.unusedSimpArgs false
set_option maxRecDepth 10000
namespace Go.Tw.X
open Go Go.Tw

noncomputable def p_law14_Told (l : List RowGlyph) : Option (List Ref09Glyph) :=
  (Option.bind (iter (σ := (List Ref09Glyph) × Int) (ρ := (List Ref09Glyph)) (fun s86 => (bif (decide (s86.2 < (l.length : Int))) then (Option.bind (idx l s86.2) fun x150 => (Option.bind (chk (apok s86.1.length [(Ref09Glyph.mk (IntKind.i64.wrap x150.rune) x150.style)].length 16)) fun _ => some (.inl ((s86.1 ++ [(Ref09Glyph.mk (IntKind.i64.wrap x150.rune) x150.style)]), (IntKind.i64.wrap (s86.2 + 1)))))) else some (.inr s86.1))) ([], 0)) fun e125 => some e125)
end Go.Tw.X

set_option linter.unusedVariables false
set_option linter.unusedSimpArgs false
set_option maxRecDepth 10000
namespace Go.Tw.X
open Go Go.Tw
structure Ref01In where
  s : ByteArray
  e : Int
  deriving DecidableEq, Inhabited

def wfRef01In (x : Ref01In) : Prop := (fun s : ByteArray => s.size ≤ maxLen) x.s ∧ (inK .i64) x.e ∧ True
noncomputable def p_ref01_Read (in_ : Ref01In) : Option (Ref01In × Int) :=
  (bif (in_.e != 0) then some (in_, 0) else (Option.bind (iter (σ := Int × Int × Int) (ρ := Unit ⊕ (Ref01In × Int)) (fun s258 => (bif (decide (s258.2.2 < 9)) then (Option.bind ((bif (s258.2.2 == (in_.s.size : Int)) then (inrs (inrr (some ((Ref01In.mk (ByteArray.mk #[]) 2), 0)))) else (Option.bind (sidx in_.s s258.2.2) fun b475 => (bif (decide ((IntKind.i64.wrap b475) < 128)) then (Option.bind ((bif (decide (s258.2.2 > 0)) then (bif ((IntKind.i64.wrap b475) == 0) then some true else some (decide ((IntKind.i64.wrap (s258.1 + (IntKind.i64.wrap (((IntKind.i64.wrap b475).tmod 128) * s258.2.1)))) > 4611686018427387904))) else some (decide ((IntKind.i64.wrap (s258.1 + (IntKind.i64.wrap (((IntKind.i64.wrap b475).tmod 128) * s258.2.1)))) > 4611686018427387904))) : Option Bool) fun e499 => (bif e499 then (inrs (inrr (some ((Ref01In.mk (ByteArray.mk #[]) 1), 0)))) else (Option.bind (chk (cutok (IntKind.i64.wrap (s258.2.2 + 1)) (in_.s.size : Int) in_.s.size)) fun _ => (inrs (inrr (some ((Ref01In.mk (scut in_.s (IntKind.i64.wrap (s258.2.2 + 1)) (in_.s.size : Int)) 0), (IntKind.i64.wrap (s258.1 + (IntKind.i64.wrap (((IntKind.i64.wrap b475).tmod 128) * s258.2.1))))))))))) else (bif (decide (s258.2.2 < 8)) then some (.inl ((IntKind.i64.wrap (s258.1 + (IntKind.i64.wrap (((IntKind.i64.wrap b475).tmod 128) * s258.2.1)))), (IntKind.i64.wrap (s258.2.1 * 128)))) else some (.inl ((IntKind.i64.wrap (s258.1 + (IntKind.i64.wrap (((IntKind.i64.wrap b475).tmod 128) * s258.2.1)))), s258.2.1)))))) : Option ((Int × Int) ⊕ ((Int × Int × Int) ⊕ (Unit ⊕ (Ref01In × Int))))) fun | .inl e465 => some (.inl (e465.1, e465.2, (IntKind.i64.wrap (s258.2.2 + 1)))) | .inr w => some w) else some (.inr (.inl ())))) (0, 1, 0)) fun | .inl e381 => some ((Ref01In.mk (ByteArray.mk #[]) 1), 0) | .inr w => some w))

noncomputable def p_ref01_Raw (in_ : Ref01In) (n_ : Int) : Option (Ref01In × ByteArray) :=
  (bif (in_.e != 0) then some (in_, (ByteArray.mk #[])) else (bif (decide ((imax 0 n_) > (in_.s.size : Int))) then some ((Ref01In.mk (ByteArray.mk #[]) 2), (ByteArray.mk #[])) else (Option.bind (chk (cutok (imax 0 n_) (in_.s.size : Int) in_.s.size)) fun _ => (Option.bind (chk (cutok 0 (imax 0 n_) in_.s.size)) fun _ => some ((Ref01In.mk (scut in_.s (imax 0 n_) (in_.s.size : Int)) 0), (scut in_.s 0 (imax 0 n_)))))))

noncomputable def p_ref01_ReadText (in_ : Ref01In) : Option (Ref01In × ByteArray) :=
  (Option.bind (p_ref01_Read in_) fun r3 => (Option.bind (p_ref01_Raw r3.1 r3.2) fun r7 => some (r7.1, r7.2)))

noncomputable def p_ref01_End (in_ : Ref01In) : Option Int :=
  (Option.bind ((bif (in_.e == 0) then some (!(in_.s.toList == (ByteArray.mk #[]).toList)) else some false) : Option Bool) fun e5 => (bif e5 then some 1 else some in_.e))

noncomputable def p_ref01_Num (n_ : Int) : Option ByteArray :=
  (Option.bind (iter (σ := Int × (List Int)) (ρ := Int × (List Int)) (fun s38 => (bif (decide (s38.1 ≥ 128)) then (Option.bind (chk (apok s38.2.length [(IntKind.u8.wrap (IntKind.i64.wrap (128 + (s38.1.tmod 128))))].length 1)) fun _ => some (.inl ((IntKind.i64.wrap (s38.1.tdiv 128)), (s38.2 ++ [(IntKind.u8.wrap (IntKind.i64.wrap (128 + (s38.1.tmod 128))))])))) else some (.inr (s38.1, s38.2)))) ((imax 0 (imin n_ 4611686018427387904)), ([] : List Int))) fun e54 => (Option.bind (chk (apok e54.2.length [(IntKind.u8.wrap e54.1)].length 1)) fun _ => some (bstr (e54.2 ++ [(IntKind.u8.wrap e54.1)]))))

noncomputable def p_ref01_Text (s_ : ByteArray) : Option ByteArray :=
  (Option.bind (p_ref01_Num (s_.size : Int)) fun r1 => (Option.bind (chk (sadd r1.size s_.size)) fun _ => some (r1 ++ s_)))
end Go.Tw.X

set_option linter.unusedVariables false
set_option linter.unusedSimpArgs false
set_option maxRecDepth 10000
namespace Go.Tw.X
open Go Go.Tw

noncomputable def p_ref02_Of (s_ : ByteArray) : Option Int :=
  (Option.bind (iter (σ := Int × Int) (ρ := Int) (fun s227 => (bif (decide (s227.2 < (s_.size : Int))) then (Option.bind (sidx s_ s227.2) fun b402 => (Option.bind (iter (σ := Int × Int) (ρ := Int) (fun s429 => (bif (decide (s429.2 < 8)) then (Option.bind ((bif ((s429.1.tmod 2) == 1) then some (Go.bits .xor .i64 (IntKind.i64.wrap (s429.1.tdiv 2)) 3988292384) else some (IntKind.i64.wrap (s429.1.tdiv 2))) : Option Int) fun e452 => some (.inl (e452, (IntKind.i64.wrap (s429.2 + 1))))) else some (.inr s429.1))) ((Go.bits .xor .i64 s227.1 (IntKind.i64.wrap b402)), 0)) fun e440 => some (.inl (e440, (IntKind.i64.wrap (s227.2 + 1)))))) else some (.inr s227.1))) (4294967295, 0)) fun e339 => some (IntKind.i64.wrap (4294967295 - e339)))
end Go.Tw.X

set_option linter.unusedVariables false
set_option linter.unusedSimpArgs false
set_option maxRecDepth 10000
namespace Go.Tw.X
open Go Go.Tw

noncomputable def p_ref12_Read (in_ : Ref01In) : Option (Ref01In × (List Ref09Glyph)) :=
  (Option.bind (p_ref01_Read in_) fun r3 => (Option.bind ((bif (r3.1.e == 0) then some (decide (r3.2 > 1024)) else some false) : Option Bool) fun e9 => (bif e9 then some ((Ref01In.mk (ByteArray.mk #[]) 1), ([] : List Ref09Glyph)) else (Option.bind (iter (σ := Ref01In × (List Ref09Glyph) × Int) (ρ := ((List Ref09Glyph) × Ref01In) ⊕ (Ref01In × (List Ref09Glyph))) (fun s182 => (Option.bind ((bif (decide (s182.2.2 < r3.2)) then some (s182.1.e == 0) else some false) : Option Bool) fun e272 => (bif e272 then (Option.bind (p_ref01_Read s182.1) fun r310 => (Option.bind ((bif (r310.1.e == 0) then some (decide (r310.2 > 1114111)) else some false) : Option Bool) fun e316 => (bif e316 then (inrr (some ((Ref01In.mk (ByteArray.mk #[]) 1), ([] : List Ref09Glyph)))) else (Option.bind (p_ref01_Read r310.1) fun r325 => (Option.bind ((bif (r325.1.e == 0) then some (decide (r325.2 > 647)) else some false) : Option Bool) fun e331 => (bif e331 then (inrr (some ((Ref01In.mk (ByteArray.mk #[]) 1), ([] : List Ref09Glyph)))) else (Option.bind (chk (apok s182.2.1.length [(Ref09Glyph.mk r310.2 r325.2)].length 16)) fun _ => some (.inl (r325.1, (s182.2.1 ++ [(Ref09Glyph.mk r310.2 r325.2)]), (IntKind.i64.wrap (s182.2.2 + 1))))))))))) else some (.inr (.inl (s182.2.1, s182.1)))))) (r3.1, ([] : List Ref09Glyph), 0)) fun | .inl e261 => (bif (e261.2.e != 0) then some (e261.2, ([] : List Ref09Glyph)) else some (e261.2, e261.1)) | .inr w => some w))))

noncomputable def p_ref12_Pack (l : List Ref09Glyph) : Option ByteArray :=
  (Option.bind (p_ref01_Num (l.length : Int)) fun r1 => (Option.bind (iter (σ := Int × ByteArray) (ρ := ByteArray) (fun s126 => (bif (decide (s126.1 < (l.length : Int))) then (Option.bind (idx l s126.1) fun x223 => (Option.bind (p_ref01_Num x223.rune) fun r241 => (Option.bind (p_ref01_Num x223.style) fun r244 => (Option.bind (chk (sadd r241.size r244.size)) fun _ => (Option.bind (chk (sadd s126.2.size (r241 ++ r244).size)) fun _ => some (.inl ((IntKind.i64.wrap (s126.1 + 1)), (s126.2 ++ (r241 ++ r244))))))))) else some (.inr s126.2))) (0, r1)) fun e186 => some e186))
end Go.Tw.X

set_option linter.unusedVariables false
set_option linter.unusedSimpArgs false
set_option maxRecDepth 10000
namespace Go.Tw.X
open Go Go.Tw
structure Ref16Snap where
  k : Int
  w : Int
  h : Int
  x : Int
  y : Int
  title : ByteArray
  rows : List Ref09Row
  len : Int
  chain : Int
  begun : List Ref09Glyph
  deriving DecidableEq, Inhabited

def wfRef16Snap (x : Ref16Snap) : Prop := (inK .i64) x.k ∧ (inK .i64) x.w ∧ (inK .i64) x.h ∧ (inK .i64) x.x ∧ (inK .i64) x.y ∧ (fun s : ByteArray => s.size ≤ maxLen) x.title ∧ (fun xs : List Ref09Row => ∀ x ∈ xs, wfRef09Row x) x.rows ∧ (inK .i64) x.len ∧ (inK .i64) x.chain ∧ (fun xs : List Ref09Glyph => ∀ x ∈ xs, wfRef09Glyph x) x.begun ∧ True
noncomputable def p_ref16_limited (in_ : Ref01In) (most : Int) : Option (Ref01In × Int) :=
  (Option.bind (p_ref01_Read in_) fun r3 => (Option.bind ((bif (r3.1.e == 0) then some (decide (r3.2 > most)) else some false) : Option Bool) fun e10 => (bif e10 then some ((Ref01In.mk (ByteArray.mk #[]) 1), 0) else some (r3.1, r3.2))))

noncomputable def p_ref16_ReadRow (in_ : Ref01In) (w : Int) : Option (Ref01In × Ref09Row) :=
  (Option.bind (p_ref16_limited in_ 1) fun r4 => (Option.bind (iter (σ := Ref01In × (List Ref09Cell)) (ρ := (List Ref09Cell) × Ref01In) (fun s444 => (Option.bind ((bif (decide ((s444.2.length : Int) < w)) then some (s444.1.e == 0) else some false) : Option Bool) fun e676 => (bif e676 then (Option.bind (p_ref16_limited s444.1 (IntKind.i64.wrap (w - (s444.2.length : Int)))) fun r683 => (Option.bind ((bif (r683.1.e == 0) then some (r683.2 == 0) else some false) : Option Bool) fun e689 => (Option.bind ((bif e689 then some (Ref01In.mk (ByteArray.mk #[]) 1) else some r683.1) : Option Ref01In) fun e696 => (Option.bind (p_ref16_limited e696 1114111) fun r700 => (Option.bind (p_ref16_limited r700.1 647) fun r703 => (Option.bind (p_ref16_limited r703.1 3) fun r706 => (Option.bind ((bif (r706.1.e == 0) then (bif (decide ((s444.2.length : Int) > 0)) then (Option.bind (idx s444.2 (IntKind.i64.wrap ((s444.2.length : Int) - 1))) fun x750 => some ((x750.rune == r700.2) && ((x750.style == r703.2) && ((x750.part == r706.2) && true)))) else some false) else some false) : Option Bool) fun e738 => (Option.bind ((bif e738 then some (Ref01In.mk (ByteArray.mk #[]) 1) else some r706.1) : Option Ref01In) fun e758 => (Option.bind (iter (σ := Int × (List Ref09Cell)) (ρ := (List Ref09Cell)) (fun s827 => (Option.bind ((bif (decide (s827.1 < r683.2)) then some (e758.e == 0) else some false) : Option Bool) fun e867 => (bif e867 then (Option.bind (chk (apok s827.2.length [(Ref09Cell.mk r700.2 r703.2 r706.2)].length 24)) fun _ => some (.inl ((IntKind.i64.wrap (s827.1 + 1)), (s827.2 ++ [(Ref09Cell.mk r700.2 r703.2 r706.2)])))) else some (.inr s827.2)))) (0, s444.2)) fun e857 => some (.inl (e758, e857))))))))))) else some (.inr (s444.2, s444.1))))) (r4.1, ([] : List Ref09Cell))) fun e666 => (bif (e666.2.e != 0) then some (e666.2, (Ref09Row.mk ([] : List Ref09Cell) false)) else some (e666.2, (Ref09Row.mk e666.1 (r4.2 == 1))))))

noncomputable def p_ref16_Empty (s_ : Ref16Snap) : Option Bool :=
  (Option.bind ((bif (s_.k == 0) then (bif (s_.w == 0) then (bif (s_.h == 0) then (bif (s_.x == 0) then (bif (s_.y == 0) then (bif (s_.title.toList == (ByteArray.mk #[]).toList) then (bif ((s_.rows.length : Int) == 0) then (bif (s_.len == 0) then (bif (s_.chain == 0) then some ((s_.begun.length : Int) == 0) else some false) else some false) else some false) else some false) else some false) else some false) else some false) else some false) else some false) : Option Bool) fun e21 => some e21)

noncomputable def p_ref16_May (s_ : Ref16Snap) : Option Bool :=
  (Option.bind (p_ref16_Empty s_) fun r2 => (bif r2 then some true else (Option.bind ((bif (decide (s_.k < 1)) then some true else (bif (decide (s_.k > 1152921504606846976)) then some true else (bif (decide (s_.w < 1)) then some true else (bif (decide (s_.w > 1000)) then some true else (bif (decide (s_.h < 1)) then some true else (bif (decide (s_.h > 1000)) then some true else (bif (decide (s_.x < 0)) then some true else (bif (decide (s_.x ≥ s_.w)) then some true else (bif (decide (s_.y < 0)) then some true else (bif (decide (s_.y ≥ s_.h)) then some true else some ((s_.rows.length : Int) != s_.h))))))))))) : Option Bool) fun e28 => (bif e28 then some false else (Option.bind ((bif (decide ((s_.title.size : Int) > 200)) then some true else (bif (decide (s_.len < 0)) then some true else (bif (decide (s_.len > 1152921504606846976)) then some true else (bif (decide (s_.chain < 0)) then some true else (bif (decide (s_.chain > 281474976710656)) then some true else some (decide ((s_.begun.length : Int) > 1024))))))) : Option Bool) fun e54 => (bif e54 then some false else (Option.bind (iter (σ := Int) (ρ := Unit ⊕ Bool) (fun s159 => (bif (decide (s159 < (s_.begun.length : Int))) then (Option.bind (idx s_.begun s159) fun x238 => (Option.bind ((bif (decide (x238.rune < 0)) then some true else (bif (decide (x238.rune > 1114111)) then some true else (bif (decide (x238.style < 0)) then some true else some (decide (x238.style > 647))))) : Option Bool) fun e253 => (bif e253 then (inrr (some false)) else some (.inl (IntKind.i64.wrap (s159 + 1)))))) else some (.inr (.inl ())))) 0) fun | .inl e206 => (Option.bind (iter (σ := Int) (ρ := Unit ⊕ Bool) (fun s1305 => (bif (decide (s1305 < (s_.rows.length : Int))) then (Option.bind (idx s_.rows s1305) fun x2095 => (bif ((x2095.l.length : Int) != s_.w) then (inrr (some false)) else (Option.bind (iter (σ := Int) (ρ := Unit ⊕ (Int ⊕ (Unit ⊕ Bool))) (fun s2229 => (bif (decide (s2229 < (x2095.l.length : Int))) then (Option.bind (idx x2095.l s2229) fun x2326 => (Option.bind ((bif (decide (x2326.rune < 0)) then some true else (bif (decide (x2326.rune > 1114111)) then some true else (bif (decide (x2326.style < 0)) then some true else (bif (decide (x2326.style > 647)) then some true else (bif (decide (x2326.part < 0)) then some true else some (decide (x2326.part > 3))))))) : Option Bool) fun e2345 => (bif e2345 then (inrr (inrr (some false))) else some (.inl (IntKind.i64.wrap (s2229 + 1)))))) else some (.inr (.inl ())))) 0) fun | .inl e2288 => some (.inl (IntKind.i64.wrap (s1305 + 1))) | .inr w => some w))) else some (.inr (.inl ())))) 0) fun | .inl e1826 => some true | .inr w => some w) | .inr w => some w)))))))

noncomputable def p_ref16_Parse (s_ : ByteArray) : Option (Ref16Snap × Int) :=
  (bif (s_.toList == (ByteArray.mk #[]).toList) then some ((Ref16Snap.mk 0 0 0 0 0 (ByteArray.mk #[]) ([] : List Ref09Row) 0 0 ([] : List Ref09Glyph)), 0) else (Option.bind (p_ref01_Read (Ref01In.mk s_ 0)) fun r8 => (Option.bind (p_ref16_limited r8.1 1000) fun r11 => (Option.bind (p_ref16_limited r11.1 1000) fun r14 => (Option.bind (p_ref01_Read r14.1) fun r17 => (Option.bind (p_ref01_Read r17.1) fun r20 => (Option.bind (p_ref01_ReadText r20.1) fun r23 => (Option.bind (p_ref01_Read r23.1) fun r26 => (Option.bind (p_ref01_Read r26.1) fun r29 => (Option.bind ((bif (r29.1.e == 0) then (Option.bind (p_ref12_Read r29.1) fun r58 => some ((Ref16Snap.mk r8.2 r11.2 r14.2 r17.2 r20.2 r23.2 ([] : List Ref09Row) r26.2 r29.2 r58.2), r58.1)) else some ((Ref16Snap.mk r8.2 r11.2 r14.2 r17.2 r20.2 r23.2 ([] : List Ref09Row) r26.2 r29.2 ([] : List Ref09Glyph)), r29.1)) : Option (Ref16Snap × Ref01In)) fun e54 => (Option.bind (iter (σ := Ref01In × Ref16Snap × Int) (ρ := Ref16Snap × Ref01In) (fun s166 => (Option.bind ((bif (decide (s166.2.2 < s166.2.1.h)) then some (s166.1.e == 0) else some false) : Option Bool) fun e222 => (bif e222 then (Option.bind (p_ref16_ReadRow s166.1 s166.2.1.w) fun r244 => (Option.bind (chk (apok s166.2.1.rows.length [r244.2].length 32)) fun _ => some (.inl (r244.1, (Ref16Snap.mk s166.2.1.k s166.2.1.w s166.2.1.h s166.2.1.x s166.2.1.y s166.2.1.title (s166.2.1.rows ++ [r244.2]) s166.2.1.len s166.2.1.chain s166.2.1.begun), (IntKind.i64.wrap (s166.2.2 + 1)))))) else some (.inr (s166.2.1, s166.1))))) (e54.2, e54.1, 0)) fun e212 => (Option.bind (p_ref01_End e212.2) fun r258 => (bif (r258 != 0) then some ((Ref16Snap.mk 0 0 0 0 0 (ByteArray.mk #[]) ([] : List Ref09Row) 0 0 ([] : List Ref09Glyph)), r258) else (Option.bind ((Option.bind (p_ref16_Empty e212.1) fun r296 => (bif r296 then some (true, e212.1) else (Option.bind (p_ref16_May e212.1) fun r300 => some ((!r300), e212.1)))) : Option (Bool × Ref16Snap)) fun e291 => (bif e291.1 then some ((Ref16Snap.mk 0 0 0 0 0 (ByteArray.mk #[]) ([] : List Ref09Row) 0 0 ([] : List Ref09Glyph)), 1) else some (e291.2, 0))))))))))))))))

noncomputable def p_ref16_PackRow (r_ : Ref09Row) : Option ByteArray :=
  (Option.bind ((bif r_.wrapped then some (ByteArray.mk #[1]) else some (ByteArray.mk #[0])) : Option ByteArray) fun e5 => (Option.bind (iter (σ := Int × ByteArray × Int) (ρ := ByteArray) (fun s776 => (bif (decide (s776.1 < (r_.l.length : Int))) then (Option.bind ((Option.bind (idx r_.l s776.1) fun x1419 => (Option.bind ((bif (decide ((IntKind.i64.wrap (s776.1 + 1)) < (r_.l.length : Int))) then (Option.bind (idx r_.l (IntKind.i64.wrap (s776.1 + 1))) fun x1457 => some ((x1457.rune == x1419.rune) && ((x1457.style == x1419.style) && ((x1457.part == x1419.part) && true)))) else some false) : Option Bool) fun e1448 => (bif e1448 then some (s776.2.1, (IntKind.i64.wrap (s776.2.2 + 1))) else (Option.bind (p_ref01_Num (IntKind.i64.wrap (s776.2.2 + 1))) fun r1523 => (Option.bind (p_ref01_Num x1419.rune) fun r1526 => (Option.bind (chk (sadd r1523.size r1526.size)) fun _ => (Option.bind (p_ref01_Num x1419.style) fun r1531 => (Option.bind (chk (sadd (r1523 ++ r1526).size r1531.size)) fun _ => (Option.bind (p_ref01_Num x1419.part) fun r1536 => (Option.bind (chk (sadd ((r1523 ++ r1526) ++ r1531).size r1536.size)) fun _ => (Option.bind (chk (sadd s776.2.1.size (((r1523 ++ r1526) ++ r1531) ++ r1536).size)) fun _ => some ((s776.2.1 ++ (((r1523 ++ r1526) ++ r1531) ++ r1536)), 0)))))))))))) : Option (ByteArray × Int)) fun e1416 => some (.inl ((IntKind.i64.wrap (s776.1 + 1)), e1416.1, e1416.2))) else some (.inr s776.2.1))) (0, e5, 0)) fun e1157 => some e1157))

noncomputable def p_ref16_Pack (s_ : Ref16Snap) : Option ByteArray :=
  (Option.bind ((Option.bind (p_ref16_Empty s_) fun r20 => (bif r20 then some true else (Option.bind (p_ref16_May s_) fun r24 => some (!r24)))) : Option Bool) fun e17 => (bif e17 then some (ByteArray.mk #[]) else (Option.bind (iter (σ := Int × ByteArray) (ρ := ByteArray) (fun s73 => (bif (decide (s73.1 < ([s_.k, s_.w, s_.h, s_.x, s_.y].length : Int))) then (Option.bind (idx [s_.k, s_.w, s_.h, s_.x, s_.y] s73.1) fun x110 => (Option.bind (p_ref01_Num x110) fun r113 => (Option.bind (chk (sadd s73.2.size r113.size)) fun _ => some (.inl ((IntKind.i64.wrap (s73.1 + 1)), (s73.2 ++ r113)))))) else some (.inr s73.2))) (0, (ByteArray.mk #[]))) fun e93 => (Option.bind (p_ref01_Text s_.title) fun r178 => (Option.bind (p_ref01_Num s_.len) fun r181 => (Option.bind (chk (sadd r178.size r181.size)) fun _ => (Option.bind (p_ref01_Num s_.chain) fun r186 => (Option.bind (chk (sadd (r178 ++ r181).size r186.size)) fun _ => (Option.bind (p_ref12_Pack s_.begun) fun r191 => (Option.bind (chk (sadd ((r178 ++ r181) ++ r186).size r191.size)) fun _ => (Option.bind (chk (sadd e93.size (((r178 ++ r181) ++ r186) ++ r191).size)) fun _ => (Option.bind (iter (σ := ByteArray × Int) (ρ := ByteArray) (fun s272 => (bif (decide (s272.2 < (s_.rows.length : Int))) then (Option.bind (idx s_.rows s272.2) fun x333 => (Option.bind (p_ref16_PackRow x333) fun r344 => (Option.bind (chk (sadd s272.1.size r344.size)) fun _ => some (.inl ((s272.1 ++ r344), (IntKind.i64.wrap (s272.2 + 1))))))) else some (.inr s272.1))) ((e93 ++ (((r178 ++ r181) ++ r186) ++ r191)), 0)) fun e308 => some e308))))))))))))

noncomputable def p_ref16_Sum (s_ : Ref16Snap) : Option Int :=
  (Option.bind (p_ref16_Pack s_) fun r2 => (Option.bind (p_ref02_Of r2) fun r5 => some r5))
end Go.Tw.X

set_option linter.unusedVariables false
set_option linter.unusedSimpArgs false
set_option maxRecDepth 10000
namespace Go.Tw.X
open Go Go.Tw

noncomputable def p_law16_awake : Option Bool :=
  (Option.bind (p_screen_New 1 1) fun r1 => (Option.bind p_book_New fun r9 => (Option.bind (p_snap_Of 1 (ScreenScreen.mk r1.g r1.spot r1.saved r1.waiting r1.top r1.bottom r1.wraps r1.title) r9) fun r22 => (Option.bind (p_snap_Snap_Pack r22.1) fun r33 => (Option.bind (p_snap_Parse r33) fun r36 => (Option.bind ((bif (r33.toList == (ByteArray.mk #[1, 1, 1, 0, 0, 0, 0, 0, 0, 0, 1, 32, 0, 0]).toList) then (bif (r36.2 == 0) then (Option.bind (p_snap_Snap_Same r22.1 r36.1) fun r142 => (bif r142 then (Option.bind (p_snap_Snap_Clone r22.1) fun r146 => (Option.bind (p_snap_Snap_Same r36.1 r146) fun r155 => some r155)) else some false)) else some false) else some false) : Option Bool) fun e119 => some e119))))))

noncomputable def p_law16_Is (s_ : SnapSnap) (x_ : Ref16Snap) : Option Bool :=
  (Option.bind ((bif (s_.k == x_.k) then (bif (s_.w == x_.w) then (bif (s_.h == x_.h) then (bif (s_.x == x_.x) then (bif (s_.y == x_.y) then (bif (s_.title.toList == x_.title.toList) then (bif (s_.len == x_.len) then (bif (s_.chain == x_.chain) then (Option.bind (p_law10_Rows s_.rows x_.rows) fun r45 => (bif r45 then (Option.bind (p_law09_Glyphs s_.begun x_.begun) fun r49 => some r49) else some false)) else some false) else some false) else some false) else some false) else some false) else some false) else some false) else some false) : Option Bool) fun e34 => some e34)

noncomputable def p_law16_SnapParses (s_ : ByteArray) : Option Bool :=
  (Option.bind p_law16_awake fun r1 => (bif (!r1) then some false else (Option.bind (p_law01_Cut s_ 300) fun r6 => (Option.bind (p_snap_Parse r6) fun r9 => (Option.bind (p_ref16_Parse r6) fun r19 => (Option.bind ((bif (r9.2 == r19.2) then (Option.bind (p_law16_Is r9.1 r19.1) fun r52 => (bif r52 then (bif (r9.2 != 0) then some true else (Option.bind (p_snap_Snap_Pack r9.1) fun r57 => some (r57.toList == r6.toList))) else some false)) else some false) : Option Bool) fun e48 => some e48))))))

noncomputable def p_law16_Cut (s_ : SnapSnap) : Option SnapSnap :=
  (Option.bind (p_law01_Cut s_.title 210) fun r3 => (Option.bind (chk (cutok 0 (imin (s_.begun.length : Int) 30) s_.begun.length)) fun _ => (Option.bind (chk (apok ([] : List RowGlyph).length (cut s_.begun 0 (imin (s_.begun.length : Int) 30)).length 16)) fun _ => (Option.bind (iter (σ := (List RowRow) × Int) (ρ := (List RowRow)) (fun s303 => (Option.bind ((bif (decide (s303.2 < (s_.rows.length : Int))) then some (decide (s303.2 < 8)) else some false) : Option Bool) fun e451 => (bif e451 then (Option.bind (idx s_.rows s303.2) fun x550 => (Option.bind (idx s_.rows s303.2) fun x560 => (Option.bind (p_law09_Any x550.cells x560.wrapped) fun r567 => (Option.bind (chk (apok s303.1.length [r567].length 32)) fun _ => some (.inl ((s303.1 ++ [r567]), (IntKind.i64.wrap (s303.2 + 1)))))))) else some (.inr s303.1)))) ([], 0)) fun e441 => some (SnapSnap.mk s_.k s_.w s_.h s_.x s_.y r3 e441 s_.len s_.chain (([] : List RowGlyph) ++ (cut s_.begun 0 (imin (s_.begun.length : Int) 30))))))))

noncomputable def p_law16_Told (s_ : SnapSnap) : Option Ref16Snap :=
  (Option.bind ((Option.bind (p_law14_Told s_.begun) fun r104 => some (Ref16Snap.mk s_.k s_.w s_.h s_.x s_.y s_.title ([] : List Ref09Row) s_.len s_.chain r104)) : Option Ref16Snap) fun e83 => (Option.bind (iter (σ := Ref16Snap × Int) (ρ := Ref16Snap) (fun s303 => (bif (decide (s303.2 < (s_.rows.length : Int))) then (Option.bind (idx s_.rows s303.2) fun x437 => (Option.bind (p_law09_Told x437) fun r462 => (Option.bind (chk (apok s303.1.rows.length [r462].length 32)) fun _ => some (.inl ((Ref16Snap.mk s303.1.k s303.1.w s303.1.h s303.1.x s303.1.y s303.1.title (s303.1.rows ++ [r462]) s303.1.len s303.1.chain s303.1.begun), (IntKind.i64.wrap (s303.2 + 1))))))) else some (.inr s303.1))) ((Ref16Snap.mk e83.k e83.w e83.h e83.x e83.y e83.title e83.rows e83.len e83.chain e83.begun), 0)) fun e389 => some e389))

noncomputable def p_law16_SnapApart (a : SnapSnap) (b : SnapSnap) : Option Bool :=
  (Option.bind p_law16_awake fun r3 => (bif (!r3) then some false else (Option.bind (p_law16_Cut a) fun r62 => (Option.bind (p_law16_Cut b) fun r71 => (Option.bind (p_law16_Told r62) fun r140 => (Option.bind (p_law16_Told r71) fun r149 => (Option.bind ((Option.bind (p_ref16_May r140) fun r178 => (bif (!r178) then some true else (Option.bind (p_ref16_May r149) fun r182 => some (!r182)))) : Option Bool) fun e175 => (bif e175 then (Option.bind ((Option.bind (p_snap_Snap_Check r62) fun r338 => (Option.bind (p_ref16_May r140) fun r341 => (bif ((r338 != 0) == (!r341)) then (Option.bind (p_snap_Snap_Check r71) fun r345 => (Option.bind (p_ref16_May r149) fun r348 => some ((r345 != 0) == (!r348)))) else some false))) : Option Bool) fun e322 => some e322) else (Option.bind ((Option.bind (p_snap_Snap_Same r62 r71) fun r435 => (Option.bind (p_law16_Is r62 r149) fun r438 => (bif (r435 == r438) then (Option.bind (p_snap_Snap_Pack r62) fun r442 => (Option.bind (p_snap_Snap_Pack r71) fun r445 => (Option.bind (p_snap_Snap_Same r62 r71) fun r448 => some ((r442.toList == r445.toList) == r448)))) else some false))) : Option Bool) fun e416 => some e416)))))))))

noncomputable def p_law16_SnapRows (s_ : ByteArray) (w : Int) : Option Bool :=
  (Option.bind p_law16_awake fun r1 => (bif (!r1) then some false else (Option.bind (p_law01_Cut s_ 120) fun r6 => (Option.bind (p_num_Of r6) fun r9 => (Option.bind (p_snap_ReadRow r9 (imax (-1) (imin w 50))) fun r13 => (Option.bind (p_ref16_ReadRow (Ref01In.mk r6 0) (imax (-1) (imin w 50))) fun r20 => (Option.bind ((Option.bind (p_law09_Is r13.1 r20.2) fun r157 => (bif r157 then (Option.bind (p_num_In_Left r13.2) fun r161 => (bif (r161 == (r20.1.s.size : Int)) then (Option.bind (p_num_In_Err r13.2) fun r165 => (bif (r165 == r20.1.e) then (Option.bind (p_snap_PackRow r13.1) fun r169 => (Option.bind (p_ref16_PackRow r20.2) fun r172 => (bif (r169.toList == r172.toList) then (bif (r20.1.e != 0) then some true else (Option.bind (chk (cutok 0 (IntKind.i64.wrap ((r6.size : Int) - (r20.1.s.size : Int))) r6.size)) fun _ => (Option.bind (p_snap_PackRow r13.1) fun r179 => some (r179.toList == (scut r6 0 (IntKind.i64.wrap ((r6.size : Int) - (r20.1.s.size : Int)))).toList)))) else some false))) else some false)) else some false)) else some false)) : Option Bool) fun e129 => some e129)))))))

noncomputable def p_law16_SnapBack (s_ : SnapSnap) : Option Bool :=
  (Option.bind p_law16_awake fun r2 => (bif (!r2) then some false else (Option.bind (p_law16_Cut s_) fun r7 => (Option.bind (p_law16_Told r7) fun r16 => (Option.bind (p_snap_Snap_Pack r7) fun r26 => (Option.bind ((Option.bind (p_snap_Snap_Check r7) fun r468 => (Option.bind (p_ref16_May r16) fun r471 => (bif (!((r468 == 0) == r471)) then some true else (Option.bind (p_snap_Snap_Check r7) fun r475 => (bif (r475 != 0) then (Option.bind (p_snap_Snap_Check r7) fun r479 => (bif (r479 != 1) then some true else (Option.bind (p_ref16_Pack r16) fun r483 => (bif (!(r26.toList == r483.toList)) then some true else (Option.bind (p_snap_Snap_Sum r7) fun r487 => (Option.bind (p_ref16_Sum r16) fun r490 => (bif (r487 != r490) then some true else (Option.bind (p_snap_Snap_Clone r7) fun r494 => (Option.bind (p_law16_Is r494 r16) fun r503 => (bif (!r503) then some true else (Option.bind (p_snap_Snap_Clone r7) fun r507 => (Option.bind (p_snap_Snap_Same r7 r507) fun r516 => some (!r516))))))))))))) else (Option.bind (p_ref16_Pack r16) fun r519 => (bif (!(r26.toList == r519.toList)) then some true else (Option.bind (p_snap_Snap_Sum r7) fun r523 => (Option.bind (p_ref16_Sum r16) fun r526 => (bif (r523 != r526) then some true else (Option.bind (p_snap_Snap_Clone r7) fun r530 => (Option.bind (p_law16_Is r530 r16) fun r539 => (bif (!r539) then some true else (Option.bind (p_snap_Snap_Clone r7) fun r543 => (Option.bind (p_snap_Snap_Same r7 r543) fun r552 => some (!r552)))))))))))))))) : Option Bool) fun e378 => (bif e378 then some false else (Option.bind (p_ref16_May r16) fun r557 => (bif (!r557) then some (r26.toList == (ByteArray.mk #[]).toList) else (Option.bind (p_snap_Parse r26) fun r562 => (Option.bind ((bif (r562.2 == 0) then (Option.bind (p_law16_Is r562.1 r16) fun r585 => some r585) else some false) : Option Bool) fun e581 => some e581)))))))))))
end Go.Tw.X

import Derived.Test.YtkkapeoinhkncaaDoorFw2
set_option linter.unusedVariables false
set_option linter.unusedSimpArgs false
set_option maxRecDepth 10000
namespace Go.Tw.X
open Go Go.Tw
structure NumOut where
  b : List Int
  deriving DecidableEq, Inhabited

structure NumIn where
  s : ByteArray
  e : Int
  deriving DecidableEq, Inhabited

noncomputable def p_num_digits (n_ : Int) : Option Int :=
  some n_

noncomputable def p_num_clip (n_ : Int) : Option Int :=
  some (imax 0 (imin n_ 4611686018427387904))

noncomputable def p_num_digits_1 {σ : Type} (Y : σ → Int → Option (σ × Bool)) (y0 : σ) (x1 : Int) : Option (σ × Int) :=
  (Option.bind (p_num_clip x1) fun r1 => (Option.bind (iter (σ := Int × σ) (ρ := (Int × σ) ⊕ (σ × Int)) (fun s37 => (bif (decide (s37.1 ≥ 128)) then (Option.bind (Y s37.2 (Go.bits .or .u8 (Go.bits .and .u8 (IntKind.u8.wrap s37.1) 127) 128)) fun z68 => (bif (!z68.2) then (inrr (some (z68.1, s37.1))) else some (.inl ((s37.1.fdiv (2 ^ (min 7 64))), z68.1)))) else some (.inr (.inl (s37.1, s37.2))))) (r1, y0)) fun | .inl e53 => (Option.bind (Y e53.2 (IntKind.u8.wrap e53.1)) fun z75 => some (z75.1, e53.1)) | .inr w => some w))

noncomputable def p_num_Out_Num (o : NumOut) (l : List Int) : Option NumOut :=
  (Option.bind (iter (σ := NumOut × Int) (ρ := NumOut) (fun s348 => (bif (decide (s348.2 < (l.length : Int))) then (Option.bind (idx l s348.2) fun x608 => (Option.bind (p_num_digits x608) fun r615 => (Option.bind (p_num_digits_1 (fun s661 x619 => (Option.bind (chk (apok s661.b.length [x619].length 1)) fun _ => some ((NumOut.mk (s661.b ++ [x619])), true))) (s348.1 : NumOut) r615) fun r680 => some (.inl (r680.1, (IntKind.i64.wrap (s348.2 + 1))))))) else some (.inr s348.1))) (o, 0)) fun e518 => some e518)

noncomputable def p_num_Out_Raw (o : NumOut) (l : List ByteArray) : Option NumOut :=
  (Option.bind (iter (σ := NumOut × Int) (ρ := NumOut) (fun s68 => (bif (decide (s68.2 < (l.length : Int))) then (Option.bind (idx l s68.2) fun x120 => (Option.bind (chk (apok s68.1.b.length x120.size 1)) fun _ => some (.inl ((NumOut.mk (s68.1.b ++ sbs x120)), (IntKind.i64.wrap (s68.2 + 1)))))) else some (.inr s68.1))) (o, 0)) fun e99 => some e99)

noncomputable def p_num_Out_Text (o : NumOut) (l : List ByteArray) : Option NumOut :=
  (Option.bind (iter (σ := NumOut × Int) (ρ := NumOut) (fun s120 => (bif (decide (s120.2 < (l.length : Int))) then (Option.bind (idx l s120.2) fun x211 => (Option.bind (p_num_Out_Num s120.1 [(x211.size : Int)]) fun r221 => (Option.bind (p_num_Out_Raw r221 [x211]) fun r230 => some (.inl (r230, (IntKind.i64.wrap (s120.2 + 1))))))) else some (.inr s120.1))) (o, 0)) fun e177 => some e177)

noncomputable def p_num_Out_Bytes (o : NumOut) : Option ByteArray :=
  some (bstr o.b)

noncomputable def p_num_Of (s_ : ByteArray) : Option NumIn :=
  some (NumIn.mk s_ 0)

noncomputable def p_num_In_Fail (in_ : NumIn) (e : Int) : Option NumIn :=
  (Option.bind ((bif (in_.e == 0) then some (e != 0) else some false) : Option Bool) fun e4 => (bif e4 then some (NumIn.mk (ByteArray.mk #[]) e) else some in_))

noncomputable def p_num_In_Num (in_ : NumIn) : Option (Int × NumIn) :=
  (Option.bind (iter (σ := Int × Int) (ρ := Unit ⊕ (Int × NumIn)) (fun s119 => (bif (decide (s119.1 < (imin (in_.s.size : Int) 9))) then (Option.bind (sidx in_.s s119.1) fun b213 => (Option.bind (chk (shk (IntKind.i64.wrap (7 * s119.1)))) fun _ => (bif (decide (b213 ≥ 128)) then some (.inl ((IntKind.i64.wrap (s119.1 + 1)), (Go.bits .or .i64 s119.2 (IntKind.i64.wrap ((IntKind.i64.wrap (Go.bits .and .u8 b213 127)) * 2 ^ (min (IntKind.i64.wrap (7 * s119.1)).toNat 64)))))) else (Option.bind ((bif (decide (s119.1 > 0)) then (bif (b213 == 0) then some true else some (decide ((Go.bits .or .i64 s119.2 (IntKind.i64.wrap ((IntKind.i64.wrap (Go.bits .and .u8 b213 127)) * 2 ^ (min (IntKind.i64.wrap (7 * s119.1)).toNat 64)))) > 4611686018427387904))) else some (decide ((Go.bits .or .i64 s119.2 (IntKind.i64.wrap ((IntKind.i64.wrap (Go.bits .and .u8 b213 127)) * 2 ^ (min (IntKind.i64.wrap (7 * s119.1)).toNat 64)))) > 4611686018427387904))) : Option Bool) fun e225 => (bif e225 then (Option.bind (p_num_In_Fail in_ 1) fun r235 => (inrr (some (0, r235)))) else (Option.bind (chk (cutok (IntKind.i64.wrap (s119.1 + 1)) (in_.s.size : Int) in_.s.size)) fun _ => (inrr (some ((Go.bits .or .i64 s119.2 (IntKind.i64.wrap ((IntKind.i64.wrap (Go.bits .and .u8 b213 127)) * 2 ^ (min (IntKind.i64.wrap (7 * s119.1)).toNat 64)))), (NumIn.mk (scut in_.s (IntKind.i64.wrap (s119.1 + 1)) (in_.s.size : Int)) in_.e)))))))))) else some (.inr (.inl ())))) (0, 0)) fun | .inl e176 => (Option.bind ((bif (decide ((in_.s.size : Int) ≥ 9)) then (Option.bind (p_num_In_Fail in_ 1) fun r257 => some r257) else some in_) : Option NumIn) fun e253 => (Option.bind (p_num_In_Fail e253 2) fun r260 => some (0, r260))) | .inr w => some w)

noncomputable def p_num_In_Raw (in_ : NumIn) (n_ : Int) : Option (ByteArray × NumIn) :=
  (bif (decide ((imax 0 n_) > (in_.s.size : Int))) then (Option.bind (p_num_In_Fail in_ 2) fun r6 => some ((ByteArray.mk #[]), r6)) else (Option.bind (chk (cutok 0 (imax 0 n_) in_.s.size)) fun _ => (Option.bind (chk (cutok (imax 0 n_) (in_.s.size : Int) in_.s.size)) fun _ => some ((scut in_.s 0 (imax 0 n_)), (NumIn.mk (scut in_.s (imax 0 n_) (in_.s.size : Int)) in_.e)))))

noncomputable def p_num_In_Text (in_ : NumIn) : Option (ByteArray × NumIn) :=
  (Option.bind (p_num_In_Num in_) fun r1 => (Option.bind (p_num_In_Raw r1.2 r1.1) fun r4 => some (r4.1, r4.2)))

noncomputable def p_num_In_Err (in_ : NumIn) : Option Int :=
  some in_.e

noncomputable def p_num_In_End (in_ : NumIn) : Option Int :=
  (bif (!(in_.s.toList == (ByteArray.mk #[]).toList)) then some 1 else some in_.e)

end Go.Tw.X

set_option linter.unusedVariables false
set_option linter.unusedSimpArgs false
set_option maxRecDepth 10000
namespace Go.Tw.X
open Go Go.Tw
structure Arr3Int where
  e0 : Int
  e1 : Int
  e2 : Int
  deriving DecidableEq, Inhabited

noncomputable def p_bits_Mul64 (x_ : Int) (y : Int) : Option (Int × Int) :=
  some ((IntKind.u64.wrap ((IntKind.u64.wrap ((IntKind.u64.wrap ((x_.fdiv (2 ^ (min 32 64))) * (y.fdiv (2 ^ (min 32 64))))) + ((IntKind.u64.wrap ((IntKind.u64.wrap ((x_.fdiv (2 ^ (min 32 64))) * (Go.bits .and .u64 y 4294967295))) + ((IntKind.u64.wrap ((Go.bits .and .u64 x_ 4294967295) * (Go.bits .and .u64 y 4294967295))).fdiv (2 ^ (min 32 64))))).fdiv (2 ^ (min 32 64))))) + ((IntKind.u64.wrap ((Go.bits .and .u64 (IntKind.u64.wrap ((IntKind.u64.wrap ((x_.fdiv (2 ^ (min 32 64))) * (Go.bits .and .u64 y 4294967295))) + ((IntKind.u64.wrap ((Go.bits .and .u64 x_ 4294967295) * (Go.bits .and .u64 y 4294967295))).fdiv (2 ^ (min 32 64))))) 4294967295) + (IntKind.u64.wrap ((Go.bits .and .u64 x_ 4294967295) * (y.fdiv (2 ^ (min 32 64))))))).fdiv (2 ^ (min 32 64))))), (IntKind.u64.wrap (x_ * y)))

noncomputable def p_bits_Mul (x_ : Int) (y : Int) : Option (Int × Int) :=
  (Option.bind (p_bits_Mul64 x_ y) fun r1 => some (r1.1, r1.2))
end Go.Tw.X

set_option linter.unusedVariables false
set_option linter.unusedSimpArgs false
set_option maxRecDepth 10000
namespace Go.Tw.X
open Go Go.Tw
structure RowCell where
  rune : Int
  style : Int
  part : Int
  deriving DecidableEq, Inhabited

structure RowRow where
  cells : List RowCell
  wrapped : Bool
  deriving DecidableEq, Inhabited

structure RowGlyph where
  rune : Int
  style : Int
  deriving DecidableEq, Inhabited

def wfRowCell (x : RowCell) : Prop := (inK .i32) x.rune ∧ (inK .i64) x.style ∧ (inK .i64) x.part ∧ True
def wfRowRow (x : RowRow) : Prop := (fun xs : List RowCell => ∀ x ∈ xs, wfRowCell x) x.cells ∧ (fun _ => True) x.wrapped ∧ True
def wfRowGlyph (x : RowGlyph) : Prop := (inK .i32) x.rune ∧ (inK .i64) x.style ∧ True
noncomputable def p_row_clip (n_ : Int) (lo : Int) (hi : Int) : Option Int :=
  some (imax lo (imin n_ hi))

noncomputable def p_row_blank (style : Int) : Option RowCell :=
  some (RowCell.mk 32 style 0)

noncomputable def p_slices_Repeat_row_Cell (x_ : List RowCell) (count : Int) : Option (List RowCell) :=
  (bif (decide (count < 0)) then none else (Option.bind (p_bits_Mul (IntKind.u64.wrap (x_.length : Int)) (IntKind.u64.wrap count)) fun r3 => (Option.bind ((bif (decide (r3.1 > 0)) then some true else some (decide (r3.2 > 9223372036854775807))) : Option Bool) fun e9 => (bif e9 then none else (Option.bind (chk (mkok (IntKind.i64.wrap r3.2) 24)) fun _ => (Option.bind (iter (σ := (List RowCell) × Int) (ρ := (List RowCell)) (fun s67 => (bif (decide (s67.2 < (s67.1.length : Int))) then (Option.bind (chk (cutok s67.2 (s67.1.length : Int) s67.1.length)) fun _ => (Option.bind (chk (cutok 0 s67.2 s67.1.length)) fun _ => some (.inl ((cpys s67.1 s67.2.toNat), (IntKind.i64.wrap (s67.2 + ((Nat.min s67.2.toNat (s67.1.length - s67.2.toNat) : Nat) : Int))))))) else some (.inr s67.1))) ((cpy (List.replicate (IntKind.i64.wrap r3.2).toNat (RowCell.mk 0 0 0)) x_), ((Nat.min x_.length (List.replicate (IntKind.i64.wrap r3.2).toNat (RowCell.mk 0 0 0)).length : Nat) : Int))) fun e88 => some e88))))))

noncomputable def p_row_blanks (n_ : Int) (style : Int) : Option (List RowCell) :=
  (Option.bind (p_row_blank style) fun r1 => (Option.bind (p_slices_Repeat_row_Cell [r1] (imax 0 n_)) fun r7 => some r7))

noncomputable def p_row_Blank (w : Int) (style : Int) : Option RowRow :=
  (Option.bind (p_row_clip w 0 1000) fun r2 => (Option.bind (p_row_blanks r2 style) fun r5 => some (RowRow.mk r5 false)))

noncomputable def p_slices_Clone_row_Cell (s_ : List RowCell) : Option (List RowCell) :=
  (Option.bind (chk (apok ([] : List RowCell).length s_.length 24)) fun _ => some (([] : List RowCell) ++ s_))

noncomputable def p_slices_Equal_row_Cell (s1_ : List RowCell) (s2_ : List RowCell) : Option Bool :=
  (bif ((s1_.length : Int) != (s2_.length : Int)) then some false else (Option.bind (iter (σ := Int) (ρ := Unit ⊕ Bool) (fun s238 => (bif (decide (s238 < (s1_.length : Int))) then (Option.bind (idx s1_ s238) fun x464 => (Option.bind (idx s2_ s238) fun x471 => (bif (!((x464.rune == x471.rune) && ((x464.style == x471.style) && ((x464.part == x471.part) && true)))) then (inrr (some false)) else some (.inl (IntKind.i64.wrap (s238 + 1)))))) else some (.inr (.inl ())))) 0) fun | .inl e355 => some true | .inr w => some w))

noncomputable def p_row_Row_Same (r_ : RowRow) (q : RowRow) : Option Bool :=
  (Option.bind ((bif (r_.wrapped == q.wrapped) then (Option.bind (p_slices_Equal_row_Cell r_.cells q.cells) fun r16 => some r16) else some false) : Option Bool) fun e12 => some e12)

noncomputable def p_slices_EqualFunc_row_Row_Row_Same (s1_ : List RowRow) (s2_ : List RowRow) : Option Bool :=
  (bif ((s1_.length : Int) != (s2_.length : Int)) then some false else (Option.bind (iter (σ := Int) (ρ := Unit ⊕ Bool) (fun s114 => (bif (decide (s114 < (s1_.length : Int))) then (Option.bind (idx s1_ s114) fun x205 => (Option.bind (idx s2_ s114) fun x216 => (Option.bind (p_row_Row_Same x205 x216) fun r227 => (bif (!r227) then (inrr (some false)) else some (.inl (IntKind.i64.wrap (s114 + 1))))))) else some (.inr (.inl ())))) 0) fun | .inl e169 => some true | .inr w => some w))

noncomputable def p_slices_Clone_row_Glyph (s_ : List RowGlyph) : Option (List RowGlyph) :=
  (Option.bind (chk (apok ([] : List RowGlyph).length s_.length 16)) fun _ => some (([] : List RowGlyph) ++ s_))

noncomputable def p_slices_Equal_row_Glyph (s1_ : List RowGlyph) (s2_ : List RowGlyph) : Option Bool :=
  (bif ((s1_.length : Int) != (s2_.length : Int)) then some false else (Option.bind (iter (σ := Int) (ρ := Unit ⊕ Bool) (fun s238 => (bif (decide (s238 < (s1_.length : Int))) then (Option.bind (idx s1_ s238) fun x464 => (Option.bind (idx s2_ s238) fun x471 => (bif (!((x464.rune == x471.rune) && ((x464.style == x471.style) && true))) then (inrr (some false)) else some (.inl (IntKind.i64.wrap (s238 + 1)))))) else some (.inr (.inl ())))) 0) fun | .inl e355 => some true | .inr w => some w))
end Go.Tw.X

set_option linter.unusedVariables false
set_option linter.unusedSimpArgs false
set_option maxRecDepth 10000
namespace Go.Tw.X
open Go Go.Tw
noncomputable def p_book_Pack (l : List RowGlyph) : Option ByteArray :=
  (Option.bind (p_num_Out_Num (NumOut.mk ([] : List Int)) [(l.length : Int)]) fun r6 => (Option.bind (iter (σ := NumOut × Int) (ρ := NumOut) (fun s99 => (bif (decide (s99.2 < (l.length : Int))) then (Option.bind (idx l s99.2) fun x166 => (Option.bind (p_num_Out_Num s99.1 [(IntKind.i64.wrap x166.rune), x166.style]) fun r177 => some (.inl (r177, (IntKind.i64.wrap (s99.2 + 1)))))) else some (.inr s99.1))) (r6, 0)) fun e140 => (Option.bind (p_num_Out_Bytes e140) fun r183 => some r183)))

noncomputable def p_book_limited (in_ : NumIn) (most : Int) : Option (Int × NumIn) :=
  (Option.bind (p_num_In_Num in_) fun r1 => (bif (decide (r1.1 > most)) then (Option.bind (p_num_In_Fail r1.2 1) fun r9 => some (0, r9)) else some (r1.1, r1.2)))

noncomputable def p_book_Read (in_ : NumIn) : Option ((List RowGlyph) × NumIn) :=
  (Option.bind (p_book_limited in_ 1024) fun r1 => (Option.bind (iter (σ := NumIn × (List RowGlyph) × Int) (ρ := (List RowGlyph) × NumIn) (fun s84 => (bif (decide (s84.2.2 < r1.1)) then (Option.bind (p_book_limited s84.1 1114111) fun r143 => (Option.bind (p_book_limited r143.2 647) fun r146 => (Option.bind (chk (apok s84.2.1.length [(RowGlyph.mk (IntKind.i32.wrap r143.1) r146.1)].length 16)) fun _ => some (.inl (r146.2, (s84.2.1 ++ [(RowGlyph.mk (IntKind.i32.wrap r143.1) r146.1)]), (IntKind.i64.wrap (s84.2.2 + 1))))))) else some (.inr (s84.2.1, s84.1)))) (r1.2, [], 0)) fun e120 => (Option.bind (p_num_In_Err e120.2) fun r157 => (bif (r157 != 0) then some (([] : List RowGlyph), e120.2) else some (e120.1, e120.2)))))
end Go.Tw.X

set_option linter.unusedVariables false
set_option linter.unusedSimpArgs false
set_option maxRecDepth 10000
namespace Go.Tw.X
open Go Go.Tw

def t_sum_half : List Int := [0, 498536548, 997073096, 651767980, 1994146192, 1802195444, 1303535960, 1342533948, 3988292384, 4027552580, 3604390888, 3412177804, 2607071920, 2262029012, 2685067896, 3183342108]
noncomputable def p_sum_step (x_ : Int) (b : Int) : Option Int :=
  (Option.bind (idx t_sum_half (Go.bits .and .u32 (Go.bits .xor .u32 x_ (IntKind.u32.wrap b)) 15)) fun x1 => (Option.bind (idx t_sum_half (Go.bits .and .u32 (Go.bits .xor .u32 ((Go.bits .xor .u32 x_ (IntKind.u32.wrap b)).fdiv (2 ^ (min 4 32))) x1) 15)) fun x5 => some (Go.bits .xor .u32 ((Go.bits .xor .u32 ((Go.bits .xor .u32 x_ (IntKind.u32.wrap b)).fdiv (2 ^ (min 4 32))) x1).fdiv (2 ^ (min 4 32))) x5)))

noncomputable def p_sum_Of (l : List ByteArray) : Option Int :=
  (Option.bind (iter (σ := Int × Int) (ρ := Int) (fun s323 => (bif (decide (s323.2 < (l.length : Int))) then (Option.bind (idx l s323.2) fun x570 => (Option.bind (iter (σ := Int × Int) (ρ := Int) (fun s611 => (bif (decide (s611.1 < (x570.size : Int))) then (Option.bind (sidx x570 s611.1) fun b642 => (Option.bind (p_sum_step s611.2 b642) fun r645 => some (.inl ((IntKind.i64.wrap (s611.1 + 1)), r645)))) else some (.inr s611.2))) (0, s323.1)) fun e627 => some (.inl (e627, (IntKind.i64.wrap (s323.2 + 1)))))) else some (.inr s323.1))) (4294967295, 0)) fun e483 => some (Go.bits .xor .u32 4294967295 e483))
end Go.Tw.X

set_option linter.unusedVariables false
set_option linter.unusedSimpArgs false
set_option maxRecDepth 10000
namespace Go.Tw.X
open Go Go.Tw
structure SnapSnap where
  k : Int
  w : Int
  h : Int
  x : Int
  y : Int
  title : ByteArray
  rows : List RowRow
  len : Int
  chain : Int
  begun : List RowGlyph
  deriving DecidableEq, Inhabited

def wfSnapSnap (x : SnapSnap) : Prop := (inK .i64) x.k ∧ (inK .i64) x.w ∧ (inK .i64) x.h ∧ (inK .i64) x.x ∧ (inK .i64) x.y ∧ (fun s : ByteArray => s.size ≤ maxLen) x.title ∧ (fun xs : List RowRow => ∀ x ∈ xs, wfRowRow x) x.rows ∧ (inK .i64) x.len ∧ (inK .i64) x.chain ∧ (fun xs : List RowGlyph => ∀ x ∈ xs, wfRowGlyph x) x.begun ∧ True
noncomputable def p_snap_Snap_empty (s_ : SnapSnap) : Option Bool :=
  (Option.bind ((bif (s_.k == 0) then (bif (s_.w == 0) then (bif (s_.h == 0) then (bif (s_.x == 0) then (bif (s_.y == 0) then (bif (s_.title.toList == (ByteArray.mk #[]).toList) then (bif ((s_.rows.length : Int) == 0) then (bif (s_.len == 0) then (bif (s_.chain == 0) then some ((s_.begun.length : Int) == 0) else some false) else some false) else some false) else some false) else some false) else some false) else some false) else some false) else some false) : Option Bool) fun e21 => some e21)

noncomputable def p_snap_within (n_ : Int) (lo : Int) (hi : Int) : Option Bool :=
  (Option.bind ((bif (decide (n_ ≥ lo)) then some (decide (n_ ≤ hi)) else some false) : Option Bool) fun e4 => some e4)

noncomputable def p_snap_Snap_sizes (s_ : SnapSnap) : Option Bool :=
  (Option.bind ((Option.bind (p_snap_within s_.k 1 1152921504606846976) fun r66 => (bif r66 then (Option.bind (p_snap_within s_.w 1 1000) fun r70 => (bif r70 then (Option.bind (p_snap_within s_.h 1 1000) fun r74 => (bif r74 then (Option.bind (p_snap_within s_.x 0 (IntKind.i64.wrap (s_.w - 1))) fun r78 => (bif r78 then (Option.bind (p_snap_within s_.y 0 (IntKind.i64.wrap (s_.h - 1))) fun r82 => (bif r82 then (bif ((s_.rows.length : Int) == s_.h) then (bif (decide ((s_.title.size : Int) ≤ 200)) then (Option.bind (p_snap_within s_.len 0 1152921504606846976) fun r88 => (bif r88 then (Option.bind (p_snap_within s_.chain 0 281474976710656) fun r92 => (bif r92 then some (decide ((s_.begun.length : Int) ≤ 1024)) else some false)) else some false)) else some false) else some false) else some false)) else some false)) else some false)) else some false)) else some false)) : Option Bool) fun e63 => some e63)

noncomputable def p_snap_shows (r_ : Int) (style : Int) : Option Bool :=
  (Option.bind ((Option.bind (p_snap_within (IntKind.i64.wrap r_) 0 1114111) fun r19 => (bif r19 then (Option.bind (p_snap_within style 0 647) fun r23 => some r23) else some false)) : Option Bool) fun e16 => some e16)

noncomputable def p_snap_Snap_Check_1 (g : RowGlyph) : Option Bool :=
  (Option.bind (p_snap_shows g.rune g.style) fun r2 => some (!r2))

noncomputable def p_slices_IndexFunc_row_Glyph_Snap_Check_1 (s_ : List RowGlyph) : Option Int :=
  (Option.bind (iter (σ := Int) (ρ := Unit ⊕ Int) (fun s52 => (bif (decide (s52 < (s_.length : Int))) then (Option.bind (idx s_ s52) fun x98 => (Option.bind (p_snap_Snap_Check_1 x98) fun r105 => (bif r105 then (inrr (some s52)) else some (.inl (IntKind.i64.wrap (s52 + 1)))))) else some (.inr (.inl ())))) 0) fun | .inl e77 => some (-1) | .inr w => some w)

noncomputable def p_slices_ContainsFunc_row_Glyph_Snap_Check_1 (s_ : List RowGlyph) : Option Bool :=
  (Option.bind (p_slices_IndexFunc_row_Glyph_Snap_Check_1 s_) fun r1 => some (decide (r1 ≥ 0)))

noncomputable def p_snap_cell (c : RowCell) : Option Bool :=
  (Option.bind ((Option.bind (p_snap_shows c.rune c.style) fun r20 => (bif r20 then (Option.bind (p_snap_within c.part 0 3) fun r24 => some r24) else some false)) : Option Bool) fun e17 => some e17)

noncomputable def p_snap_Snap_Check_2 (c : RowCell) : Option Bool :=
  (Option.bind (p_snap_cell c) fun r2 => some (!r2))

noncomputable def p_slices_IndexFunc_row_Cell_Snap_Check_2 (s_ : List RowCell) : Option Int :=
  (Option.bind (iter (σ := Int) (ρ := Unit ⊕ Int) (fun s52 => (bif (decide (s52 < (s_.length : Int))) then (Option.bind (idx s_ s52) fun x98 => (Option.bind (p_snap_Snap_Check_2 x98) fun r105 => (bif r105 then (inrr (some s52)) else some (.inl (IntKind.i64.wrap (s52 + 1)))))) else some (.inr (.inl ())))) 0) fun | .inl e77 => some (-1) | .inr w => some w)

noncomputable def p_slices_ContainsFunc_row_Cell_Snap_Check_2 (s_ : List RowCell) : Option Bool :=
  (Option.bind (p_slices_IndexFunc_row_Cell_Snap_Check_2 s_) fun r1 => some (decide (r1 ≥ 0)))

noncomputable def p_snap_Snap_Check (s_ : SnapSnap) : Option Int :=
  (Option.bind (p_snap_Snap_empty s_) fun r2 => (bif r2 then some 0 else (Option.bind ((Option.bind (p_snap_Snap_sizes s_) fun r25 => (bif (!r25) then some true else (Option.bind (p_slices_ContainsFunc_row_Glyph_Snap_Check_1 s_.begun) fun r29 => some r29))) : Option Bool) fun e22 => (bif e22 then some 1 else (Option.bind (iter (σ := Int) (ρ := Unit ⊕ Int) (fun s153 => (bif (decide (s153 < (s_.rows.length : Int))) then (Option.bind (idx s_.rows s153) fun x250 => (Option.bind ((bif ((x250.cells.length : Int) != s_.w) then some true else (Option.bind (p_slices_ContainsFunc_row_Cell_Snap_Check_2 x250.cells) fun r274 => some r274)) : Option Bool) fun e270 => (bif e270 then (inrr (some 1)) else some (.inl (IntKind.i64.wrap (s153 + 1)))))) else some (.inr (.inl ())))) 0) fun | .inl e212 => some 0 | .inr w => some w)))))

noncomputable def p_snap_bit (is : Bool) : Option Int :=
  (bif is then some 1 else some 0)

noncomputable def p_snap_runs (l : List RowCell) : Option (List RowCell) :=
  some l

noncomputable def p_snap_runs_1 {σ : Type} (Y : σ → (Int × RowCell) → Option (σ × Bool)) (y0 : σ) (x1 : List RowCell) : Option (σ × (List RowCell)) :=
  (Option.bind (iter (σ := (List RowCell) × σ) (ρ := ((List RowCell) × σ) ⊕ (σ × (List RowCell))) (fun s707 => (bif (decide ((s707.1.length : Int) > 0)) then (Option.bind (iter (σ := Int) (ρ := Int) (fun s1227 => (Option.bind ((bif (decide (s1227 < (s707.1.length : Int))) then (Option.bind (idx s707.1 s1227) fun x1379 => (Option.bind (idx s707.1 0) fun x1386 => some ((x1379.rune == x1386.rune) && ((x1379.style == x1386.style) && ((x1379.part == x1386.part) && true))))) else some false) : Option Bool) fun e1363 => (bif e1363 then some (.inl (IntKind.i64.wrap (s1227 + 1))) else some (.inr s1227)))) 1) fun e1307 => (Option.bind (idx s707.1 0) fun x1392 => (Option.bind (Y s707.2 (e1307, x1392)) fun z1399 => (bif (!z1399.2) then (inrr (some (z1399.1, s707.1))) else (Option.bind (chk (cutok e1307 (s707.1.length : Int) s707.1.length)) fun _ => some (.inl ((cut s707.1 e1307 (s707.1.length : Int)), z1399.1))))))) else some (.inr (.inl (s707.1, s707.2))))) (x1, y0)) fun | .inl e1058 => some (e1058.2, e1058.1) | .inr w => some w)

noncomputable def p_snap_PackRow (r_ : RowRow) : Option ByteArray :=
  (Option.bind (p_snap_bit r_.wrapped) fun r3 => (Option.bind (p_num_Out_Num (NumOut.mk ([] : List Int)) [r3]) fun r10 => (Option.bind (p_snap_runs r_.cells) fun r16 => (Option.bind (p_snap_runs_1 (fun s51 x21 => (Option.bind (p_num_Out_Num s51 [x21.1, (IntKind.i64.wrap x21.2.rune), x21.2.style, x21.2.part]) fun r58 => some (r58, true))) (r10 : NumOut) r16) fun r64 => (Option.bind (p_num_Out_Bytes r64.1) fun r76 => some r76)))))

noncomputable def p_snap_Snap_Pack (s_ : SnapSnap) : Option ByteArray :=
  (Option.bind ((Option.bind (p_snap_Snap_empty s_) fun r20 => (bif r20 then some true else (Option.bind (p_snap_Snap_Check s_) fun r24 => some (r24 != 0)))) : Option Bool) fun e17 => (bif e17 then some (ByteArray.mk #[]) else (Option.bind (p_num_Out_Num (NumOut.mk ([] : List Int)) [s_.k, s_.w, s_.h, s_.x, s_.y]) fun r160 => (Option.bind (p_num_Out_Text r160 [s_.title]) fun r166 => (Option.bind (p_num_Out_Num r166 [s_.len, s_.chain]) fun r172 => (Option.bind (p_book_Pack s_.begun) fun r178 => (Option.bind (p_num_Out_Raw r172 [r178]) fun r184 => (Option.bind (iter (σ := NumOut × Int) (ρ := NumOut) (fun s301 => (bif (decide (s301.2 < (s_.rows.length : Int))) then (Option.bind (idx s_.rows s301.2) fun x386 => (Option.bind (p_snap_PackRow x386) fun r397 => (Option.bind (p_num_Out_Raw s301.1 [r397]) fun r403 => some (.inl (r403, (IntKind.i64.wrap (s301.2 + 1))))))) else some (.inr s301.1))) (r184, 0)) fun e354 => (Option.bind (p_num_Out_Bytes e354) fun r409 => some r409)))))))))

noncomputable def p_snap_size (in_ : NumIn) : Option (Int × NumIn) :=
  (Option.bind (p_num_In_Num in_) fun r1 => (bif (decide (r1.1 > 1000)) then (Option.bind (p_num_In_Fail r1.2 1) fun r9 => some (0, r9)) else some (r1.1, r1.2)))

noncomputable def p_snap_run (in_ : NumIn) (left : Int) : Option (Int × RowCell × Bool × NumIn) :=
  (Option.bind (p_num_In_Num in_) fun r2 => (Option.bind ((bif (r2.1 == 0) then some true else some (decide (r2.1 > left))) : Option Bool) fun e8 => (Option.bind ((bif e8 then (Option.bind (p_num_In_Fail r2.2 1) fun r25 => some r25) else some r2.2) : Option NumIn) fun e21 => (Option.bind (iter (σ := Arr3Int × NumIn × Int) (ρ := Arr3Int × NumIn) (fun s154 => (bif (decide (s154.2.2 < 3)) then (Option.bind ((Option.bind (idx [1114111, 647, 3] s154.2.2) fun x263 => (Option.bind (p_num_In_Num s154.2.1) fun r266 => (Option.bind (chk (ainb s154.2.2 3)) fun _ => (Option.bind (chk (ainb s154.2.2 3)) fun _ => (Option.bind (idx [(sel s154.2.2 0 r266.1 s154.1.e0), (sel s154.2.2 1 r266.1 s154.1.e1), (sel s154.2.2 2 r266.1 s154.1.e2)] s154.2.2) fun x273 => (bif (decide (x273 > x263)) then (Option.bind (p_num_In_Fail r266.2 1) fun r277 => some ((Arr3Int.mk (sel s154.2.2 0 r266.1 s154.1.e0) (sel s154.2.2 1 r266.1 s154.1.e1) (sel s154.2.2 2 r266.1 s154.1.e2)), r277)) else some ((Arr3Int.mk (sel s154.2.2 0 r266.1 s154.1.e0) (sel s154.2.2 1 r266.1 s154.1.e1) (sel s154.2.2 2 r266.1 s154.1.e2)), r266.2))))))) : Option (Arr3Int × NumIn)) fun e260 => some (.inl (e260.1, e260.2, (IntKind.i64.wrap (s154.2.2 + 1))))) else some (.inr (s154.1, s154.2.1)))) ((Arr3Int.mk 0 0 0), e21, 0)) fun e215 => (Option.bind (p_num_In_Err e215.2) fun r280 => (bif (r280 != 0) then some (0, (RowCell.mk 0 0 0), false, e215.2) else some (r2.1, (RowCell.mk (IntKind.i32.wrap e215.1.e0) e215.1.e1 e215.1.e2), true, e215.2)))))))

noncomputable def p_snap_ReadRow (in_ : NumIn) (w : Int) : Option (RowRow × NumIn) :=
  (Option.bind (p_num_In_Num in_) fun r2 => (Option.bind ((bif (decide (r2.1 > 1)) then (Option.bind (p_num_In_Fail r2.2 1) fun r18 => some r18) else some r2.2) : Option NumIn) fun e14 => (Option.bind (iter (σ := NumIn × (List RowCell)) (ρ := (List RowCell) × NumIn) (fun s173 => (Option.bind ((bif (decide ((s173.2.length : Int) < w)) then (Option.bind (p_num_In_Err s173.1) fun r281 => some (r281 == 0)) else some false) : Option Bool) fun e277 => (bif e277 then (Option.bind (p_snap_run s173.1 (IntKind.i64.wrap (w - (s173.2.length : Int)))) fun r286 => (bif (!r286.2.2.1) then some (.inl (r286.2.2.2, s173.2)) else (Option.bind ((bif (decide ((s173.2.length : Int) > 0)) then (Option.bind (idx s173.2 (IntKind.i64.wrap ((s173.2.length : Int) - 1))) fun x326 => some ((x326.rune == r286.2.1.rune) && ((x326.style == r286.2.1.style) && ((x326.part == r286.2.1.part) && true)))) else some false) : Option Bool) fun e316 => (bif e316 then (Option.bind (p_num_In_Fail r286.2.2.2 1) fun r332 => some (.inl (r332, s173.2))) else (Option.bind (p_slices_Repeat_row_Cell [r286.2.1] r286.1) fun r338 => (Option.bind (chk (apok s173.2.length r338.length 24)) fun _ => some (.inl (r286.2.2.2, (s173.2 ++ r338))))))))) else some (.inr (s173.2, s173.1))))) (e14, [])) fun e261 => (Option.bind (p_num_In_Err e261.2) fun r350 => (bif (r350 != 0) then some ((RowRow.mk ([] : List RowCell) false), e261.2) else some ((RowRow.mk e261.1 (r2.1 == 1)), e261.2))))))

noncomputable def p_snap_Snap_Same (s_ : SnapSnap) (t_ : SnapSnap) : Option Bool :=
  (Option.bind ((bif (s_.k == t_.k) then (bif (s_.w == t_.w) then (bif (s_.h == t_.h) then (bif (s_.x == t_.x) then (bif (s_.y == t_.y) then (bif (s_.title.toList == t_.title.toList) then (bif (s_.len == t_.len) then (bif (s_.chain == t_.chain) then (Option.bind (p_slices_EqualFunc_row_Row_Row_Same s_.rows t_.rows) fun r45 => (bif r45 then (Option.bind (p_slices_Equal_row_Glyph s_.begun t_.begun) fun r49 => some r49) else some false)) else some false) else some false) else some false) else some false) else some false) else some false) else some false) else some false) : Option Bool) fun e34 => some e34)

noncomputable def p_snap_Snap_Clone (s_ : SnapSnap) : Option SnapSnap :=
  (Option.bind (iter (σ := (List RowRow) × Int) (ρ := (List RowRow)) (fun s190 => (bif (decide (s190.2 < (s_.rows.length : Int))) then (Option.bind (idx s_.rows s190.2) fun x329 => (Option.bind (p_slices_Clone_row_Cell x329.cells) fun r355 => (Option.bind (chk (apok s190.1.length [(RowRow.mk r355 x329.wrapped)].length 32)) fun _ => some (.inl ((s190.1 ++ [(RowRow.mk r355 x329.wrapped)]), (IntKind.i64.wrap (s190.2 + 1))))))) else some (.inr s190.1))) ([], 0)) fun e279 => (Option.bind (p_slices_Clone_row_Glyph s_.begun) fun r370 => some (SnapSnap.mk s_.k s_.w s_.h s_.x s_.y s_.title e279 s_.len s_.chain r370)))

noncomputable def p_snap_Snap_Sum (s_ : SnapSnap) : Option Int :=
  (Option.bind (p_snap_Snap_Pack s_) fun r2 => (Option.bind (p_sum_Of [r2]) fun r7 => some (IntKind.i64.wrap r7)))
end Go.Tw.X

set_option linter.unusedVariables false
set_option linter.unusedSimpArgs false
set_option maxRecDepth 10000
namespace Go.Tw.X
open Go Go.Tw
structure DeltaPatch where
  sum : Int
  to : SnapSnap
  rows : Mp RowRow
  deriving DecidableEq, Inhabited

noncomputable def p_delta_may (s_ : SnapSnap) : Option Bool :=
  (Option.bind (p_snap_Snap_Pack s_) fun r2 => some (!(r2.toList == (ByteArray.mk #[]).toList)))

noncomputable def p_delta_changes (a : SnapSnap) (b : SnapSnap) : Option (SnapSnap × SnapSnap) :=
  some (b, a)

noncomputable def p_delta_rowOf (s_ : SnapSnap) (y : Int) : Option (RowRow × Bool) :=
  (Option.bind ((bif (decide (y < 0)) then some true else some (decide (y ≥ (s_.rows.length : Int)))) : Option Bool) fun e6 => (bif e6 then some ((RowRow.mk ([] : List RowCell) false), false) else (Option.bind (idx s_.rows y) fun x13 => some (x13, true))))

noncomputable def p_delta_changes_1 {σ : Type} (Y : σ → (Int × RowRow) → Option (σ × Bool)) (y0 : σ) (x1 : SnapSnap) (x2 : SnapSnap) : Option σ :=
  (Option.bind (iter (σ := Int × σ) (ρ := σ ⊕ σ) (fun s276 => (bif (decide (s276.1 < (x1.rows.length : Int))) then (Option.bind ((Option.bind (idx x1.rows s276.1) fun x510 => (Option.bind (p_delta_rowOf x2 s276.1) fun r521 => (Option.bind ((bif r521.2 then (Option.bind (p_row_Row_Same r521.1 x510) fun r541 => some r541) else some false) : Option Bool) fun e537 => (bif e537 then some (.inl s276.2) else (Option.bind (Y s276.2 (s276.1, x510)) fun z546 => (bif (!z546.2) then (inrs (inrr (some z546.1))) else some (.inl z546.1))))))) : Option (σ ⊕ ((Int × σ) ⊕ (σ ⊕ σ)))) fun | .inl e506 => some (.inl ((IntKind.i64.wrap (s276.1 + 1)), e506)) | .inr w => some w) else some (.inr (.inl s276.2)))) (0, y0)) fun | .inl e412 => some e412 | .inr w => some w)

noncomputable def p_delta_Changes (a : SnapSnap) (b : SnapSnap) : Option (List Int) :=
  (Option.bind (p_delta_changes a b) fun r4 => (Option.bind (p_delta_changes_1 (fun s44 x15 => (Option.bind (chk (apok s44.length [x15.1].length 8)) fun _ => some ((s44 ++ [x15.1]), true))) ([] : (List Int)) r4.1 r4.2) fun r57 => some r57))

noncomputable def p_delta_Diff (a : SnapSnap) (b : SnapSnap) : Option ByteArray :=
  (Option.bind ((Option.bind (p_snap_Snap_Check a) fun r21 => (bif (r21 != 0) then some true else (Option.bind (p_delta_may b) fun r25 => some (!r25)))) : Option Bool) fun e18 => (bif e18 then some (ByteArray.mk #[]) else (Option.bind (p_snap_Snap_Sum a) fun r208 => (Option.bind (p_num_Out_Num (NumOut.mk ([] : List Int)) [r208, b.k, b.w, b.h, b.x, b.y]) fun r221 => (Option.bind (p_num_Out_Text r221 [b.title]) fun r227 => (Option.bind (p_num_Out_Num r227 [b.len, b.chain]) fun r233 => (Option.bind (p_book_Pack b.begun) fun r239 => (Option.bind (p_num_Out_Raw r233 [r239]) fun r245 => (Option.bind (p_delta_Changes a b) fun r251 => (Option.bind (p_num_Out_Num r245 [(r251.length : Int)]) fun r261 => (Option.bind (p_delta_changes a b) fun r267 => (Option.bind (p_delta_changes_1 (fun s376 x278 => (Option.bind (p_num_Out_Num s376 [x278.1]) fun r405 => (Option.bind (p_snap_PackRow x278.2) fun r411 => (Option.bind (p_num_Out_Raw r405 [r411]) fun r417 => some (r417, true))))) (r261 : NumOut) r267.1 r267.2) fun r423 => (Option.bind (p_num_Out_Bytes r423) fun r433 => some r433)))))))))))))

noncomputable def p_delta_size (in_ : NumIn) : Option (Int × NumIn) :=
  (Option.bind (p_num_In_Num in_) fun r1 => (bif (decide (r1.1 > 1000)) then (Option.bind (p_num_In_Fail r1.2 1) fun r9 => some (0, r9)) else some (r1.1, r1.2)))

noncomputable def p_delta_read (s_ : ByteArray) : Option (DeltaPatch × Int) :=
  (Option.bind (p_num_Of s_) fun r2 => (Option.bind (p_num_In_Num r2) fun r6 => (Option.bind (p_num_In_Num r6.2) fun r12 => (Option.bind (p_delta_size r12.2) fun r15 => (Option.bind (p_delta_size r15.2) fun r18 => (Option.bind (p_num_In_Num r18.2) fun r21 => (Option.bind (p_num_In_Num r21.2) fun r24 => (Option.bind (p_num_In_Text r24.2) fun r27 => (Option.bind (p_num_In_Num r27.2) fun r30 => (Option.bind (p_num_In_Num r30.2) fun r33 => (Option.bind (p_book_Read r33.2) fun r36 => (Option.bind (p_num_In_Num r36.2) fun r42 => (Option.bind (iter (σ := DeltaPatch × NumIn × Int × Int) (ρ := NumIn × DeltaPatch) (fun s270 => (Option.bind ((bif (decide (s270.2.2.2 > 0)) then (Option.bind (p_num_In_Err s270.2.1) fun r398 => some (r398 == 0)) else some false) : Option Bool) fun e394 => (bif e394 then (Option.bind (p_num_In_Num s270.2.1) fun r445 => (Option.bind ((bif (decide (r445.1 ≤ s270.2.2.1)) then some true else some (decide (r445.1 ≥ s270.1.to.h))) : Option Bool) fun e451 => (Option.bind ((bif e451 then (Option.bind (p_num_In_Fail r445.2 1) fun r468 => some r468) else some r445.2) : Option NumIn) fun e464 => (Option.bind (p_snap_ReadRow e464 s270.1.to.w) fun r479 => (Option.bind (chk s270.1.rows.isSome) fun _ => some (.inl ((DeltaPatch.mk s270.1.sum (SnapSnap.mk s270.1.to.k s270.1.to.w s270.1.to.h s270.1.to.x s270.1.to.y s270.1.to.title ([] : List RowRow) s270.1.to.len s270.1.to.chain s270.1.to.begun) (mset s270.1.rows r445.1 r479.1)), r479.2, r445.1, (IntKind.i64.wrap (s270.2.2.2 - 1))))))))) else some (.inr (s270.2.1, (DeltaPatch.mk s270.1.sum (SnapSnap.mk s270.1.to.k s270.1.to.w s270.1.to.h s270.1.to.x s270.1.to.y s270.1.to.title ([] : List RowRow) s270.1.to.len s270.1.to.chain s270.1.to.begun) s270.1.rows)))))) ((DeltaPatch.mk r6.1 (SnapSnap.mk r12.1 r15.1 r18.1 r21.1 r24.1 r27.1 ([] : List RowRow) r30.1 r33.1 r36.1) (some [] : Mp RowRow)), r42.2, (-1), r42.1)) fun e378 => (Option.bind (p_num_In_End e378.1) fun r496 => some ((DeltaPatch.mk e378.2.sum (SnapSnap.mk e378.2.to.k e378.2.to.w e378.2.to.h e378.2.to.x e378.2.to.y e378.2.to.title ([] : List RowRow) e378.2.to.len e378.2.to.chain e378.2.to.begun) e378.2.rows), r496)))))))))))))))

noncomputable def p_delta_patch_build (p : DeltaPatch) (a : SnapSnap) : Option (Bool × DeltaPatch) :=
  (Option.bind (iter (σ := DeltaPatch × Int) (ρ := DeltaPatch ⊕ (Bool × DeltaPatch)) (fun s547 => (bif (decide (s547.2 < p.to.h)) then (Option.bind (p_delta_rowOf a s547.2) fun r956 => (Option.bind ((Option.bind ((bif (mhas s547.1.rows s547.2) then (bif r956.2 then (Option.bind (p_row_Row_Same r956.1 (mgd s547.1.rows s547.2 (RowRow.mk ([] : List RowCell) false))) fun r1053 => some r1053) else some false) else some false) : Option Bool) fun e1048 => (Option.bind ((bif e1048 then some e1048 else (bif (!(mhas s547.1.rows s547.2)) then some (!r956.2) else some false)) : Option Bool) fun e1061 => (bif e1061 then (inrs (inrr (some (false, (DeltaPatch.mk s547.1.sum (SnapSnap.mk s547.1.to.k s547.1.to.w s547.1.to.h s547.1.to.x s547.1.to.y s547.1.to.title s547.1.to.rows s547.1.to.len s547.1.to.chain s547.1.to.begun) s547.1.rows))))) else (bif (!(mhas s547.1.rows s547.2)) then some (.inl r956.1) else some (.inl (mgd s547.1.rows s547.2 (RowRow.mk ([] : List RowCell) false))))))) : Option (RowRow ⊕ ((DeltaPatch × Int) ⊕ (DeltaPatch ⊕ (Bool × DeltaPatch))))) fun | .inl e1033 => (Option.bind (chk (apok s547.1.to.rows.length [e1033].length 32)) fun _ => some (.inl ((DeltaPatch.mk s547.1.sum (SnapSnap.mk s547.1.to.k s547.1.to.w s547.1.to.h s547.1.to.x s547.1.to.y s547.1.to.title (s547.1.to.rows ++ [e1033]) s547.1.to.len s547.1.to.chain s547.1.to.begun) s547.1.rows), (IntKind.i64.wrap (s547.2 + 1))))) | .inr w => some w)) else some (.inr (.inl (DeltaPatch.mk s547.1.sum (SnapSnap.mk s547.1.to.k s547.1.to.w s547.1.to.h s547.1.to.x s547.1.to.y s547.1.to.title s547.1.to.rows s547.1.to.len s547.1.to.chain s547.1.to.begun) s547.1.rows))))) (p, 0)) fun | .inl e816 => (Option.bind (p_delta_may (SnapSnap.mk e816.to.k e816.to.w e816.to.h e816.to.x e816.to.y e816.to.title e816.to.rows e816.to.len e816.to.chain e816.to.begun)) fun r1090 => some (r1090, (DeltaPatch.mk e816.sum (SnapSnap.mk e816.to.k e816.to.w e816.to.h e816.to.x e816.to.y e816.to.title e816.to.rows e816.to.len e816.to.chain e816.to.begun) e816.rows))) | .inr w => some w)

noncomputable def p_delta_Apply (a : SnapSnap) (s_ : ByteArray) : Option (SnapSnap × Int) :=
  (Option.bind (p_snap_Snap_Check a) fun r3 => (bif (r3 != 0) then some ((SnapSnap.mk 0 0 0 0 0 (ByteArray.mk #[]) ([] : List RowRow) 0 0 ([] : List RowGlyph)), 1) else (Option.bind (p_delta_read s_) fun r10 => (bif (r10.2 != 0) then some ((SnapSnap.mk 0 0 0 0 0 (ByteArray.mk #[]) ([] : List RowRow) 0 0 ([] : List RowGlyph)), r10.2) else (Option.bind (p_snap_Snap_Sum a) fun r56 => (bif (r10.1.sum != r56) then some ((SnapSnap.mk 0 0 0 0 0 (ByteArray.mk #[]) ([] : List RowRow) 0 0 ([] : List RowGlyph)), 7) else (Option.bind (p_delta_patch_build r10.1 a) fun r63 => (bif (!r63.1) then some ((SnapSnap.mk 0 0 0 0 0 (ByteArray.mk #[]) ([] : List RowRow) 0 0 ([] : List RowGlyph)), 1) else (Option.bind (p_snap_Snap_Clone r63.2.to) fun r74 => some (r74, 0))))))))))
end Go.Tw.X

set_option linter.unusedVariables false
set_option linter.unusedSimpArgs false
set_option maxRecDepth 10000
namespace Go.Tw.X
open Go Go.Tw

noncomputable def p_law01_Cut (s_ : ByteArray) (n_ : Int) : Option ByteArray :=
  (bif (decide ((s_.size : Int) > n_)) then (Option.bind (chk (cutok 0 n_ s_.size)) fun _ => some (scut s_ 0 n_)) else some s_)

end Go.Tw.X

set_option linter.unusedVariables false
set_option linter.unusedSimpArgs false
set_option maxRecDepth 10000
namespace Go.Tw.X
open Go Go.Tw
structure Ref09Cell where
  rune : Int
  style : Int
  part : Int
  deriving DecidableEq, Inhabited

structure Ref09Row where
  l : List Ref09Cell
  wrapped : Bool
  deriving DecidableEq, Inhabited

structure Ref09Glyph where
  rune : Int
  style : Int
  deriving DecidableEq, Inhabited

end Go.Tw.X

set_option linter.unusedVariables false
set_option linter.unusedSimpArgs false
set_option maxRecDepth 10000
namespace Go.Tw.X
open Go Go.Tw
noncomputable def p_law09_Is (r_ : RowRow) (x_ : Ref09Row) : Option Bool :=
  (Option.bind ((bif ((r_.cells.length : Int) != (x_.l.length : Int)) then some true else some (!(r_.wrapped == x_.wrapped))) : Option Bool) fun e6 => (bif e6 then some false else (Option.bind (iter (σ := Int) (ρ := Unit ⊕ Bool) (fun s479 => (bif (decide (s479 < (r_.cells.length : Int))) then (Option.bind (idx r_.cells s479) fun x837 => (Option.bind ((Option.bind (idx x_.l s479) fun x934 => (bif ((IntKind.i64.wrap x837.rune) != x934.rune) then some true else (Option.bind (idx x_.l s479) fun x942 => (bif (x837.style != x942.style) then some true else (Option.bind (idx x_.l s479) fun x947 => some (x837.part != x947.part)))))) : Option Bool) fun e914 => (bif e914 then (inrr (some false)) else some (.inl (IntKind.i64.wrap (s479 + 1)))))) else some (.inr (.inl ())))) 0) fun | .inl e712 => some true | .inr w => some w)))

noncomputable def p_law09_Any (l : List RowCell) (wrapped : Bool) : Option RowRow :=
  (Option.bind (chk (cutok 0 (imin (l.length : Int) 40) l.length)) fun _ => (Option.bind (chk (apok ([] : List RowCell).length (cut l 0 (imin (l.length : Int) 40)).length 24)) fun _ => some (RowRow.mk (([] : List RowCell) ++ (cut l 0 (imin (l.length : Int) 40))) wrapped)))

noncomputable def p_law09_Told (r_ : RowRow) : Option Ref09Row :=
  (Option.bind (iter (σ := Ref09Row × Int) (ρ := Ref09Row) (fun s89 => (bif (decide (s89.2 < (r_.cells.length : Int))) then (Option.bind (idx r_.cells s89.2) fun x153 => (Option.bind (chk (apok s89.1.l.length [(Ref09Cell.mk (IntKind.i64.wrap x153.rune) x153.style x153.part)].length 24)) fun _ => some (.inl ((Ref09Row.mk (s89.1.l ++ [(Ref09Cell.mk (IntKind.i64.wrap x153.rune) x153.style x153.part)]) s89.1.wrapped), (IntKind.i64.wrap (s89.2 + 1)))))) else some (.inr s89.1))) ((Ref09Row.mk ([] : List Ref09Cell) r_.wrapped), 0)) fun e128 => some e128)

noncomputable def p_law09_Glyphs (l : List RowGlyph) (x_ : List Ref09Glyph) : Option Bool :=
  (bif ((l.length : Int) != (x_.length : Int)) then some false else (Option.bind (iter (σ := Int) (ρ := Unit ⊕ Bool) (fun s350 => (bif (decide (s350 < (l.length : Int))) then (Option.bind (idx l s350) fun x618 => (Option.bind ((Option.bind (idx x_ s350) fun x690 => (bif ((IntKind.i64.wrap x618.rune) != x690.rune) then some true else (Option.bind (idx x_ s350) fun x698 => some (x618.style != x698.style)))) : Option Bool) fun e675 => (bif e675 then (inrr (some false)) else some (.inl (IntKind.i64.wrap (s350 + 1)))))) else some (.inr (.inl ())))) 0) fun | .inl e523 => some true | .inr w => some w))
end Go.Tw.X

set_option linter.unusedVariables false
set_option linter.unusedSimpArgs false
set_option maxRecDepth 10000
namespace Go.Tw.X
open Go Go.Tw
noncomputable def p_law10_Rows (l : List RowRow) (x_ : List Ref09Row) : Option Bool :=
  (bif ((l.length : Int) != (x_.length : Int)) then some false else (Option.bind (iter (σ := Int) (ρ := Unit ⊕ Bool) (fun s382 => (bif (decide (s382 < (x_.length : Int))) then (Option.bind (idx l s382) fun x743 => (Option.bind (idx x_ s382) fun x753 => (Option.bind (p_law09_Is x743 x753) fun r763 => (bif (!r763) then (inrr (some false)) else some (.inl (IntKind.i64.wrap (s382 + 1))))))) else some (.inr (.inl ())))) 0) fun | .inl e571 => some true | .inr w => some w))

end Go.Tw.X

set_option linter.unusedVariables false
set_option linter.unusedSimpArgs false
set_option maxRecDepth 10000
namespace Go.Tw.X
open Go Go.Tw

noncomputable def p_law14_Told (l : List RowGlyph) : Option (List Ref09Glyph) :=
  (Option.bind (iter (σ := (List Ref09Glyph) × Int) (ρ := (List Ref09Glyph)) (fun s86 => (bif (decide (s86.2 < (l.length : Int))) then (Option.bind (idx l s86.2) fun x150 => (Option.bind (chk (apok s86.1.length [(Ref09Glyph.mk (IntKind.i64.wrap x150.rune) x150.style)].length 16)) fun _ => some (.inl ((s86.1 ++ [(Ref09Glyph.mk (IntKind.i64.wrap x150.rune) x150.style)]), (IntKind.i64.wrap (s86.2 + 1)))))) else some (.inr s86.1))) ([], 0)) fun e125 => some e125)
end Go.Tw.X

set_option linter.unusedVariables false
set_option linter.unusedSimpArgs false
set_option maxRecDepth 10000
namespace Go.Tw.X
open Go Go.Tw
noncomputable def p_ref01_Num (n_ : Int) : Option ByteArray :=
  (Option.bind (iter (σ := Int × (List Int)) (ρ := Int × (List Int)) (fun s38 => (bif (decide (s38.1 ≥ 128)) then (Option.bind (chk (apok s38.2.length [(IntKind.u8.wrap (IntKind.i64.wrap (128 + (s38.1.tmod 128))))].length 1)) fun _ => some (.inl ((IntKind.i64.wrap (s38.1.tdiv 128)), (s38.2 ++ [(IntKind.u8.wrap (IntKind.i64.wrap (128 + (s38.1.tmod 128))))])))) else some (.inr (s38.1, s38.2)))) ((imax 0 (imin n_ 4611686018427387904)), ([] : List Int))) fun e54 => (Option.bind (chk (apok e54.2.length [(IntKind.u8.wrap e54.1)].length 1)) fun _ => some (bstr (e54.2 ++ [(IntKind.u8.wrap e54.1)]))))

noncomputable def p_ref01_Text (s_ : ByteArray) : Option ByteArray :=
  (Option.bind (p_ref01_Num (s_.size : Int)) fun r1 => (Option.bind (chk (sadd r1.size s_.size)) fun _ => some (r1 ++ s_)))
end Go.Tw.X

set_option linter.unusedVariables false
set_option linter.unusedSimpArgs false
set_option maxRecDepth 10000
namespace Go.Tw.X
open Go Go.Tw

noncomputable def p_ref02_Of (s_ : ByteArray) : Option Int :=
  (Option.bind (iter (σ := Int × Int) (ρ := Int) (fun s227 => (bif (decide (s227.2 < (s_.size : Int))) then (Option.bind (sidx s_ s227.2) fun b402 => (Option.bind (iter (σ := Int × Int) (ρ := Int) (fun s429 => (bif (decide (s429.2 < 8)) then (Option.bind ((bif ((s429.1.tmod 2) == 1) then some (Go.bits .xor .i64 (IntKind.i64.wrap (s429.1.tdiv 2)) 3988292384) else some (IntKind.i64.wrap (s429.1.tdiv 2))) : Option Int) fun e452 => some (.inl (e452, (IntKind.i64.wrap (s429.2 + 1))))) else some (.inr s429.1))) ((Go.bits .xor .i64 s227.1 (IntKind.i64.wrap b402)), 0)) fun e440 => some (.inl (e440, (IntKind.i64.wrap (s227.2 + 1)))))) else some (.inr s227.1))) (4294967295, 0)) fun e339 => some (IntKind.i64.wrap (4294967295 - e339)))
end Go.Tw.X

set_option linter.unusedVariables false
set_option linter.unusedSimpArgs false
set_option maxRecDepth 10000
namespace Go.Tw.X
open Go Go.Tw

noncomputable def p_ref12_Pack (l : List Ref09Glyph) : Option ByteArray :=
  (Option.bind (p_ref01_Num (l.length : Int)) fun r1 => (Option.bind (iter (σ := Int × ByteArray) (ρ := ByteArray) (fun s126 => (bif (decide (s126.1 < (l.length : Int))) then (Option.bind (idx l s126.1) fun x223 => (Option.bind (p_ref01_Num x223.rune) fun r241 => (Option.bind (p_ref01_Num x223.style) fun r244 => (Option.bind (chk (sadd r241.size r244.size)) fun _ => (Option.bind (chk (sadd s126.2.size (r241 ++ r244).size)) fun _ => some (.inl ((IntKind.i64.wrap (s126.1 + 1)), (s126.2 ++ (r241 ++ r244))))))))) else some (.inr s126.2))) (0, r1)) fun e186 => some e186))
end Go.Tw.X

set_option linter.unusedVariables false
set_option linter.unusedSimpArgs false
set_option maxRecDepth 10000
namespace Go.Tw.X
open Go Go.Tw
structure Ref16Snap where
  k : Int
  w : Int
  h : Int
  x : Int
  y : Int
  title : ByteArray
  rows : List Ref09Row
  len : Int
  chain : Int
  begun : List Ref09Glyph
  deriving DecidableEq, Inhabited

noncomputable def p_ref16_Empty (s_ : Ref16Snap) : Option Bool :=
  (Option.bind ((bif (s_.k == 0) then (bif (s_.w == 0) then (bif (s_.h == 0) then (bif (s_.x == 0) then (bif (s_.y == 0) then (bif (s_.title.toList == (ByteArray.mk #[]).toList) then (bif ((s_.rows.length : Int) == 0) then (bif (s_.len == 0) then (bif (s_.chain == 0) then some ((s_.begun.length : Int) == 0) else some false) else some false) else some false) else some false) else some false) else some false) else some false) else some false) else some false) : Option Bool) fun e21 => some e21)

noncomputable def p_ref16_May (s_ : Ref16Snap) : Option Bool :=
  (Option.bind (p_ref16_Empty s_) fun r2 => (bif r2 then some true else (Option.bind ((bif (decide (s_.k < 1)) then some true else (bif (decide (s_.k > 1152921504606846976)) then some true else (bif (decide (s_.w < 1)) then some true else (bif (decide (s_.w > 1000)) then some true else (bif (decide (s_.h < 1)) then some true else (bif (decide (s_.h > 1000)) then some true else (bif (decide (s_.x < 0)) then some true else (bif (decide (s_.x ≥ s_.w)) then some true else (bif (decide (s_.y < 0)) then some true else (bif (decide (s_.y ≥ s_.h)) then some true else some ((s_.rows.length : Int) != s_.h))))))))))) : Option Bool) fun e28 => (bif e28 then some false else (Option.bind ((bif (decide ((s_.title.size : Int) > 200)) then some true else (bif (decide (s_.len < 0)) then some true else (bif (decide (s_.len > 1152921504606846976)) then some true else (bif (decide (s_.chain < 0)) then some true else (bif (decide (s_.chain > 281474976710656)) then some true else some (decide ((s_.begun.length : Int) > 1024))))))) : Option Bool) fun e54 => (bif e54 then some false else (Option.bind (iter (σ := Int) (ρ := Unit ⊕ Bool) (fun s159 => (bif (decide (s159 < (s_.begun.length : Int))) then (Option.bind (idx s_.begun s159) fun x238 => (Option.bind ((bif (decide (x238.rune < 0)) then some true else (bif (decide (x238.rune > 1114111)) then some true else (bif (decide (x238.style < 0)) then some true else some (decide (x238.style > 647))))) : Option Bool) fun e253 => (bif e253 then (inrr (some false)) else some (.inl (IntKind.i64.wrap (s159 + 1)))))) else some (.inr (.inl ())))) 0) fun | .inl e206 => (Option.bind (iter (σ := Int) (ρ := Unit ⊕ Bool) (fun s1305 => (bif (decide (s1305 < (s_.rows.length : Int))) then (Option.bind (idx s_.rows s1305) fun x2095 => (bif ((x2095.l.length : Int) != s_.w) then (inrr (some false)) else (Option.bind (iter (σ := Int) (ρ := Unit ⊕ (Int ⊕ (Unit ⊕ Bool))) (fun s2229 => (bif (decide (s2229 < (x2095.l.length : Int))) then (Option.bind (idx x2095.l s2229) fun x2326 => (Option.bind ((bif (decide (x2326.rune < 0)) then some true else (bif (decide (x2326.rune > 1114111)) then some true else (bif (decide (x2326.style < 0)) then some true else (bif (decide (x2326.style > 647)) then some true else (bif (decide (x2326.part < 0)) then some true else some (decide (x2326.part > 3))))))) : Option Bool) fun e2345 => (bif e2345 then (inrr (inrr (some false))) else some (.inl (IntKind.i64.wrap (s2229 + 1)))))) else some (.inr (.inl ())))) 0) fun | .inl e2288 => some (.inl (IntKind.i64.wrap (s1305 + 1))) | .inr w => some w))) else some (.inr (.inl ())))) 0) fun | .inl e1826 => some true | .inr w => some w) | .inr w => some w)))))))

noncomputable def p_ref16_PackRow (r_ : Ref09Row) : Option ByteArray :=
  (Option.bind ((bif r_.wrapped then some (ByteArray.mk #[1]) else some (ByteArray.mk #[0])) : Option ByteArray) fun e5 => (Option.bind (iter (σ := Int × ByteArray × Int) (ρ := ByteArray) (fun s776 => (bif (decide (s776.1 < (r_.l.length : Int))) then (Option.bind ((Option.bind (idx r_.l s776.1) fun x1419 => (Option.bind ((bif (decide ((IntKind.i64.wrap (s776.1 + 1)) < (r_.l.length : Int))) then (Option.bind (idx r_.l (IntKind.i64.wrap (s776.1 + 1))) fun x1457 => some ((x1457.rune == x1419.rune) && ((x1457.style == x1419.style) && ((x1457.part == x1419.part) && true)))) else some false) : Option Bool) fun e1448 => (bif e1448 then some (s776.2.1, (IntKind.i64.wrap (s776.2.2 + 1))) else (Option.bind (p_ref01_Num (IntKind.i64.wrap (s776.2.2 + 1))) fun r1523 => (Option.bind (p_ref01_Num x1419.rune) fun r1526 => (Option.bind (chk (sadd r1523.size r1526.size)) fun _ => (Option.bind (p_ref01_Num x1419.style) fun r1531 => (Option.bind (chk (sadd (r1523 ++ r1526).size r1531.size)) fun _ => (Option.bind (p_ref01_Num x1419.part) fun r1536 => (Option.bind (chk (sadd ((r1523 ++ r1526) ++ r1531).size r1536.size)) fun _ => (Option.bind (chk (sadd s776.2.1.size (((r1523 ++ r1526) ++ r1531) ++ r1536).size)) fun _ => some ((s776.2.1 ++ (((r1523 ++ r1526) ++ r1531) ++ r1536)), 0)))))))))))) : Option (ByteArray × Int)) fun e1416 => some (.inl ((IntKind.i64.wrap (s776.1 + 1)), e1416.1, e1416.2))) else some (.inr s776.2.1))) (0, e5, 0)) fun e1157 => some e1157))

noncomputable def p_ref16_Pack (s_ : Ref16Snap) : Option ByteArray :=
  (Option.bind ((Option.bind (p_ref16_Empty s_) fun r20 => (bif r20 then some true else (Option.bind (p_ref16_May s_) fun r24 => some (!r24)))) : Option Bool) fun e17 => (bif e17 then some (ByteArray.mk #[]) else (Option.bind (iter (σ := Int × ByteArray) (ρ := ByteArray) (fun s73 => (bif (decide (s73.1 < ([s_.k, s_.w, s_.h, s_.x, s_.y].length : Int))) then (Option.bind (idx [s_.k, s_.w, s_.h, s_.x, s_.y] s73.1) fun x110 => (Option.bind (p_ref01_Num x110) fun r113 => (Option.bind (chk (sadd s73.2.size r113.size)) fun _ => some (.inl ((IntKind.i64.wrap (s73.1 + 1)), (s73.2 ++ r113)))))) else some (.inr s73.2))) (0, (ByteArray.mk #[]))) fun e93 => (Option.bind (p_ref01_Text s_.title) fun r178 => (Option.bind (p_ref01_Num s_.len) fun r181 => (Option.bind (chk (sadd r178.size r181.size)) fun _ => (Option.bind (p_ref01_Num s_.chain) fun r186 => (Option.bind (chk (sadd (r178 ++ r181).size r186.size)) fun _ => (Option.bind (p_ref12_Pack s_.begun) fun r191 => (Option.bind (chk (sadd ((r178 ++ r181) ++ r186).size r191.size)) fun _ => (Option.bind (chk (sadd e93.size (((r178 ++ r181) ++ r186) ++ r191).size)) fun _ => (Option.bind (iter (σ := ByteArray × Int) (ρ := ByteArray) (fun s272 => (bif (decide (s272.2 < (s_.rows.length : Int))) then (Option.bind (idx s_.rows s272.2) fun x333 => (Option.bind (p_ref16_PackRow x333) fun r344 => (Option.bind (chk (sadd s272.1.size r344.size)) fun _ => some (.inl ((s272.1 ++ r344), (IntKind.i64.wrap (s272.2 + 1))))))) else some (.inr s272.1))) ((e93 ++ (((r178 ++ r181) ++ r186) ++ r191)), 0)) fun e308 => some e308))))))))))))

noncomputable def p_ref16_Sum (s_ : Ref16Snap) : Option Int :=
  (Option.bind (p_ref16_Pack s_) fun r2 => (Option.bind (p_ref02_Of r2) fun r5 => some r5))
end Go.Tw.X

set_option linter.unusedVariables false
set_option linter.unusedSimpArgs false
set_option maxRecDepth 10000
namespace Go.Tw.X
open Go Go.Tw

noncomputable def p_law16_Is (s_ : SnapSnap) (x_ : Ref16Snap) : Option Bool :=
  (Option.bind ((bif (s_.k == x_.k) then (bif (s_.w == x_.w) then (bif (s_.h == x_.h) then (bif (s_.x == x_.x) then (bif (s_.y == x_.y) then (bif (s_.title.toList == x_.title.toList) then (bif (s_.len == x_.len) then (bif (s_.chain == x_.chain) then (Option.bind (p_law10_Rows s_.rows x_.rows) fun r45 => (bif r45 then (Option.bind (p_law09_Glyphs s_.begun x_.begun) fun r49 => some r49) else some false)) else some false) else some false) else some false) else some false) else some false) else some false) else some false) else some false) : Option Bool) fun e34 => some e34)

noncomputable def p_law16_Cut (s_ : SnapSnap) : Option SnapSnap :=
  (Option.bind (p_law01_Cut s_.title 210) fun r3 => (Option.bind (chk (cutok 0 (imin (s_.begun.length : Int) 30) s_.begun.length)) fun _ => (Option.bind (chk (apok ([] : List RowGlyph).length (cut s_.begun 0 (imin (s_.begun.length : Int) 30)).length 16)) fun _ => (Option.bind (iter (σ := (List RowRow) × Int) (ρ := (List RowRow)) (fun s303 => (Option.bind ((bif (decide (s303.2 < (s_.rows.length : Int))) then some (decide (s303.2 < 8)) else some false) : Option Bool) fun e451 => (bif e451 then (Option.bind (idx s_.rows s303.2) fun x550 => (Option.bind (idx s_.rows s303.2) fun x560 => (Option.bind (p_law09_Any x550.cells x560.wrapped) fun r567 => (Option.bind (chk (apok s303.1.length [r567].length 32)) fun _ => some (.inl ((s303.1 ++ [r567]), (IntKind.i64.wrap (s303.2 + 1)))))))) else some (.inr s303.1)))) ([], 0)) fun e441 => some (SnapSnap.mk s_.k s_.w s_.h s_.x s_.y r3 e441 s_.len s_.chain (([] : List RowGlyph) ++ (cut s_.begun 0 (imin (s_.begun.length : Int) 30))))))))

noncomputable def p_law16_Told (s_ : SnapSnap) : Option Ref16Snap :=
  (Option.bind ((Option.bind (p_law14_Told s_.begun) fun r104 => some (Ref16Snap.mk s_.k s_.w s_.h s_.x s_.y s_.title ([] : List Ref09Row) s_.len s_.chain r104)) : Option Ref16Snap) fun e83 => (Option.bind (iter (σ := Ref16Snap × Int) (ρ := Ref16Snap) (fun s303 => (bif (decide (s303.2 < (s_.rows.length : Int))) then (Option.bind (idx s_.rows s303.2) fun x437 => (Option.bind (p_law09_Told x437) fun r462 => (Option.bind (chk (apok s303.1.rows.length [r462].length 32)) fun _ => some (.inl ((Ref16Snap.mk s303.1.k s303.1.w s303.1.h s303.1.x s303.1.y s303.1.title (s303.1.rows ++ [r462]) s303.1.len s303.1.chain s303.1.begun), (IntKind.i64.wrap (s303.2 + 1))))))) else some (.inr s303.1))) ((Ref16Snap.mk e83.k e83.w e83.h e83.x e83.y e83.title e83.rows e83.len e83.chain e83.begun), 0)) fun e389 => some e389))

end Go.Tw.X

set_option linter.unusedVariables false
set_option linter.unusedSimpArgs false
set_option maxRecDepth 10000
namespace Go.Tw.X
open Go Go.Tw

noncomputable def p_law17_awake : Option Bool :=
  (Option.bind (p_row_Blank 1 0) fun r1 => (Option.bind (p_delta_Diff (SnapSnap.mk 0 0 0 0 0 (ByteArray.mk #[]) ([] : List RowRow) 0 0 ([] : List RowGlyph)) (SnapSnap.mk 1 1 1 0 0 (ByteArray.mk #[]) [r1] 0 0 ([] : List RowGlyph))) fun r14 => (Option.bind (p_delta_Apply (SnapSnap.mk 0 0 0 0 0 (ByteArray.mk #[]) ([] : List RowRow) 0 0 ([] : List RowGlyph)) r14) fun r19 => (Option.bind ((bif (r14.toList == (ByteArray.mk #[0, 1, 1, 1, 0, 0, 0, 0, 0, 0, 1, 0, 0, 1, 32, 0, 0]).toList) then (bif (r19.2 == 0) then (Option.bind (p_snap_Snap_Same r19.1 (SnapSnap.mk 1 1 1 0 0 (ByteArray.mk #[]) [r1] 0 0 ([] : List RowGlyph))) fun r48 => some r48) else some false) else some false) : Option Bool) fun e42 => some e42))))

noncomputable def p_law17_DeltaBase (a : SnapSnap) (b : SnapSnap) (c : SnapSnap) : Option Bool :=
  (Option.bind p_law17_awake fun r4 => (bif (!r4) then some false else (Option.bind (p_law16_Cut a) fun r90 => (Option.bind (p_law16_Cut b) fun r99 => (Option.bind (p_law16_Cut c) fun r108 => (Option.bind (p_delta_Diff r90 r99) fun r117 => (Option.bind (p_law16_Told r90) fun r180 => (Option.bind (p_law16_Told r108) fun r189 => (Option.bind ((bif (r117.toList == (ByteArray.mk #[]).toList) then some true else (Option.bind (p_ref16_May r189) fun r213 => some (!r213))) : Option Bool) fun e209 => (bif e209 then (Option.bind ((Option.bind (p_ref16_May r180) fun r306 => (bif (!r306) then some ((r117.toList == (ByteArray.mk #[]).toList) == true) else (Option.bind (p_law16_Told r99) fun r310 => (Option.bind (p_ref16_Pack r310) fun r319 => some ((r117.toList == (ByteArray.mk #[]).toList) == (r319.toList == (ByteArray.mk #[]).toList)))))) : Option Bool) fun e303 => some e303) else (Option.bind (p_delta_Apply r108 r117) fun r322 => (Option.bind (p_ref16_Sum r180) fun r350 => (Option.bind (p_ref16_Sum r189) fun r353 => (bif (r350 == r353) then (Option.bind ((bif (r322.2 == 0) then some true else some (r322.2 == 1)) : Option Bool) fun e368 => some e368) else (Option.bind ((bif (r322.2 == 7) then (Option.bind (p_law16_Is r322.1 (Ref16Snap.mk 0 0 0 0 0 (ByteArray.mk #[]) ([] : List Ref09Row) 0 0 ([] : List Ref09Glyph))) fun r391 => some r391) else some false) : Option Bool) fun e385 => some e385)))))))))))))))

end Go.Tw.X

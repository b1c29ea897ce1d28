import Derived.Test.YtpopkbmeefaicaaDoorFw2
set_option linter.unusedVariables false
set_option linter.unusedSimpArgs false
set_option maxRecDepth 10000
namespace Go.Tw.X
open Go Go.Tw
structure NumOut where
  b : List Int
  deriving DecidableEq, Inhabited

noncomputable def p_num_digits (n_ : Int) : Option Int :=
  some n_

noncomputable def p_num_clip (n_ : Int) : Option Int :=
  some (imax 0 (imin n_ 4611686018427387904))

noncomputable def p_num_digits_1 {σ : Type} (Y : σ → Int → Option (σ × Bool)) (y0 : σ) (x1 : Int) : Option (σ × Int) :=
  (Option.bind (p_num_clip x1) fun r1 => (Option.bind (iter (σ := Int × σ) (ρ := (Int × σ) ⊕ (σ × Int)) (fun s37 => (bif (decide (s37.1 ≥ 128)) then (Option.bind (Y s37.2 (Go.bits .or .u8 (Go.bits .and .u8 (IntKind.u8.wrap s37.1) 127) 128)) fun z68 => (bif (!z68.2) then (inrr (some (z68.1, s37.1))) else some (.inl ((s37.1.fdiv (2 ^ (min 7 64))), z68.1)))) else some (.inr (.inl (s37.1, s37.2))))) (r1, y0)) fun | .inl e53 => (Option.bind (Y e53.2 (IntKind.u8.wrap e53.1)) fun z75 => some (z75.1, e53.1)) | .inr w => some w))

noncomputable def p_num_Out_Num (o : NumOut) (l : List Int) : Option NumOut :=
  (Option.bind (iter (σ := NumOut × Int) (ρ := NumOut) (fun s348 => (bif (decide (s348.2 < (l.length : Int))) then (Option.bind (idx l s348.2) fun x608 => (Option.bind (p_num_digits x608) fun r615 => (Option.bind (p_num_digits_1 (fun s661 x619 => (Option.bind (chk (apok s661.b.length [x619].length 1)) fun _ => some ((NumOut.mk (s661.b ++ [x619])), true))) (s348.1 : NumOut) r615) fun r680 => some (.inl (r680.1, (IntKind.i64.wrap (s348.2 + 1))))))) else some (.inr s348.1))) (o, 0)) fun e518 => some e518)

noncomputable def p_num_Out_Raw (o : NumOut) (l : List ByteArray) : Option NumOut :=
  (Option.bind (iter (σ := NumOut × Int) (ρ := NumOut) (fun s68 => (bif (decide (s68.2 < (l.length : Int))) then (Option.bind (idx l s68.2) fun x120 => (Option.bind (chk (apok s68.1.b.length x120.size 1)) fun _ => some (.inl ((NumOut.mk (s68.1.b ++ sbs x120)), (IntKind.i64.wrap (s68.2 + 1)))))) else some (.inr s68.1))) (o, 0)) fun e99 => some e99)

noncomputable def p_num_Out_Text (o : NumOut) (l : List ByteArray) : Option NumOut :=
  (Option.bind (iter (σ := NumOut × Int) (ρ := NumOut) (fun s120 => (bif (decide (s120.2 < (l.length : Int))) then (Option.bind (idx l s120.2) fun x211 => (Option.bind (p_num_Out_Num s120.1 [(x211.size : Int)]) fun r221 => (Option.bind (p_num_Out_Raw r221 [x211]) fun r230 => some (.inl (r230, (IntKind.i64.wrap (s120.2 + 1))))))) else some (.inr s120.1))) (o, 0)) fun e177 => some e177)

noncomputable def p_num_Out_Bytes (o : NumOut) : Option ByteArray :=
  some (bstr o.b)

end Go.Tw.X

set_option linter.unusedVariables false
set_option linter.unusedSimpArgs false
set_option maxRecDepth 10000
namespace Go.Tw.X
open Go Go.Tw
noncomputable def p_bits_Mul64 (x_ : Int) (y : Int) : Option (Int × Int) :=
  some ((IntKind.u64.wrap ((IntKind.u64.wrap ((IntKind.u64.wrap ((x_.fdiv (2 ^ (min 32 64))) * (y.fdiv (2 ^ (min 32 64))))) + ((IntKind.u64.wrap ((IntKind.u64.wrap ((x_.fdiv (2 ^ (min 32 64))) * (Go.bits .and .u64 y 4294967295))) + ((IntKind.u64.wrap ((Go.bits .and .u64 x_ 4294967295) * (Go.bits .and .u64 y 4294967295))).fdiv (2 ^ (min 32 64))))).fdiv (2 ^ (min 32 64))))) + ((IntKind.u64.wrap ((Go.bits .and .u64 (IntKind.u64.wrap ((IntKind.u64.wrap ((x_.fdiv (2 ^ (min 32 64))) * (Go.bits .and .u64 y 4294967295))) + ((IntKind.u64.wrap ((Go.bits .and .u64 x_ 4294967295) * (Go.bits .and .u64 y 4294967295))).fdiv (2 ^ (min 32 64))))) 4294967295) + (IntKind.u64.wrap ((Go.bits .and .u64 x_ 4294967295) * (y.fdiv (2 ^ (min 32 64))))))).fdiv (2 ^ (min 32 64))))), (IntKind.u64.wrap (x_ * y)))

noncomputable def p_bits_Mul (x_ : Int) (y : Int) : Option (Int × Int) :=
  (Option.bind (p_bits_Mul64 x_ y) fun r1 => some (r1.1, r1.2))

end Go.Tw.X

set_option linter.unusedVariables false
set_option linter.unusedSimpArgs false
set_option maxRecDepth 10000
namespace Go.Tw.X
open Go Go.Tw
structure RowCell where
  rune : Int
  style : Int
  part : Int
  deriving DecidableEq, Inhabited

structure RowRow where
  cells : List RowCell
  wrapped : Bool
  deriving DecidableEq, Inhabited

structure RowGlyph where
  rune : Int
  style : Int
  deriving DecidableEq, Inhabited

def wfRowCell (x : RowCell) : Prop := (inK .i32) x.rune ∧ (inK .i64) x.style ∧ (inK .i64) x.part ∧ True
def wfRowRow (x : RowRow) : Prop := (fun xs : List RowCell => ∀ x ∈ xs, wfRowCell x) x.cells ∧ (fun _ => True) x.wrapped ∧ True
def wfRowGlyph (x : RowGlyph) : Prop := (inK .i32) x.rune ∧ (inK .i64) x.style ∧ True
noncomputable def p_row_clip (n_ : Int) (lo : Int) (hi : Int) : Option Int :=
  some (imax lo (imin n_ hi))

noncomputable def p_row_blank (style : Int) : Option RowCell :=
  some (RowCell.mk 32 style 0)

noncomputable def p_slices_Repeat_row_Cell (x_ : List RowCell) (count : Int) : Option (List RowCell) :=
  (bif (decide (count < 0)) then none else (Option.bind (p_bits_Mul (IntKind.u64.wrap (x_.length : Int)) (IntKind.u64.wrap count)) fun r3 => (Option.bind ((bif (decide (r3.1 > 0)) then some true else some (decide (r3.2 > 9223372036854775807))) : Option Bool) fun e9 => (bif e9 then none else (Option.bind (chk (mkok (IntKind.i64.wrap r3.2) 24)) fun _ => (Option.bind (iter (σ := (List RowCell) × Int) (ρ := (List RowCell)) (fun s67 => (bif (decide (s67.2 < (s67.1.length : Int))) then (Option.bind (chk (cutok s67.2 (s67.1.length : Int) s67.1.length)) fun _ => (Option.bind (chk (cutok 0 s67.2 s67.1.length)) fun _ => some (.inl ((cpys s67.1 s67.2.toNat), (IntKind.i64.wrap (s67.2 + ((Nat.min s67.2.toNat (s67.1.length - s67.2.toNat) : Nat) : Int))))))) else some (.inr s67.1))) ((cpy (List.replicate (IntKind.i64.wrap r3.2).toNat (RowCell.mk 0 0 0)) x_), ((Nat.min x_.length (List.replicate (IntKind.i64.wrap r3.2).toNat (RowCell.mk 0 0 0)).length : Nat) : Int))) fun e88 => some e88))))))

noncomputable def p_row_blanks (n_ : Int) (style : Int) : Option (List RowCell) :=
  (Option.bind (p_row_blank style) fun r1 => (Option.bind (p_slices_Repeat_row_Cell [r1] (imax 0 n_)) fun r7 => some r7))

noncomputable def p_row_Blank (w : Int) (style : Int) : Option RowRow :=
  (Option.bind (p_row_clip w 0 1000) fun r2 => (Option.bind (p_row_blanks r2 style) fun r5 => some (RowRow.mk r5 false)))

noncomputable def p_slices_Clone_row_Cell (s_ : List RowCell) : Option (List RowCell) :=
  (Option.bind (chk (apok ([] : List RowCell).length s_.length 24)) fun _ => some (([] : List RowCell) ++ s_))

noncomputable def p_slices_Equal_row_Cell (s1_ : List RowCell) (s2_ : List RowCell) : Option Bool :=
  (bif ((s1_.length : Int) != (s2_.length : Int)) then some false else (Option.bind (iter (σ := Int) (ρ := Unit ⊕ Bool) (fun s238 => (bif (decide (s238 < (s1_.length : Int))) then (Option.bind (idx s1_ s238) fun x464 => (Option.bind (idx s2_ s238) fun x471 => (bif (!((x464.rune == x471.rune) && ((x464.style == x471.style) && ((x464.part == x471.part) && true)))) then (inrr (some false)) else some (.inl (IntKind.i64.wrap (s238 + 1)))))) else some (.inr (.inl ())))) 0) fun | .inl e355 => some true | .inr w => some w))

noncomputable def p_row_Row_Same (r_ : RowRow) (q : RowRow) : Option Bool :=
  (Option.bind ((bif (r_.wrapped == q.wrapped) then (Option.bind (p_slices_Equal_row_Cell r_.cells q.cells) fun r16 => some r16) else some false) : Option Bool) fun e12 => some e12)

noncomputable def p_slices_Clone_row_Glyph (s_ : List RowGlyph) : Option (List RowGlyph) :=
  (Option.bind (chk (apok ([] : List RowGlyph).length s_.length 16)) fun _ => some (([] : List RowGlyph) ++ s_))

end Go.Tw.X

set_option linter.unusedVariables false
set_option linter.unusedSimpArgs false
set_option maxRecDepth 10000
namespace Go.Tw.X
open Go Go.Tw
noncomputable def p_book_Pack (l : List RowGlyph) : Option ByteArray :=
  (Option.bind (p_num_Out_Num (NumOut.mk ([] : List Int)) [(l.length : Int)]) fun r6 => (Option.bind (iter (σ := NumOut × Int) (ρ := NumOut) (fun s99 => (bif (decide (s99.2 < (l.length : Int))) then (Option.bind (idx l s99.2) fun x166 => (Option.bind (p_num_Out_Num s99.1 [(IntKind.i64.wrap x166.rune), x166.style]) fun r177 => some (.inl (r177, (IntKind.i64.wrap (s99.2 + 1)))))) else some (.inr s99.1))) (r6, 0)) fun e140 => (Option.bind (p_num_Out_Bytes e140) fun r183 => some r183)))

end Go.Tw.X

set_option linter.unusedVariables false
set_option linter.unusedSimpArgs false
set_option maxRecDepth 10000
namespace Go.Tw.X
open Go Go.Tw

def t_sum_half : List Int := [0, 498536548, 997073096, 651767980, 1994146192, 1802195444, 1303535960, 1342533948, 3988292384, 4027552580, 3604390888, 3412177804, 2607071920, 2262029012, 2685067896, 3183342108]
noncomputable def p_sum_step (x_ : Int) (b : Int) : Option Int :=
  (Option.bind (idx t_sum_half (Go.bits .and .u32 (Go.bits .xor .u32 x_ (IntKind.u32.wrap b)) 15)) fun x1 => (Option.bind (idx t_sum_half (Go.bits .and .u32 (Go.bits .xor .u32 ((Go.bits .xor .u32 x_ (IntKind.u32.wrap b)).fdiv (2 ^ (min 4 32))) x1) 15)) fun x5 => some (Go.bits .xor .u32 ((Go.bits .xor .u32 ((Go.bits .xor .u32 x_ (IntKind.u32.wrap b)).fdiv (2 ^ (min 4 32))) x1).fdiv (2 ^ (min 4 32))) x5)))

noncomputable def p_sum_Of (l : List ByteArray) : Option Int :=
  (Option.bind (iter (σ := Int × Int) (ρ := Int) (fun s323 => (bif (decide (s323.2 < (l.length : Int))) then (Option.bind (idx l s323.2) fun x570 => (Option.bind (iter (σ := Int × Int) (ρ := Int) (fun s611 => (bif (decide (s611.1 < (x570.size : Int))) then (Option.bind (sidx x570 s611.1) fun b642 => (Option.bind (p_sum_step s611.2 b642) fun r645 => some (.inl ((IntKind.i64.wrap (s611.1 + 1)), r645)))) else some (.inr s611.2))) (0, s323.1)) fun e627 => some (.inl (e627, (IntKind.i64.wrap (s323.2 + 1)))))) else some (.inr s323.1))) (4294967295, 0)) fun e483 => some (Go.bits .xor .u32 4294967295 e483))

end Go.Tw.X

set_option linter.unusedVariables false
set_option linter.unusedSimpArgs false
set_option maxRecDepth 10000
namespace Go.Tw.X
open Go Go.Tw
structure SnapSnap where
  k : Int
  w : Int
  h : Int
  x : Int
  y : Int
  title : ByteArray
  rows : List RowRow
  len : Int
  chain : Int
  begun : List RowGlyph
  deriving DecidableEq, Inhabited

def wfSnapSnap (x : SnapSnap) : Prop := (inK .i64) x.k ∧ (inK .i64) x.w ∧ (inK .i64) x.h ∧ (inK .i64) x.x ∧ (inK .i64) x.y ∧ (fun s : ByteArray => s.size ≤ maxLen) x.title ∧ (fun xs : List RowRow => ∀ x ∈ xs, wfRowRow x) x.rows ∧ (inK .i64) x.len ∧ (inK .i64) x.chain ∧ (fun xs : List RowGlyph => ∀ x ∈ xs, wfRowGlyph x) x.begun ∧ True
noncomputable def p_snap_Snap_empty (s_ : SnapSnap) : Option Bool :=
  (Option.bind ((bif (s_.k == 0) then (bif (s_.w == 0) then (bif (s_.h == 0) then (bif (s_.x == 0) then (bif (s_.y == 0) then (bif (s_.title.toList == (ByteArray.mk #[]).toList) then (bif ((s_.rows.length : Int) == 0) then (bif (s_.len == 0) then (bif (s_.chain == 0) then some ((s_.begun.length : Int) == 0) else some false) else some false) else some false) else some false) else some false) else some false) else some false) else some false) else some false) : Option Bool) fun e21 => some e21)

noncomputable def p_snap_within (n_ : Int) (lo : Int) (hi : Int) : Option Bool :=
  (Option.bind ((bif (decide (n_ ≥ lo)) then some (decide (n_ ≤ hi)) else some false) : Option Bool) fun e4 => some e4)

noncomputable def p_snap_Snap_sizes (s_ : SnapSnap) : Option Bool :=
  (Option.bind ((Option.bind (p_snap_within s_.k 1 1152921504606846976) fun r66 => (bif r66 then (Option.bind (p_snap_within s_.w 1 1000) fun r70 => (bif r70 then (Option.bind (p_snap_within s_.h 1 1000) fun r74 => (bif r74 then (Option.bind (p_snap_within s_.x 0 (IntKind.i64.wrap (s_.w - 1))) fun r78 => (bif r78 then (Option.bind (p_snap_within s_.y 0 (IntKind.i64.wrap (s_.h - 1))) fun r82 => (bif r82 then (bif ((s_.rows.length : Int) == s_.h) then (bif (decide ((s_.title.size : Int) ≤ 200)) then (Option.bind (p_snap_within s_.len 0 1152921504606846976) fun r88 => (bif r88 then (Option.bind (p_snap_within s_.chain 0 281474976710656) fun r92 => (bif r92 then some (decide ((s_.begun.length : Int) ≤ 1024)) else some false)) else some false)) else some false) else some false) else some false)) else some false)) else some false)) else some false)) else some false)) : Option Bool) fun e63 => some e63)

noncomputable def p_snap_shows (r_ : Int) (style : Int) : Option Bool :=
  (Option.bind ((Option.bind (p_snap_within (IntKind.i64.wrap r_) 0 1114111) fun r19 => (bif r19 then (Option.bind (p_snap_within style 0 647) fun r23 => some r23) else some false)) : Option Bool) fun e16 => some e16)

noncomputable def p_snap_Snap_Check_1 (g : RowGlyph) : Option Bool :=
  (Option.bind (p_snap_shows g.rune g.style) fun r2 => some (!r2))

noncomputable def p_slices_IndexFunc_row_Glyph_Snap_Check_1 (s_ : List RowGlyph) : Option Int :=
  (Option.bind (iter (σ := Int) (ρ := Unit ⊕ Int) (fun s52 => (bif (decide (s52 < (s_.length : Int))) then (Option.bind (idx s_ s52) fun x98 => (Option.bind (p_snap_Snap_Check_1 x98) fun r105 => (bif r105 then (inrr (some s52)) else some (.inl (IntKind.i64.wrap (s52 + 1)))))) else some (.inr (.inl ())))) 0) fun | .inl e77 => some (-1) | .inr w => some w)

noncomputable def p_slices_ContainsFunc_row_Glyph_Snap_Check_1 (s_ : List RowGlyph) : Option Bool :=
  (Option.bind (p_slices_IndexFunc_row_Glyph_Snap_Check_1 s_) fun r1 => some (decide (r1 ≥ 0)))

noncomputable def p_snap_cell (c : RowCell) : Option Bool :=
  (Option.bind ((Option.bind (p_snap_shows c.rune c.style) fun r20 => (bif r20 then (Option.bind (p_snap_within c.part 0 3) fun r24 => some r24) else some false)) : Option Bool) fun e17 => some e17)

noncomputable def p_snap_Snap_Check_2 (c : RowCell) : Option Bool :=
  (Option.bind (p_snap_cell c) fun r2 => some (!r2))

noncomputable def p_slices_IndexFunc_row_Cell_Snap_Check_2 (s_ : List RowCell) : Option Int :=
  (Option.bind (iter (σ := Int) (ρ := Unit ⊕ Int) (fun s52 => (bif (decide (s52 < (s_.length : Int))) then (Option.bind (idx s_ s52) fun x98 => (Option.bind (p_snap_Snap_Check_2 x98) fun r105 => (bif r105 then (inrr (some s52)) else some (.inl (IntKind.i64.wrap (s52 + 1)))))) else some (.inr (.inl ())))) 0) fun | .inl e77 => some (-1) | .inr w => some w)

noncomputable def p_slices_ContainsFunc_row_Cell_Snap_Check_2 (s_ : List RowCell) : Option Bool :=
  (Option.bind (p_slices_IndexFunc_row_Cell_Snap_Check_2 s_) fun r1 => some (decide (r1 ≥ 0)))

noncomputable def p_snap_Snap_Check (s_ : SnapSnap) : Option Int :=
  (Option.bind (p_snap_Snap_empty s_) fun r2 => (bif r2 then some 0 else (Option.bind ((Option.bind (p_snap_Snap_sizes s_) fun r25 => (bif (!r25) then some true else (Option.bind (p_slices_ContainsFunc_row_Glyph_Snap_Check_1 s_.begun) fun r29 => some r29))) : Option Bool) fun e22 => (bif e22 then some 1 else (Option.bind (iter (σ := Int) (ρ := Unit ⊕ Int) (fun s153 => (bif (decide (s153 < (s_.rows.length : Int))) then (Option.bind (idx s_.rows s153) fun x250 => (Option.bind ((bif ((x250.cells.length : Int) != s_.w) then some true else (Option.bind (p_slices_ContainsFunc_row_Cell_Snap_Check_2 x250.cells) fun r274 => some r274)) : Option Bool) fun e270 => (bif e270 then (inrr (some 1)) else some (.inl (IntKind.i64.wrap (s153 + 1)))))) else some (.inr (.inl ())))) 0) fun | .inl e212 => some 0 | .inr w => some w)))))

noncomputable def p_snap_bit (is : Bool) : Option Int :=
  (bif is then some 1 else some 0)

noncomputable def p_snap_runs (l : List RowCell) : Option (List RowCell) :=
  some l

noncomputable def p_snap_runs_1 {σ : Type} (Y : σ → (Int × RowCell) → Option (σ × Bool)) (y0 : σ) (x1 : List RowCell) : Option (σ × (List RowCell)) :=
  (Option.bind (iter (σ := (List RowCell) × σ) (ρ := ((List RowCell) × σ) ⊕ (σ × (List RowCell))) (fun s707 => (bif (decide ((s707.1.length : Int) > 0)) then (Option.bind (iter (σ := Int) (ρ := Int) (fun s1227 => (Option.bind ((bif (decide (s1227 < (s707.1.length : Int))) then (Option.bind (idx s707.1 s1227) fun x1379 => (Option.bind (idx s707.1 0) fun x1386 => some ((x1379.rune == x1386.rune) && ((x1379.style == x1386.style) && ((x1379.part == x1386.part) && true))))) else some false) : Option Bool) fun e1363 => (bif e1363 then some (.inl (IntKind.i64.wrap (s1227 + 1))) else some (.inr s1227)))) 1) fun e1307 => (Option.bind (idx s707.1 0) fun x1392 => (Option.bind (Y s707.2 (e1307, x1392)) fun z1399 => (bif (!z1399.2) then (inrr (some (z1399.1, s707.1))) else (Option.bind (chk (cutok e1307 (s707.1.length : Int) s707.1.length)) fun _ => some (.inl ((cut s707.1 e1307 (s707.1.length : Int)), z1399.1))))))) else some (.inr (.inl (s707.1, s707.2))))) (x1, y0)) fun | .inl e1058 => some (e1058.2, e1058.1) | .inr w => some w)

noncomputable def p_snap_PackRow (r_ : RowRow) : Option ByteArray :=
  (Option.bind (p_snap_bit r_.wrapped) fun r3 => (Option.bind (p_num_Out_Num (NumOut.mk ([] : List Int)) [r3]) fun r10 => (Option.bind (p_snap_runs r_.cells) fun r16 => (Option.bind (p_snap_runs_1 (fun s51 x21 => (Option.bind (p_num_Out_Num s51 [x21.1, (IntKind.i64.wrap x21.2.rune), x21.2.style, x21.2.part]) fun r58 => some (r58, true))) (r10 : NumOut) r16) fun r64 => (Option.bind (p_num_Out_Bytes r64.1) fun r76 => some r76)))))

noncomputable def p_snap_Snap_Pack (s_ : SnapSnap) : Option ByteArray :=
  (Option.bind ((Option.bind (p_snap_Snap_empty s_) fun r20 => (bif r20 then some true else (Option.bind (p_snap_Snap_Check s_) fun r24 => some (r24 != 0)))) : Option Bool) fun e17 => (bif e17 then some (ByteArray.mk #[]) else (Option.bind (p_num_Out_Num (NumOut.mk ([] : List Int)) [s_.k, s_.w, s_.h, s_.x, s_.y]) fun r160 => (Option.bind (p_num_Out_Text r160 [s_.title]) fun r166 => (Option.bind (p_num_Out_Num r166 [s_.len, s_.chain]) fun r172 => (Option.bind (p_book_Pack s_.begun) fun r178 => (Option.bind (p_num_Out_Raw r172 [r178]) fun r184 => (Option.bind (iter (σ := NumOut × Int) (ρ := NumOut) (fun s301 => (bif (decide (s301.2 < (s_.rows.length : Int))) then (Option.bind (idx s_.rows s301.2) fun x386 => (Option.bind (p_snap_PackRow x386) fun r397 => (Option.bind (p_num_Out_Raw s301.1 [r397]) fun r403 => some (.inl (r403, (IntKind.i64.wrap (s301.2 + 1))))))) else some (.inr s301.1))) (r184, 0)) fun e354 => (Option.bind (p_num_Out_Bytes e354) fun r409 => some r409)))))))))

noncomputable def p_snap_Snap_Clone (s_ : SnapSnap) : Option SnapSnap :=
  (Option.bind (iter (σ := (List RowRow) × Int) (ρ := (List RowRow)) (fun s190 => (bif (decide (s190.2 < (s_.rows.length : Int))) then (Option.bind (idx s_.rows s190.2) fun x329 => (Option.bind (p_slices_Clone_row_Cell x329.cells) fun r355 => (Option.bind (chk (apok s190.1.length [(RowRow.mk r355 x329.wrapped)].length 32)) fun _ => some (.inl ((s190.1 ++ [(RowRow.mk r355 x329.wrapped)]), (IntKind.i64.wrap (s190.2 + 1))))))) else some (.inr s190.1))) ([], 0)) fun e279 => (Option.bind (p_slices_Clone_row_Glyph s_.begun) fun r370 => some (SnapSnap.mk s_.k s_.w s_.h s_.x s_.y s_.title e279 s_.len s_.chain r370)))

noncomputable def p_snap_Snap_Sum (s_ : SnapSnap) : Option Int :=
  (Option.bind (p_snap_Snap_Pack s_) fun r2 => (Option.bind (p_sum_Of [r2]) fun r7 => some (IntKind.i64.wrap r7)))

noncomputable def p_slices_Clone_snap_Snap (s_ : List SnapSnap) : Option (List SnapSnap) :=
  (Option.bind (chk (apok ([] : List SnapSnap).length s_.length 120)) fun _ => some (([] : List SnapSnap) ++ s_))
end Go.Tw.X

set_option linter.unusedVariables false
set_option linter.unusedSimpArgs false
set_option maxRecDepth 10000
namespace Go.Tw.X
open Go Go.Tw
noncomputable def p_delta_may (s_ : SnapSnap) : Option Bool :=
  (Option.bind (p_snap_Snap_Pack s_) fun r2 => some (!(r2.toList == (ByteArray.mk #[]).toList)))

noncomputable def p_delta_changes (a : SnapSnap) (b : SnapSnap) : Option (SnapSnap × SnapSnap) :=
  some (b, a)

noncomputable def p_delta_rowOf (s_ : SnapSnap) (y : Int) : Option (RowRow × Bool) :=
  (Option.bind ((bif (decide (y < 0)) then some true else some (decide (y ≥ (s_.rows.length : Int)))) : Option Bool) fun e6 => (bif e6 then some ((RowRow.mk ([] : List RowCell) false), false) else (Option.bind (idx s_.rows y) fun x13 => some (x13, true))))

noncomputable def p_delta_changes_1 {σ : Type} (Y : σ → (Int × RowRow) → Option (σ × Bool)) (y0 : σ) (x1 : SnapSnap) (x2 : SnapSnap) : Option σ :=
  (Option.bind (iter (σ := Int × σ) (ρ := σ ⊕ σ) (fun s276 => (bif (decide (s276.1 < (x1.rows.length : Int))) then (Option.bind ((Option.bind (idx x1.rows s276.1) fun x510 => (Option.bind (p_delta_rowOf x2 s276.1) fun r521 => (Option.bind ((bif r521.2 then (Option.bind (p_row_Row_Same r521.1 x510) fun r541 => some r541) else some false) : Option Bool) fun e537 => (bif e537 then some (.inl s276.2) else (Option.bind (Y s276.2 (s276.1, x510)) fun z546 => (bif (!z546.2) then (inrs (inrr (some z546.1))) else some (.inl z546.1))))))) : Option (σ ⊕ ((Int × σ) ⊕ (σ ⊕ σ)))) fun | .inl e506 => some (.inl ((IntKind.i64.wrap (s276.1 + 1)), e506)) | .inr w => some w) else some (.inr (.inl s276.2)))) (0, y0)) fun | .inl e412 => some e412 | .inr w => some w)

noncomputable def p_delta_Changes (a : SnapSnap) (b : SnapSnap) : Option (List Int) :=
  (Option.bind (p_delta_changes a b) fun r4 => (Option.bind (p_delta_changes_1 (fun s44 x15 => (Option.bind (chk (apok s44.length [x15.1].length 8)) fun _ => some ((s44 ++ [x15.1]), true))) ([] : (List Int)) r4.1 r4.2) fun r57 => some r57))

noncomputable def p_delta_Diff (a : SnapSnap) (b : SnapSnap) : Option ByteArray :=
  (Option.bind ((Option.bind (p_snap_Snap_Check a) fun r21 => (bif (r21 != 0) then some true else (Option.bind (p_delta_may b) fun r25 => some (!r25)))) : Option Bool) fun e18 => (bif e18 then some (ByteArray.mk #[]) else (Option.bind (p_snap_Snap_Sum a) fun r208 => (Option.bind (p_num_Out_Num (NumOut.mk ([] : List Int)) [r208, b.k, b.w, b.h, b.x, b.y]) fun r221 => (Option.bind (p_num_Out_Text r221 [b.title]) fun r227 => (Option.bind (p_num_Out_Num r227 [b.len, b.chain]) fun r233 => (Option.bind (p_book_Pack b.begun) fun r239 => (Option.bind (p_num_Out_Raw r233 [r239]) fun r245 => (Option.bind (p_delta_Changes a b) fun r251 => (Option.bind (p_num_Out_Num r245 [(r251.length : Int)]) fun r261 => (Option.bind (p_delta_changes a b) fun r267 => (Option.bind (p_delta_changes_1 (fun s376 x278 => (Option.bind (p_num_Out_Num s376 [x278.1]) fun r405 => (Option.bind (p_snap_PackRow x278.2) fun r411 => (Option.bind (p_num_Out_Raw r405 [r411]) fun r417 => some (r417, true))))) (r261 : NumOut) r267.1 r267.2) fun r423 => (Option.bind (p_num_Out_Bytes r423) fun r433 => some r433)))))))))))))

end Go.Tw.X

set_option linter.unusedVariables false
set_option linter.unusedSimpArgs false
set_option maxRecDepth 10000
namespace Go.Tw.X
open Go Go.Tw
structure GramGram where
  epoch : Int
  kind : Int
  nums : List Int
  data : ByteArray
  deriving DecidableEq, Inhabited

end Go.Tw.X

set_option linter.unusedVariables false
set_option linter.unusedSimpArgs false
set_option maxRecDepth 10000
namespace Go.Tw.X
open Go Go.Tw
noncomputable def p_parts_Split (s_ : ByteArray) (size : Int) : Option (List ByteArray) :=
  (Option.bind (iter (σ := ByteArray × (List ByteArray)) (ρ := ByteArray × (List ByteArray)) (fun s45 => (bif (decide ((s45.1.size : Int) > (imax 1 (imin size 8000)))) then (Option.bind (chk (cutok 0 (imax 1 (imin size 8000)) s45.1.size)) fun _ => (Option.bind (chk (apok s45.2.length [(scut s45.1 0 (imax 1 (imin size 8000)))].length 16)) fun _ => (Option.bind (chk (cutok (imax 1 (imin size 8000)) (s45.1.size : Int) s45.1.size)) fun _ => some (.inl ((scut s45.1 (imax 1 (imin size 8000)) (s45.1.size : Int)), (s45.2 ++ [(scut s45.1 0 (imax 1 (imin size 8000)))])))))) else some (.inr (s45.1, s45.2)))) (s_, [])) fun e65 => (Option.bind (chk (apok e65.2.length [e65.1].length 16)) fun _ => some (e65.2 ++ [e65.1])))

end Go.Tw.X

set_option linter.unusedVariables false
set_option linter.unusedSimpArgs false
set_option maxRecDepth 10000
namespace Go.Tw.X
open Go Go.Tw
structure SenderConfig where
  part : Int
  every : Int
  most : Int
  deriving DecidableEq, Inhabited

structure SenderMessage where
  id : Int
  key : Int
  base : Int
  parts : List ByteArray
  there : List Bool
  due : Int
  deriving DecidableEq, Inhabited

structure SenderSender where
  config : SenderConfig
  current : SnapSnap
  acked : SnapSnap
  kept : List SnapSnap
  message : SenderMessage
  next : Int
  deriving DecidableEq, Inhabited

noncomputable def p_sender_clip (n_ : Int) (lo : Int) (hi : Int) : Option Int :=
  some (imax lo (imin n_ hi))

noncomputable def p_sender_Config_Clip (c : SenderConfig) : Option SenderConfig :=
  (Option.bind (p_sender_clip c.part 1 8000) fun r30 => (Option.bind (p_sender_clip c.every 1 1048576) fun r33 => (Option.bind (p_sender_clip c.most 1 64) fun r36 => some (SenderConfig.mk r30 r33 r36))))

noncomputable def p_sender_New (c : SenderConfig) : Option SenderSender :=
  (Option.bind (p_sender_Config_Clip c) fun r2 => some (SenderSender.mk r2 (SnapSnap.mk 0 0 0 0 0 (ByteArray.mk #[]) ([] : List RowRow) 0 0 ([] : List RowGlyph)) (SnapSnap.mk 0 0 0 0 0 (ByteArray.mk #[]) ([] : List RowRow) 0 0 ([] : List RowGlyph)) ([] : List SnapSnap) (SenderMessage.mk 0 0 0 ([] : List ByteArray) ([] : List Bool) 0) 1))

noncomputable def p_sender_Sender_Note (s_ : SenderSender) (x_ : SnapSnap) : Option (Bool × SenderSender) :=
  (Option.bind ((Option.bind (p_snap_Snap_Check x_) fun r26 => (bif (r26 != 0) then some true else some (decide (x_.k ≤ s_.current.k)))) : Option Bool) fun e19 => (bif e19 then some (false, s_) else (Option.bind (p_snap_Snap_Clone x_) fun r32 => some (true, (SenderSender.mk s_.config r32 s_.acked s_.kept s_.message s_.next)))))

noncomputable def p_sender_Sender_begin_1_v2 (x_ : SnapSnap) (x1 : SenderSender) : Option Bool :=
  some (x_.k == x1.current.k)

noncomputable def p_slices_IndexFunc_snap_Snap_Sender_begin_1_v2 (s_ : List SnapSnap) (f_0 : SenderSender) : Option Int :=
  (Option.bind (iter (σ := Int) (ρ := Unit ⊕ Int) (fun s76 => (bif (decide (s76 < (s_.length : Int))) then (Option.bind (idx s_ s76) fun x140 => (Option.bind (p_sender_Sender_begin_1_v2 x140 f_0) fun r153 => (bif r153 then (inrr (some s76)) else some (.inl (IntKind.i64.wrap (s76 + 1)))))) else some (.inr (.inl ())))) 0) fun | .inl e113 => some (-1) | .inr w => some w)

noncomputable def p_slices_ContainsFunc_snap_Snap_Sender_begin_1_v2 (s_ : List SnapSnap) (f_0 : SenderSender) : Option Bool :=
  (Option.bind (p_slices_IndexFunc_snap_Snap_Sender_begin_1_v2 s_ f_0) fun r1 => some (decide (r1 ≥ 0)))

noncomputable def p_sender_Sender_begin (s_ : SenderSender) (now : Int) : Option SenderSender :=
  (Option.bind (p_delta_Diff s_.acked s_.current) fun r29 => (Option.bind (p_parts_Split r29 s_.config.part) fun r32 => (Option.bind (chk (mkok (r32.length : Int) 1)) fun _ => (Option.bind (p_slices_ContainsFunc_snap_Snap_Sender_begin_1_v2 s_.kept (SenderSender.mk s_.config s_.current s_.acked s_.kept (SenderMessage.mk s_.next s_.current.k s_.acked.k r32 (List.replicate (r32.length : Int).toNat false) now) (IntKind.i64.wrap (s_.next + 1)))) fun r54 => (Option.bind ((bif (!r54) then (Option.bind (chk (apok s_.kept.length [s_.current].length 120)) fun _ => some (SenderSender.mk s_.config s_.current s_.acked (s_.kept ++ [s_.current]) (SenderMessage.mk s_.next s_.current.k s_.acked.k r32 (List.replicate (r32.length : Int).toNat false) now) (IntKind.i64.wrap (s_.next + 1)))) else some (SenderSender.mk s_.config s_.current s_.acked s_.kept (SenderMessage.mk s_.next s_.current.k s_.acked.k r32 (List.replicate (r32.length : Int).toNat false) now) (IntKind.i64.wrap (s_.next + 1)))) : Option SenderSender) fun e103 => (Option.bind (chk (cutok (imax 0 (IntKind.i64.wrap ((e103.kept.length : Int) - e103.config.most))) (e103.kept.length : Int) e103.kept.length)) fun _ => some (SenderSender.mk (SenderConfig.mk e103.config.part e103.config.every e103.config.most) (SnapSnap.mk e103.current.k e103.current.w e103.current.h e103.current.x e103.current.y e103.current.title e103.current.rows e103.current.len e103.current.chain e103.current.begun) (SnapSnap.mk e103.acked.k e103.acked.w e103.acked.h e103.acked.x e103.acked.y e103.acked.title e103.acked.rows e103.acked.len e103.acked.chain e103.acked.begun) (cut e103.kept (imax 0 (IntKind.i64.wrap ((e103.kept.length : Int) - e103.config.most))) (e103.kept.length : Int)) (SenderMessage.mk e103.message.id e103.message.key e103.message.base e103.message.parts e103.message.there e103.message.due) e103.next)))))))

noncomputable def p_sender_message_lacks {σ : Type} (m_ : SenderMessage) (Y : σ → (Int × ByteArray) → Option (σ × Bool)) (y0 : σ) : Option σ :=
  (Option.bind (iter (σ := Int × σ) (ρ := σ ⊕ σ) (fun s191 => (bif (decide (s191.1 < (m_.parts.length : Int))) then (Option.bind (idx m_.parts s191.1) fun x338 => (Option.bind ((Option.bind (idx m_.there s191.1) fun x371 => (bif (!x371) then (Option.bind (Y s191.2 (s191.1, x338)) fun z377 => some ((!z377.2), z377.1)) else some (false, s191.2))) : Option (Bool × σ)) fun e368 => (bif e368.1 then (inrr (some e368.2)) else some (.inl ((IntKind.i64.wrap (s191.1 + 1)), e368.2))))) else some (.inr (.inl s191.2)))) (0, y0)) fun | .inl e284 => some e284 | .inr w => some w)

noncomputable def p_sender_Sender_Step (s_ : SenderSender) (now : Int) : Option ((List GramGram) × SenderSender) :=
  (bif (s_.current.k == s_.acked.k) then some (([] : List GramGram), (SenderSender.mk s_.config s_.current s_.acked s_.kept (SenderMessage.mk 0 0 0 ([] : List ByteArray) ([] : List Bool) 0) s_.next)) else (Option.bind ((bif (s_.message.id == 0) then some true else (bif (s_.message.key != s_.current.k) then some true else some (s_.message.base != s_.acked.k))) : Option Bool) fun e16 => (Option.bind ((bif e16 then (Option.bind (p_sender_Sender_begin s_ now) fun r75 => some r75) else some s_) : Option SenderSender) fun e71 => (bif (decide (now < e71.message.due)) then some (([] : List GramGram), (SenderSender.mk (SenderConfig.mk e71.config.part e71.config.every e71.config.most) (SnapSnap.mk e71.current.k e71.current.w e71.current.h e71.current.x e71.current.y e71.current.title e71.current.rows e71.current.len e71.current.chain e71.current.begun) (SnapSnap.mk e71.acked.k e71.acked.w e71.acked.h e71.acked.x e71.acked.y e71.acked.title e71.acked.rows e71.acked.len e71.acked.chain e71.acked.begun) e71.kept (SenderMessage.mk e71.message.id e71.message.key e71.message.base e71.message.parts e71.message.there e71.message.due) e71.next)) else (Option.bind (p_sender_message_lacks (SenderMessage.mk e71.message.id e71.message.key e71.message.base e71.message.parts e71.message.there (IntKind.i64.wrap (now + e71.config.every))) (fun s151 x95 => (Option.bind (chk (apok s151.length ([(GramGram.mk 1 1 [e71.message.id, e71.message.key, e71.message.base, x95.1, (e71.message.parts.length : Int)] x95.2)]).length 56)) fun _ => some ((s151 ++ [(GramGram.mk 1 1 [e71.message.id, e71.message.key, e71.message.base, x95.1, (e71.message.parts.length : Int)] x95.2)]), true))) ([] : (List GramGram))) fun r177 => some (r177, (SenderSender.mk (SenderConfig.mk e71.config.part e71.config.every e71.config.most) (SnapSnap.mk e71.current.k e71.current.w e71.current.h e71.current.x e71.current.y e71.current.title e71.current.rows e71.current.len e71.current.chain e71.current.begun) (SnapSnap.mk e71.acked.k e71.acked.w e71.acked.h e71.acked.x e71.acked.y e71.acked.title e71.acked.rows e71.acked.len e71.acked.chain e71.acked.begun) e71.kept (SenderMessage.mk e71.message.id e71.message.key e71.message.base e71.message.parts e71.message.there (IntKind.i64.wrap (now + e71.config.every))) e71.next)))))))

noncomputable def p_sender_Sender_mark (s_ : SenderSender) (have_ : ByteArray) : Option SenderSender :=
  (Option.bind (iter (σ := SenderSender × Int) (ρ := SenderSender) (fun s126 => (bif (decide (s126.2 < (imin (s_.message.there.length : Int) (IntKind.i64.wrap (8 * (have_.size : Int)))))) then (Option.bind ((Option.bind (sidx have_ (IntKind.i64.wrap (s126.2.tdiv 8))) fun b228 => (Option.bind (chk (shk (s126.2.tmod 8))) fun _ => (bif ((Go.bits .and .u8 (b228.fdiv (2 ^ (min (s126.2.tmod 8).toNat 8))) 1) == 1) then (Option.bind (idx s126.1.message.there s126.2) fun x234 => some (SenderSender.mk (SenderConfig.mk s126.1.config.part s126.1.config.every s126.1.config.most) (SnapSnap.mk s126.1.current.k s126.1.current.w s126.1.current.h s126.1.current.x s126.1.current.y s126.1.current.title s126.1.current.rows s126.1.current.len s126.1.current.chain s126.1.current.begun) (SnapSnap.mk s126.1.acked.k s126.1.acked.w s126.1.acked.h s126.1.acked.x s126.1.acked.y s126.1.acked.title s126.1.acked.rows s126.1.acked.len s126.1.acked.chain s126.1.acked.begun) s126.1.kept (SenderMessage.mk s126.1.message.id s126.1.message.key s126.1.message.base s126.1.message.parts (s126.1.message.there.set s126.2.toNat true) s126.1.message.due) s126.1.next)) else some (SenderSender.mk (SenderConfig.mk s126.1.config.part s126.1.config.every s126.1.config.most) (SnapSnap.mk s126.1.current.k s126.1.current.w s126.1.current.h s126.1.current.x s126.1.current.y s126.1.current.title s126.1.current.rows s126.1.current.len s126.1.current.chain s126.1.current.begun) (SnapSnap.mk s126.1.acked.k s126.1.acked.w s126.1.acked.h s126.1.acked.x s126.1.acked.y s126.1.acked.title s126.1.acked.rows s126.1.acked.len s126.1.acked.chain s126.1.acked.begun) s126.1.kept (SenderMessage.mk s126.1.message.id s126.1.message.key s126.1.message.base s126.1.message.parts s126.1.message.there s126.1.message.due) s126.1.next)))) : Option SenderSender) fun e225 => some (.inl ((SenderSender.mk (SenderConfig.mk e225.config.part e225.config.every e225.config.most) (SnapSnap.mk e225.current.k e225.current.w e225.current.h e225.current.x e225.current.y e225.current.title e225.current.rows e225.current.len e225.current.chain e225.current.begun) (SnapSnap.mk e225.acked.k e225.acked.w e225.acked.h e225.acked.x e225.acked.y e225.acked.title e225.acked.rows e225.acked.len e225.acked.chain e225.acked.begun) e225.kept (SenderMessage.mk e225.message.id e225.message.key e225.message.base e225.message.parts e225.message.there e225.message.due) e225.next), (IntKind.i64.wrap (s126.2 + 1))))) else some (.inr (SenderSender.mk (SenderConfig.mk s126.1.config.part s126.1.config.every s126.1.config.most) (SnapSnap.mk s126.1.current.k s126.1.current.w s126.1.current.h s126.1.current.x s126.1.current.y s126.1.current.title s126.1.current.rows s126.1.current.len s126.1.current.chain s126.1.current.begun) (SnapSnap.mk s126.1.acked.k s126.1.acked.w s126.1.acked.h s126.1.acked.x s126.1.acked.y s126.1.acked.title s126.1.acked.rows s126.1.acked.len s126.1.acked.chain s126.1.acked.begun) s126.1.kept (SenderMessage.mk s126.1.message.id s126.1.message.key s126.1.message.base s126.1.message.parts s126.1.message.there s126.1.message.due) s126.1.next)))) (s_, 0)) fun e184 => some (SenderSender.mk (SenderConfig.mk e184.config.part e184.config.every e184.config.most) (SnapSnap.mk e184.current.k e184.current.w e184.current.h e184.current.x e184.current.y e184.current.title e184.current.rows e184.current.len e184.current.chain e184.current.begun) (SnapSnap.mk e184.acked.k e184.acked.w e184.acked.h e184.acked.x e184.acked.y e184.acked.title e184.acked.rows e184.acked.len e184.acked.chain e184.acked.begun) e184.kept (SenderMessage.mk e184.message.id e184.message.key e184.message.base e184.message.parts e184.message.there e184.message.due) e184.next))

noncomputable def p_sender_Sender_Ack_1_v2 (x_ : SnapSnap) (x1 : Int) : Option Bool :=
  some (x_.k == x1)

noncomputable def p_slices_IndexFunc_snap_Snap_Sender_Ack_1_v2 (s_ : List SnapSnap) (f_0 : Int) : Option Int :=
  (Option.bind (iter (σ := Int) (ρ := Unit ⊕ Int) (fun s76 => (bif (decide (s76 < (s_.length : Int))) then (Option.bind (idx s_ s76) fun x140 => (Option.bind (p_sender_Sender_Ack_1_v2 x140 f_0) fun r153 => (bif r153 then (inrr (some s76)) else some (.inl (IntKind.i64.wrap (s76 + 1)))))) else some (.inr (.inl ())))) 0) fun | .inl e113 => some (-1) | .inr w => some w)

noncomputable def p_sender_Sender_Ack (s_ : SenderSender) (k : Int) (id : Int) (have_ : ByteArray) : Option (Bool × SenderSender) :=
  (Option.bind ((bif (id == s_.message.id) then some (decide (id > 0)) else some false) : Option Bool) fun e5 => (Option.bind ((bif e5 then (Option.bind (p_sender_Sender_mark s_ have_) fun r43 => some r43) else some s_) : Option SenderSender) fun e39 => (Option.bind ((bif (decide (k ≤ e39.acked.k)) then some true else some (decide (k > e39.current.k))) : Option Bool) fun e58 => (bif e58 then some (false, (SenderSender.mk (SenderConfig.mk e39.config.part e39.config.every e39.config.most) (SnapSnap.mk e39.current.k e39.current.w e39.current.h e39.current.x e39.current.y e39.current.title e39.current.rows e39.current.len e39.current.chain e39.current.begun) (SnapSnap.mk e39.acked.k e39.acked.w e39.acked.h e39.acked.x e39.acked.y e39.acked.title e39.acked.rows e39.acked.len e39.acked.chain e39.acked.begun) e39.kept (SenderMessage.mk e39.message.id e39.message.key e39.message.base e39.message.parts e39.message.there e39.message.due) e39.next)) else (Option.bind (p_slices_IndexFunc_snap_Snap_Sender_Ack_1_v2 e39.kept k) fun r65 => (bif (decide (r65 < 0)) then some (false, (SenderSender.mk (SenderConfig.mk e39.config.part e39.config.every e39.config.most) (SnapSnap.mk e39.current.k e39.current.w e39.current.h e39.current.x e39.current.y e39.current.title e39.current.rows e39.current.len e39.current.chain e39.current.begun) (SnapSnap.mk 0 0 0 0 0 (ByteArray.mk #[]) ([] : List RowRow) 0 0 ([] : List RowGlyph)) e39.kept (SenderMessage.mk e39.message.id e39.message.key e39.message.base e39.message.parts e39.message.there e39.message.due) e39.next)) else (Option.bind (idx e39.kept r65) fun x72 => (Option.bind (chk (cutok (IntKind.i64.wrap (r65 + 1)) (e39.kept.length : Int) e39.kept.length)) fun _ => (Option.bind (p_slices_Clone_snap_Snap (cut e39.kept (IntKind.i64.wrap (r65 + 1)) (e39.kept.length : Int))) fun r90 => some (true, (SenderSender.mk (SenderConfig.mk e39.config.part e39.config.every e39.config.most) (SnapSnap.mk e39.current.k e39.current.w e39.current.h e39.current.x e39.current.y e39.current.title e39.current.rows e39.current.len e39.current.chain e39.current.begun) x72 r90 (SenderMessage.mk e39.message.id e39.message.key e39.message.base e39.message.parts e39.message.there e39.message.due) e39.next)))))))))))

noncomputable def p_sender_Sender_Lacks (s_ : SenderSender) : Option (List Int) :=
  (Option.bind (p_sender_message_lacks s_.message (fun s29 x2 => (Option.bind (chk (apok s29.length [x2.1].length 8)) fun _ => some ((s29 ++ [x2.1]), true))) ([] : (List Int))) fun r41 => some r41)

noncomputable def p_sender_Sender_Acked (s_ : SenderSender) : Option Int :=
  some s_.acked.k

noncomputable def p_sender_Sender_Kept (s_ : SenderSender) : Option (List Int) :=
  (Option.bind (iter (σ := Int × (List Int)) (ρ := (List Int)) (fun s106 => (bif (decide (s106.1 < (s_.kept.length : Int))) then (Option.bind (idx s_.kept s106.1) fun x185 => (Option.bind (chk (apok s106.2.length [x185.k].length 8)) fun _ => some (.inl ((IntKind.i64.wrap (s106.1 + 1)), (s106.2 ++ [x185.k]))))) else some (.inr s106.2))) (0, [])) fun e155 => some e155)

end Go.Tw.X

set_option linter.unusedVariables false
set_option linter.unusedSimpArgs false
set_option maxRecDepth 10000
namespace Go.Tw.X
open Go Go.Tw

noncomputable def p_law01_Cut (s_ : ByteArray) (n_ : Int) : Option ByteArray :=
  (bif (decide ((s_.size : Int) > n_)) then (Option.bind (chk (cutok 0 n_ s_.size)) fun _ => some (scut s_ 0 n_)) else some s_)

noncomputable def p_law01_Same (a : List Int) (b : List Int) : Option Bool :=
  (bif ((a.length : Int) != (b.length : Int)) then some false else (Option.bind (iter (σ := Int) (ρ := Unit ⊕ Bool) (fun s238 => (bif (decide (s238 < (a.length : Int))) then (Option.bind (idx a s238) fun x464 => (Option.bind (idx b s238) fun x471 => (bif (x464 != x471) then (inrr (some false)) else some (.inl (IntKind.i64.wrap (s238 + 1)))))) else some (.inr (.inl ())))) 0) fun | .inl e355 => some true | .inr w => some w))
end Go.Tw.X

set_option linter.unusedVariables false
set_option linter.unusedSimpArgs false
set_option maxRecDepth 10000
namespace Go.Tw.X
open Go Go.Tw
noncomputable def p_law09_Any (l : List RowCell) (wrapped : Bool) : Option RowRow :=
  (Option.bind (chk (cutok 0 (imin (l.length : Int) 40) l.length)) fun _ => (Option.bind (chk (apok ([] : List RowCell).length (cut l 0 (imin (l.length : Int) 40)).length 24)) fun _ => some (RowRow.mk (([] : List RowCell) ++ (cut l 0 (imin (l.length : Int) 40))) wrapped)))

end Go.Tw.X

set_option linter.unusedVariables false
set_option linter.unusedSimpArgs false
set_option maxRecDepth 10000
namespace Go.Tw.X
open Go Go.Tw

noncomputable def p_law16_Cut (s_ : SnapSnap) : Option SnapSnap :=
  (Option.bind (p_law01_Cut s_.title 210) fun r3 => (Option.bind (chk (cutok 0 (imin (s_.begun.length : Int) 30) s_.begun.length)) fun _ => (Option.bind (chk (apok ([] : List RowGlyph).length (cut s_.begun 0 (imin (s_.begun.length : Int) 30)).length 16)) fun _ => (Option.bind (iter (σ := (List RowRow) × Int) (ρ := (List RowRow)) (fun s303 => (Option.bind ((bif (decide (s303.2 < (s_.rows.length : Int))) then some (decide (s303.2 < 8)) else some false) : Option Bool) fun e451 => (bif e451 then (Option.bind (idx s_.rows s303.2) fun x550 => (Option.bind (idx s_.rows s303.2) fun x560 => (Option.bind (p_law09_Any x550.cells x560.wrapped) fun r567 => (Option.bind (chk (apok s303.1.length [r567].length 32)) fun _ => some (.inl ((s303.1 ++ [r567]), (IntKind.i64.wrap (s303.2 + 1)))))))) else some (.inr s303.1)))) ([], 0)) fun e441 => some (SnapSnap.mk s_.k s_.w s_.h s_.x s_.y r3 e441 s_.len s_.chain (([] : List RowGlyph) ++ (cut s_.begun 0 (imin (s_.begun.length : Int) 30))))))))

end Go.Tw.X

set_option linter.unusedVariables false
set_option linter.unusedSimpArgs false
set_option maxRecDepth 10000
namespace Go.Tw.X
open Go Go.Tw
noncomputable def p_law19_awake : Option Bool :=
  (Option.bind (p_sender_New (SenderConfig.mk 100 5 3)) fun r1 => (Option.bind (p_row_Blank 1 0) fun r50 => (Option.bind (p_sender_Sender_Note r1 (SnapSnap.mk 1 1 1 0 0 (ByteArray.mk #[]) [r50] 0 0 ([] : List RowGlyph))) fun r60 => (bif (!r60.1) then some false else (Option.bind (p_sender_Sender_Step r60.2 0) fun r76 => (Option.bind ((bif ((r76.1.length : Int) == 1) then (Option.bind (idx r76.1 0) fun x236 => (bif (x236.kind == 1) then (Option.bind (idx r76.1 0) fun x245 => (Option.bind (p_law01_Same x245.nums [1, 1, 0, 0, 1]) fun r253 => (bif r253 then (Option.bind (p_sender_Sender_Step r76.2 4) fun r257 => (bif ((r257.1.length : Int) == 0) then (Option.bind (p_sender_Sender_Step r257.2 5) fun r277 => some (((r277.1.length : Int) == 1), r277.2)) else some (false, r257.2))) else some (false, r76.2)))) else some (false, r76.2))) else some (false, r76.2)) : Option (Bool × SenderSender)) fun e232 => some e232.1))))))

noncomputable def p_law19_SenderRests (t_ : SnapSnap) (part : Int) (order : List Int) : Option Bool :=
  (Option.bind p_law19_awake fun r2 => (bif (!r2) then some false else (Option.bind (p_law16_Cut t_) fun r7 => (Option.bind (p_sender_New (SenderConfig.mk (IntKind.i64.wrap (4 + (Go.bits .and .i64 part 31))) 1 2)) fun r16 => (Option.bind (p_sender_Sender_Note r16 r7) fun r41 => (bif (!r41.1) then (Option.bind ((Option.bind (p_snap_Snap_Check r7) fun r85 => (bif (r85 != 0) then some true else some (decide (r7.k ≤ 0)))) : Option Bool) fun e82 => some e82) else (Option.bind (p_sender_Sender_Step r41.2 0) fun r89 => (bif ((r89.1.length : Int) == 0) then some false else (Option.bind (chk (mkok (r89.1.length : Int) 1)) fun _ => (Option.bind (iter (σ := SenderSender × (List Bool) × Int) (ρ := SenderSender ⊕ Bool) (fun s1105 => (Option.bind ((bif (decide (s1105.2.2 ≤ (order.length : Int))) then some (decide (s1105.2.2 ≤ 20)) else some false) : Option Bool) fun e1598 => (bif e1598 then (Option.bind (idx order (IntKind.i64.wrap (s1105.2.2 - 1))) fun x1831 => (Option.bind (chk (decide ((r89.1.length : Int) ≠ 0))) fun _ => (Option.bind (chk (mkok (IntKind.i64.wrap ((IntKind.i64.wrap ((r89.1.length : Int) + 7)).tdiv 8)) 1)) fun _ => (Option.bind (chk (shk (((Go.bits .and .i64 x1831 65535).tmod (r89.1.length : Int)).tmod 8))) fun _ => (Option.bind (idx (List.replicate (IntKind.i64.wrap ((IntKind.i64.wrap ((r89.1.length : Int) + 7)).tdiv 8)).toNat (0 : Int)) (IntKind.i64.wrap (((Go.bits .and .i64 x1831 65535).tmod (r89.1.length : Int)).tdiv 8))) fun x1846 => (Option.bind (p_sender_Sender_Ack (SenderSender.mk (SenderConfig.mk s1105.1.config.part s1105.1.config.every s1105.1.config.most) (SnapSnap.mk s1105.1.current.k s1105.1.current.w s1105.1.current.h s1105.1.current.x s1105.1.current.y s1105.1.current.title s1105.1.current.rows s1105.1.current.len s1105.1.current.chain s1105.1.current.begun) (SnapSnap.mk s1105.1.acked.k s1105.1.acked.w s1105.1.acked.h s1105.1.acked.x s1105.1.acked.y s1105.1.acked.title s1105.1.acked.rows s1105.1.acked.len s1105.1.acked.chain s1105.1.acked.begun) s1105.1.kept (SenderMessage.mk s1105.1.message.id s1105.1.message.key s1105.1.message.base s1105.1.message.parts s1105.1.message.there s1105.1.message.due) s1105.1.next) 0 1 (bstr ((List.replicate (IntKind.i64.wrap ((IntKind.i64.wrap ((r89.1.length : Int) + 7)).tdiv 8)).toNat (0 : Int)).set ((IntKind.i64.wrap (((Go.bits .and .i64 x1831 65535).tmod (r89.1.length : Int)).tdiv 8)).toNat) (IntKind.u8.wrap (1 * 2 ^ (min (((Go.bits .and .i64 x1831 65535).tmod (r89.1.length : Int)).tmod 8).toNat 8)))))) fun r1850 => (bif r1850.1 then (inrr (some false)) else (Option.bind (idx s1105.2.1 ((Go.bits .and .i64 x1831 65535).tmod (r89.1.length : Int))) fun x1870 => (Option.bind (iter (σ := Int × Int) (ρ := Int) (fun s1918 => (bif (decide (s1918.2 < ((s1105.2.1.set (((Go.bits .and .i64 x1831 65535).tmod (r89.1.length : Int)).toNat) true).length : Int))) then (Option.bind ((Option.bind (idx (s1105.2.1.set (((Go.bits .and .i64 x1831 65535).tmod (r89.1.length : Int)).toNat) true) s1918.2) fun x1959 => (bif (!x1959) then some (IntKind.i64.wrap (s1918.1 + 1)) else some s1918.1)) : Option Int) fun e1956 => some (.inl (e1956, (IntKind.i64.wrap (s1918.2 + 1))))) else some (.inr s1918.1))) (0, 0)) fun e1938 => (Option.bind ((Option.bind (p_sender_Sender_Step r1850.2 s1105.2.2) fun r2033 => (bif ((r2033.1.length : Int) != e1938) then some (true, r2033.2) else (Option.bind (p_sender_Sender_Lacks r2033.2) fun r2053 => some (((r2053.length : Int) != e1938), r2033.2)))) : Option (Bool × SenderSender)) fun e2030 => (bif e2030.1 then (inrr (some false)) else some (.inl ((SenderSender.mk (SenderConfig.mk e2030.2.config.part e2030.2.config.every e2030.2.config.most) (SnapSnap.mk e2030.2.current.k e2030.2.current.w e2030.2.current.h e2030.2.current.x e2030.2.current.y e2030.2.current.title e2030.2.current.rows e2030.2.current.len e2030.2.current.chain e2030.2.current.begun) (SnapSnap.mk e2030.2.acked.k e2030.2.acked.w e2030.2.acked.h e2030.2.acked.x e2030.2.acked.y e2030.2.acked.title e2030.2.acked.rows e2030.2.acked.len e2030.2.acked.chain e2030.2.acked.begun) e2030.2.kept (SenderMessage.mk e2030.2.message.id e2030.2.message.key e2030.2.message.base e2030.2.message.parts e2030.2.message.there e2030.2.message.due) e2030.2.next), (s1105.2.1.set (((Go.bits .and .i64 x1831 65535).tmod (r89.1.length : Int)).toNat) true), (IntKind.i64.wrap (s1105.2.2 + 1))))))))))))))) else some (.inr (.inl (SenderSender.mk (SenderConfig.mk s1105.1.config.part s1105.1.config.every s1105.1.config.most) (SnapSnap.mk s1105.1.current.k s1105.1.current.w s1105.1.current.h s1105.1.current.x s1105.1.current.y s1105.1.current.title s1105.1.current.rows s1105.1.current.len s1105.1.current.chain s1105.1.current.begun) (SnapSnap.mk s1105.1.acked.k s1105.1.acked.w s1105.1.acked.h s1105.1.acked.x s1105.1.acked.y s1105.1.acked.title s1105.1.acked.rows s1105.1.acked.len s1105.1.acked.chain s1105.1.acked.begun) s1105.1.kept (SenderMessage.mk s1105.1.message.id s1105.1.message.key s1105.1.message.base s1105.1.message.parts s1105.1.message.there s1105.1.message.due) s1105.1.next)))))) (r89.2, (List.replicate (r89.1.length : Int).toNat false), 1)) fun | .inl e1587 => (Option.bind ((Option.bind (p_sender_Sender_Ack (SenderSender.mk (SenderConfig.mk e1587.config.part e1587.config.every e1587.config.most) (SnapSnap.mk e1587.current.k e1587.current.w e1587.current.h e1587.current.x e1587.current.y e1587.current.title e1587.current.rows e1587.current.len e1587.current.chain e1587.current.begun) (SnapSnap.mk e1587.acked.k e1587.acked.w e1587.acked.h e1587.acked.x e1587.acked.y e1587.acked.title e1587.acked.rows e1587.acked.len e1587.acked.chain e1587.acked.begun) e1587.kept (SenderMessage.mk e1587.message.id e1587.message.key e1587.message.base e1587.message.parts e1587.message.there e1587.message.due) e1587.next) r7.k 1 (ByteArray.mk #[])) fun r2319 => (bif r2319.1 then (Option.bind (p_sender_Sender_Step r2319.2 99) fun r2336 => (bif ((r2336.1.length : Int) == 0) then (Option.bind (p_sender_Sender_Acked r2336.2) fun r2356 => (bif (r2356 == r7.k) then (Option.bind (p_sender_Sender_Kept r2336.2) fun r2360 => some (((r2360.length : Int) == 0), r2336.2)) else some (false, r2336.2))) else some (false, r2336.2))) else some (false, r2319.2))) : Option (Bool × SenderSender)) fun e2269 => some e2269.1) | .inr w => some w))))))))))

end Go.Tw.X

import Derived.Test.YtbjchngfnpgnfaaGreatDoorFw2
set_option linter.unusedVariables false
set_option linter.unusedSimpArgs false
set_option maxRecDepth 10000
namespace Go.Tw.X
open Go Go.Tw
structure NumOut where
  b : List Int
  deriving DecidableEq, Inhabited

noncomputable def p_num_digits (n_ : Int) : Option Int :=
  some n_

noncomputable def p_num_clip (n_ : Int) : Option Int :=
  some (imax 0 (imin n_ 4611686018427387904))

noncomputable def p_num_digits_1 {σ : Type} (Y : σ → Int → Option (σ × Bool)) (y0 : σ) (x1 : Int) : Option (σ × Int) :=
  (Option.bind (p_num_clip x1) fun r1 => (Option.bind (iter (σ := Int × σ) (ρ := (Int × σ) ⊕ (σ × Int)) (fun s37 => (bif (decide (s37.1 ≥ 128)) then (Option.bind (Y s37.2 (Go.bits .or .u8 (Go.bits .and .u8 (IntKind.u8.wrap s37.1) 127) 128)) fun z68 => (bif (!z68.2) then (inrr (some (z68.1, s37.1))) else some (.inl ((s37.1.fdiv (2 ^ (min 7 64))), z68.1)))) else some (.inr (.inl (s37.1, s37.2))))) (r1, y0)) fun | .inl e53 => (Option.bind (Y e53.2 (IntKind.u8.wrap e53.1)) fun z75 => some (z75.1, e53.1)) | .inr w => some w))

noncomputable def p_num_Out_Num (o : NumOut) (l : List Int) : Option NumOut :=
  (Option.bind (iter (σ := NumOut × Int) (ρ := NumOut) (fun s348 => (bif (decide (s348.2 < (l.length : Int))) then (Option.bind (idx l s348.2) fun x608 => (Option.bind (p_num_digits x608) fun r615 => (Option.bind (p_num_digits_1 (fun s661 x619 => (Option.bind (chk (apok s661.b.length [x619].length 1)) fun _ => some ((NumOut.mk (s661.b ++ [x619])), true))) (s348.1 : NumOut) r615) fun r680 => some (.inl (r680.1, (IntKind.i64.wrap (s348.2 + 1))))))) else some (.inr s348.1))) (o, 0)) fun e518 => some e518)

noncomputable def p_num_Out_Raw (o : NumOut) (l : List ByteArray) : Option NumOut :=
  (Option.bind (iter (σ := NumOut × Int) (ρ := NumOut) (fun s68 => (bif (decide (s68.2 < (l.length : Int))) then (Option.bind (idx l s68.2) fun x120 => (Option.bind (chk (apok s68.1.b.length x120.size 1)) fun _ => some (.inl ((NumOut.mk (s68.1.b ++ sbs x120)), (IntKind.i64.wrap (s68.2 + 1)))))) else some (.inr s68.1))) (o, 0)) fun e99 => some e99)

noncomputable def p_num_Out_Text (o : NumOut) (l : List ByteArray) : Option NumOut :=
  (Option.bind (iter (σ := NumOut × Int) (ρ := NumOut) (fun s120 => (bif (decide (s120.2 < (l.length : Int))) then (Option.bind (idx l s120.2) fun x211 => (Option.bind (p_num_Out_Num s120.1 [(x211.size : Int)]) fun r221 => (Option.bind (p_num_Out_Raw r221 [x211]) fun r230 => some (.inl (r230, (IntKind.i64.wrap (s120.2 + 1))))))) else some (.inr s120.1))) (o, 0)) fun e177 => some e177)

noncomputable def p_num_Out_Bytes (o : NumOut) : Option ByteArray :=
  some (bstr o.b)

end Go.Tw.X

set_option linter.unusedVariables false
set_option linter.unusedSimpArgs false
set_option maxRecDepth 10000
namespace Go.Tw.X
open Go Go.Tw
noncomputable def p_bits_Mul64 (x_ : Int) (y : Int) : Option (Int × Int) :=
  some ((IntKind.u64.wrap ((IntKind.u64.wrap ((IntKind.u64.wrap ((x_.fdiv (2 ^ (min 32 64))) * (y.fdiv (2 ^ (min 32 64))))) + ((IntKind.u64.wrap ((IntKind.u64.wrap ((x_.fdiv (2 ^ (min 32 64))) * (Go.bits .and .u64 y 4294967295))) + ((IntKind.u64.wrap ((Go.bits .and .u64 x_ 4294967295) * (Go.bits .and .u64 y 4294967295))).fdiv (2 ^ (min 32 64))))).fdiv (2 ^ (min 32 64))))) + ((IntKind.u64.wrap ((Go.bits .and .u64 (IntKind.u64.wrap ((IntKind.u64.wrap ((x_.fdiv (2 ^ (min 32 64))) * (Go.bits .and .u64 y 4294967295))) + ((IntKind.u64.wrap ((Go.bits .and .u64 x_ 4294967295) * (Go.bits .and .u64 y 4294967295))).fdiv (2 ^ (min 32 64))))) 4294967295) + (IntKind.u64.wrap ((Go.bits .and .u64 x_ 4294967295) * (y.fdiv (2 ^ (min 32 64))))))).fdiv (2 ^ (min 32 64))))), (IntKind.u64.wrap (x_ * y)))

noncomputable def p_bits_Mul (x_ : Int) (y : Int) : Option (Int × Int) :=
  (Option.bind (p_bits_Mul64 x_ y) fun r1 => some (r1.1, r1.2))

noncomputable def p_slices_Clone_bool (s_ : List Bool) : Option (List Bool) :=
  (Option.bind (chk (apok ([] : List Bool).length s_.length 1)) fun _ => some (([] : List Bool) ++ s_))
end Go.Tw.X

set_option linter.unusedVariables false
set_option linter.unusedSimpArgs false
set_option maxRecDepth 10000
namespace Go.Tw.X
open Go Go.Tw
structure RowCell where
  rune : Int
  style : Int
  part : Int
  deriving DecidableEq, Inhabited

structure RowRow where
  cells : List RowCell
  wrapped : Bool
  deriving DecidableEq, Inhabited

structure RowGlyph where
  rune : Int
  style : Int
  deriving DecidableEq, Inhabited

def wfRowCell (x : RowCell) : Prop := (inK .i32) x.rune ∧ (inK .i64) x.style ∧ (inK .i64) x.part ∧ True
def wfRowRow (x : RowRow) : Prop := (fun xs : List RowCell => ∀ x ∈ xs, wfRowCell x) x.cells ∧ (fun _ => True) x.wrapped ∧ True
def wfRowGlyph (x : RowGlyph) : Prop := (inK .i32) x.rune ∧ (inK .i64) x.style ∧ True
noncomputable def p_row_clip (n_ : Int) (lo : Int) (hi : Int) : Option Int :=
  some (imax lo (imin n_ hi))

noncomputable def p_row_blank (style : Int) : Option RowCell :=
  some (RowCell.mk 32 style 0)

noncomputable def p_slices_Repeat_row_Cell (x_ : List RowCell) (count : Int) : Option (List RowCell) :=
  (bif (decide (count < 0)) then none else (Option.bind (p_bits_Mul (IntKind.u64.wrap (x_.length : Int)) (IntKind.u64.wrap count)) fun r3 => (Option.bind ((bif (decide (r3.1 > 0)) then some true else some (decide (r3.2 > 9223372036854775807))) : Option Bool) fun e9 => (bif e9 then none else (Option.bind (chk (mkok (IntKind.i64.wrap r3.2) 24)) fun _ => (Option.bind (iter (σ := (List RowCell) × Int) (ρ := (List RowCell)) (fun s67 => (bif (decide (s67.2 < (s67.1.length : Int))) then (Option.bind (chk (cutok s67.2 (s67.1.length : Int) s67.1.length)) fun _ => (Option.bind (chk (cutok 0 s67.2 s67.1.length)) fun _ => some (.inl ((cpys s67.1 s67.2.toNat), (IntKind.i64.wrap (s67.2 + ((Nat.min s67.2.toNat (s67.1.length - s67.2.toNat) : Nat) : Int))))))) else some (.inr s67.1))) ((cpy (List.replicate (IntKind.i64.wrap r3.2).toNat (RowCell.mk 0 0 0)) x_), ((Nat.min x_.length (List.replicate (IntKind.i64.wrap r3.2).toNat (RowCell.mk 0 0 0)).length : Nat) : Int))) fun e88 => some e88))))))

noncomputable def p_row_blanks (n_ : Int) (style : Int) : Option (List RowCell) :=
  (Option.bind (p_row_blank style) fun r1 => (Option.bind (p_slices_Repeat_row_Cell [r1] (imax 0 n_)) fun r7 => some r7))

noncomputable def p_row_Blank (w : Int) (style : Int) : Option RowRow :=
  (Option.bind (p_row_clip w 0 1000) fun r2 => (Option.bind (p_row_blanks r2 style) fun r5 => some (RowRow.mk r5 false)))

noncomputable def p_slices_Clone_row_Cell (s_ : List RowCell) : Option (List RowCell) :=
  (Option.bind (chk (apok ([] : List RowCell).length s_.length 24)) fun _ => some (([] : List RowCell) ++ s_))

noncomputable def p_slices_Equal_row_Cell (s1_ : List RowCell) (s2_ : List RowCell) : Option Bool :=
  (bif ((s1_.length : Int) != (s2_.length : Int)) then some false else (Option.bind (iter (σ := Int) (ρ := Unit ⊕ Bool) (fun s238 => (bif (decide (s238 < (s1_.length : Int))) then (Option.bind (idx s1_ s238) fun x464 => (Option.bind (idx s2_ s238) fun x471 => (bif (!((x464.rune == x471.rune) && ((x464.style == x471.style) && ((x464.part == x471.part) && true)))) then (inrr (some false)) else some (.inl (IntKind.i64.wrap (s238 + 1)))))) else some (.inr (.inl ())))) 0) fun | .inl e355 => some true | .inr w => some w))

noncomputable def p_row_Row_Same (r_ : RowRow) (q : RowRow) : Option Bool :=
  (Option.bind ((bif (r_.wrapped == q.wrapped) then (Option.bind (p_slices_Equal_row_Cell r_.cells q.cells) fun r16 => some r16) else some false) : Option Bool) fun e12 => some e12)

noncomputable def p_slices_Clone_row_Glyph (s_ : List RowGlyph) : Option (List RowGlyph) :=
  (Option.bind (chk (apok ([] : List RowGlyph).length s_.length 16)) fun _ => some (([] : List RowGlyph) ++ s_))

end Go.Tw.X

set_option linter.unusedVariables false
set_option linter.unusedSimpArgs false
set_option maxRecDepth 10000
namespace Go.Tw.X
open Go Go.Tw
noncomputable def p_book_Pack (l : List RowGlyph) : Option ByteArray :=
  (Option.bind (p_num_Out_Num (NumOut.mk ([] : List Int)) [(l.length : Int)]) fun r6 => (Option.bind (iter (σ := NumOut × Int) (ρ := NumOut) (fun s99 => (bif (decide (s99.2 < (l.length : Int))) then (Option.bind (idx l s99.2) fun x166 => (Option.bind (p_num_Out_Num s99.1 [(IntKind.i64.wrap x166.rune), x166.style]) fun r177 => some (.inl (r177, (IntKind.i64.wrap (s99.2 + 1)))))) else some (.inr s99.1))) (r6, 0)) fun e140 => (Option.bind (p_num_Out_Bytes e140) fun r183 => some r183)))

end Go.Tw.X

set_option linter.unusedVariables false
set_option linter.unusedSimpArgs false
set_option maxRecDepth 10000
namespace Go.Tw.X
open Go Go.Tw

def t_sum_half : List Int := [0, 498536548, 997073096, 651767980, 1994146192, 1802195444, 1303535960, 1342533948, 3988292384, 4027552580, 3604390888, 3412177804, 2607071920, 2262029012, 2685067896, 3183342108]
noncomputable def p_sum_step (x_ : Int) (b : Int) : Option Int :=
  (Option.bind (idx t_sum_half (Go.bits .and .u32 (Go.bits .xor .u32 x_ (IntKind.u32.wrap b)) 15)) fun x1 => (Option.bind (idx t_sum_half (Go.bits .and .u32 (Go.bits .xor .u32 ((Go.bits .xor .u32 x_ (IntKind.u32.wrap b)).fdiv (2 ^ (min 4 32))) x1) 15)) fun x5 => some (Go.bits .xor .u32 ((Go.bits .xor .u32 ((Go.bits .xor .u32 x_ (IntKind.u32.wrap b)).fdiv (2 ^ (min 4 32))) x1).fdiv (2 ^ (min 4 32))) x5)))

noncomputable def p_sum_Of (l : List ByteArray) : Option Int :=
  (Option.bind (iter (σ := Int × Int) (ρ := Int) (fun s323 => (bif (decide (s323.2 < (l.length : Int))) then (Option.bind (idx l s323.2) fun x570 => (Option.bind (iter (σ := Int × Int) (ρ := Int) (fun s611 => (bif (decide (s611.1 < (x570.size : Int))) then (Option.bind (sidx x570 s611.1) fun b642 => (Option.bind (p_sum_step s611.2 b642) fun r645 => some (.inl ((IntKind.i64.wrap (s611.1 + 1)), r645)))) else some (.inr s611.2))) (0, s323.1)) fun e627 => some (.inl (e627, (IntKind.i64.wrap (s323.2 + 1)))))) else some (.inr s323.1))) (4294967295, 0)) fun e483 => some (Go.bits .xor .u32 4294967295 e483))

end Go.Tw.X

set_option linter.unusedVariables false
set_option linter.unusedSimpArgs false
set_option maxRecDepth 10000
namespace Go.Tw.X
open Go Go.Tw
structure SnapSnap where
  k : Int
  w : Int
  h : Int
  x : Int
  y : Int
  title : ByteArray
  rows : List RowRow
  len : Int
  chain : Int
  begun : List RowGlyph
  deriving DecidableEq, Inhabited

def wfSnapSnap (x : SnapSnap) : Prop := (inK .i64) x.k ∧ (inK .i64) x.w ∧ (inK .i64) x.h ∧ (inK .i64) x.x ∧ (inK .i64) x.y ∧ (fun s : ByteArray => s.size ≤ maxLen) x.title ∧ (fun xs : List RowRow => ∀ x ∈ xs, wfRowRow x) x.rows ∧ (inK .i64) x.len ∧ (inK .i64) x.chain ∧ (fun xs : List RowGlyph => ∀ x ∈ xs, wfRowGlyph x) x.begun ∧ True
noncomputable def p_snap_Snap_empty (s_ : SnapSnap) : Option Bool :=
  (Option.bind ((bif (s_.k == 0) then (bif (s_.w == 0) then (bif (s_.h == 0) then (bif (s_.x == 0) then (bif (s_.y == 0) then (bif (s_.title.toList == (ByteArray.mk #[]).toList) then (bif ((s_.rows.length : Int) == 0) then (bif (s_.len == 0) then (bif (s_.chain == 0) then some ((s_.begun.length : Int) == 0) else some false) else some false) else some false) else some false) else some false) else some false) else some false) else some false) else some false) : Option Bool) fun e21 => some e21)

noncomputable def p_snap_within (n_ : Int) (lo : Int) (hi : Int) : Option Bool :=
  (Option.bind ((bif (decide (n_ ≥ lo)) then some (decide (n_ ≤ hi)) else some false) : Option Bool) fun e4 => some e4)

noncomputable def p_snap_Snap_sizes (s_ : SnapSnap) : Option Bool :=
  (Option.bind ((Option.bind (p_snap_within s_.k 1 1152921504606846976) fun r66 => (bif r66 then (Option.bind (p_snap_within s_.w 1 1000) fun r70 => (bif r70 then (Option.bind (p_snap_within s_.h 1 1000) fun r74 => (bif r74 then (Option.bind (p_snap_within s_.x 0 (IntKind.i64.wrap (s_.w - 1))) fun r78 => (bif r78 then (Option.bind (p_snap_within s_.y 0 (IntKind.i64.wrap (s_.h - 1))) fun r82 => (bif r82 then (bif ((s_.rows.length : Int) == s_.h) then (bif (decide ((s_.title.size : Int) ≤ 200)) then (Option.bind (p_snap_within s_.len 0 1152921504606846976) fun r88 => (bif r88 then (Option.bind (p_snap_within s_.chain 0 281474976710656) fun r92 => (bif r92 then some (decide ((s_.begun.length : Int) ≤ 1024)) else some false)) else some false)) else some false) else some false) else some false)) else some false)) else some false)) else some false)) else some false)) : Option Bool) fun e63 => some e63)

noncomputable def p_snap_shows (r_ : Int) (style : Int) : Option Bool :=
  (Option.bind ((Option.bind (p_snap_within (IntKind.i64.wrap r_) 0 1114111) fun r19 => (bif r19 then (Option.bind (p_snap_within style 0 647) fun r23 => some r23) else some false)) : Option Bool) fun e16 => some e16)

noncomputable def p_snap_Snap_Check_1 (g : RowGlyph) : Option Bool :=
  (Option.bind (p_snap_shows g.rune g.style) fun r2 => some (!r2))

noncomputable def p_slices_IndexFunc_row_Glyph_Snap_Check_1 (s_ : List RowGlyph) : Option Int :=
  (Option.bind (iter (σ := Int) (ρ := Unit ⊕ Int) (fun s52 => (bif (decide (s52 < (s_.length : Int))) then (Option.bind (idx s_ s52) fun x98 => (Option.bind (p_snap_Snap_Check_1 x98) fun r105 => (bif r105 then (inrr (some s52)) else some (.inl (IntKind.i64.wrap (s52 + 1)))))) else some (.inr (.inl ())))) 0) fun | .inl e77 => some (-1) | .inr w => some w)

noncomputable def p_slices_ContainsFunc_row_Glyph_Snap_Check_1 (s_ : List RowGlyph) : Option Bool :=
  (Option.bind (p_slices_IndexFunc_row_Glyph_Snap_Check_1 s_) fun r1 => some (decide (r1 ≥ 0)))

noncomputable def p_snap_cell (c : RowCell) : Option Bool :=
  (Option.bind ((Option.bind (p_snap_shows c.rune c.style) fun r20 => (bif r20 then (Option.bind (p_snap_within c.part 0 3) fun r24 => some r24) else some false)) : Option Bool) fun e17 => some e17)

noncomputable def p_snap_Snap_Check_2 (c : RowCell) : Option Bool :=
  (Option.bind (p_snap_cell c) fun r2 => some (!r2))

noncomputable def p_slices_IndexFunc_row_Cell_Snap_Check_2 (s_ : List RowCell) : Option Int :=
  (Option.bind (iter (σ := Int) (ρ := Unit ⊕ Int) (fun s52 => (bif (decide (s52 < (s_.length : Int))) then (Option.bind (idx s_ s52) fun x98 => (Option.bind (p_snap_Snap_Check_2 x98) fun r105 => (bif r105 then (inrr (some s52)) else some (.inl (IntKind.i64.wrap (s52 + 1)))))) else some (.inr (.inl ())))) 0) fun | .inl e77 => some (-1) | .inr w => some w)

noncomputable def p_slices_ContainsFunc_row_Cell_Snap_Check_2 (s_ : List RowCell) : Option Bool :=
  (Option.bind (p_slices_IndexFunc_row_Cell_Snap_Check_2 s_) fun r1 => some (decide (r1 ≥ 0)))

noncomputable def p_snap_Snap_Check (s_ : SnapSnap) : Option Int :=
  (Option.bind (p_snap_Snap_empty s_) fun r2 => (bif r2 then some 0 else (Option.bind ((Option.bind (p_snap_Snap_sizes s_) fun r25 => (bif (!r25) then some true else (Option.bind (p_slices_ContainsFunc_row_Glyph_Snap_Check_1 s_.begun) fun r29 => some r29))) : Option Bool) fun e22 => (bif e22 then some 1 else (Option.bind (iter (σ := Int) (ρ := Unit ⊕ Int) (fun s153 => (bif (decide (s153 < (s_.rows.length : Int))) then (Option.bind (idx s_.rows s153) fun x250 => (Option.bind ((bif ((x250.cells.length : Int) != s_.w) then some true else (Option.bind (p_slices_ContainsFunc_row_Cell_Snap_Check_2 x250.cells) fun r274 => some r274)) : Option Bool) fun e270 => (bif e270 then (inrr (some 1)) else some (.inl (IntKind.i64.wrap (s153 + 1)))))) else some (.inr (.inl ())))) 0) fun | .inl e212 => some 0 | .inr w => some w)))))

noncomputable def p_snap_bit (is : Bool) : Option Int :=
  (bif is then some 1 else some 0)

noncomputable def p_snap_runs (l : List RowCell) : Option (List RowCell) :=
  some l

noncomputable def p_snap_runs_1 {σ : Type} (Y : σ → (Int × RowCell) → Option (σ × Bool)) (y0 : σ) (x1 : List RowCell) : Option (σ × (List RowCell)) :=
  (Option.bind (iter (σ := (List RowCell) × σ) (ρ := ((List RowCell) × σ) ⊕ (σ × (List RowCell))) (fun s707 => (bif (decide ((s707.1.length : Int) > 0)) then (Option.bind (iter (σ := Int) (ρ := Int) (fun s1227 => (Option.bind ((bif (decide (s1227 < (s707.1.length : Int))) then (Option.bind (idx s707.1 s1227) fun x1379 => (Option.bind (idx s707.1 0) fun x1386 => some ((x1379.rune == x1386.rune) && ((x1379.style == x1386.style) && ((x1379.part == x1386.part) && true))))) else some false) : Option Bool) fun e1363 => (bif e1363 then some (.inl (IntKind.i64.wrap (s1227 + 1))) else some (.inr s1227)))) 1) fun e1307 => (Option.bind (idx s707.1 0) fun x1392 => (Option.bind (Y s707.2 (e1307, x1392)) fun z1399 => (bif (!z1399.2) then (inrr (some (z1399.1, s707.1))) else (Option.bind (chk (cutok e1307 (s707.1.length : Int) s707.1.length)) fun _ => some (.inl ((cut s707.1 e1307 (s707.1.length : Int)), z1399.1))))))) else some (.inr (.inl (s707.1, s707.2))))) (x1, y0)) fun | .inl e1058 => some (e1058.2, e1058.1) | .inr w => some w)

noncomputable def p_snap_PackRow (r_ : RowRow) : Option ByteArray :=
  (Option.bind (p_snap_bit r_.wrapped) fun r3 => (Option.bind (p_num_Out_Num (NumOut.mk ([] : List Int)) [r3]) fun r10 => (Option.bind (p_snap_runs r_.cells) fun r16 => (Option.bind (p_snap_runs_1 (fun s51 x21 => (Option.bind (p_num_Out_Num s51 [x21.1, (IntKind.i64.wrap x21.2.rune), x21.2.style, x21.2.part]) fun r58 => some (r58, true))) (r10 : NumOut) r16) fun r64 => (Option.bind (p_num_Out_Bytes r64.1) fun r76 => some r76)))))

noncomputable def p_snap_Snap_Pack (s_ : SnapSnap) : Option ByteArray :=
  (Option.bind ((Option.bind (p_snap_Snap_empty s_) fun r20 => (bif r20 then some true else (Option.bind (p_snap_Snap_Check s_) fun r24 => some (r24 != 0)))) : Option Bool) fun e17 => (bif e17 then some (ByteArray.mk #[]) else (Option.bind (p_num_Out_Num (NumOut.mk ([] : List Int)) [s_.k, s_.w, s_.h, s_.x, s_.y]) fun r160 => (Option.bind (p_num_Out_Text r160 [s_.title]) fun r166 => (Option.bind (p_num_Out_Num r166 [s_.len, s_.chain]) fun r172 => (Option.bind (p_book_Pack s_.begun) fun r178 => (Option.bind (p_num_Out_Raw r172 [r178]) fun r184 => (Option.bind (iter (σ := NumOut × Int) (ρ := NumOut) (fun s301 => (bif (decide (s301.2 < (s_.rows.length : Int))) then (Option.bind (idx s_.rows s301.2) fun x386 => (Option.bind (p_snap_PackRow x386) fun r397 => (Option.bind (p_num_Out_Raw s301.1 [r397]) fun r403 => some (.inl (r403, (IntKind.i64.wrap (s301.2 + 1))))))) else some (.inr s301.1))) (r184, 0)) fun e354 => (Option.bind (p_num_Out_Bytes e354) fun r409 => some r409)))))))))

noncomputable def p_snap_Snap_Clone (s_ : SnapSnap) : Option SnapSnap :=
  (Option.bind (iter (σ := (List RowRow) × Int) (ρ := (List RowRow)) (fun s190 => (bif (decide (s190.2 < (s_.rows.length : Int))) then (Option.bind (idx s_.rows s190.2) fun x329 => (Option.bind (p_slices_Clone_row_Cell x329.cells) fun r355 => (Option.bind (chk (apok s190.1.length [(RowRow.mk r355 x329.wrapped)].length 32)) fun _ => some (.inl ((s190.1 ++ [(RowRow.mk r355 x329.wrapped)]), (IntKind.i64.wrap (s190.2 + 1))))))) else some (.inr s190.1))) ([], 0)) fun e279 => (Option.bind (p_slices_Clone_row_Glyph s_.begun) fun r370 => some (SnapSnap.mk s_.k s_.w s_.h s_.x s_.y s_.title e279 s_.len s_.chain r370)))

noncomputable def p_snap_Snap_Sum (s_ : SnapSnap) : Option Int :=
  (Option.bind (p_snap_Snap_Pack s_) fun r2 => (Option.bind (p_sum_Of [r2]) fun r7 => some (IntKind.i64.wrap r7)))

noncomputable def p_slices_Clone_snap_Snap (s_ : List SnapSnap) : Option (List SnapSnap) :=
  (Option.bind (chk (apok ([] : List SnapSnap).length s_.length 120)) fun _ => some (([] : List SnapSnap) ++ s_))
end Go.Tw.X

set_option linter.unusedVariables false
set_option linter.unusedSimpArgs false
set_option maxRecDepth 10000
namespace Go.Tw.X
open Go Go.Tw
noncomputable def p_delta_may (s_ : SnapSnap) : Option Bool :=
  (Option.bind (p_snap_Snap_Pack s_) fun r2 => some (!(r2.toList == (ByteArray.mk #[]).toList)))

noncomputable def p_delta_changes (a : SnapSnap) (b : SnapSnap) : Option (SnapSnap × SnapSnap) :=
  some (b, a)

noncomputable def p_delta_rowOf (s_ : SnapSnap) (y : Int) : Option (RowRow × Bool) :=
  (Option.bind ((bif (decide (y < 0)) then some true else some (decide (y ≥ (s_.rows.length : Int)))) : Option Bool) fun e6 => (bif e6 then some ((RowRow.mk ([] : List RowCell) false), false) else (Option.bind (idx s_.rows y) fun x13 => some (x13, true))))

noncomputable def p_delta_changes_1 {σ : Type} (Y : σ → (Int × RowRow) → Option (σ × Bool)) (y0 : σ) (x1 : SnapSnap) (x2 : SnapSnap) : Option σ :=
  (Option.bind (iter (σ := Int × σ) (ρ := σ ⊕ σ) (fun s276 => (bif (decide (s276.1 < (x1.rows.length : Int))) then (Option.bind ((Option.bind (idx x1.rows s276.1) fun x510 => (Option.bind (p_delta_rowOf x2 s276.1) fun r521 => (Option.bind ((bif r521.2 then (Option.bind (p_row_Row_Same r521.1 x510) fun r541 => some r541) else some false) : Option Bool) fun e537 => (bif e537 then some (.inl s276.2) else (Option.bind (Y s276.2 (s276.1, x510)) fun z546 => (bif (!z546.2) then (inrs (inrr (some z546.1))) else some (.inl z546.1))))))) : Option (σ ⊕ ((Int × σ) ⊕ (σ ⊕ σ)))) fun | .inl e506 => some (.inl ((IntKind.i64.wrap (s276.1 + 1)), e506)) | .inr w => some w) else some (.inr (.inl s276.2)))) (0, y0)) fun | .inl e412 => some e412 | .inr w => some w)

noncomputable def p_delta_Changes (a : SnapSnap) (b : SnapSnap) : Option (List Int) :=
  (Option.bind (p_delta_changes a b) fun r4 => (Option.bind (p_delta_changes_1 (fun s44 x15 => (Option.bind (chk (apok s44.length [x15.1].length 8)) fun _ => some ((s44 ++ [x15.1]), true))) ([] : (List Int)) r4.1 r4.2) fun r57 => some r57))

noncomputable def p_delta_Diff (a : SnapSnap) (b : SnapSnap) : Option ByteArray :=
  (Option.bind ((Option.bind (p_snap_Snap_Check a) fun r21 => (bif (r21 != 0) then some true else (Option.bind (p_delta_may b) fun r25 => some (!r25)))) : Option Bool) fun e18 => (bif e18 then some (ByteArray.mk #[]) else (Option.bind (p_snap_Snap_Sum a) fun r208 => (Option.bind (p_num_Out_Num (NumOut.mk ([] : List Int)) [r208, b.k, b.w, b.h, b.x, b.y]) fun r221 => (Option.bind (p_num_Out_Text r221 [b.title]) fun r227 => (Option.bind (p_num_Out_Num r227 [b.len, b.chain]) fun r233 => (Option.bind (p_book_Pack b.begun) fun r239 => (Option.bind (p_num_Out_Raw r233 [r239]) fun r245 => (Option.bind (p_delta_Changes a b) fun r251 => (Option.bind (p_num_Out_Num r245 [(r251.length : Int)]) fun r261 => (Option.bind (p_delta_changes a b) fun r267 => (Option.bind (p_delta_changes_1 (fun s376 x278 => (Option.bind (p_num_Out_Num s376 [x278.1]) fun r405 => (Option.bind (p_snap_PackRow x278.2) fun r411 => (Option.bind (p_num_Out_Raw r405 [r411]) fun r417 => some (r417, true))))) (r261 : NumOut) r267.1 r267.2) fun r423 => (Option.bind (p_num_Out_Bytes r423) fun r433 => some r433)))))))))))))

end Go.Tw.X

set_option linter.unusedVariables false
set_option linter.unusedSimpArgs false
set_option maxRecDepth 10000
namespace Go.Tw.X
open Go Go.Tw
structure GramGram where
  epoch : Int
  kind : Int
  nums : List Int
  data : ByteArray
  deriving DecidableEq, Inhabited

end Go.Tw.X

set_option linter.unusedVariables false
set_option linter.unusedSimpArgs false
set_option maxRecDepth 10000
namespace Go.Tw.X
open Go Go.Tw
noncomputable def p_parts_Split (s_ : ByteArray) (size : Int) : Option (List ByteArray) :=
  (Option.bind (iter (σ := ByteArray × (List ByteArray)) (ρ := ByteArray × (List ByteArray)) (fun s45 => (bif (decide ((s45.1.size : Int) > (imax 1 (imin size 8000)))) then (Option.bind (chk (cutok 0 (imax 1 (imin size 8000)) s45.1.size)) fun _ => (Option.bind (chk (apok s45.2.length [(scut s45.1 0 (imax 1 (imin size 8000)))].length 16)) fun _ => (Option.bind (chk (cutok (imax 1 (imin size 8000)) (s45.1.size : Int) s45.1.size)) fun _ => some (.inl ((scut s45.1 (imax 1 (imin size 8000)) (s45.1.size : Int)), (s45.2 ++ [(scut s45.1 0 (imax 1 (imin size 8000)))])))))) else some (.inr (s45.1, s45.2)))) (s_, [])) fun e65 => (Option.bind (chk (apok e65.2.length [e65.1].length 16)) fun _ => some (e65.2 ++ [e65.1])))

end Go.Tw.X

set_option linter.unusedVariables false
set_option linter.unusedSimpArgs false
set_option maxRecDepth 10000
namespace Go.Tw.X
open Go Go.Tw
structure SenderConfig where
  part : Int
  every : Int
  most : Int
  deriving DecidableEq, Inhabited

structure SenderMessage where
  id : Int
  key : Int
  base : Int
  parts : List ByteArray
  there : List Bool
  due : Int
  deriving DecidableEq, Inhabited

structure SenderSender where
  config : SenderConfig
  current : SnapSnap
  acked : SnapSnap
  kept : List SnapSnap
  message : SenderMessage
  next : Int
  deriving DecidableEq, Inhabited

noncomputable def p_sender_clip (n_ : Int) (lo : Int) (hi : Int) : Option Int :=
  some (imax lo (imin n_ hi))

noncomputable def p_sender_Config_Clip (c : SenderConfig) : Option SenderConfig :=
  (Option.bind (p_sender_clip c.part 1 8000) fun r30 => (Option.bind (p_sender_clip c.every 1 1048576) fun r33 => (Option.bind (p_sender_clip c.most 1 64) fun r36 => some (SenderConfig.mk r30 r33 r36))))

noncomputable def p_sender_New (c : SenderConfig) : Option SenderSender :=
  (Option.bind (p_sender_Config_Clip c) fun r2 => some (SenderSender.mk r2 (SnapSnap.mk 0 0 0 0 0 (ByteArray.mk #[]) ([] : List RowRow) 0 0 ([] : List RowGlyph)) (SnapSnap.mk 0 0 0 0 0 (ByteArray.mk #[]) ([] : List RowRow) 0 0 ([] : List RowGlyph)) ([] : List SnapSnap) (SenderMessage.mk 0 0 0 ([] : List ByteArray) ([] : List Bool) 0) 1))

noncomputable def p_sender_Sender_Note (s_ : SenderSender) (x_ : SnapSnap) : Option (Bool × SenderSender) :=
  (Option.bind ((Option.bind (p_snap_Snap_Check x_) fun r26 => (bif (r26 != 0) then some true else some (decide (x_.k ≤ s_.current.k)))) : Option Bool) fun e19 => (bif e19 then some (false, s_) else (Option.bind (p_snap_Snap_Clone x_) fun r32 => some (true, (SenderSender.mk s_.config r32 s_.acked s_.kept s_.message s_.next)))))

noncomputable def p_sender_Sender_begin_1_v2 (x_ : SnapSnap) (x1 : SenderSender) : Option Bool :=
  some (x_.k == x1.current.k)

noncomputable def p_slices_IndexFunc_snap_Snap_Sender_begin_1_v2 (s_ : List SnapSnap) (f_0 : SenderSender) : Option Int :=
  (Option.bind (iter (σ := Int) (ρ := Unit ⊕ Int) (fun s76 => (bif (decide (s76 < (s_.length : Int))) then (Option.bind (idx s_ s76) fun x140 => (Option.bind (p_sender_Sender_begin_1_v2 x140 f_0) fun r153 => (bif r153 then (inrr (some s76)) else some (.inl (IntKind.i64.wrap (s76 + 1)))))) else some (.inr (.inl ())))) 0) fun | .inl e113 => some (-1) | .inr w => some w)

noncomputable def p_slices_ContainsFunc_snap_Snap_Sender_begin_1_v2 (s_ : List SnapSnap) (f_0 : SenderSender) : Option Bool :=
  (Option.bind (p_slices_IndexFunc_snap_Snap_Sender_begin_1_v2 s_ f_0) fun r1 => some (decide (r1 ≥ 0)))

noncomputable def p_sender_Sender_begin (s_ : SenderSender) (now : Int) : Option SenderSender :=
  (Option.bind (p_delta_Diff s_.acked s_.current) fun r29 => (Option.bind (p_parts_Split r29 s_.config.part) fun r32 => (Option.bind (chk (mkok (r32.length : Int) 1)) fun _ => (Option.bind (p_slices_ContainsFunc_snap_Snap_Sender_begin_1_v2 s_.kept (SenderSender.mk s_.config s_.current s_.acked s_.kept (SenderMessage.mk s_.next s_.current.k s_.acked.k r32 (List.replicate (r32.length : Int).toNat false) now) (IntKind.i64.wrap (s_.next + 1)))) fun r54 => (Option.bind ((bif (!r54) then (Option.bind (chk (apok s_.kept.length [s_.current].length 120)) fun _ => some (SenderSender.mk s_.config s_.current s_.acked (s_.kept ++ [s_.current]) (SenderMessage.mk s_.next s_.current.k s_.acked.k r32 (List.replicate (r32.length : Int).toNat false) now) (IntKind.i64.wrap (s_.next + 1)))) else some (SenderSender.mk s_.config s_.current s_.acked s_.kept (SenderMessage.mk s_.next s_.current.k s_.acked.k r32 (List.replicate (r32.length : Int).toNat false) now) (IntKind.i64.wrap (s_.next + 1)))) : Option SenderSender) fun e103 => (Option.bind (chk (cutok (imax 0 (IntKind.i64.wrap ((e103.kept.length : Int) - e103.config.most))) (e103.kept.length : Int) e103.kept.length)) fun _ => some (SenderSender.mk (SenderConfig.mk e103.config.part e103.config.every e103.config.most) (SnapSnap.mk e103.current.k e103.current.w e103.current.h e103.current.x e103.current.y e103.current.title e103.current.rows e103.current.len e103.current.chain e103.current.begun) (SnapSnap.mk e103.acked.k e103.acked.w e103.acked.h e103.acked.x e103.acked.y e103.acked.title e103.acked.rows e103.acked.len e103.acked.chain e103.acked.begun) (cut e103.kept (imax 0 (IntKind.i64.wrap ((e103.kept.length : Int) - e103.config.most))) (e103.kept.length : Int)) (SenderMessage.mk e103.message.id e103.message.key e103.message.base e103.message.parts e103.message.there e103.message.due) e103.next)))))))

noncomputable def p_sender_message_lacks {σ : Type} (m_ : SenderMessage) (Y : σ → (Int × ByteArray) → Option (σ × Bool)) (y0 : σ) : Option σ :=
  (Option.bind (iter (σ := Int × σ) (ρ := σ ⊕ σ) (fun s191 => (bif (decide (s191.1 < (m_.parts.length : Int))) then (Option.bind (idx m_.parts s191.1) fun x338 => (Option.bind ((Option.bind (idx m_.there s191.1) fun x371 => (bif (!x371) then (Option.bind (Y s191.2 (s191.1, x338)) fun z377 => some ((!z377.2), z377.1)) else some (false, s191.2))) : Option (Bool × σ)) fun e368 => (bif e368.1 then (inrr (some e368.2)) else some (.inl ((IntKind.i64.wrap (s191.1 + 1)), e368.2))))) else some (.inr (.inl s191.2)))) (0, y0)) fun | .inl e284 => some e284 | .inr w => some w)

noncomputable def p_sender_Sender_Step (s_ : SenderSender) (now : Int) : Option ((List GramGram) × SenderSender) :=
  (bif (s_.current.k == s_.acked.k) then some (([] : List GramGram), (SenderSender.mk s_.config s_.current s_.acked s_.kept (SenderMessage.mk 0 0 0 ([] : List ByteArray) ([] : List Bool) 0) s_.next)) else (Option.bind ((bif (s_.message.id == 0) then some true else (bif (s_.message.key != s_.current.k) then some true else some (s_.message.base != s_.acked.k))) : Option Bool) fun e16 => (Option.bind ((bif e16 then (Option.bind (p_sender_Sender_begin s_ now) fun r75 => some r75) else some s_) : Option SenderSender) fun e71 => (bif (decide (now < e71.message.due)) then some (([] : List GramGram), (SenderSender.mk (SenderConfig.mk e71.config.part e71.config.every e71.config.most) (SnapSnap.mk e71.current.k e71.current.w e71.current.h e71.current.x e71.current.y e71.current.title e71.current.rows e71.current.len e71.current.chain e71.current.begun) (SnapSnap.mk e71.acked.k e71.acked.w e71.acked.h e71.acked.x e71.acked.y e71.acked.title e71.acked.rows e71.acked.len e71.acked.chain e71.acked.begun) e71.kept (SenderMessage.mk e71.message.id e71.message.key e71.message.base e71.message.parts e71.message.there e71.message.due) e71.next)) else (Option.bind (p_sender_message_lacks (SenderMessage.mk e71.message.id e71.message.key e71.message.base e71.message.parts e71.message.there (IntKind.i64.wrap (now + e71.config.every))) (fun s151 x95 => (Option.bind (chk (apok s151.length ([(GramGram.mk 1 1 [e71.message.id, e71.message.key, e71.message.base, x95.1, (e71.message.parts.length : Int)] x95.2)]).length 56)) fun _ => some ((s151 ++ [(GramGram.mk 1 1 [e71.message.id, e71.message.key, e71.message.base, x95.1, (e71.message.parts.length : Int)] x95.2)]), true))) ([] : (List GramGram))) fun r177 => some (r177, (SenderSender.mk (SenderConfig.mk e71.config.part e71.config.every e71.config.most) (SnapSnap.mk e71.current.k e71.current.w e71.current.h e71.current.x e71.current.y e71.current.title e71.current.rows e71.current.len e71.current.chain e71.current.begun) (SnapSnap.mk e71.acked.k e71.acked.w e71.acked.h e71.acked.x e71.acked.y e71.acked.title e71.acked.rows e71.acked.len e71.acked.chain e71.acked.begun) e71.kept (SenderMessage.mk e71.message.id e71.message.key e71.message.base e71.message.parts e71.message.there (IntKind.i64.wrap (now + e71.config.every))) e71.next)))))))

noncomputable def p_sender_Sender_mark (s_ : SenderSender) (have_ : ByteArray) : Option SenderSender :=
  (Option.bind (iter (σ := SenderSender × Int) (ρ := SenderSender) (fun s126 => (bif (decide (s126.2 < (imin (s_.message.there.length : Int) (IntKind.i64.wrap (8 * (have_.size : Int)))))) then (Option.bind ((Option.bind (sidx have_ (IntKind.i64.wrap (s126.2.tdiv 8))) fun b228 => (Option.bind (chk (shk (s126.2.tmod 8))) fun _ => (bif ((Go.bits .and .u8 (b228.fdiv (2 ^ (min (s126.2.tmod 8).toNat 8))) 1) == 1) then (Option.bind (idx s126.1.message.there s126.2) fun x234 => some (SenderSender.mk (SenderConfig.mk s126.1.config.part s126.1.config.every s126.1.config.most) (SnapSnap.mk s126.1.current.k s126.1.current.w s126.1.current.h s126.1.current.x s126.1.current.y s126.1.current.title s126.1.current.rows s126.1.current.len s126.1.current.chain s126.1.current.begun) (SnapSnap.mk s126.1.acked.k s126.1.acked.w s126.1.acked.h s126.1.acked.x s126.1.acked.y s126.1.acked.title s126.1.acked.rows s126.1.acked.len s126.1.acked.chain s126.1.acked.begun) s126.1.kept (SenderMessage.mk s126.1.message.id s126.1.message.key s126.1.message.base s126.1.message.parts (s126.1.message.there.set s126.2.toNat true) s126.1.message.due) s126.1.next)) else some (SenderSender.mk (SenderConfig.mk s126.1.config.part s126.1.config.every s126.1.config.most) (SnapSnap.mk s126.1.current.k s126.1.current.w s126.1.current.h s126.1.current.x s126.1.current.y s126.1.current.title s126.1.current.rows s126.1.current.len s126.1.current.chain s126.1.current.begun) (SnapSnap.mk s126.1.acked.k s126.1.acked.w s126.1.acked.h s126.1.acked.x s126.1.acked.y s126.1.acked.title s126.1.acked.rows s126.1.acked.len s126.1.acked.chain s126.1.acked.begun) s126.1.kept (SenderMessage.mk s126.1.message.id s126.1.message.key s126.1.message.base s126.1.message.parts s126.1.message.there s126.1.message.due) s126.1.next)))) : Option SenderSender) fun e225 => some (.inl ((SenderSender.mk (SenderConfig.mk e225.config.part e225.config.every e225.config.most) (SnapSnap.mk e225.current.k e225.current.w e225.current.h e225.current.x e225.current.y e225.current.title e225.current.rows e225.current.len e225.current.chain e225.current.begun) (SnapSnap.mk e225.acked.k e225.acked.w e225.acked.h e225.acked.x e225.acked.y e225.acked.title e225.acked.rows e225.acked.len e225.acked.chain e225.acked.begun) e225.kept (SenderMessage.mk e225.message.id e225.message.key e225.message.base e225.message.parts e225.message.there e225.message.due) e225.next), (IntKind.i64.wrap (s126.2 + 1))))) else some (.inr (SenderSender.mk (SenderConfig.mk s126.1.config.part s126.1.config.every s126.1.config.most) (SnapSnap.mk s126.1.current.k s126.1.current.w s126.1.current.h s126.1.current.x s126.1.current.y s126.1.current.title s126.1.current.rows s126.1.current.len s126.1.current.chain s126.1.current.begun) (SnapSnap.mk s126.1.acked.k s126.1.acked.w s126.1.acked.h s126.1.acked.x s126.1.acked.y s126.1.acked.title s126.1.acked.rows s126.1.acked.len s126.1.acked.chain s126.1.acked.begun) s126.1.kept (SenderMessage.mk s126.1.message.id s126.1.message.key s126.1.message.base s126.1.message.parts s126.1.message.there s126.1.message.due) s126.1.next)))) (s_, 0)) fun e184 => some (SenderSender.mk (SenderConfig.mk e184.config.part e184.config.every e184.config.most) (SnapSnap.mk e184.current.k e184.current.w e184.current.h e184.current.x e184.current.y e184.current.title e184.current.rows e184.current.len e184.current.chain e184.current.begun) (SnapSnap.mk e184.acked.k e184.acked.w e184.acked.h e184.acked.x e184.acked.y e184.acked.title e184.acked.rows e184.acked.len e184.acked.chain e184.acked.begun) e184.kept (SenderMessage.mk e184.message.id e184.message.key e184.message.base e184.message.parts e184.message.there e184.message.due) e184.next))

noncomputable def p_sender_Sender_Ack_1_v2 (x_ : SnapSnap) (x1 : Int) : Option Bool :=
  some (x_.k == x1)

noncomputable def p_slices_IndexFunc_snap_Snap_Sender_Ack_1_v2 (s_ : List SnapSnap) (f_0 : Int) : Option Int :=
  (Option.bind (iter (σ := Int) (ρ := Unit ⊕ Int) (fun s76 => (bif (decide (s76 < (s_.length : Int))) then (Option.bind (idx s_ s76) fun x140 => (Option.bind (p_sender_Sender_Ack_1_v2 x140 f_0) fun r153 => (bif r153 then (inrr (some s76)) else some (.inl (IntKind.i64.wrap (s76 + 1)))))) else some (.inr (.inl ())))) 0) fun | .inl e113 => some (-1) | .inr w => some w)

noncomputable def p_sender_Sender_Ack (s_ : SenderSender) (k : Int) (id : Int) (have_ : ByteArray) : Option (Bool × SenderSender) :=
  (Option.bind ((bif (id == s_.message.id) then some (decide (id > 0)) else some false) : Option Bool) fun e5 => (Option.bind ((bif e5 then (Option.bind (p_sender_Sender_mark s_ have_) fun r43 => some r43) else some s_) : Option SenderSender) fun e39 => (Option.bind ((bif (decide (k ≤ e39.acked.k)) then some true else some (decide (k > e39.current.k))) : Option Bool) fun e58 => (bif e58 then some (false, (SenderSender.mk (SenderConfig.mk e39.config.part e39.config.every e39.config.most) (SnapSnap.mk e39.current.k e39.current.w e39.current.h e39.current.x e39.current.y e39.current.title e39.current.rows e39.current.len e39.current.chain e39.current.begun) (SnapSnap.mk e39.acked.k e39.acked.w e39.acked.h e39.acked.x e39.acked.y e39.acked.title e39.acked.rows e39.acked.len e39.acked.chain e39.acked.begun) e39.kept (SenderMessage.mk e39.message.id e39.message.key e39.message.base e39.message.parts e39.message.there e39.message.due) e39.next)) else (Option.bind (p_slices_IndexFunc_snap_Snap_Sender_Ack_1_v2 e39.kept k) fun r65 => (bif (decide (r65 < 0)) then some (false, (SenderSender.mk (SenderConfig.mk e39.config.part e39.config.every e39.config.most) (SnapSnap.mk e39.current.k e39.current.w e39.current.h e39.current.x e39.current.y e39.current.title e39.current.rows e39.current.len e39.current.chain e39.current.begun) (SnapSnap.mk 0 0 0 0 0 (ByteArray.mk #[]) ([] : List RowRow) 0 0 ([] : List RowGlyph)) e39.kept (SenderMessage.mk e39.message.id e39.message.key e39.message.base e39.message.parts e39.message.there e39.message.due) e39.next)) else (Option.bind (idx e39.kept r65) fun x72 => (Option.bind (chk (cutok (IntKind.i64.wrap (r65 + 1)) (e39.kept.length : Int) e39.kept.length)) fun _ => (Option.bind (p_slices_Clone_snap_Snap (cut e39.kept (IntKind.i64.wrap (r65 + 1)) (e39.kept.length : Int))) fun r90 => some (true, (SenderSender.mk (SenderConfig.mk e39.config.part e39.config.every e39.config.most) (SnapSnap.mk e39.current.k e39.current.w e39.current.h e39.current.x e39.current.y e39.current.title e39.current.rows e39.current.len e39.current.chain e39.current.begun) x72 r90 (SenderMessage.mk e39.message.id e39.message.key e39.message.base e39.message.parts e39.message.there e39.message.due) e39.next)))))))))))

noncomputable def p_sender_Sender_Lacks (s_ : SenderSender) : Option (List Int) :=
  (Option.bind (p_sender_message_lacks s_.message (fun s29 x2 => (Option.bind (chk (apok s29.length [x2.1].length 8)) fun _ => some ((s29 ++ [x2.1]), true))) ([] : (List Int))) fun r41 => some r41)

noncomputable def p_sender_Sender_Acked (s_ : SenderSender) : Option Int :=
  some s_.acked.k

noncomputable def p_sender_Sender_Kept (s_ : SenderSender) : Option (List Int) :=
  (Option.bind (iter (σ := Int × (List Int)) (ρ := (List Int)) (fun s106 => (bif (decide (s106.1 < (s_.kept.length : Int))) then (Option.bind (idx s_.kept s106.1) fun x185 => (Option.bind (chk (apok s106.2.length [x185.k].length 8)) fun _ => some (.inl ((IntKind.i64.wrap (s106.1 + 1)), (s106.2 ++ [x185.k]))))) else some (.inr s106.2))) (0, [])) fun e155 => some e155)

noncomputable def p_sender_Sender_Message (s_ : SenderSender) : Option (Int × Int × Int) :=
  some (s_.message.id, s_.message.key, s_.message.base)

noncomputable def p_sender_Sender_Current (s_ : SenderSender) : Option Int :=
  some s_.current.k

noncomputable def p_sender_Sender_Clone (s_ : SenderSender) : Option SenderSender :=
  (Option.bind (p_slices_Clone_snap_Snap s_.kept) fun r38 => (Option.bind (p_slices_Clone_bool s_.message.there) fun r44 => some (SenderSender.mk s_.config s_.current s_.acked r38 (SenderMessage.mk s_.message.id s_.message.key s_.message.base s_.message.parts r44 s_.message.due) s_.next)))
end Go.Tw.X

set_option linter.unusedVariables false
set_option linter.unusedSimpArgs false
set_option maxRecDepth 10000
namespace Go.Tw.X
open Go Go.Tw

noncomputable def p_law01_Cut (s_ : ByteArray) (n_ : Int) : Option ByteArray :=
  (bif (decide ((s_.size : Int) > n_)) then (Option.bind (chk (cutok 0 n_ s_.size)) fun _ => some (scut s_ 0 n_)) else some s_)

noncomputable def p_law01_Same (a : List Int) (b : List Int) : Option Bool :=
  (bif ((a.length : Int) != (b.length : Int)) then some false else (Option.bind (iter (σ := Int) (ρ := Unit ⊕ Bool) (fun s238 => (bif (decide (s238 < (a.length : Int))) then (Option.bind (idx a s238) fun x464 => (Option.bind (idx b s238) fun x471 => (bif (x464 != x471) then (inrr (some false)) else some (.inl (IntKind.i64.wrap (s238 + 1)))))) else some (.inr (.inl ())))) 0) fun | .inl e355 => some true | .inr w => some w))
end Go.Tw.X

set_option linter.unusedVariables false
set_option linter.unusedSimpArgs false
set_option maxRecDepth 10000
namespace Go.Tw.X
open Go Go.Tw
structure Ref03Gram where
  epoch : Int
  kind : Int
  nums : List Int
  data : ByteArray
  deriving DecidableEq, Inhabited

end Go.Tw.X

set_option linter.unusedVariables false
set_option linter.unusedSimpArgs false
set_option maxRecDepth 10000
namespace Go.Tw.X
open Go Go.Tw

noncomputable def p_law03_Is (g : GramGram) (x_ : Ref03Gram) : Option Bool :=
  (Option.bind ((bif (g.epoch == x_.epoch) then (bif (g.kind == x_.kind) then (Option.bind (p_law01_Same g.nums x_.nums) fun r21 => (bif r21 then some (g.data.toList == x_.data.toList) else some false)) else some false) else some false) : Option Bool) fun e16 => some e16)
end Go.Tw.X

set_option linter.unusedVariables false
set_option linter.unusedSimpArgs false
set_option maxRecDepth 10000
namespace Go.Tw.X
open Go Go.Tw
structure Ref09Cell where
  rune : Int
  style : Int
  part : Int
  deriving DecidableEq, Inhabited

structure Ref09Row where
  l : List Ref09Cell
  wrapped : Bool
  deriving DecidableEq, Inhabited

structure Ref09Glyph where
  rune : Int
  style : Int
  deriving DecidableEq, Inhabited

end Go.Tw.X

set_option linter.unusedVariables false
set_option linter.unusedSimpArgs false
set_option maxRecDepth 10000
namespace Go.Tw.X
open Go Go.Tw
noncomputable def p_law09_Any (l : List RowCell) (wrapped : Bool) : Option RowRow :=
  (Option.bind (chk (cutok 0 (imin (l.length : Int) 40) l.length)) fun _ => (Option.bind (chk (apok ([] : List RowCell).length (cut l 0 (imin (l.length : Int) 40)).length 24)) fun _ => some (RowRow.mk (([] : List RowCell) ++ (cut l 0 (imin (l.length : Int) 40))) wrapped)))

noncomputable def p_law09_Told (r_ : RowRow) : Option Ref09Row :=
  (Option.bind (iter (σ := Ref09Row × Int) (ρ := Ref09Row) (fun s89 => (bif (decide (s89.2 < (r_.cells.length : Int))) then (Option.bind (idx r_.cells s89.2) fun x153 => (Option.bind (chk (apok s89.1.l.length [(Ref09Cell.mk (IntKind.i64.wrap x153.rune) x153.style x153.part)].length 24)) fun _ => some (.inl ((Ref09Row.mk (s89.1.l ++ [(Ref09Cell.mk (IntKind.i64.wrap x153.rune) x153.style x153.part)]) s89.1.wrapped), (IntKind.i64.wrap (s89.2 + 1)))))) else some (.inr s89.1))) ((Ref09Row.mk ([] : List Ref09Cell) r_.wrapped), 0)) fun e128 => some e128)

end Go.Tw.X

set_option linter.unusedVariables false
set_option linter.unusedSimpArgs false
set_option maxRecDepth 10000
namespace Go.Tw.X
open Go Go.Tw

noncomputable def p_law14_Told (l : List RowGlyph) : Option (List Ref09Glyph) :=
  (Option.bind (iter (σ := (List Ref09Glyph) × Int) (ρ := (List Ref09Glyph)) (fun s86 => (bif (decide (s86.2 < (l.length : Int))) then (Option.bind (idx l s86.2) fun x150 => (Option.bind (chk (apok s86.1.length [(Ref09Glyph.mk (IntKind.i64.wrap x150.rune) x150.style)].length 16)) fun _ => some (.inl ((s86.1 ++ [(Ref09Glyph.mk (IntKind.i64.wrap x150.rune) x150.style)]), (IntKind.i64.wrap (s86.2 + 1)))))) else some (.inr s86.1))) ([], 0)) fun e125 => some e125)
end Go.Tw.X

set_option linter.unusedVariables false
set_option linter.unusedSimpArgs false
set_option maxRecDepth 10000
namespace Go.Tw.X
open Go Go.Tw
noncomputable def p_ref01_Num (n_ : Int) : Option ByteArray :=
  (Option.bind (iter (σ := Int × (List Int)) (ρ := Int × (List Int)) (fun s38 => (bif (decide (s38.1 ≥ 128)) then (Option.bind (chk (apok s38.2.length [(IntKind.u8.wrap (IntKind.i64.wrap (128 + (s38.1.tmod 128))))].length 1)) fun _ => some (.inl ((IntKind.i64.wrap (s38.1.tdiv 128)), (s38.2 ++ [(IntKind.u8.wrap (IntKind.i64.wrap (128 + (s38.1.tmod 128))))])))) else some (.inr (s38.1, s38.2)))) ((imax 0 (imin n_ 4611686018427387904)), ([] : List Int))) fun e54 => (Option.bind (chk (apok e54.2.length [(IntKind.u8.wrap e54.1)].length 1)) fun _ => some (bstr (e54.2 ++ [(IntKind.u8.wrap e54.1)]))))

noncomputable def p_ref01_Text (s_ : ByteArray) : Option ByteArray :=
  (Option.bind (p_ref01_Num (s_.size : Int)) fun r1 => (Option.bind (chk (sadd r1.size s_.size)) fun _ => some (r1 ++ s_)))
end Go.Tw.X

set_option linter.unusedVariables false
set_option linter.unusedSimpArgs false
set_option maxRecDepth 10000
namespace Go.Tw.X
open Go Go.Tw

noncomputable def p_ref02_Of (s_ : ByteArray) : Option Int :=
  (Option.bind (iter (σ := Int × Int) (ρ := Int) (fun s227 => (bif (decide (s227.2 < (s_.size : Int))) then (Option.bind (sidx s_ s227.2) fun b402 => (Option.bind (iter (σ := Int × Int) (ρ := Int) (fun s429 => (bif (decide (s429.2 < 8)) then (Option.bind ((bif ((s429.1.tmod 2) == 1) then some (Go.bits .xor .i64 (IntKind.i64.wrap (s429.1.tdiv 2)) 3988292384) else some (IntKind.i64.wrap (s429.1.tdiv 2))) : Option Int) fun e452 => some (.inl (e452, (IntKind.i64.wrap (s429.2 + 1))))) else some (.inr s429.1))) ((Go.bits .xor .i64 s227.1 (IntKind.i64.wrap b402)), 0)) fun e440 => some (.inl (e440, (IntKind.i64.wrap (s227.2 + 1)))))) else some (.inr s227.1))) (4294967295, 0)) fun e339 => some (IntKind.i64.wrap (4294967295 - e339)))
end Go.Tw.X

set_option linter.unusedVariables false
set_option linter.unusedSimpArgs false
set_option maxRecDepth 10000
namespace Go.Tw.X
open Go Go.Tw

noncomputable def p_ref12_Pack (l : List Ref09Glyph) : Option ByteArray :=
  (Option.bind (p_ref01_Num (l.length : Int)) fun r1 => (Option.bind (iter (σ := Int × ByteArray) (ρ := ByteArray) (fun s126 => (bif (decide (s126.1 < (l.length : Int))) then (Option.bind (idx l s126.1) fun x223 => (Option.bind (p_ref01_Num x223.rune) fun r241 => (Option.bind (p_ref01_Num x223.style) fun r244 => (Option.bind (chk (sadd r241.size r244.size)) fun _ => (Option.bind (chk (sadd s126.2.size (r241 ++ r244).size)) fun _ => some (.inl ((IntKind.i64.wrap (s126.1 + 1)), (s126.2 ++ (r241 ++ r244))))))))) else some (.inr s126.2))) (0, r1)) fun e186 => some e186))
end Go.Tw.X

set_option linter.unusedVariables false
set_option linter.unusedSimpArgs false
set_option maxRecDepth 10000
namespace Go.Tw.X
open Go Go.Tw
structure Ref16Snap where
  k : Int
  w : Int
  h : Int
  x : Int
  y : Int
  title : ByteArray
  rows : List Ref09Row
  len : Int
  chain : Int
  begun : List Ref09Glyph
  deriving DecidableEq, Inhabited

noncomputable def p_ref16_Empty (s_ : Ref16Snap) : Option Bool :=
  (Option.bind ((bif (s_.k == 0) then (bif (s_.w == 0) then (bif (s_.h == 0) then (bif (s_.x == 0) then (bif (s_.y == 0) then (bif (s_.title.toList == (ByteArray.mk #[]).toList) then (bif ((s_.rows.length : Int) == 0) then (bif (s_.len == 0) then (bif (s_.chain == 0) then some ((s_.begun.length : Int) == 0) else some false) else some false) else some false) else some false) else some false) else some false) else some false) else some false) else some false) : Option Bool) fun e21 => some e21)

noncomputable def p_ref16_May (s_ : Ref16Snap) : Option Bool :=
  (Option.bind (p_ref16_Empty s_) fun r2 => (bif r2 then some true else (Option.bind ((bif (decide (s_.k < 1)) then some true else (bif (decide (s_.k > 1152921504606846976)) then some true else (bif (decide (s_.w < 1)) then some true else (bif (decide (s_.w > 1000)) then some true else (bif (decide (s_.h < 1)) then some true else (bif (decide (s_.h > 1000)) then some true else (bif (decide (s_.x < 0)) then some true else (bif (decide (s_.x ≥ s_.w)) then some true else (bif (decide (s_.y < 0)) then some true else (bif (decide (s_.y ≥ s_.h)) then some true else some ((s_.rows.length : Int) != s_.h))))))))))) : Option Bool) fun e28 => (bif e28 then some false else (Option.bind ((bif (decide ((s_.title.size : Int) > 200)) then some true else (bif (decide (s_.len < 0)) then some true else (bif (decide (s_.len > 1152921504606846976)) then some true else (bif (decide (s_.chain < 0)) then some true else (bif (decide (s_.chain > 281474976710656)) then some true else some (decide ((s_.begun.length : Int) > 1024))))))) : Option Bool) fun e54 => (bif e54 then some false else (Option.bind (iter (σ := Int) (ρ := Unit ⊕ Bool) (fun s159 => (bif (decide (s159 < (s_.begun.length : Int))) then (Option.bind (idx s_.begun s159) fun x238 => (Option.bind ((bif (decide (x238.rune < 0)) then some true else (bif (decide (x238.rune > 1114111)) then some true else (bif (decide (x238.style < 0)) then some true else some (decide (x238.style > 647))))) : Option Bool) fun e253 => (bif e253 then (inrr (some false)) else some (.inl (IntKind.i64.wrap (s159 + 1)))))) else some (.inr (.inl ())))) 0) fun | .inl e206 => (Option.bind (iter (σ := Int) (ρ := Unit ⊕ Bool) (fun s1305 => (bif (decide (s1305 < (s_.rows.length : Int))) then (Option.bind (idx s_.rows s1305) fun x2095 => (bif ((x2095.l.length : Int) != s_.w) then (inrr (some false)) else (Option.bind (iter (σ := Int) (ρ := Unit ⊕ (Int ⊕ (Unit ⊕ Bool))) (fun s2229 => (bif (decide (s2229 < (x2095.l.length : Int))) then (Option.bind (idx x2095.l s2229) fun x2326 => (Option.bind ((bif (decide (x2326.rune < 0)) then some true else (bif (decide (x2326.rune > 1114111)) then some true else (bif (decide (x2326.style < 0)) then some true else (bif (decide (x2326.style > 647)) then some true else (bif (decide (x2326.part < 0)) then some true else some (decide (x2326.part > 3))))))) : Option Bool) fun e2345 => (bif e2345 then (inrr (inrr (some false))) else some (.inl (IntKind.i64.wrap (s2229 + 1)))))) else some (.inr (.inl ())))) 0) fun | .inl e2288 => some (.inl (IntKind.i64.wrap (s1305 + 1))) | .inr w => some w))) else some (.inr (.inl ())))) 0) fun | .inl e1826 => some true | .inr w => some w) | .inr w => some w)))))))

noncomputable def p_ref16_PackRow (r_ : Ref09Row) : Option ByteArray :=
  (Option.bind ((bif r_.wrapped then some (ByteArray.mk #[1]) else some (ByteArray.mk #[0])) : Option ByteArray) fun e5 => (Option.bind (iter (σ := Int × ByteArray × Int) (ρ := ByteArray) (fun s776 => (bif (decide (s776.1 < (r_.l.length : Int))) then (Option.bind ((Option.bind (idx r_.l s776.1) fun x1419 => (Option.bind ((bif (decide ((IntKind.i64.wrap (s776.1 + 1)) < (r_.l.length : Int))) then (Option.bind (idx r_.l (IntKind.i64.wrap (s776.1 + 1))) fun x1457 => some ((x1457.rune == x1419.rune) && ((x1457.style == x1419.style) && ((x1457.part == x1419.part) && true)))) else some false) : Option Bool) fun e1448 => (bif e1448 then some (s776.2.1, (IntKind.i64.wrap (s776.2.2 + 1))) else (Option.bind (p_ref01_Num (IntKind.i64.wrap (s776.2.2 + 1))) fun r1523 => (Option.bind (p_ref01_Num x1419.rune) fun r1526 => (Option.bind (chk (sadd r1523.size r1526.size)) fun _ => (Option.bind (p_ref01_Num x1419.style) fun r1531 => (Option.bind (chk (sadd (r1523 ++ r1526).size r1531.size)) fun _ => (Option.bind (p_ref01_Num x1419.part) fun r1536 => (Option.bind (chk (sadd ((r1523 ++ r1526) ++ r1531).size r1536.size)) fun _ => (Option.bind (chk (sadd s776.2.1.size (((r1523 ++ r1526) ++ r1531) ++ r1536).size)) fun _ => some ((s776.2.1 ++ (((r1523 ++ r1526) ++ r1531) ++ r1536)), 0)))))))))))) : Option (ByteArray × Int)) fun e1416 => some (.inl ((IntKind.i64.wrap (s776.1 + 1)), e1416.1, e1416.2))) else some (.inr s776.2.1))) (0, e5, 0)) fun e1157 => some e1157))

noncomputable def p_ref16_Pack (s_ : Ref16Snap) : Option ByteArray :=
  (Option.bind ((Option.bind (p_ref16_Empty s_) fun r20 => (bif r20 then some true else (Option.bind (p_ref16_May s_) fun r24 => some (!r24)))) : Option Bool) fun e17 => (bif e17 then some (ByteArray.mk #[]) else (Option.bind (iter (σ := Int × ByteArray) (ρ := ByteArray) (fun s73 => (bif (decide (s73.1 < ([s_.k, s_.w, s_.h, s_.x, s_.y].length : Int))) then (Option.bind (idx [s_.k, s_.w, s_.h, s_.x, s_.y] s73.1) fun x110 => (Option.bind (p_ref01_Num x110) fun r113 => (Option.bind (chk (sadd s73.2.size r113.size)) fun _ => some (.inl ((IntKind.i64.wrap (s73.1 + 1)), (s73.2 ++ r113)))))) else some (.inr s73.2))) (0, (ByteArray.mk #[]))) fun e93 => (Option.bind (p_ref01_Text s_.title) fun r178 => (Option.bind (p_ref01_Num s_.len) fun r181 => (Option.bind (chk (sadd r178.size r181.size)) fun _ => (Option.bind (p_ref01_Num s_.chain) fun r186 => (Option.bind (chk (sadd (r178 ++ r181).size r186.size)) fun _ => (Option.bind (p_ref12_Pack s_.begun) fun r191 => (Option.bind (chk (sadd ((r178 ++ r181) ++ r186).size r191.size)) fun _ => (Option.bind (chk (sadd e93.size (((r178 ++ r181) ++ r186) ++ r191).size)) fun _ => (Option.bind (iter (σ := ByteArray × Int) (ρ := ByteArray) (fun s272 => (bif (decide (s272.2 < (s_.rows.length : Int))) then (Option.bind (idx s_.rows s272.2) fun x333 => (Option.bind (p_ref16_PackRow x333) fun r344 => (Option.bind (chk (sadd s272.1.size r344.size)) fun _ => some (.inl ((s272.1 ++ r344), (IntKind.i64.wrap (s272.2 + 1))))))) else some (.inr s272.1))) ((e93 ++ (((r178 ++ r181) ++ r186) ++ r191)), 0)) fun e308 => some e308))))))))))))

noncomputable def p_ref16_Sum (s_ : Ref16Snap) : Option Int :=
  (Option.bind (p_ref16_Pack s_) fun r2 => (Option.bind (p_ref02_Of r2) fun r5 => some r5))
end Go.Tw.X

set_option linter.unusedVariables false
set_option linter.unusedSimpArgs false
set_option maxRecDepth 10000
namespace Go.Tw.X
open Go Go.Tw

noncomputable def p_law16_Cut (s_ : SnapSnap) : Option SnapSnap :=
  (Option.bind (p_law01_Cut s_.title 210) fun r3 => (Option.bind (chk (cutok 0 (imin (s_.begun.length : Int) 30) s_.begun.length)) fun _ => (Option.bind (chk (apok ([] : List RowGlyph).length (cut s_.begun 0 (imin (s_.begun.length : Int) 30)).length 16)) fun _ => (Option.bind (iter (σ := (List RowRow) × Int) (ρ := (List RowRow)) (fun s303 => (Option.bind ((bif (decide (s303.2 < (s_.rows.length : Int))) then some (decide (s303.2 < 8)) else some false) : Option Bool) fun e451 => (bif e451 then (Option.bind (idx s_.rows s303.2) fun x550 => (Option.bind (idx s_.rows s303.2) fun x560 => (Option.bind (p_law09_Any x550.cells x560.wrapped) fun r567 => (Option.bind (chk (apok s303.1.length [r567].length 32)) fun _ => some (.inl ((s303.1 ++ [r567]), (IntKind.i64.wrap (s303.2 + 1)))))))) else some (.inr s303.1)))) ([], 0)) fun e441 => some (SnapSnap.mk s_.k s_.w s_.h s_.x s_.y r3 e441 s_.len s_.chain (([] : List RowGlyph) ++ (cut s_.begun 0 (imin (s_.begun.length : Int) 30))))))))

noncomputable def p_law16_Told (s_ : SnapSnap) : Option Ref16Snap :=
  (Option.bind ((Option.bind (p_law14_Told s_.begun) fun r104 => some (Ref16Snap.mk s_.k s_.w s_.h s_.x s_.y s_.title ([] : List Ref09Row) s_.len s_.chain r104)) : Option Ref16Snap) fun e83 => (Option.bind (iter (σ := Ref16Snap × Int) (ρ := Ref16Snap) (fun s303 => (bif (decide (s303.2 < (s_.rows.length : Int))) then (Option.bind (idx s_.rows s303.2) fun x437 => (Option.bind (p_law09_Told x437) fun r462 => (Option.bind (chk (apok s303.1.rows.length [r462].length 32)) fun _ => some (.inl ((Ref16Snap.mk s303.1.k s303.1.w s303.1.h s303.1.x s303.1.y s303.1.title (s303.1.rows ++ [r462]) s303.1.len s303.1.chain s303.1.begun), (IntKind.i64.wrap (s303.2 + 1))))))) else some (.inr s303.1))) ((Ref16Snap.mk e83.k e83.w e83.h e83.x e83.y e83.title e83.rows e83.len e83.chain e83.begun), 0)) fun e389 => some e389))

end Go.Tw.X

set_option linter.unusedVariables false
set_option linter.unusedSimpArgs false
set_option maxRecDepth 10000
namespace Go.Tw.X
open Go Go.Tw

noncomputable def p_ref04_Split (s_ : ByteArray) (size : Int) : Option (List ByteArray) :=
  (Option.bind (chk (decide ((imax 1 (imin size 8000)) ≠ 0))) fun _ => (Option.bind (iter (σ := (List ByteArray) × Int) (ρ := (List ByteArray)) (fun s64 => (bif (decide (s64.2 < (imax 1 (IntKind.i64.wrap ((IntKind.i64.wrap ((IntKind.i64.wrap ((s_.size : Int) + (imax 1 (imin size 8000)))) - 1)).tdiv (imax 1 (imin size 8000))))))) then (Option.bind (chk (cutok (IntKind.i64.wrap (s64.2 * (imax 1 (imin size 8000)))) (imin (s_.size : Int) (IntKind.i64.wrap ((IntKind.i64.wrap (s64.2 * (imax 1 (imin size 8000)))) + (imax 1 (imin size 8000))))) s_.size)) fun _ => (Option.bind (chk (apok s64.1.length [(scut s_ (IntKind.i64.wrap (s64.2 * (imax 1 (imin size 8000)))) (imin (s_.size : Int) (IntKind.i64.wrap ((IntKind.i64.wrap (s64.2 * (imax 1 (imin size 8000)))) + (imax 1 (imin size 8000))))))].length 16)) fun _ => some (.inl ((s64.1 ++ [(scut s_ (IntKind.i64.wrap (s64.2 * (imax 1 (imin size 8000)))) (imin (s_.size : Int) (IntKind.i64.wrap ((IntKind.i64.wrap (s64.2 * (imax 1 (imin size 8000)))) + (imax 1 (imin size 8000))))))]), (IntKind.i64.wrap (s64.2 + 1)))))) else some (.inr s64.1))) (([] : List ByteArray), 0)) fun e91 => some e91))
end Go.Tw.X

set_option linter.unusedVariables false
set_option linter.unusedSimpArgs false
set_option maxRecDepth 10000
namespace Go.Tw.X
open Go Go.Tw

noncomputable def p_ref17_same (a : Ref09Row) (b : Ref09Row) : Option Bool :=
  (Option.bind ((bif (!(a.wrapped == b.wrapped)) then some true else some ((a.l.length : Int) != (b.l.length : Int))) : Option Bool) fun e6 => (bif e6 then some false else (Option.bind (iter (σ := Int) (ρ := Unit ⊕ Bool) (fun s247 => (bif (decide (s247 < (a.l.length : Int))) then (Option.bind (idx a.l s247) fun x473 => (Option.bind (idx b.l s247) fun x480 => (bif (!((x473.rune == x480.rune) && ((x473.style == x480.style) && ((x473.part == x480.part) && true)))) then (inrr (some false)) else some (.inl (IntKind.i64.wrap (s247 + 1)))))) else some (.inr (.inl ())))) 0) fun | .inl e364 => some true | .inr w => some w)))

noncomputable def p_ref17_Changes (a : Ref16Snap) (b : Ref16Snap) : Option (List Int) :=
  (Option.bind (iter (σ := Int × (List Int)) (ρ := (List Int)) (fun s686 => (bif (decide (s686.1 < (b.rows.length : Int))) then (Option.bind ((Option.bind (idx b.rows s686.1) fun x1256 => (Option.bind ((bif (decide (s686.1 ≥ (a.rows.length : Int))) then some true else (Option.bind (idx a.rows s686.1) fun x1342 => (Option.bind (p_ref17_same x1342 x1256) fun r1352 => some (!r1352)))) : Option Bool) fun e1324 => (bif e1324 then (Option.bind (chk (apok s686.2.length [s686.1].length 8)) fun _ => some (s686.2 ++ [s686.1])) else some s686.2))) : Option (List Int)) fun e1253 => some (.inl ((IntKind.i64.wrap (s686.1 + 1)), e1253))) else some (.inr s686.2))) (0, ([] : List Int))) fun e1024 => some e1024)

noncomputable def p_ref17_Diff (a : Ref16Snap) (b : Ref16Snap) : Option ByteArray :=
  (Option.bind ((Option.bind (p_ref16_May a) fun r21 => (bif (!r21) then some true else (Option.bind (p_ref16_Pack b) fun r25 => some (r25.toList == (ByteArray.mk #[]).toList)))) : Option Bool) fun e18 => (bif e18 then some (ByteArray.mk #[]) else (Option.bind (p_ref16_Sum a) fun r45 => (Option.bind (iter (σ := Int × ByteArray) (ρ := ByteArray) (fun s92 => (bif (decide (s92.1 < ([r45, b.k, b.w, b.h, b.x, b.y].length : Int))) then (Option.bind (idx [r45, b.k, b.w, b.h, b.x, b.y] s92.1) fun x129 => (Option.bind (p_ref01_Num x129) fun r132 => (Option.bind (chk (sadd s92.2.size r132.size)) fun _ => some (.inl ((IntKind.i64.wrap (s92.1 + 1)), (s92.2 ++ r132)))))) else some (.inr s92.2))) (0, (ByteArray.mk #[]))) fun e112 => (Option.bind (p_ref17_Changes a b) fun r137 => (Option.bind (p_ref01_Text b.title) fun r218 => (Option.bind (p_ref01_Num b.len) fun r221 => (Option.bind (chk (sadd r218.size r221.size)) fun _ => (Option.bind (p_ref01_Num b.chain) fun r226 => (Option.bind (chk (sadd (r218 ++ r221).size r226.size)) fun _ => (Option.bind (p_ref12_Pack b.begun) fun r231 => (Option.bind (chk (sadd ((r218 ++ r221) ++ r226).size r231.size)) fun _ => (Option.bind (p_ref01_Num (r137.length : Int)) fun r236 => (Option.bind (chk (sadd (((r218 ++ r221) ++ r226) ++ r231).size r236.size)) fun _ => (Option.bind (chk (sadd e112.size ((((r218 ++ r221) ++ r226) ++ r231) ++ r236).size)) fun _ => (Option.bind (iter (σ := ByteArray × Int) (ρ := ByteArray) (fun s433 => (bif (decide (s433.2 < (r137.length : Int))) then (Option.bind (idx r137 s433.2) fun x581 => (Option.bind (idx b.rows x581) fun x606 => (Option.bind (p_ref01_Num x581) fun r616 => (Option.bind (p_ref16_PackRow x606) fun r619 => (Option.bind (chk (sadd r616.size r619.size)) fun _ => (Option.bind (chk (sadd s433.1.size (r616 ++ r619).size)) fun _ => some (.inl ((s433.1 ++ (r616 ++ r619)), (IntKind.i64.wrap (s433.2 + 1)))))))))) else some (.inr s433.1))) ((e112 ++ ((((r218 ++ r221) ++ r226) ++ r231) ++ r236)), 0)) fun e527 => some e527))))))))))))))))

end Go.Tw.X

set_option linter.unusedVariables false
set_option linter.unusedSimpArgs false
set_option maxRecDepth 10000
namespace Go.Tw.X
open Go Go.Tw
structure Ref19Config where
  part : Int
  every : Int
  most : Int
  deriving DecidableEq, Inhabited

structure Ref19Sender where
  c : Ref19Config
  current : Ref16Snap
  acked : Ref16Snap
  kept : List Ref16Snap
  iD : Int
  key : Int
  base : Int
  parts : List ByteArray
  there : List Bool
  due : Int
  next : Int
  deriving DecidableEq, Inhabited

noncomputable def p_ref19_Clip (c : Ref19Config) : Option Ref19Config :=
  some (Ref19Config.mk (imax 1 (imin c.part 8000)) (imax 1 (imin c.every 1048576)) (imax 1 (imin c.most 64)))

noncomputable def p_ref19_New (c : Ref19Config) : Option Ref19Sender :=
  (Option.bind (p_ref19_Clip c) fun r3 => some (Ref19Sender.mk r3 (Ref16Snap.mk 0 0 0 0 0 (ByteArray.mk #[]) ([] : List Ref09Row) 0 0 ([] : List Ref09Glyph)) (Ref16Snap.mk 0 0 0 0 0 (ByteArray.mk #[]) ([] : List Ref09Row) 0 0 ([] : List Ref09Glyph)) ([] : List Ref16Snap) 0 0 0 ([] : List ByteArray) ([] : List Bool) 0 1))

noncomputable def p_ref19_Note (s_ : Ref19Sender) (x_ : Ref16Snap) : Option (Ref19Sender × Bool) :=
  (Option.bind ((Option.bind (p_ref16_May x_) fun r16 => (bif (!r16) then some true else some (decide (x_.k ≤ s_.current.k)))) : Option Bool) fun e13 => (bif e13 then some (s_, false) else some ((Ref19Sender.mk s_.c x_ s_.acked s_.kept s_.iD s_.key s_.base s_.parts s_.there s_.due s_.next), true)))

noncomputable def p_ref19_Step (s_ : Ref19Sender) (now : Int) : Option (Ref19Sender × (List Ref03Gram)) :=
  (bif (s_.current.k == s_.acked.k) then some ((Ref19Sender.mk s_.c s_.current s_.acked s_.kept 0 0 0 ([] : List ByteArray) ([] : List Bool) 0 s_.next), ([] : List Ref03Gram)) else (Option.bind ((bif (s_.iD == 0) then some true else (bif (s_.key != s_.current.k) then some true else some (s_.base != s_.acked.k))) : Option Bool) fun e14 => (Option.bind ((bif e14 then (Option.bind (p_ref17_Diff s_.acked s_.current) fun r772 => (Option.bind (p_ref04_Split r772 s_.c.part) fun r775 => (Option.bind (chk (mkok (r775.length : Int) 1)) fun _ => (Option.bind (iter (σ := Bool × Int) (ρ := Bool) (fun s872 => (bif (decide (s872.2 < (s_.kept.length : Int))) then (Option.bind ((Option.bind (idx s_.kept s872.2) fun x968 => (bif s872.1 then some true else some (x968.k == s_.current.k))) : Option Bool) fun e965 => some (.inl (e965, (IntKind.i64.wrap (s872.2 + 1))))) else some (.inr s872.1))) (false, 0)) fun e925 => (Option.bind ((bif (!e925) then (Option.bind (chk (apok ([] : List Ref16Snap).length s_.kept.length 120)) fun _ => (Option.bind (chk (apok (([] : List Ref16Snap) ++ s_.kept).length [s_.current].length 120)) fun _ => some (Ref19Sender.mk s_.c s_.current s_.acked ((([] : List Ref16Snap) ++ s_.kept) ++ [s_.current]) s_.next s_.current.k s_.acked.k r775 (List.replicate (r775.length : Int).toNat false) now (IntKind.i64.wrap (s_.next + 1))))) else some (Ref19Sender.mk s_.c s_.current s_.acked s_.kept s_.next s_.current.k s_.acked.k r775 (List.replicate (r775.length : Int).toNat false) now (IntKind.i64.wrap (s_.next + 1)))) : Option Ref19Sender) fun e1057 => (bif (decide ((e1057.kept.length : Int) > e1057.c.most)) then (Option.bind (chk (cutok 1 (e1057.kept.length : Int) e1057.kept.length)) fun _ => some (Ref19Sender.mk (Ref19Config.mk e1057.c.part e1057.c.every e1057.c.most) (Ref16Snap.mk e1057.current.k e1057.current.w e1057.current.h e1057.current.x e1057.current.y e1057.current.title e1057.current.rows e1057.current.len e1057.current.chain e1057.current.begun) (Ref16Snap.mk e1057.acked.k e1057.acked.w e1057.acked.h e1057.acked.x e1057.acked.y e1057.acked.title e1057.acked.rows e1057.acked.len e1057.acked.chain e1057.acked.begun) (cut e1057.kept 1 (e1057.kept.length : Int)) e1057.iD e1057.key e1057.base e1057.parts e1057.there e1057.due e1057.next)) else some (Ref19Sender.mk (Ref19Config.mk e1057.c.part e1057.c.every e1057.c.most) (Ref16Snap.mk e1057.current.k e1057.current.w e1057.current.h e1057.current.x e1057.current.y e1057.current.title e1057.current.rows e1057.current.len e1057.current.chain e1057.current.begun) (Ref16Snap.mk e1057.acked.k e1057.acked.w e1057.acked.h e1057.acked.x e1057.acked.y e1057.acked.title e1057.acked.rows e1057.acked.len e1057.acked.chain e1057.acked.begun) e1057.kept e1057.iD e1057.key e1057.base e1057.parts e1057.there e1057.due e1057.next))))))) else some s_) : Option Ref19Sender) fun e741 => (bif (decide (now < e741.due)) then some ((Ref19Sender.mk (Ref19Config.mk e741.c.part e741.c.every e741.c.most) (Ref16Snap.mk e741.current.k e741.current.w e741.current.h e741.current.x e741.current.y e741.current.title e741.current.rows e741.current.len e741.current.chain e741.current.begun) (Ref16Snap.mk e741.acked.k e741.acked.w e741.acked.h e741.acked.x e741.acked.y e741.acked.title e741.acked.rows e741.acked.len e741.acked.chain e741.acked.begun) e741.kept e741.iD e741.key e741.base e741.parts e741.there e741.due e741.next), ([] : List Ref03Gram)) else (Option.bind (iter (σ := Int × (List Ref03Gram)) (ρ := (List Ref03Gram)) (fun s1293 => (bif (decide (s1293.1 < (e741.parts.length : Int))) then (Option.bind ((Option.bind (idx e741.parts s1293.1) fun x1453 => (Option.bind (idx e741.there s1293.1) fun x1460 => (bif (!x1460) then (Option.bind (chk (apok s1293.2.length ([(Ref03Gram.mk 1 1 [e741.iD, e741.key, e741.base, s1293.1, (e741.parts.length : Int)] x1453)]).length 56)) fun _ => some (s1293.2 ++ [(Ref03Gram.mk 1 1 [e741.iD, e741.key, e741.base, s1293.1, (e741.parts.length : Int)] x1453)])) else some s1293.2))) : Option (List Ref03Gram)) fun e1450 => some (.inl ((IntKind.i64.wrap (s1293.1 + 1)), e1450))) else some (.inr s1293.2))) (0, ([] : List Ref03Gram))) fun e1385 => some ((Ref19Sender.mk (Ref19Config.mk e741.c.part e741.c.every e741.c.most) (Ref16Snap.mk e741.current.k e741.current.w e741.current.h e741.current.x e741.current.y e741.current.title e741.current.rows e741.current.len e741.current.chain e741.current.begun) (Ref16Snap.mk e741.acked.k e741.acked.w e741.acked.h e741.acked.x e741.acked.y e741.acked.title e741.acked.rows e741.acked.len e741.acked.chain e741.acked.begun) e741.kept e741.iD e741.key e741.base e741.parts e741.there (IntKind.i64.wrap (now + e741.c.every)) e741.next), e1385))))))

noncomputable def p_ref19_Ack (s_ : Ref19Sender) (k : Int) (id : Int) (have_ : ByteArray) : Option (Ref19Sender × Bool) :=
  (Option.bind ((bif (decide (id > 0)) then some (id == s_.iD) else some false) : Option Bool) fun e6 => (Option.bind ((bif e6 then (Option.bind (chk (apok ([] : List Bool).length s_.there.length 1)) fun _ => (Option.bind (iter (σ := (List Bool) × Int) (ρ := (List Bool)) (fun s1034 => (bif (decide (s1034.2 < ((([] : List Bool) ++ s_.there).length : Int))) then (Option.bind ((Option.bind ((bif (decide ((IntKind.i64.wrap (s1034.2.tdiv 8)) < (have_.size : Int))) then (Option.bind (sidx have_ (IntKind.i64.wrap (s1034.2.tdiv 8))) fun b1220 => (Option.bind (chk (shk (s1034.2.tmod 8))) fun _ => some (((b1220.fdiv (2 ^ (min (s1034.2.tmod 8).toNat 8))).tmod 2) == 1))) else some false) : Option Bool) fun e1216 => (bif e1216 then (Option.bind (idx s1034.1 s1034.2) fun x1226 => some (s1034.1.set s1034.2.toNat true)) else some s1034.1)) : Option (List Bool)) fun e1200 => some (.inl (e1200, (IntKind.i64.wrap (s1034.2 + 1))))) else some (.inr s1034.1))) ((([] : List Bool) ++ s_.there), 0)) fun e1131 => some (Ref19Sender.mk s_.c s_.current s_.acked s_.kept s_.iD s_.key s_.base s_.parts e1131 s_.due s_.next))) else some s_) : Option Ref19Sender) fun e826 => (Option.bind ((bif (decide (k ≤ e826.acked.k)) then some true else some (decide (k > e826.current.k))) : Option Bool) fun e1236 => (bif e1236 then some ((Ref19Sender.mk (Ref19Config.mk e826.c.part e826.c.every e826.c.most) (Ref16Snap.mk e826.current.k e826.current.w e826.current.h e826.current.x e826.current.y e826.current.title e826.current.rows e826.current.len e826.current.chain e826.current.begun) (Ref16Snap.mk e826.acked.k e826.acked.w e826.acked.h e826.acked.x e826.acked.y e826.acked.title e826.acked.rows e826.acked.len e826.acked.chain e826.acked.begun) e826.kept e826.iD e826.key e826.base e826.parts e826.there e826.due e826.next), false) else (Option.bind (iter (σ := Ref16Snap × (List Ref16Snap) × Bool × Int) (ρ := (List Ref16Snap) × Bool × Ref16Snap) (fun s1546 => (bif (decide (s1546.2.2.2 < (e826.kept.length : Int))) then (Option.bind ((Option.bind (idx e826.kept s1546.2.2.2) fun x1785 => (Option.bind ((bif (x1785.k == k) then some (true, x1785) else some (s1546.2.2.1, s1546.1)) : Option (Bool × Ref16Snap)) fun e1809 => (bif (decide (x1785.k > k)) then (Option.bind (chk (apok s1546.2.1.length [x1785].length 120)) fun _ => some ((s1546.2.1 ++ [x1785]), e1809.1, e1809.2)) else some (s1546.2.1, e1809.1, e1809.2)))) : Option ((List Ref16Snap) × Bool × Ref16Snap)) fun e1782 => some (.inl (e1782.2.2, e1782.1, e1782.2.1, (IntKind.i64.wrap (s1546.2.2.2 + 1))))) else some (.inr (s1546.2.1, s1546.2.2.1, s1546.1)))) ((Ref16Snap.mk 0 0 0 0 0 (ByteArray.mk #[]) ([] : List Ref09Row) 0 0 ([] : List Ref09Glyph)), ([] : List Ref16Snap), false, 0)) fun e1687 => (Option.bind ((bif e1687.2.1 then some (Ref19Sender.mk (Ref19Config.mk e826.c.part e826.c.every e826.c.most) (Ref16Snap.mk e826.current.k e826.current.w e826.current.h e826.current.x e826.current.y e826.current.title e826.current.rows e826.current.len e826.current.chain e826.current.begun) e1687.2.2 e1687.1 e826.iD e826.key e826.base e826.parts e826.there e826.due e826.next) else some (Ref19Sender.mk (Ref19Config.mk e826.c.part e826.c.every e826.c.most) (Ref16Snap.mk e826.current.k e826.current.w e826.current.h e826.current.x e826.current.y e826.current.title e826.current.rows e826.current.len e826.current.chain e826.current.begun) e1687.2.2 e826.kept e826.iD e826.key e826.base e826.parts e826.there e826.due e826.next)) : Option Ref19Sender) fun e1834 => some ((Ref19Sender.mk (Ref19Config.mk e1834.c.part e1834.c.every e1834.c.most) (Ref16Snap.mk e1834.current.k e1834.current.w e1834.current.h e1834.current.x e1834.current.y e1834.current.title e1834.current.rows e1834.current.len e1834.current.chain e1834.current.begun) (Ref16Snap.mk e1834.acked.k e1834.acked.w e1834.acked.h e1834.acked.x e1834.acked.y e1834.acked.title e1834.acked.rows e1834.acked.len e1834.acked.chain e1834.acked.begun) e1834.kept e1834.iD e1834.key e1834.base e1834.parts e1834.there e1834.due e1834.next), e1687.2.1)))))))
end Go.Tw.X

set_option linter.unusedVariables false
set_option linter.unusedSimpArgs false
set_option maxRecDepth 10000
namespace Go.Tw.X
open Go Go.Tw
structure Law19Act where
  kind : Int
  k : Int
  iD : Int
  later : Int
  have_ : ByteArray
  snap : SnapSnap
  deriving DecidableEq, Inhabited

def wfLaw19Act (x : Law19Act) : Prop := (inK .i64) x.kind ∧ (inK .i64) x.k ∧ (inK .i64) x.iD ∧ (inK .i64) x.later ∧ (fun s : ByteArray => s.size ≤ maxLen) x.have_ ∧ wfSnapSnap x.snap ∧ True
noncomputable def p_law19_awake : Option Bool :=
  (Option.bind (p_sender_New (SenderConfig.mk 100 5 3)) fun r1 => (Option.bind (p_row_Blank 1 0) fun r50 => (Option.bind (p_sender_Sender_Note r1 (SnapSnap.mk 1 1 1 0 0 (ByteArray.mk #[]) [r50] 0 0 ([] : List RowGlyph))) fun r60 => (bif (!r60.1) then some false else (Option.bind (p_sender_Sender_Step r60.2 0) fun r76 => (Option.bind ((bif ((r76.1.length : Int) == 1) then (Option.bind (idx r76.1 0) fun x236 => (bif (x236.kind == 1) then (Option.bind (idx r76.1 0) fun x245 => (Option.bind (p_law01_Same x245.nums [1, 1, 0, 0, 1]) fun r253 => (bif r253 then (Option.bind (p_sender_Sender_Step r76.2 4) fun r257 => (bif ((r257.1.length : Int) == 0) then (Option.bind (p_sender_Sender_Step r257.2 5) fun r277 => some (((r277.1.length : Int) == 1), r277.2)) else some (false, r257.2))) else some (false, r76.2)))) else some (false, r76.2))) else some (false, r76.2)) : Option (Bool × SenderSender)) fun e232 => some e232.1))))))

noncomputable def p_law19_Grams (l : List GramGram) (x_ : List Ref03Gram) : Option Bool :=
  (bif ((l.length : Int) != (x_.length : Int)) then some false else (Option.bind (iter (σ := Int) (ρ := Unit ⊕ Bool) (fun s382 => (bif (decide (s382 < (x_.length : Int))) then (Option.bind (idx l s382) fun x743 => (Option.bind (idx x_ s382) fun x753 => (Option.bind (p_law03_Is x743 x753) fun r763 => (bif (!r763) then (inrr (some false)) else some (.inl (IntKind.i64.wrap (s382 + 1))))))) else some (.inr (.inl ())))) 0) fun | .inl e571 => some true | .inr w => some w))

noncomputable def p_law19_do (s_ : SenderSender) (x_ : Ref19Sender) (a : Law19Act) (now : Int) : Option (Ref19Sender × Bool × SenderSender) :=
  (bif (a.kind == 0) then (Option.bind (p_law16_Cut a.snap) fun r277 => (Option.bind (p_law16_Told (SnapSnap.mk (IntKind.i64.wrap ((IntKind.i64.wrap (x_.current.k + (Go.bits .and .i64 a.k 7))) - 1)) r277.w r277.h r277.x r277.y r277.title r277.rows r277.len r277.chain r277.begun)) fun r359 => (Option.bind (p_ref19_Note x_ r359) fun r369 => (Option.bind (p_sender_Sender_Note s_ (SnapSnap.mk (IntKind.i64.wrap ((IntKind.i64.wrap (x_.current.k + (Go.bits .and .i64 a.k 7))) - 1)) r277.w r277.h r277.x r277.y r277.title r277.rows r277.len r277.chain r277.begun)) fun r425 => some (r369.1, (r425.1 == r369.2), r425.2))))) else (bif (a.kind == 1) then (Option.bind (p_ref19_Step x_ now) fun r440 => (Option.bind (p_sender_Sender_Step s_ now) fun r526 => (Option.bind (p_law19_Grams r526.1 r440.2) fun r545 => some (r440.1, r545, r526.2)))) else (Option.bind (p_law01_Cut a.have_ 40) fun r548 => (Option.bind (p_ref19_Ack x_ (IntKind.i64.wrap ((IntKind.i64.wrap (x_.current.k - (Go.bits .and .i64 a.k 7))) + 1)) (IntKind.i64.wrap (x_.iD - (Go.bits .and .i64 a.iD 3))) r548) fun r551 => (Option.bind (p_sender_Sender_Ack s_ (IntKind.i64.wrap ((IntKind.i64.wrap (x_.current.k - (Go.bits .and .i64 a.k 7))) + 1)) (IntKind.i64.wrap (x_.iD - (Go.bits .and .i64 a.iD 3))) r548) fun r618 => some (r551.1, (r618.1 == r551.2), r618.2))))))

noncomputable def p_law19_Is (s_ : SenderSender) (x_ : Ref19Sender) : Option Bool :=
  (Option.bind (iter (σ := Int × (List Int)) (ρ := (List Int)) (fun s111 => (bif (decide (s111.1 < (x_.kept.length : Int))) then (Option.bind (idx x_.kept s111.1) fun x193 => (Option.bind (chk (apok s111.2.length [x193.k].length 8)) fun _ => some (.inl ((IntKind.i64.wrap (s111.1 + 1)), (s111.2 ++ [x193.k]))))) else some (.inr s111.2))) (0, [])) fun e162 => (Option.bind (iter (σ := Int × (List Int)) (ρ := (List Int)) (fun s348 => (bif (decide (s348.1 < (x_.there.length : Int))) then (Option.bind ((Option.bind (idx x_.there s348.1) fun x458 => (bif (!x458) then (Option.bind (chk (apok s348.2.length [s348.1].length 8)) fun _ => some (s348.2 ++ [s348.1])) else some s348.2)) : Option (List Int)) fun e455 => some (.inl ((IntKind.i64.wrap (s348.1 + 1)), e455))) else some (.inr s348.2))) (0, [])) fun e410 => (Option.bind (p_sender_Sender_Message s_) fun r474 => (Option.bind ((Option.bind (p_sender_Sender_Current s_) fun r631 => (bif (r631 == x_.current.k) then (Option.bind (p_sender_Sender_Acked s_) fun r635 => (bif (r635 == x_.acked.k) then (Option.bind (p_sender_Sender_Kept s_) fun r639 => (Option.bind (p_law01_Same r639 e162) fun r645 => (bif r645 then (bif (r474.1 == x_.iD) then (bif (r474.2.1 == x_.key) then (bif (r474.2.2 == x_.base) then (Option.bind (p_sender_Sender_Lacks s_) fun r652 => (Option.bind (p_law01_Same r652 e410) fun r658 => some r658)) else some false) else some false) else some false) else some false))) else some false)) else some false)) : Option Bool) fun e598 => some e598))))

noncomputable def p_law19_SenderClones (acts : List Law19Act) (more : List Law19Act) : Option Bool :=
  (Option.bind p_law19_awake fun r1 => (bif (!r1) then some false else (Option.bind (p_sender_New (SenderConfig.mk 10 2 3)) fun r158 => (Option.bind (p_ref19_New (Ref19Config.mk 10 2 3)) fun r183 => (Option.bind (iter (σ := Ref19Sender × SenderSender × Int × Int) (ρ := (Int × Ref19Sender × SenderSender) ⊕ Bool) (fun s1299 => (Option.bind ((bif (decide (s1299.2.2.1 < (acts.length : Int))) then some (decide (s1299.2.2.1 < 15)) else some false) : Option Bool) fun e1833 => (bif e1833 then (Option.bind (idx acts s1299.2.2.1) fun x2073 => (Option.bind (idx acts s1299.2.2.1) fun x2251 => (Option.bind (p_law19_do (SenderSender.mk (SenderConfig.mk s1299.2.1.config.part s1299.2.1.config.every s1299.2.1.config.most) (SnapSnap.mk s1299.2.1.current.k s1299.2.1.current.w s1299.2.1.current.h s1299.2.1.current.x s1299.2.1.current.y s1299.2.1.current.title s1299.2.1.current.rows s1299.2.1.current.len s1299.2.1.current.chain s1299.2.1.current.begun) (SnapSnap.mk s1299.2.1.acked.k s1299.2.1.acked.w s1299.2.1.acked.h s1299.2.1.acked.x s1299.2.1.acked.y s1299.2.1.acked.title s1299.2.1.acked.rows s1299.2.1.acked.len s1299.2.1.acked.chain s1299.2.1.acked.begun) s1299.2.1.kept (SenderMessage.mk s1299.2.1.message.id s1299.2.1.message.key s1299.2.1.message.base s1299.2.1.message.parts s1299.2.1.message.there s1299.2.1.message.due) s1299.2.1.next) (Ref19Sender.mk (Ref19Config.mk s1299.1.c.part s1299.1.c.every s1299.1.c.most) (Ref16Snap.mk s1299.1.current.k s1299.1.current.w s1299.1.current.h s1299.1.current.x s1299.1.current.y s1299.1.current.title s1299.1.current.rows s1299.1.current.len s1299.1.current.chain s1299.1.current.begun) (Ref16Snap.mk s1299.1.acked.k s1299.1.acked.w s1299.1.acked.h s1299.1.acked.x s1299.1.acked.y s1299.1.acked.title s1299.1.acked.rows s1299.1.acked.len s1299.1.acked.chain s1299.1.acked.begun) s1299.1.kept s1299.1.iD s1299.1.key s1299.1.base s1299.1.parts s1299.1.there s1299.1.due s1299.1.next) x2251 (IntKind.i64.wrap (s1299.2.2.2 + (Go.bits .and .i64 x2073.later 7)))) fun r2261 => (bif (!r2261.2.1) then (inrr (some false)) else some (.inl (r2261.1, r2261.2.2, (IntKind.i64.wrap (s1299.2.2.1 + 1)), (IntKind.i64.wrap (s1299.2.2.2 + (Go.bits .and .i64 x2073.later 7))))))))) else some (.inr (.inl (s1299.2.2.2, (Ref19Sender.mk (Ref19Config.mk s1299.1.c.part s1299.1.c.every s1299.1.c.most) (Ref16Snap.mk s1299.1.current.k s1299.1.current.w s1299.1.current.h s1299.1.current.x s1299.1.current.y s1299.1.current.title s1299.1.current.rows s1299.1.current.len s1299.1.current.chain s1299.1.current.begun) (Ref16Snap.mk s1299.1.acked.k s1299.1.acked.w s1299.1.acked.h s1299.1.acked.x s1299.1.acked.y s1299.1.acked.title s1299.1.acked.rows s1299.1.acked.len s1299.1.acked.chain s1299.1.acked.begun) s1299.1.kept s1299.1.iD s1299.1.key s1299.1.base s1299.1.parts s1299.1.there s1299.1.due s1299.1.next), (SenderSender.mk (SenderConfig.mk s1299.2.1.config.part s1299.2.1.config.every s1299.2.1.config.most) (SnapSnap.mk s1299.2.1.current.k s1299.2.1.current.w s1299.2.1.current.h s1299.2.1.current.x s1299.2.1.current.y s1299.2.1.current.title s1299.2.1.current.rows s1299.2.1.current.len s1299.2.1.current.chain s1299.2.1.current.begun) (SnapSnap.mk s1299.2.1.acked.k s1299.2.1.acked.w s1299.2.1.acked.h s1299.2.1.acked.x s1299.2.1.acked.y s1299.2.1.acked.title s1299.2.1.acked.rows s1299.2.1.acked.len s1299.2.1.acked.chain s1299.2.1.acked.begun) s1299.2.1.kept (SenderMessage.mk s1299.2.1.message.id s1299.2.1.message.key s1299.2.1.message.base s1299.2.1.message.parts s1299.2.1.message.there s1299.2.1.message.due) s1299.2.1.next))))))) (r183, r158, 0, 0)) fun | .inl e1822 => (Option.bind ((Option.bind (p_sender_Sender_Clone (SenderSender.mk (SenderConfig.mk e1822.2.2.config.part e1822.2.2.config.every e1822.2.2.config.most) (SnapSnap.mk e1822.2.2.current.k e1822.2.2.current.w e1822.2.2.current.h e1822.2.2.current.x e1822.2.2.current.y e1822.2.2.current.title e1822.2.2.current.rows e1822.2.2.current.len e1822.2.2.current.chain e1822.2.2.current.begun) (SnapSnap.mk e1822.2.2.acked.k e1822.2.2.acked.w e1822.2.2.acked.h e1822.2.2.acked.x e1822.2.2.acked.y e1822.2.2.acked.title e1822.2.2.acked.rows e1822.2.2.acked.len e1822.2.2.acked.chain e1822.2.2.acked.begun) e1822.2.2.kept (SenderMessage.mk e1822.2.2.message.id e1822.2.2.message.key e1822.2.2.message.base e1822.2.2.message.parts e1822.2.2.message.there e1822.2.2.message.due) e1822.2.2.next)) fun r2583 => some (r2583, (Ref19Sender.mk (Ref19Config.mk e1822.2.1.c.part e1822.2.1.c.every e1822.2.1.c.most) (Ref16Snap.mk e1822.2.1.current.k e1822.2.1.current.w e1822.2.1.current.h e1822.2.1.current.x e1822.2.1.current.y e1822.2.1.current.title e1822.2.1.current.rows e1822.2.1.current.len e1822.2.1.current.chain e1822.2.1.current.begun) (Ref16Snap.mk e1822.2.1.acked.k e1822.2.1.acked.w e1822.2.1.acked.h e1822.2.1.acked.x e1822.2.1.acked.y e1822.2.1.acked.title e1822.2.1.acked.rows e1822.2.1.acked.len e1822.2.1.acked.chain e1822.2.1.acked.begun) e1822.2.1.kept e1822.2.1.iD e1822.2.1.key e1822.2.1.base e1822.2.1.parts e1822.2.1.there e1822.2.1.due e1822.2.1.next))) : Option (SenderSender × Ref19Sender)) fun e2535 => (Option.bind (iter (σ := SenderSender × Ref19Sender × Int × Int) (ρ := (SenderSender × Ref19Sender) ⊕ Bool) (fun s3720 => (Option.bind ((bif (decide (s3720.2.2.1 < (more.length : Int))) then some (decide (s3720.2.2.1 < 12)) else some false) : Option Bool) fun e4253 => (bif e4253 then (Option.bind (idx more s3720.2.2.1) fun x4493 => (Option.bind (idx more s3720.2.2.1) fun x4671 => (Option.bind (p_law19_do (SenderSender.mk (SenderConfig.mk s3720.1.config.part s3720.1.config.every s3720.1.config.most) (SnapSnap.mk s3720.1.current.k s3720.1.current.w s3720.1.current.h s3720.1.current.x s3720.1.current.y s3720.1.current.title s3720.1.current.rows s3720.1.current.len s3720.1.current.chain s3720.1.current.begun) (SnapSnap.mk s3720.1.acked.k s3720.1.acked.w s3720.1.acked.h s3720.1.acked.x s3720.1.acked.y s3720.1.acked.title s3720.1.acked.rows s3720.1.acked.len s3720.1.acked.chain s3720.1.acked.begun) s3720.1.kept (SenderMessage.mk s3720.1.message.id s3720.1.message.key s3720.1.message.base s3720.1.message.parts s3720.1.message.there s3720.1.message.due) s3720.1.next) (Ref19Sender.mk (Ref19Config.mk s3720.2.1.c.part s3720.2.1.c.every s3720.2.1.c.most) (Ref16Snap.mk s3720.2.1.current.k s3720.2.1.current.w s3720.2.1.current.h s3720.2.1.current.x s3720.2.1.current.y s3720.2.1.current.title s3720.2.1.current.rows s3720.2.1.current.len s3720.2.1.current.chain s3720.2.1.current.begun) (Ref16Snap.mk s3720.2.1.acked.k s3720.2.1.acked.w s3720.2.1.acked.h s3720.2.1.acked.x s3720.2.1.acked.y s3720.2.1.acked.title s3720.2.1.acked.rows s3720.2.1.acked.len s3720.2.1.acked.chain s3720.2.1.acked.begun) s3720.2.1.kept s3720.2.1.iD s3720.2.1.key s3720.2.1.base s3720.2.1.parts s3720.2.1.there s3720.2.1.due s3720.2.1.next) x4671 (IntKind.i64.wrap (s3720.2.2.2 + (Go.bits .and .i64 x4493.later 7)))) fun r4681 => (bif (!r4681.2.1) then (inrr (some false)) else some (.inl (r4681.2.2, r4681.1, (IntKind.i64.wrap (s3720.2.2.1 + 1)), (IntKind.i64.wrap (s3720.2.2.2 + (Go.bits .and .i64 x4493.later 7))))))))) else some (.inr (.inl ((SenderSender.mk (SenderConfig.mk s3720.1.config.part s3720.1.config.every s3720.1.config.most) (SnapSnap.mk s3720.1.current.k s3720.1.current.w s3720.1.current.h s3720.1.current.x s3720.1.current.y s3720.1.current.title s3720.1.current.rows s3720.1.current.len s3720.1.current.chain s3720.1.current.begun) (SnapSnap.mk s3720.1.acked.k s3720.1.acked.w s3720.1.acked.h s3720.1.acked.x s3720.1.acked.y s3720.1.acked.title s3720.1.acked.rows s3720.1.acked.len s3720.1.acked.chain s3720.1.acked.begun) s3720.1.kept (SenderMessage.mk s3720.1.message.id s3720.1.message.key s3720.1.message.base s3720.1.message.parts s3720.1.message.there s3720.1.message.due) s3720.1.next), (Ref19Sender.mk (Ref19Config.mk s3720.2.1.c.part s3720.2.1.c.every s3720.2.1.c.most) (Ref16Snap.mk s3720.2.1.current.k s3720.2.1.current.w s3720.2.1.current.h s3720.2.1.current.x s3720.2.1.current.y s3720.2.1.current.title s3720.2.1.current.rows s3720.2.1.current.len s3720.2.1.current.chain s3720.2.1.current.begun) (Ref16Snap.mk s3720.2.1.acked.k s3720.2.1.acked.w s3720.2.1.acked.h s3720.2.1.acked.x s3720.2.1.acked.y s3720.2.1.acked.title s3720.2.1.acked.rows s3720.2.1.acked.len s3720.2.1.acked.chain s3720.2.1.acked.begun) s3720.2.1.kept s3720.2.1.iD s3720.2.1.key s3720.2.1.base s3720.2.1.parts s3720.2.1.there s3720.2.1.due s3720.2.1.next))))))) ((SenderSender.mk (SenderConfig.mk e2535.1.config.part e2535.1.config.every e2535.1.config.most) (SnapSnap.mk e2535.1.current.k e2535.1.current.w e2535.1.current.h e2535.1.current.x e2535.1.current.y e2535.1.current.title e2535.1.current.rows e2535.1.current.len e2535.1.current.chain e2535.1.current.begun) (SnapSnap.mk e2535.1.acked.k e2535.1.acked.w e2535.1.acked.h e2535.1.acked.x e2535.1.acked.y e2535.1.acked.title e2535.1.acked.rows e2535.1.acked.len e2535.1.acked.chain e2535.1.acked.begun) e2535.1.kept (SenderMessage.mk e2535.1.message.id e2535.1.message.key e2535.1.message.base e2535.1.message.parts e2535.1.message.there e2535.1.message.due) e2535.1.next), (Ref19Sender.mk (Ref19Config.mk e2535.2.c.part e2535.2.c.every e2535.2.c.most) (Ref16Snap.mk e2535.2.current.k e2535.2.current.w e2535.2.current.h e2535.2.current.x e2535.2.current.y e2535.2.current.title e2535.2.current.rows e2535.2.current.len e2535.2.current.chain e2535.2.current.begun) (Ref16Snap.mk e2535.2.acked.k e2535.2.acked.w e2535.2.acked.h e2535.2.acked.x e2535.2.acked.y e2535.2.acked.title e2535.2.acked.rows e2535.2.acked.len e2535.2.acked.chain e2535.2.acked.begun) e2535.2.kept e2535.2.iD e2535.2.key e2535.2.base e2535.2.parts e2535.2.there e2535.2.due e2535.2.next), 0, e1822.1)) fun | .inl e4242 => (Option.bind ((Option.bind (p_law19_Is (SenderSender.mk (SenderConfig.mk e1822.2.2.config.part e1822.2.2.config.every e1822.2.2.config.most) (SnapSnap.mk e1822.2.2.current.k e1822.2.2.current.w e1822.2.2.current.h e1822.2.2.current.x e1822.2.2.current.y e1822.2.2.current.title e1822.2.2.current.rows e1822.2.2.current.len e1822.2.2.current.chain e1822.2.2.current.begun) (SnapSnap.mk e1822.2.2.acked.k e1822.2.2.acked.w e1822.2.2.acked.h e1822.2.2.acked.x e1822.2.2.acked.y e1822.2.2.acked.title e1822.2.2.acked.rows e1822.2.2.acked.len e1822.2.2.acked.chain e1822.2.2.acked.begun) e1822.2.2.kept (SenderMessage.mk e1822.2.2.message.id e1822.2.2.message.key e1822.2.2.message.base e1822.2.2.message.parts e1822.2.2.message.there e1822.2.2.message.due) e1822.2.2.next) (Ref19Sender.mk (Ref19Config.mk e1822.2.1.c.part e1822.2.1.c.every e1822.2.1.c.most) (Ref16Snap.mk e1822.2.1.current.k e1822.2.1.current.w e1822.2.1.current.h e1822.2.1.current.x e1822.2.1.current.y e1822.2.1.current.title e1822.2.1.current.rows e1822.2.1.current.len e1822.2.1.current.chain e1822.2.1.current.begun) (Ref16Snap.mk e1822.2.1.acked.k e1822.2.1.acked.w e1822.2.1.acked.h e1822.2.1.acked.x e1822.2.1.acked.y e1822.2.1.acked.title e1822.2.1.acked.rows e1822.2.1.acked.len e1822.2.1.acked.chain e1822.2.1.acked.begun) e1822.2.1.kept e1822.2.1.iD e1822.2.1.key e1822.2.1.base e1822.2.1.parts e1822.2.1.there e1822.2.1.due e1822.2.1.next)) fun r4747 => (bif r4747 then (Option.bind (p_law19_Is (SenderSender.mk (SenderConfig.mk e4242.1.config.part e4242.1.config.every e4242.1.config.most) (SnapSnap.mk e4242.1.current.k e4242.1.current.w e4242.1.current.h e4242.1.current.x e4242.1.current.y e4242.1.current.title e4242.1.current.rows e4242.1.current.len e4242.1.current.chain e4242.1.current.begun) (SnapSnap.mk e4242.1.acked.k e4242.1.acked.w e4242.1.acked.h e4242.1.acked.x e4242.1.acked.y e4242.1.acked.title e4242.1.acked.rows e4242.1.acked.len e4242.1.acked.chain e4242.1.acked.begun) e4242.1.kept (SenderMessage.mk e4242.1.message.id e4242.1.message.key e4242.1.message.base e4242.1.message.parts e4242.1.message.there e4242.1.message.due) e4242.1.next) (Ref19Sender.mk (Ref19Config.mk e4242.2.c.part e4242.2.c.every e4242.2.c.most) (Ref16Snap.mk e4242.2.current.k e4242.2.current.w e4242.2.current.h e4242.2.current.x e4242.2.current.y e4242.2.current.title e4242.2.current.rows e4242.2.current.len e4242.2.current.chain e4242.2.current.begun) (Ref16Snap.mk e4242.2.acked.k e4242.2.acked.w e4242.2.acked.h e4242.2.acked.x e4242.2.acked.y e4242.2.acked.title e4242.2.acked.rows e4242.2.acked.len e4242.2.acked.chain e4242.2.acked.begun) e4242.2.kept e4242.2.iD e4242.2.key e4242.2.base e4242.2.parts e4242.2.there e4242.2.due e4242.2.next)) fun r4751 => some r4751) else some false)) : Option Bool) fun e4744 => some e4744) | .inr w => some w)) | .inr w => some w)))))
end Go.Tw.X

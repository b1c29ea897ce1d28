import Derived.Test.YtmekokacemcfoaaGreatDoorFw2
set_option linter.unusedVariables false
set_option linter.unusedSimpArgs false
set_option maxRecDepth 10000
namespace Go.Tw.X
open Go Go.Tw
structure NumOut where
  b : List Int
  deriving DecidableEq, Inhabited

structure NumIn where
  s : ByteArray
  e : Int
  deriving DecidableEq, Inhabited

noncomputable def p_num_digits (n_ : Int) : Option Int :=
  some n_

noncomputable def p_num_clip (n_ : Int) : Option Int :=
  some (imax 0 (imin n_ 4611686018427387904))

noncomputable def p_num_digits_1 {σ : Type} (Y : σ → Int → Option (σ × Bool)) (y0 : σ) (x1 : Int) : Option (σ × Int) :=
  (Option.bind (p_num_clip x1) fun r1 => (Option.bind (iter (σ := Int × σ) (ρ := (Int × σ) ⊕ (σ × Int)) (fun s37 => (bif (decide (s37.1 ≥ 128)) then (Option.bind (Y s37.2 (Go.bits .or .u8 (Go.bits .and .u8 (IntKind.u8.wrap s37.1) 127) 128)) fun z68 => (bif (!z68.2) then (inrr (some (z68.1, s37.1))) else some (.inl ((s37.1.fdiv (2 ^ (min 7 64))), z68.1)))) else some (.inr (.inl (s37.1, s37.2))))) (r1, y0)) fun | .inl e53 => (Option.bind (Y e53.2 (IntKind.u8.wrap e53.1)) fun z75 => some (z75.1, e53.1)) | .inr w => some w))

noncomputable def p_num_Out_Num (o : NumOut) (l : List Int) : Option NumOut :=
  (Option.bind (iter (σ := NumOut × Int) (ρ := NumOut) (fun s348 => (bif (decide (s348.2 < (l.length : Int))) then (Option.bind (idx l s348.2) fun x608 => (Option.bind (p_num_digits x608) fun r615 => (Option.bind (p_num_digits_1 (fun s661 x619 => (Option.bind (chk (apok s661.b.length [x619].length 1)) fun _ => some ((NumOut.mk (s661.b ++ [x619])), true))) (s348.1 : NumOut) r615) fun r680 => some (.inl (r680.1, (IntKind.i64.wrap (s348.2 + 1))))))) else some (.inr s348.1))) (o, 0)) fun e518 => some e518)

noncomputable def p_num_Out_Bytes (o : NumOut) : Option ByteArray :=
  some (bstr o.b)

end Go.Tw.X

set_option linter.unusedVariables false
set_option linter.unusedSimpArgs false
set_option maxRecDepth 10000
namespace Go.Tw.X
open Go Go.Tw
structure GlyphDecoder where
  lead : Int
  rune : Int
  need : Int
  deriving DecidableEq, Inhabited

structure GlyphLead where
  first : Int
  last : Int
  need : Int
  low : Int
  high : Int
  deriving DecidableEq, Inhabited

def t_glyph_leads : List GlyphLead := [⟨194, 223, 1, 128, 191⟩, ⟨224, 224, 2, 160, 191⟩, ⟨225, 236, 2, 128, 191⟩, ⟨237, 237, 2, 128, 159⟩, ⟨238, 239, 2, 128, 191⟩, ⟨240, 240, 3, 144, 191⟩, ⟨241, 243, 3, 128, 191⟩, ⟨244, 244, 3, 128, 143⟩]
noncomputable def p_glyph_Decoder_End (d : GlyphDecoder) : Option (List Int) :=
  (bif (decide (d.need ≤ 0)) then some ([] : List Int) else some [65533])

noncomputable def p_glyph_find (b : Int) : Option (GlyphLead × Bool) :=
  (Option.bind (iter (σ := Int) (ρ := Unit ⊕ (GlyphLead × Bool)) (fun s57 => (bif (decide (s57 < 8)) then (Option.bind (idx t_glyph_leads s57) fun x106 => (Option.bind ((bif (decide (b ≥ x106.first)) then some (decide (b ≤ x106.last)) else some false) : Option Bool) fun e113 => (bif e113 then (inrr (some (x106, true))) else some (.inl (IntKind.i64.wrap (s57 + 1)))))) else some (.inr (.inl ())))) 0) fun | .inl e84 => some ((GlyphLead.mk 0 0 0 0 0), false) | .inr w => some w)

noncomputable def p_glyph_begin (b : Int) : Option (GlyphDecoder × (List Int)) :=
  (bif (decide (b < 128)) then some ((GlyphDecoder.mk 0 0 0), [(IntKind.i32.wrap b)]) else (Option.bind (p_glyph_find b) fun r8 => (bif (!r8.2) then some ((GlyphDecoder.mk 0 0 0), [65533]) else (Option.bind (chk (shk r8.1.need)) fun _ => some ((GlyphDecoder.mk b (Go.bits .and .i32 (IntKind.i32.wrap b) ((63 : Int).fdiv (2 ^ (min r8.1.need.toNat 32)))) r8.1.need), ([] : List Int))))))

noncomputable def p_glyph_Decoder_fits (d : GlyphDecoder) (b : Int) : Option Bool :=
  (Option.bind (p_glyph_find d.lead) fun r2 => (bif (decide (d.need < r2.1.need)) then (Option.bind ((bif (decide (b ≥ 128)) then some (decide (b ≤ 191)) else some false) : Option Bool) fun e18 => some e18) else (Option.bind ((bif (decide (b ≥ r2.1.low)) then some (decide (b ≤ r2.1.high)) else some false) : Option Bool) fun e25 => some e25)))

noncomputable def p_glyph_Decoder_Next (d : GlyphDecoder) (b : Int) : Option (GlyphDecoder × (List Int)) :=
  (bif (decide (d.need ≤ 0)) then (Option.bind (p_glyph_begin b) fun r11 => some (r11.1, r11.2)) else (Option.bind (p_glyph_Decoder_fits d b) fun r17 => (bif (!r17) then (Option.bind (p_glyph_begin b) fun r61 => (Option.bind (chk (apok [65533].length r61.2.length 4)) fun _ => some (r61.1, ([65533] ++ r61.2)))) else (bif ((IntKind.i64.wrap (d.need - 1)) == 0) then (Option.bind (some [(Go.bits .or .i32 (IntKind.i32.wrap (d.rune * 2 ^ (min 6 32))) (Go.bits .and .i32 (IntKind.i32.wrap b) 63))] : Option (List Int)) fun e173 => some ((GlyphDecoder.mk 0 0 0), e173)) else some ((GlyphDecoder.mk d.lead (Go.bits .or .i32 (IntKind.i32.wrap (d.rune * 2 ^ (min 6 32))) (Go.bits .and .i32 (IntKind.i32.wrap b) 63)) (IntKind.i64.wrap (d.need - 1))), ([] : List Int))))))
end Go.Tw.X

set_option linter.unusedVariables false
set_option linter.unusedSimpArgs false
set_option maxRecDepth 10000
namespace Go.Tw.X
open Go Go.Tw
structure Arr2Int where
  e0 : Int
  e1 : Int
  deriving DecidableEq, Inhabited

noncomputable def p_bits_Mul64 (x_ : Int) (y : Int) : Option (Int × Int) :=
  some ((IntKind.u64.wrap ((IntKind.u64.wrap ((IntKind.u64.wrap ((x_.fdiv (2 ^ (min 32 64))) * (y.fdiv (2 ^ (min 32 64))))) + ((IntKind.u64.wrap ((IntKind.u64.wrap ((x_.fdiv (2 ^ (min 32 64))) * (Go.bits .and .u64 y 4294967295))) + ((IntKind.u64.wrap ((Go.bits .and .u64 x_ 4294967295) * (Go.bits .and .u64 y 4294967295))).fdiv (2 ^ (min 32 64))))).fdiv (2 ^ (min 32 64))))) + ((IntKind.u64.wrap ((Go.bits .and .u64 (IntKind.u64.wrap ((IntKind.u64.wrap ((x_.fdiv (2 ^ (min 32 64))) * (Go.bits .and .u64 y 4294967295))) + ((IntKind.u64.wrap ((Go.bits .and .u64 x_ 4294967295) * (Go.bits .and .u64 y 4294967295))).fdiv (2 ^ (min 32 64))))) 4294967295) + (IntKind.u64.wrap ((Go.bits .and .u64 x_ 4294967295) * (y.fdiv (2 ^ (min 32 64))))))).fdiv (2 ^ (min 32 64))))), (IntKind.u64.wrap (x_ * y)))

noncomputable def p_bits_Mul (x_ : Int) (y : Int) : Option (Int × Int) :=
  (Option.bind (p_bits_Mul64 x_ y) fun r1 => some (r1.1, r1.2))

noncomputable def p_stringslite_HasPrefix (s_ : ByteArray) (prefix_ : ByteArray) : Option Bool :=
  (Option.bind ((bif (decide ((s_.size : Int) ≥ (prefix_.size : Int))) then (Option.bind (chk (cutok 0 (prefix_.size : Int) s_.size)) fun _ => some ((scut s_ 0 (prefix_.size : Int)).toList == prefix_.toList)) else some false) : Option Bool) fun e8 => some e8)

noncomputable def p_stringslite_CutPrefix (s_ : ByteArray) (prefix_ : ByteArray) : Option (ByteArray × Bool) :=
  (Option.bind (p_stringslite_HasPrefix s_ prefix_) fun r1 => (bif (!r1) then some (s_, false) else (Option.bind (chk (cutok (prefix_.size : Int) (s_.size : Int) s_.size)) fun _ => some ((scut s_ (prefix_.size : Int) (s_.size : Int)), true))))

noncomputable def p_strings_CutPrefix (s_ : ByteArray) (prefix_ : ByteArray) : Option (ByteArray × Bool) :=
  (Option.bind (p_stringslite_CutPrefix s_ prefix_) fun r1 => some (r1.1, r1.2))

end Go.Tw.X

set_option linter.unusedVariables false
set_option linter.unusedSimpArgs false
set_option maxRecDepth 10000
namespace Go.Tw.X
open Go Go.Tw
structure WideSpan where
  from_ : Int
  to : Int
  deriving DecidableEq, Inhabited

def t_wide_nones : List WideSpan := [⟨(-2147483648), 31⟩, ⟨127, 159⟩, ⟨768, 879⟩, ⟨6832, 6911⟩, ⟨7616, 7679⟩, ⟨8203, 8207⟩, ⟨8400, 8447⟩, ⟨55296, 57343⟩, ⟨65024, 65039⟩, ⟨65056, 65071⟩, ⟨65279, 65279⟩, ⟨917760, 917999⟩, ⟨1114112, 2147483647⟩]
def t_wide_twos : List WideSpan := [⟨4352, 4447⟩, ⟨11904, 12350⟩, ⟨12353, 13311⟩, ⟨13312, 19903⟩, ⟨19968, 40959⟩, ⟨40960, 42191⟩, ⟨44032, 55203⟩, ⟨63744, 64255⟩, ⟨65072, 65135⟩, ⟨65280, 65376⟩, ⟨65504, 65510⟩, ⟨127744, 128591⟩, ⟨129280, 129535⟩, ⟨131072, 262141⟩]
noncomputable def p_wide_in (l : List WideSpan) (r_ : Int) : Option Bool :=
  (Option.bind (iter (σ := Int × Int) (ρ := Int) (fun s27 => (bif (decide (s27.1 < s27.2)) then (Option.bind (idx l (IntKind.i64.wrap ((IntKind.i64.wrap (s27.1 + s27.2)).tdiv 2))) fun x48 => (bif (decide (x48.to < r_)) then some (.inl ((IntKind.i64.wrap ((IntKind.i64.wrap ((IntKind.i64.wrap (s27.1 + s27.2)).tdiv 2)) + 1)), s27.2)) else some (.inl (s27.1, (IntKind.i64.wrap ((IntKind.i64.wrap (s27.1 + s27.2)).tdiv 2)))))) else some (.inr s27.1))) (0, (l.length : Int))) fun e39 => (Option.bind ((bif (decide (e39 < (l.length : Int))) then (Option.bind (idx l e39) fun x77 => some (decide (x77.from_ ≤ r_))) else some false) : Option Bool) fun e73 => some e73))

noncomputable def p_wide_Of (r_ : Int) : Option Int :=
  (Option.bind (p_wide_in t_wide_nones r_) fun r9 => (bif r9 then some 0 else (Option.bind (p_wide_in t_wide_twos r_) fun r13 => (bif r13 then some 2 else some 1))))
end Go.Tw.X

set_option linter.unusedVariables false
set_option linter.unusedSimpArgs false
set_option maxRecDepth 10000
namespace Go.Tw.X
open Go Go.Tw
structure RowCell where
  rune : Int
  style : Int
  part : Int
  deriving DecidableEq, Inhabited

structure RowRow where
  cells : List RowCell
  wrapped : Bool
  deriving DecidableEq, Inhabited

structure RowGlyph where
  rune : Int
  style : Int
  deriving DecidableEq, Inhabited

noncomputable def p_row_clip (n_ : Int) (lo : Int) (hi : Int) : Option Int :=
  some (imax lo (imin n_ hi))

noncomputable def p_row_blank (style : Int) : Option RowCell :=
  some (RowCell.mk 32 style 0)

noncomputable def p_slices_Repeat_row_Cell (x_ : List RowCell) (count : Int) : Option (List RowCell) :=
  (bif (decide (count < 0)) then none else (Option.bind (p_bits_Mul (IntKind.u64.wrap (x_.length : Int)) (IntKind.u64.wrap count)) fun r3 => (Option.bind ((bif (decide (r3.1 > 0)) then some true else some (decide (r3.2 > 9223372036854775807))) : Option Bool) fun e9 => (bif e9 then none else (Option.bind (chk (mkok (IntKind.i64.wrap r3.2) 24)) fun _ => (Option.bind (iter (σ := (List RowCell) × Int) (ρ := (List RowCell)) (fun s67 => (bif (decide (s67.2 < (s67.1.length : Int))) then (Option.bind (chk (cutok s67.2 (s67.1.length : Int) s67.1.length)) fun _ => (Option.bind (chk (cutok 0 s67.2 s67.1.length)) fun _ => some (.inl ((cpys s67.1 s67.2.toNat), (IntKind.i64.wrap (s67.2 + ((Nat.min s67.2.toNat (s67.1.length - s67.2.toNat) : Nat) : Int))))))) else some (.inr s67.1))) ((cpy (List.replicate (IntKind.i64.wrap r3.2).toNat (RowCell.mk 0 0 0)) x_), ((Nat.min x_.length (List.replicate (IntKind.i64.wrap r3.2).toNat (RowCell.mk 0 0 0)).length : Nat) : Int))) fun e88 => some e88))))))

noncomputable def p_row_blanks (n_ : Int) (style : Int) : Option (List RowCell) :=
  (Option.bind (p_row_blank style) fun r1 => (Option.bind (p_slices_Repeat_row_Cell [r1] (imax 0 n_)) fun r7 => some r7))

noncomputable def p_row_Blank (w : Int) (style : Int) : Option RowRow :=
  (Option.bind (p_row_clip w 0 1000) fun r2 => (Option.bind (p_row_blanks r2 style) fun r5 => some (RowRow.mk r5 false)))

noncomputable def p_slices_Clone_row_Cell (s_ : List RowCell) : Option (List RowCell) :=
  (Option.bind (chk (apok ([] : List RowCell).length s_.length 24)) fun _ => some (([] : List RowCell) ++ s_))

noncomputable def p_row_Row_cells (r_ : RowRow) : Option (List RowCell) :=
  (Option.bind (p_slices_Clone_row_Cell r_.cells) fun r2 => some r2)

noncomputable def p_row_broken (l : List RowCell) (i : Int) : Option Bool :=
  (Option.bind (idx l i) fun x1 => (bif (x1.part == 1) then (Option.bind ((bif (decide ((IntKind.i64.wrap (i + 1)) ≥ (l.length : Int))) then some true else (Option.bind (idx l (IntKind.i64.wrap (i + 1))) fun x65 => some (x65.part != 2))) : Option Bool) fun e61 => some e61) else (bif (x1.part == 2) then (Option.bind ((bif (i == 0) then some true else (Option.bind (idx l (IntKind.i64.wrap (i - 1))) fun x85 => some (x85.part != 1))) : Option Bool) fun e81 => some e81) else (bif (x1.part == 3) then some (i != (IntKind.i64.wrap ((l.length : Int) - 1))) else some false))))

noncomputable def p_row_mend (l : List RowCell) : Option RowRow :=
  (Option.bind (iter (σ := (List RowCell) × Int) (ρ := (List RowCell)) (fun s121 => (bif (decide (s121.2 < (l.length : Int))) then (Option.bind ((Option.bind (p_row_broken s121.1 s121.2) fun r225 => (bif r225 then (Option.bind (idx s121.1 s121.2) fun x229 => (Option.bind (p_row_blank x229.style) fun r234 => (Option.bind (idx s121.1 s121.2) fun x237 => some (s121.1.set s121.2.toNat r234)))) else some s121.1)) : Option (List RowCell)) fun e222 => some (.inl (e222, (IntKind.i64.wrap (s121.2 + 1))))) else some (.inr s121.1))) (l, 0)) fun e179 => some (RowRow.mk e179 false))

noncomputable def p_row_Row_Put (r_ : RowRow) (at_ : Int) (x_ : Int) (style : Int) : Option RowRow :=
  (Option.bind (p_row_Row_cells r_) fun r3 => (Option.bind (p_wide_Of x_) fun r9 => (Option.bind ((Option.bind ((bif (r9 == 0) then some true else (bif (decide (at_ < 0)) then some true else some (decide (at_ > (IntKind.i64.wrap ((r3.length : Int) - r9)))))) : Option Bool) fun e132 => (bif e132 then some r3 else (bif (r9 == 1) then (Option.bind (idx r3 at_) fun x139 => some (r3.set at_.toNat (RowCell.mk x_ style 0))) else (Option.bind (idx r3 at_) fun x145 => (Option.bind (idx (r3.set at_.toNat (RowCell.mk x_ style 1)) (IntKind.i64.wrap (at_ + 1))) fun x151 => (Option.bind ((bif (decide (at_ > 0)) then (Option.bind (idx ((r3.set at_.toNat (RowCell.mk x_ style 1)).set ((IntKind.i64.wrap (at_ + 1)).toNat) (RowCell.mk x_ style 2)) (IntKind.i64.wrap (at_ - 1))) fun x168 => some (x168.part == 1)) else some false) : Option Bool) fun e164 => (bif e164 then (Option.bind (idx ((r3.set at_.toNat (RowCell.mk x_ style 1)).set ((IntKind.i64.wrap (at_ + 1)).toNat) (RowCell.mk x_ style 2)) (IntKind.i64.wrap (at_ - 1))) fun x172 => (Option.bind (p_row_blank x172.style) fun r175 => (Option.bind (idx ((r3.set at_.toNat (RowCell.mk x_ style 1)).set ((IntKind.i64.wrap (at_ + 1)).toNat) (RowCell.mk x_ style 2)) (IntKind.i64.wrap (at_ - 1))) fun x178 => some (((r3.set at_.toNat (RowCell.mk x_ style 1)).set ((IntKind.i64.wrap (at_ + 1)).toNat) (RowCell.mk x_ style 2)).set ((IntKind.i64.wrap (at_ - 1)).toNat) r175)))) else some ((r3.set at_.toNat (RowCell.mk x_ style 1)).set ((IntKind.i64.wrap (at_ + 1)).toNat) (RowCell.mk x_ style 2))))))))) : Option (List RowCell)) fun e124 => (Option.bind (p_row_mend e124) fun r182 => some r182))))

noncomputable def p_row_Row_Glyphs (r_ : RowRow) : Option (List RowGlyph) :=
  (Option.bind (iter (σ := (List RowCell)) (ρ := (List RowCell)) (fun s180 => (Option.bind ((bif (!r_.wrapped) then (bif (decide ((s180.length : Int) > 0)) then (Option.bind (idx s180 (IntKind.i64.wrap ((s180.length : Int) - 1))) fun x341 => (Option.bind (p_row_blank 0) fun r348 => some ((x341.rune == r348.rune) && ((x341.style == r348.style) && ((x341.part == r348.part) && true))))) else some false) else some false) : Option Bool) fun e324 => (bif e324 then (Option.bind (chk (cutok 0 (IntKind.i64.wrap ((s180.length : Int) - 1)) s180.length)) fun _ => some (.inl (cut s180 0 (IntKind.i64.wrap ((s180.length : Int) - 1))))) else some (.inr s180)))) r_.cells) fun e268 => (Option.bind (iter (σ := Int × (List RowGlyph)) (ρ := (List RowGlyph)) (fun s539 => (bif (decide (s539.1 < (e268.length : Int))) then (Option.bind ((Option.bind (idx e268 s539.1) fun x689 => (Option.bind ((bif (x689.part == 0) then some true else some (x689.part == 1)) : Option Bool) fun e700 => (bif e700 then (Option.bind (chk (apok s539.2.length [(RowGlyph.mk x689.rune x689.style)].length 16)) fun _ => some (s539.2 ++ [(RowGlyph.mk x689.rune x689.style)])) else some s539.2))) : Option (List RowGlyph)) fun e686 => some (.inl ((IntKind.i64.wrap (s539.1 + 1)), e686))) else some (.inr s539.2))) (0, [])) fun e625 => some e625))

noncomputable def p_row_Row_Erase (r_ : RowRow) (from_ : Int) (to : Int) (style : Int) : Option RowRow :=
  (Option.bind (p_row_Row_cells r_) fun r3 => (Option.bind (p_row_clip from_ 0 (r3.length : Int)) fun r9 => (Option.bind (iter (σ := Int × (List RowCell)) (ρ := (List RowCell)) (fun s67 => (Option.bind (p_row_clip to 0 (s67.2.length : Int)) fun r100 => (bif (decide (s67.1 < r100)) then (Option.bind (p_row_blank style) fun r114 => (Option.bind (idx s67.2 s67.1) fun x117 => some (.inl ((IntKind.i64.wrap (s67.1 + 1)), (s67.2.set s67.1.toNat r114))))) else some (.inr s67.2)))) (r9, r3)) fun e93 => (Option.bind (p_row_mend e93) fun r123 => some r123))))

noncomputable def p_row_Row_within (r_ : RowRow) (at_ : Int) (n_ : Int) : Option Int :=
  (Option.bind ((bif (decide (at_ < 0)) then some true else some (decide (at_ ≥ (r_.cells.length : Int)))) : Option Bool) fun e5 => (bif e5 then some 0 else (Option.bind (p_row_clip n_ 0 (IntKind.i64.wrap ((r_.cells.length : Int) - at_))) fun r11 => some r11)))

noncomputable def p_slices_Grow_row_Cell (n_ : Int) : Option (List RowCell) :=
  (bif (decide (n_ < 0)) then none else (Option.bind ((bif (decide ((IntKind.i64.wrap (n_ - (IntKind.i64.wrap (0 - 0)))) > 0)) then (Option.bind (chk (gzok (IntKind.i64.wrap (n_ - (IntKind.i64.wrap (0 - 0)))) 24)) fun _ => (Option.bind (chk (cutok 0 0 (List.replicate (IntKind.i64.wrap (n_ - (IntKind.i64.wrap (0 - 0)))).toNat (RowCell.mk 0 0 0)).length)) fun _ => some (cut (List.replicate (IntKind.i64.wrap (n_ - (IntKind.i64.wrap (0 - 0)))).toNat (RowCell.mk 0 0 0)) 0 0))) else some []) : Option (List RowCell)) fun e29 => some e29))

noncomputable def p_slices_Concat_row_Cell (slices : List (List RowCell)) : Option (List RowCell) :=
  (Option.bind (iter (σ := Int × Int) (ρ := Int) (fun s55 => (bif (decide (s55.1 < (slices.length : Int))) then (Option.bind (idx slices s55.1) fun x101 => (bif (decide ((IntKind.i64.wrap (s55.2 + (x101.length : Int))) < 0)) then none else some (.inl ((IntKind.i64.wrap (s55.1 + 1)), (IntKind.i64.wrap (s55.2 + (x101.length : Int))))))) else some (.inr s55.2))) (0, 0)) fun e81 => (Option.bind (p_slices_Grow_row_Cell e81) fun r112 => (Option.bind (iter (σ := Int × (List RowCell)) (ρ := (List RowCell)) (fun s197 => (bif (decide (s197.1 < (slices.length : Int))) then (Option.bind (idx slices s197.1) fun x258 => (Option.bind (chk (apok s197.2.length x258.length 24)) fun _ => some (.inl ((IntKind.i64.wrap (s197.1 + 1)), (s197.2 ++ x258))))) else some (.inr s197.2))) (0, r112)) fun e234 => some e234)))

noncomputable def p_row_Row_Insert (r_ : RowRow) (at_ : Int) (n_ : Int) (style : Int) : Option RowRow :=
  (Option.bind (p_row_Row_within r_ at_ n_) fun r3 => (bif (r3 == 0) then (Option.bind (p_row_Row_cells r_) fun r18 => (Option.bind (p_row_mend r18) fun r24 => some r24)) else (Option.bind (chk (cutok 0 at_ r_.cells.length)) fun _ => (Option.bind (chk (cutok at_ (r_.cells.length : Int) r_.cells.length)) fun _ => (Option.bind (p_row_blanks r3 style) fun r116 => (Option.bind (p_slices_Concat_row_Cell [(cut r_.cells 0 at_), r116, (cut r_.cells at_ (r_.cells.length : Int))]) fun r126 => (Option.bind (chk (cutok 0 (r_.cells.length : Int) r126.length)) fun _ => (Option.bind (p_row_mend (cut r126 0 (r_.cells.length : Int))) fun r137 => some r137))))))))

noncomputable def p_row_Row_Delete (r_ : RowRow) (at_ : Int) (n_ : Int) (style : Int) : Option RowRow :=
  (Option.bind (p_row_Row_within r_ at_ n_) fun r3 => (bif (r3 == 0) then (Option.bind (p_row_Row_cells r_) fun r18 => (Option.bind (p_row_mend r18) fun r24 => some r24)) else (Option.bind (chk (cutok 0 at_ r_.cells.length)) fun _ => (Option.bind (chk (cutok (IntKind.i64.wrap (at_ + r3)) (r_.cells.length : Int) r_.cells.length)) fun _ => (Option.bind (p_row_blanks r3 style) fun r128 => (Option.bind (p_slices_Concat_row_Cell [(cut r_.cells 0 at_), (cut r_.cells (IntKind.i64.wrap (at_ + r3)) (r_.cells.length : Int)), r128]) fun r138 => (Option.bind (p_row_mend r138) fun r144 => some r144)))))))

noncomputable def p_row_Row_Fill (r_ : RowRow) (style : Int) : Option RowRow :=
  (Option.bind (p_row_Row_cells r_) fun r3 => (Option.bind ((bif (decide ((r3.length : Int) > 0)) then (Option.bind (idx r3 (IntKind.i64.wrap ((r3.length : Int) - 1))) fun x29 => some (r3.set ((IntKind.i64.wrap ((r3.length : Int) - 1)).toNat) (RowCell.mk 32 style 3))) else some r3) : Option (List RowCell)) fun e25 => (Option.bind (p_row_mend e25) fun r35 => some (RowRow.mk r35.cells true))))

noncomputable def p_row_Row_Resize (r_ : RowRow) (w : Int) : Option RowRow :=
  (Option.bind (p_row_clip w 0 1000) fun r3 => (Option.bind (p_row_Row_cells r_) fun r6 => (bif (r3 == (r6.length : Int)) then some (RowRow.mk r6 r_.wrapped) else (Option.bind (p_row_blanks (IntKind.i64.wrap (r3 - (r6.length : Int))) 0) fun r78 => (Option.bind (chk (cutok 0 (imin r3 (r6.length : Int)) r6.length)) fun _ => (Option.bind (chk (apok (cut r6 0 (imin r3 (r6.length : Int))).length r78.length 24)) fun _ => (Option.bind (p_row_mend ((cut r6 0 (imin r3 (r6.length : Int))) ++ r78)) fun r95 => some r95)))))))

noncomputable def p_slices_Equal_row_Cell (s1_ : List RowCell) (s2_ : List RowCell) : Option Bool :=
  (bif ((s1_.length : Int) != (s2_.length : Int)) then some false else (Option.bind (iter (σ := Int) (ρ := Unit ⊕ Bool) (fun s238 => (bif (decide (s238 < (s1_.length : Int))) then (Option.bind (idx s1_ s238) fun x464 => (Option.bind (idx s2_ s238) fun x471 => (bif (!((x464.rune == x471.rune) && ((x464.style == x471.style) && ((x464.part == x471.part) && true)))) then (inrr (some false)) else some (.inl (IntKind.i64.wrap (s238 + 1)))))) else some (.inr (.inl ())))) 0) fun | .inl e355 => some true | .inr w => some w))

noncomputable def p_row_Row_Same (r_ : RowRow) (q : RowRow) : Option Bool :=
  (Option.bind ((bif (r_.wrapped == q.wrapped) then (Option.bind (p_slices_Equal_row_Cell r_.cells q.cells) fun r16 => some r16) else some false) : Option Bool) fun e12 => some e12)

noncomputable def p_slices_Clone_row_Row (s_ : List RowRow) : Option (List RowRow) :=
  (Option.bind (chk (apok ([] : List RowRow).length s_.length 32)) fun _ => some (([] : List RowRow) ++ s_))

noncomputable def p_slices_Reverse_row_Row (s_ : List RowRow) : Option (List RowRow) :=
  (Option.bind (iter (σ := (List RowRow) × Int × Int) (ρ := (List RowRow)) (fun s627 => (bif (decide (s627.2.1 < s627.2.2)) then (Option.bind ((Option.bind (idx s627.1 s627.2.2) fun x1201 => (Option.bind (idx s627.1 s627.2.1) fun x1206 => (Option.bind (idx s627.1 s627.2.1) fun x1215 => (Option.bind (idx s627.1 s627.2.2) fun x1219 => some ((s627.1.set s627.2.1.toNat x1201).set s627.2.2.toNat x1206))))) : Option (List RowRow)) fun e1148 => some (.inl (e1148, (IntKind.i64.wrap (s627.2.1 + 1)), (IntKind.i64.wrap (s627.2.2 - 1))))) else some (.inr s627.1))) (s_, 0, (IntKind.i64.wrap ((s_.length : Int) - 1)))) fun e937 => some e937)

noncomputable def p_slices_EqualFunc_row_Row_Row_Same (s1_ : List RowRow) (s2_ : List RowRow) : Option Bool :=
  (bif ((s1_.length : Int) != (s2_.length : Int)) then some false else (Option.bind (iter (σ := Int) (ρ := Unit ⊕ Bool) (fun s114 => (bif (decide (s114 < (s1_.length : Int))) then (Option.bind (idx s1_ s114) fun x205 => (Option.bind (idx s2_ s114) fun x216 => (Option.bind (p_row_Row_Same x205 x216) fun r227 => (bif (!r227) then (inrr (some false)) else some (.inl (IntKind.i64.wrap (s114 + 1))))))) else some (.inr (.inl ())))) 0) fun | .inl e169 => some true | .inr w => some w))

noncomputable def p_slices_Clone_row_Glyph (s_ : List RowGlyph) : Option (List RowGlyph) :=
  (Option.bind (chk (apok ([] : List RowGlyph).length s_.length 16)) fun _ => some (([] : List RowGlyph) ++ s_))

noncomputable def p_slices_Equal_row_Glyph (s1_ : List RowGlyph) (s2_ : List RowGlyph) : Option Bool :=
  (bif ((s1_.length : Int) != (s2_.length : Int)) then some false else (Option.bind (iter (σ := Int) (ρ := Unit ⊕ Bool) (fun s238 => (bif (decide (s238 < (s1_.length : Int))) then (Option.bind (idx s1_ s238) fun x464 => (Option.bind (idx s2_ s238) fun x471 => (bif (!((x464.rune == x471.rune) && ((x464.style == x471.style) && true))) then (inrr (some false)) else some (.inl (IntKind.i64.wrap (s238 + 1)))))) else some (.inr (.inl ())))) 0) fun | .inl e355 => some true | .inr w => some w))

end Go.Tw.X

set_option linter.unusedVariables false
set_option linter.unusedSimpArgs false
set_option maxRecDepth 10000
namespace Go.Tw.X
open Go Go.Tw

def t_sum_half : List Int := [0, 498536548, 997073096, 651767980, 1994146192, 1802195444, 1303535960, 1342533948, 3988292384, 4027552580, 3604390888, 3412177804, 2607071920, 2262029012, 2685067896, 3183342108]
noncomputable def p_sum_step (x_ : Int) (b : Int) : Option Int :=
  (Option.bind (idx t_sum_half (Go.bits .and .u32 (Go.bits .xor .u32 x_ (IntKind.u32.wrap b)) 15)) fun x1 => (Option.bind (idx t_sum_half (Go.bits .and .u32 (Go.bits .xor .u32 ((Go.bits .xor .u32 x_ (IntKind.u32.wrap b)).fdiv (2 ^ (min 4 32))) x1) 15)) fun x5 => some (Go.bits .xor .u32 ((Go.bits .xor .u32 ((Go.bits .xor .u32 x_ (IntKind.u32.wrap b)).fdiv (2 ^ (min 4 32))) x1).fdiv (2 ^ (min 4 32))) x5)))

noncomputable def p_sum_Of (l : List ByteArray) : Option Int :=
  (Option.bind (iter (σ := Int × Int) (ρ := Int) (fun s323 => (bif (decide (s323.2 < (l.length : Int))) then (Option.bind (idx l s323.2) fun x570 => (Option.bind (iter (σ := Int × Int) (ρ := Int) (fun s611 => (bif (decide (s611.1 < (x570.size : Int))) then (Option.bind (sidx x570 s611.1) fun b642 => (Option.bind (p_sum_step s611.2 b642) fun r645 => some (.inl ((IntKind.i64.wrap (s611.1 + 1)), r645)))) else some (.inr s611.2))) (0, s323.1)) fun e627 => some (.inl (e627, (IntKind.i64.wrap (s323.2 + 1)))))) else some (.inr s323.1))) (4294967295, 0)) fun e483 => some (Go.bits .xor .u32 4294967295 e483))

end Go.Tw.X

set_option linter.unusedVariables false
set_option linter.unusedSimpArgs false
set_option maxRecDepth 10000
namespace Go.Tw.X
open Go Go.Tw
structure BookBook where
  l : List (List RowGlyph)
  chains : List Int
  begun : List RowGlyph
  deriving DecidableEq, Inhabited

noncomputable def p_book_New : Option BookBook :=
  some (BookBook.mk ([] : List (List RowGlyph)) [0] ([] : List RowGlyph))

noncomputable def p_book_Book_Len (b : BookBook) : Option Int :=
  some (b.l.length : Int)

noncomputable def p_book_Book_Chain (b : BookBook) (n_ : Int) : Option Int :=
  (Option.bind (idx b.chains (imax 0 (imin n_ (b.l.length : Int)))) fun x16 => some x16)

noncomputable def p_book_Book_Begun (b : BookBook) : Option (List RowGlyph) :=
  (Option.bind (p_slices_Clone_row_Glyph b.begun) fun r1 => some r1)

noncomputable def p_book_Pack (l : List RowGlyph) : Option ByteArray :=
  (Option.bind (p_num_Out_Num (NumOut.mk ([] : List Int)) [(l.length : Int)]) fun r6 => (Option.bind (iter (σ := NumOut × Int) (ρ := NumOut) (fun s99 => (bif (decide (s99.2 < (l.length : Int))) then (Option.bind (idx l s99.2) fun x166 => (Option.bind (p_num_Out_Num s99.1 [(IntKind.i64.wrap x166.rune), x166.style]) fun r177 => some (.inl (r177, (IntKind.i64.wrap (s99.2 + 1)))))) else some (.inr s99.1))) (r6, 0)) fun e140 => (Option.bind (p_num_Out_Bytes e140) fun r183 => some r183)))

noncomputable def p_book_next (chain : Int) (l : List RowGlyph) : Option Int :=
  (Option.bind (p_book_Pack l) fun r1 => (Option.bind (p_sum_Of [r1]) fun r6 => some ((IntKind.i64.wrap (((IntKind.i64.wrap (((IntKind.i64.wrap (chain * 256)).tmod 281474976710597) * 256)).tmod 281474976710597) + (IntKind.i64.wrap r6))).tmod 281474976710597)))

noncomputable def p_book_Book_close (b : BookBook) (l : List RowGlyph) : Option BookBook :=
  (Option.bind (p_slices_Clone_row_Glyph l) fun r46 => (Option.bind (chk (apok b.l.length [r46].length 24)) fun _ => (Option.bind (idx b.chains (IntKind.i64.wrap ((b.chains.length : Int) - 1))) fun x77 => (Option.bind (p_book_next x77 l) fun r82 => (Option.bind (chk (apok b.chains.length [r82].length 8)) fun _ => some (BookBook.mk (b.l ++ [r46]) (b.chains ++ [r82]) b.begun))))))

noncomputable def p_book_Book_Add (b : BookBook) (rows : List RowRow) : Option (Int × BookBook) :=
  (Option.bind (iter (σ := BookBook × Int) (ρ := BookBook) (fun s1476 => (bif (decide (s1476.2 < (rows.length : Int))) then (Option.bind ((Option.bind (idx rows s1476.2) fun x2700 => (Option.bind (p_row_Row_Glyphs x2700) fun r2747 => (Option.bind (chk (apok s1476.1.begun.length r2747.length 16)) fun _ => (Option.bind (iter (σ := BookBook) (ρ := BookBook) (fun s2847 => (bif (decide ((s2847.begun.length : Int) ≥ 1024)) then (Option.bind (chk (cutok 0 1024 s2847.begun.length)) fun _ => (Option.bind (p_book_Book_close s2847 (cut s2847.begun 0 1024)) fun r2902 => (Option.bind (chk (cutok 1024 (r2902.begun.length : Int) r2902.begun.length)) fun _ => (Option.bind (p_slices_Clone_row_Glyph (cut r2902.begun 1024 (r2902.begun.length : Int))) fun r2917 => some (.inl (BookBook.mk r2902.l r2902.chains r2917)))))) else some (.inr s2847))) (BookBook.mk s1476.1.l s1476.1.chains (s1476.1.begun ++ r2747))) fun e2887 => (bif (!x2700.wrapped) then (Option.bind (p_book_Book_close e2887 e2887.begun) fun r2925 => some (BookBook.mk r2925.l r2925.chains ([] : List RowGlyph))) else some e2887))))) : Option BookBook) fun e2697 => some (.inl (e2697, (IntKind.i64.wrap (s1476.2 + 1))))) else some (.inr s1476.1))) (b, 0)) fun e2208 => some ((IntKind.i64.wrap ((e2208.l.length : Int) - (b.l.length : Int))), e2208))

noncomputable def p_book_Book_Line (b : BookBook) (i : Int) : Option ((List RowGlyph) × Bool) :=
  (Option.bind ((bif (decide (i < 0)) then some true else some (decide (i ≥ (b.l.length : Int)))) : Option Bool) fun e4 => (bif e4 then some (([] : List RowGlyph), false) else (Option.bind (idx b.l i) fun x11 => (Option.bind (p_slices_Clone_row_Glyph x11) fun r19 => some (r19, true)))))

end Go.Tw.X

set_option linter.unusedVariables false
set_option linter.unusedSimpArgs false
set_option maxRecDepth 10000
namespace Go.Tw.X
open Go Go.Tw
structure GridGrid where
  w : Int
  l : List RowRow
  deriving DecidableEq, Inhabited

noncomputable def p_grid_clip (n_ : Int) (lo : Int) (hi : Int) : Option Int :=
  some (imax lo (imin n_ hi))

noncomputable def p_grid_size (n_ : Int) : Option Int :=
  (Option.bind (p_grid_clip n_ 1 1000) fun r1 => some r1)

noncomputable def p_grid_New (w : Int) (h_ : Int) : Option GridGrid :=
  (Option.bind (p_grid_size w) fun r1 => (Option.bind (p_grid_size h_) fun r5 => (Option.bind (iter (σ := GridGrid × Int) (ρ := GridGrid) (fun s143 => (bif (decide (s143.2 < r5)) then (Option.bind (p_row_Blank s143.1.w 0) fun r257 => (Option.bind (chk (apok s143.1.l.length [r257].length 32)) fun _ => some (.inl ((GridGrid.mk s143.1.w (s143.1.l ++ [r257])), (IntKind.i64.wrap (s143.2 + 1)))))) else some (.inr s143.1))) ((GridGrid.mk r1 ([] : List RowRow)), 0)) fun e206 => some e206)))

noncomputable def p_grid_own (r_ : RowRow) : Option RowRow :=
  (Option.bind (p_slices_Clone_row_Cell r_.cells) fun r21 => some (RowRow.mk r21 r_.wrapped))

noncomputable def p_grid_Grid_Row (g : GridGrid) (y : Int) : Option RowRow :=
  (Option.bind ((bif (decide (y < 0)) then some true else some (decide (y ≥ (g.l.length : Int)))) : Option Bool) fun e5 => (bif e5 then some (RowRow.mk ([] : List RowCell) false) else (Option.bind (idx g.l y) fun x12 => (Option.bind (p_grid_own x12) fun r20 => some r20))))

noncomputable def p_grid_Grid_Set (g : GridGrid) (y : Int) (r_ : RowRow) : Option (Bool × GridGrid) :=
  (Option.bind ((bif (decide (y < 0)) then some true else some (decide (y ≥ (g.l.length : Int)))) : Option Bool) fun e5 => (bif e5 then some (false, g) else (Option.bind (p_row_Row_Resize r_ g.w) fun r47 => (Option.bind (idx g.l y) fun x53 => some (true, (GridGrid.mk g.w (g.l.set y.toNat r47)))))))

noncomputable def p_grid_Grid_region (g : GridGrid) (top : Int) (bottom : Int) : Option (Unit ⊕ (Int × Int)) :=
  (Option.bind (p_grid_clip top 0 (IntKind.i64.wrap ((g.l.length : Int) - 1))) fun r1 => (Option.bind (p_grid_clip bottom 0 (IntKind.i64.wrap ((g.l.length : Int) - 1))) fun r4 => (bif (decide (r4 < r1)) then some (.inl ()) else (Option.bind (chk (cutok r1 (IntKind.i64.wrap (r4 + 1)) g.l.length)) fun _ => some (.inr (r1, (IntKind.i64.wrap (r4 + 1))))))))

noncomputable def p_grid_Grid_Up (g : GridGrid) (top : Int) (bottom : Int) (n_ : Int) (style : Int) : Option ((List RowRow) × GridGrid) :=
  (Option.bind (p_grid_Grid_region g top bottom) fun | .inl r1 => some (([] : List RowRow), g) | .inr r1 => (Option.bind (chk (cutok r1.1 r1.2 g.l.length)) fun _ => (Option.bind (p_grid_clip n_ 0 ((cut g.l r1.1 r1.2).length : Int)) fun r9 => (Option.bind (chk (cutok 0 r9 (cut g.l r1.1 r1.2).length)) fun _ => (Option.bind (p_slices_Clone_row_Row (cut g.l (r1.1 + 0) (r1.1 + r9))) fun r17 => (Option.bind (chk (cutok r9 ((cut g.l r1.1 r1.2).length : Int) (cut g.l r1.1 r1.2).length)) fun _ => (Option.bind (iter (σ := GridGrid × Int) (ρ := GridGrid) (fun s103 => (bif (decide (s103.2 < ((cut s103.1.l r1.1 r1.2).length : Int))) then (Option.bind (p_row_Blank s103.1.w style) fun r168 => (Option.bind (chk (cutok r1.1 r1.2 s103.1.l.length)) fun _ => (Option.bind (idx (cut s103.1.l r1.1 r1.2) s103.2) fun x178 => some (.inl ((GridGrid.mk s103.1.w (s103.1.l.set (r1.1.toNat + s103.2.toNat) r168)), (IntKind.i64.wrap (s103.2 + 1))))))) else some (.inr s103.1))) ((GridGrid.mk g.w (cpyv g.l r1.1 r1.2 (r1.1 + r9) (r1.1 + ((cut g.l r1.1 r1.2).length : Int)))), (IntKind.i64.wrap (((cut (cpyv g.l r1.1 r1.2 (r1.1 + r9) (r1.1 + ((cut g.l r1.1 r1.2).length : Int))) r1.1 r1.2).length : Int) - r9)))) fun e142 => some (r17, e142))))))))

noncomputable def p_grid_Grid_Down (g : GridGrid) (top : Int) (bottom : Int) (n_ : Int) (style : Int) : Option ((List RowRow) × GridGrid) :=
  (Option.bind (p_grid_Grid_region g top bottom) fun | .inl r1 => some (([] : List RowRow), g) | .inr r1 => (Option.bind (chk (cutok r1.1 r1.2 g.l.length)) fun _ => (Option.bind (p_grid_clip n_ 0 ((cut g.l r1.1 r1.2).length : Int)) fun r9 => (Option.bind (chk (cutok (IntKind.i64.wrap (((cut g.l r1.1 r1.2).length : Int) - r9)) ((cut g.l r1.1 r1.2).length : Int) (cut g.l r1.1 r1.2).length)) fun _ => (Option.bind (p_slices_Clone_row_Row (cut g.l (r1.1 + (IntKind.i64.wrap (((cut g.l r1.1 r1.2).length : Int) - r9))) (r1.1 + ((cut g.l r1.1 r1.2).length : Int)))) fun r17 => (Option.bind (p_slices_Reverse_row_Row r17) fun r23 => (Option.bind (chk (decide (r23.length = r17.length))) fun _ => (Option.bind (chk (cutok r9 ((cut g.l r1.1 r1.2).length : Int) (cut g.l r1.1 r1.2).length)) fun _ => (Option.bind (chk (cutok 0 (IntKind.i64.wrap (((cut g.l r1.1 r1.2).length : Int) - r9)) (cut g.l r1.1 r1.2).length)) fun _ => (Option.bind (iter (σ := GridGrid × Int) (ρ := GridGrid) (fun s150 => (bif (decide (s150.2 < r9)) then (Option.bind (p_row_Blank s150.1.w style) fun r215 => (Option.bind (chk (cutok r1.1 r1.2 s150.1.l.length)) fun _ => (Option.bind (idx (cut s150.1.l r1.1 r1.2) s150.2) fun x225 => some (.inl ((GridGrid.mk s150.1.w (s150.1.l.set (r1.1.toNat + s150.2.toNat) r215)), (IntKind.i64.wrap (s150.2 + 1))))))) else some (.inr s150.1))) ((GridGrid.mk g.w (cpyv g.l (r1.1 + r9) (r1.1 + ((cut g.l r1.1 r1.2).length : Int)) (r1.1 + 0) (r1.1 + (IntKind.i64.wrap (((cut g.l r1.1 r1.2).length : Int) - r9))))), 0)) fun e189 => some (r23, e189)))))))))))

noncomputable def p_grid_Grid_Resize (g : GridGrid) (w : Int) (h_ : Int) (off : Int) : Option ((List RowRow) × GridGrid) :=
  (Option.bind (p_grid_clip off 0 (IntKind.i64.wrap ((g.l.length : Int) - 1))) fun r1 => (Option.bind (chk (cutok 0 r1 g.l.length)) fun _ => (Option.bind (p_slices_Clone_row_Row (cut g.l 0 r1)) fun r10 => (Option.bind (chk (cutok r1 (g.l.length : Int) g.l.length)) fun _ => (Option.bind (p_slices_Clone_row_Row (cut g.l r1 (g.l.length : Int))) fun r22 => (Option.bind (p_grid_size h_) fun r28 => (Option.bind (chk (cutok 0 (imin (r22.length : Int) r28) r22.length)) fun _ => (Option.bind (iter (σ := (List RowRow)) (ρ := (List RowRow)) (fun s92 => (Option.bind (p_grid_size h_) fun r126 => (bif (decide ((s92.length : Int) < r126)) then (Option.bind (p_grid_size w) fun r131 => (Option.bind (p_row_Blank r131 0) fun r134 => (Option.bind (chk (apok s92.length [r134].length 32)) fun _ => some (.inl (s92 ++ [r134]))))) else some (.inr s92)))) (cut r22 0 (imin (r22.length : Int) r28))) fun e119 => (Option.bind (p_grid_size w) fun r148 => (Option.bind (iter (σ := GridGrid × Int) (ρ := GridGrid) (fun s218 => (bif (decide (s218.2 < (e119.length : Int))) then (Option.bind (idx s218.1.l s218.2) fun x270 => (Option.bind (p_grid_Grid_Set s218.1 s218.2 x270) fun r278 => some (.inl (r278.2, (IntKind.i64.wrap (s218.2 + 1)))))) else some (.inr s218.1))) ((GridGrid.mk r148 e119), 0)) fun e249 => some (r10, e249)))))))))))

noncomputable def p_grid_Grid_Size (g : GridGrid) : Option (Int × Int) :=
  some (g.w, (g.l.length : Int))

noncomputable def p_grid_each_v2 (l : List RowRow) : Option (List RowRow) :=
  some l

noncomputable def p_grid_each_1_v2 {σ : Type} (Y : σ → RowRow → Option (σ × Bool)) (y0 : σ) (x1 : List RowRow) : Option σ :=
  (Option.bind (iter (σ := Int × σ) (ρ := σ ⊕ σ) (fun s94 => (bif (decide (s94.1 < (x1.length : Int))) then (Option.bind (idx x1 s94.1) fun x169 => (Option.bind (p_grid_own x169) fun r178 => (Option.bind (Y s94.2 r178) fun z184 => (bif (!z184.2) then (inrr (some z184.1)) else some (.inl ((IntKind.i64.wrap (s94.1 + 1)), z184.1)))))) else some (.inr (.inl s94.2)))) (0, y0)) fun | .inl e139 => some e139 | .inr w => some w)

noncomputable def p_grid_copies_v2 (l : List RowRow) : Option ((List RowRow) × (List RowRow)) :=
  (Option.bind (p_grid_each_v2 l) fun r2 => (Option.bind (p_grid_each_1_v2 (fun s40 x9 => (Option.bind (chk (apok s40.length [x9].length 32)) fun _ => some ((s40 ++ [x9]), true))) ([] : (List RowRow)) r2) fun r54 => some (r54, r2)))

noncomputable def p_grid_Grid_Rows (g : GridGrid) : Option ((List RowRow) × GridGrid) :=
  (Option.bind (p_grid_copies_v2 g.l) fun r1 => (Option.bind (chk (decide (r1.2.length = g.l.length))) fun _ => some (r1.1, (GridGrid.mk g.w r1.2))))

noncomputable def p_grid_Grid_Clone (g : GridGrid) : Option (GridGrid × GridGrid) :=
  (Option.bind (p_grid_copies_v2 g.l) fun r31 => (Option.bind (chk (decide (r31.2.length = g.l.length))) fun _ => some ((GridGrid.mk g.w r31.1), (GridGrid.mk g.w r31.2))))

end Go.Tw.X

set_option linter.unusedVariables false
set_option linter.unusedSimpArgs false
set_option maxRecDepth 10000
namespace Go.Tw.X
open Go Go.Tw
structure SeqAction where
  kind : Int
  rune : Int
  byte : Int
  private_ : Bool
  nums : List Int
  text : ByteArray
  deriving DecidableEq, Inhabited

structure SeqOrder where
  private_ : Bool
  wrong : Bool
  any : Bool
  some : Bool
  n : Int
  nums : List Int
  deriving DecidableEq, Inhabited

structure SeqParser where
  state : Int
  order : SeqOrder
  text : ByteArray
  runes : GlyphDecoder
  out : List SeqAction
  deriving DecidableEq, Inhabited

noncomputable def p_seq_Parser_tell (p : SeqParser) (a : SeqAction) : Option SeqParser :=
  (Option.bind (chk (apok p.out.length [a].length 56)) fun _ => some (SeqParser.mk p.state p.order p.text p.runes (p.out ++ [a])))

noncomputable def p_seq_Parser_print (p : SeqParser) (l : List Int) : Option SeqParser :=
  (Option.bind (iter (σ := SeqParser × Int) (ρ := SeqParser) (fun s83 => (bif (decide (s83.2 < (l.length : Int))) then (Option.bind (idx l s83.2) fun x145 => (Option.bind (p_seq_Parser_tell s83.1 (SeqAction.mk 1 x145 0 false ([] : List Int) (ByteArray.mk #[]))) fun r153 => some (.inl (r153, (IntKind.i64.wrap (s83.2 + 1)))))) else some (.inr s83.1))) (p, 0)) fun e121 => some e121)

noncomputable def p_seq_Parser_common (p : SeqParser) (b : Int) : Option (Bool × SeqParser) :=
  (Option.bind ((Option.bind ((bif (b == 24) then some true else some (b == 26)) : Option Bool) fun e49 => (bif e49 then some (.inl (SeqParser.mk 0 p.order p.text p.runes p.out)) else (bif (b == 27) then some (.inl (SeqParser.mk 1 p.order p.text p.runes p.out)) else (bif (decide (b < 32)) then (Option.bind (p_seq_Parser_tell p (SeqAction.mk 2 0 b false ([] : List Int) (ByteArray.mk #[]))) fun r57 => some (.inl r57)) else (inrs (some ((b == 127), p))))))) : Option (SeqParser ⊕ (Bool × SeqParser))) fun | .inl e42 => some (true, e42) | .inr w => some w)

noncomputable def p_seq_Parser_onGround (p : SeqParser) (b : Int) : Option SeqParser :=
  (Option.bind ((bif (decide (b < 32)) then some true else some (b == 127)) : Option Bool) fun e4 => (bif e4 then (Option.bind (p_glyph_Decoder_End p.runes) fun r31 => (Option.bind (p_seq_Parser_print p r31) fun r38 => (Option.bind (p_seq_Parser_common (SeqParser.mk r38.state r38.order r38.text (GlyphDecoder.mk 0 0 0) r38.out) b) fun r45 => some r45.2))) else (Option.bind (p_glyph_Decoder_Next p.runes b) fun r52 => (Option.bind (p_seq_Parser_print (SeqParser.mk p.state p.order p.text r52.1 p.out) r52.2) fun r59 => some r59))))

noncomputable def p_seq_Parser_onEscape (p : SeqParser) (b : Int) : Option SeqParser :=
  (Option.bind (p_seq_Parser_common p b) fun r1 => (bif r1.1 then some r1.2 else (Option.bind ((bif (b == 91) then (inrs (some (SeqParser.mk 3 (SeqOrder.mk false false false false 0 ([] : List Int)) r1.2.text r1.2.runes r1.2.out))) else (bif (b == 93) then (inrs (some (SeqParser.mk 4 r1.2.order (ByteArray.mk #[]) r1.2.runes r1.2.out))) else (bif (decide (b < 48)) then (inrs (some (SeqParser.mk 2 r1.2.order r1.2.text r1.2.runes r1.2.out))) else (bif (decide (b < 127)) then (Option.bind (p_seq_Parser_tell r1.2 (SeqAction.mk 3 0 b false ([] : List Int) (ByteArray.mk #[]))) fun r55 => some (.inl r55)) else some (.inl r1.2))))) : Option (SeqParser ⊕ SeqParser)) fun | .inl e39 => some (SeqParser.mk 0 e39.order e39.text e39.runes e39.out) | .inr w => some w)))

noncomputable def p_seq_Parser_onSkip (p : SeqParser) (b : Int) : Option SeqParser :=
  (Option.bind ((Option.bind (p_seq_Parser_common p b) fun r26 => (bif (!r26.1) then some ((decide (b ≥ 48)), r26.2) else some (false, r26.2))) : Option (Bool × SeqParser)) fun e23 => (bif e23.1 then some (SeqParser.mk 0 e23.2.order e23.2.text e23.2.runes e23.2.out) else some e23.2))

noncomputable def p_seq_order_push (o : SeqParser) : Option SeqParser :=
  (Option.bind ((bif (decide ((o.order.nums.length : Int) < 16)) then (Option.bind (chk (apok o.order.nums.length [o.order.n].length 8)) fun _ => some (SeqParser.mk o.state (SeqOrder.mk o.order.private_ o.order.wrong o.order.any o.order.some o.order.n (o.order.nums ++ [o.order.n])) o.text o.runes o.out)) else some o) : Option SeqParser) fun e40 => some (SeqParser.mk e40.state (SeqOrder.mk e40.order.private_ e40.order.wrong e40.order.any e40.order.some 0 e40.order.nums) e40.text e40.runes e40.out))

noncomputable def p_seq_Parser_tell_v2 (p : SeqParser) (a : SeqAction) : Option SeqParser :=
  (Option.bind (chk (apok p.out.length [a].length 56)) fun _ => some (SeqParser.mk p.state p.order p.text p.runes (p.out ++ [a])))

noncomputable def p_seq_Parser_finish (p : SeqParser) (b : Int) : Option SeqParser :=
  (bif p.order.wrong then some (SeqParser.mk 0 p.order p.text p.runes p.out) else (Option.bind ((bif p.order.some then (Option.bind (p_seq_order_push (SeqParser.mk 0 p.order p.text p.runes p.out)) fun r28 => some r28) else some (SeqParser.mk 0 p.order p.text p.runes p.out)) : Option SeqParser) fun e24 => (Option.bind (p_seq_Parser_tell_v2 e24 (SeqAction.mk 4 0 b e24.order.private_ e24.order.nums (ByteArray.mk #[]))) fun r44 => (Option.bind (chk (!(r44.state == (3 : Int)))) fun _ => some r44))))

noncomputable def p_seq_Parser_onCommand (p : SeqParser) (b : Int) : Option SeqParser :=
  (Option.bind (p_seq_Parser_common p b) fun r1 => (bif r1.1 then some r1.2 else (Option.bind ((bif (decide (b ≥ 48)) then some (decide (b ≤ 57)) else some false) : Option Bool) fun e13 => (bif e13 then some (SeqParser.mk r1.2.state (SeqOrder.mk r1.2.order.private_ r1.2.order.wrong true true (imin (IntKind.i64.wrap ((IntKind.i64.wrap (10 * r1.2.order.n)) + (IntKind.i64.wrap (IntKind.u8.wrap (b - 48))))) 9999) r1.2.order.nums) r1.2.text r1.2.runes r1.2.out) else (Option.bind ((bif (b == 59) then some true else some (b == 58)) : Option Bool) fun e21 => (bif e21 then (Option.bind (chk (r1.2.state == (3 : Int))) fun _ => (Option.bind (p_seq_order_push (SeqParser.mk r1.2.state (SeqOrder.mk r1.2.order.private_ r1.2.order.wrong true r1.2.order.some r1.2.order.n r1.2.order.nums) r1.2.text r1.2.runes r1.2.out)) fun r28 => some (SeqParser.mk r28.state (SeqOrder.mk r28.order.private_ r28.order.wrong r28.order.any true r28.order.n r28.order.nums) r28.text r28.runes r28.out))) else (Option.bind ((bif (b == 63) then some (!r1.2.order.any) else some false) : Option Bool) fun e38 => (bif e38 then some (SeqParser.mk r1.2.state (SeqOrder.mk true r1.2.order.wrong true r1.2.order.some r1.2.order.n r1.2.order.nums) r1.2.text r1.2.runes r1.2.out) else (Option.bind ((bif (decide (b ≥ 64)) then some (decide (b < 127)) else some false) : Option Bool) fun e46 => (bif e46 then (Option.bind (chk (r1.2.state == (3 : Int))) fun _ => (Option.bind (p_seq_Parser_finish (SeqParser.mk r1.2.state (SeqOrder.mk r1.2.order.private_ r1.2.order.wrong true r1.2.order.some r1.2.order.n r1.2.order.nums) r1.2.text r1.2.runes r1.2.out) b) fun r53 => some r53)) else some (SeqParser.mk r1.2.state (SeqOrder.mk r1.2.order.private_ true true r1.2.order.some r1.2.order.n r1.2.order.nums) r1.2.text r1.2.runes r1.2.out)))))))))))

noncomputable def p_seq_Parser_over (p : SeqParser) : Option SeqParser :=
  (Option.bind (iter (σ := SeqParser × Int) (ρ := SeqParser) (fun s131 => (bif (decide (s131.2 < (([(ByteArray.mk #[48, 59]), (ByteArray.mk #[50, 59])]).length : Int))) then (Option.bind ((Option.bind (idx ([(ByteArray.mk #[48, 59]), (ByteArray.mk #[50, 59])]) s131.2) fun x239 => (Option.bind (p_strings_CutPrefix s131.1.text x239) fun r242 => (bif r242.2 then (Option.bind (p_seq_Parser_tell s131.1 (SeqAction.mk 5 0 0 false ([] : List Int) r242.1)) fun r247 => some r247) else some s131.1))) : Option SeqParser) fun e236 => some (.inl (e236, (IntKind.i64.wrap (s131.2 + 1))))) else some (.inr s131.1))) ((SeqParser.mk 0 p.order p.text p.runes p.out), 0)) fun e192 => some e192)

noncomputable def p_seq_Parser_onTitle (p : SeqParser) (b : Int) : Option SeqParser :=
  (bif (b == 7) then (Option.bind (p_seq_Parser_over p) fun r2 => some r2) else (Option.bind ((bif (b == 24) then some true else some (b == 26)) : Option Bool) fun e12 => (bif e12 then some (SeqParser.mk 0 p.order p.text p.runes p.out) else (bif (b == 27) then some (SeqParser.mk 5 p.order p.text p.runes p.out) else (bif (decide ((p.text.size : Int) < 200)) then (Option.bind (chk (sadd p.text.size (bstr [b]).size)) fun _ => some (SeqParser.mk p.state p.order (p.text ++ (bstr [b])) p.runes p.out)) else some p)))))

noncomputable def p_seq_Parser_one (p : SeqParser) (b : Int) : Option SeqParser :=
  (bif (p.state == 0) then (Option.bind (p_seq_Parser_onGround p b) fun r2 => some r2) else (bif (p.state == 1) then (Option.bind (p_seq_Parser_onEscape p b) fun r10 => some r10) else (bif (p.state == 2) then (Option.bind (p_seq_Parser_onSkip p b) fun r20 => some r20) else (bif (p.state == 3) then (Option.bind (p_seq_Parser_onCommand p b) fun r28 => some r28) else (bif (p.state == 4) then (Option.bind (p_seq_Parser_onTitle p b) fun r38 => some r38) else (bif (b == 92) then (Option.bind (p_seq_Parser_over p) fun r54 => some r54) else (Option.bind (p_seq_Parser_onEscape (SeqParser.mk 1 p.order p.text p.runes p.out) b) fun r61 => some r61)))))))

noncomputable def p_seq_Parser_Feed (p : SeqParser) (s_ : ByteArray) : Option ((List SeqAction) × SeqParser) :=
  (Option.bind (iter (σ := SeqParser × Int) (ρ := SeqParser) (fun s79 => (bif (decide (s79.2 < (s_.size : Int))) then (Option.bind (sidx s_ s79.2) fun b134 => (Option.bind (p_seq_Parser_one s79.1 b134) fun r137 => some (.inl (r137, (IntKind.i64.wrap (s79.2 + 1)))))) else some (.inr s79.1))) ((SeqParser.mk p.state p.order p.text p.runes ([] : List SeqAction)), 0)) fun e113 => some (e113.out, (SeqParser.mk e113.state e113.order e113.text e113.runes ([] : List SeqAction))))

end Go.Tw.X

set_option linter.unusedVariables false
set_option linter.unusedSimpArgs false
set_option maxRecDepth 10000
namespace Go.Tw.X
open Go Go.Tw
structure StyleStyle where
  fore : Int
  back : Int
  bold : Bool
  under : Bool
  inverse : Bool
  deriving DecidableEq, Inhabited

noncomputable def p_style_Style_may (s_ : StyleStyle) : Option Bool :=
  (Option.bind ((bif (decide (s_.fore ≥ 0)) then (bif (decide (s_.fore < 9)) then (bif (decide (s_.back ≥ 0)) then some (decide (s_.back < 9)) else some false) else some false) else some false) : Option Bool) fun e9 => some e9)

noncomputable def p_style_bit (is : Bool) (n_ : Int) : Option Int :=
  (bif is then some n_ else some 0)

noncomputable def p_style_Style_Num (s_ : StyleStyle) : Option Int :=
  (Option.bind (p_style_Style_may s_) fun r2 => (bif (!r2) then some 0 else (Option.bind (p_style_bit s_.bold 81) fun r34 => (Option.bind (p_style_bit s_.under 162) fun r37 => (Option.bind (p_style_bit s_.inverse 324) fun r40 => some (IntKind.i64.wrap ((IntKind.i64.wrap ((IntKind.i64.wrap ((IntKind.i64.wrap (s_.fore + (IntKind.i64.wrap (9 * s_.back)))) + r34)) + r37)) + r40)))))))

noncomputable def p_style_skip (l : List Int) : Option Int :=
  (Option.bind ((bif (decide ((l.length : Int) > 0)) then (Option.bind (idx l 0) fun x80 => some (x80 == 5)) else some false) : Option Bool) fun e76 => (bif e76 then some (imin 2 (l.length : Int)) else (Option.bind ((bif (decide ((l.length : Int) > 0)) then (Option.bind (idx l 0) fun x109 => some (x109 == 2)) else some false) : Option Bool) fun e105 => (bif e105 then some (imin 4 (l.length : Int)) else some 0))))

noncomputable def p_style_Style_one (s_ : StyleStyle) (n_ : Int) : Option StyleStyle :=
  (Option.bind ((bif (n_ == 0) then (inrs (some (StyleStyle.mk 0 0 false false false))) else (Option.bind ((bif (n_ == 1) then some true else some (n_ == 22)) : Option Bool) fun e100 => (bif e100 then some (.inl (StyleStyle.mk s_.fore s_.back (n_ == 1) s_.under s_.inverse)) else (Option.bind ((bif (n_ == 4) then some true else some (n_ == 24)) : Option Bool) fun e108 => (bif e108 then some (.inl (StyleStyle.mk s_.fore s_.back s_.bold (n_ == 4) s_.inverse)) else (Option.bind ((bif (n_ == 7) then some true else some (n_ == 27)) : Option Bool) fun e116 => (bif e116 then some (.inl (StyleStyle.mk s_.fore s_.back s_.bold s_.under (n_ == 7))) else (Option.bind ((bif (decide (n_ ≥ 30)) then some (decide (n_ < 38)) else some false) : Option Bool) fun e124 => (bif e124 then some (.inl (StyleStyle.mk (IntKind.i64.wrap ((IntKind.i64.wrap (n_ - 30)) + 1)) s_.back s_.bold s_.under s_.inverse)) else (bif (n_ == 39) then some (.inl (StyleStyle.mk 0 s_.back s_.bold s_.under s_.inverse)) else (Option.bind ((bif (decide (n_ ≥ 40)) then some (decide (n_ < 48)) else some false) : Option Bool) fun e133 => (bif e133 then some (.inl (StyleStyle.mk s_.fore (IntKind.i64.wrap ((IntKind.i64.wrap (n_ - 40)) + 1)) s_.bold s_.under s_.inverse)) else (bif (n_ == 49) then some (.inl (StyleStyle.mk s_.fore 0 s_.bold s_.under s_.inverse)) else some (.inl s_)))))))))))))) : Option (StyleStyle ⊕ StyleStyle)) fun | .inl e90 => some e90 | .inr w => some w)

noncomputable def p_style_Style_Set (s_ : StyleStyle) (nums : List Int) : Option StyleStyle :=
  (bif ((nums.length : Int) == 0) then some (StyleStyle.mk 0 0 false false false) else (Option.bind (iter (σ := StyleStyle × Int) (ρ := StyleStyle) (fun s301 => (bif (decide (s301.2 < (nums.length : Int))) then (Option.bind ((Option.bind (idx nums s301.2) fun x554 => (Option.bind ((bif (x554 == 38) then some true else some (x554 == 48)) : Option Bool) fun e564 => (bif e564 then (Option.bind (chk (cutok (IntKind.i64.wrap (s301.2 + 1)) (nums.length : Int) nums.length)) fun _ => (Option.bind (p_style_skip (cut nums (IntKind.i64.wrap (s301.2 + 1)) (nums.length : Int))) fun r583 => some ((IntKind.i64.wrap (s301.2 + r583)), s301.1))) else (Option.bind (idx nums s301.2) fun x593 => (Option.bind (p_style_Style_one s301.1 x593) fun r597 => some (s301.2, r597)))))) : Option (Int × StyleStyle)) fun e551 => some (.inl (e551.2, (IntKind.i64.wrap (e551.1 + 1))))) else some (.inr s301.1))) (s_, 0)) fun e448 => some e448))
end Go.Tw.X

set_option linter.unusedVariables false
set_option linter.unusedSimpArgs false
set_option maxRecDepth 10000
namespace Go.Tw.X
open Go Go.Tw
structure ScreenSpot where
  x : Int
  y : Int
  style : StyleStyle
  deriving DecidableEq, Inhabited

structure ScreenScreen where
  g : GridGrid
  spot : ScreenSpot
  saved : ScreenSpot
  waiting : Bool
  top : Int
  bottom : Int
  wraps : Bool
  title : ByteArray
  deriving DecidableEq, Inhabited

noncomputable def p_screen_New (w : Int) (h_ : Int) : Option ScreenScreen :=
  (Option.bind (p_grid_New w h_) fun r1 => (Option.bind (p_grid_Grid_Size r1) fun r9 => some (ScreenScreen.mk r1 (ScreenSpot.mk 0 0 (StyleStyle.mk 0 0 false false false)) (ScreenSpot.mk 0 0 (StyleStyle.mk 0 0 false false false)) false 0 (IntKind.i64.wrap (r9.2 - 1)) true (ByteArray.mk #[]))))

noncomputable def p_screen_Screen_Grid (s_ : ScreenScreen) : Option (GridGrid × ScreenScreen) :=
  (Option.bind (p_grid_Grid_Clone s_.g) fun r1 => some (r1.1, (ScreenScreen.mk r1.2 s_.spot s_.saved s_.waiting s_.top s_.bottom s_.wraps s_.title)))

noncomputable def p_screen_Screen_Title (s_ : ScreenScreen) : Option ByteArray :=
  some s_.title

noncomputable def p_screen_Screen_Cursor (s_ : ScreenScreen) : Option (Int × Int) :=
  some (s_.spot.x, s_.spot.y)

noncomputable def p_screen_Screen_print_1 (r_ : RowRow) : Option RowRow :=
  some (RowRow.mk r_.cells true)

noncomputable def p_screen_Screen_edit_Screen_print_1 (s_ : ScreenScreen) : Option ScreenScreen :=
  (Option.bind (p_grid_Grid_Row s_.g s_.spot.y) fun r15 => (Option.bind (p_screen_Screen_print_1 r15) fun r21 => (Option.bind (p_grid_Grid_Set s_.g s_.spot.y r21) fun r25 => some (ScreenScreen.mk r25.2 s_.spot s_.saved s_.waiting s_.top s_.bottom s_.wraps s_.title))))

noncomputable def p_screen_Screen_num (s_ : ScreenScreen) : Option Int :=
  (Option.bind (p_style_Style_Num s_.spot.style) fun r1 => some r1)

noncomputable def p_screen_Screen_up (s_ : ScreenScreen) (n_ : Int) : Option ((List RowRow) × ScreenScreen) :=
  (Option.bind (p_screen_Screen_num s_) fun r31 => (Option.bind (p_grid_Grid_Up s_.g s_.top s_.bottom n_ r31) fun r34 => (bif (decide (s_.top > 0)) then some (([] : List RowRow), (ScreenScreen.mk r34.2 s_.spot s_.saved s_.waiting s_.top s_.bottom s_.wraps s_.title)) else some (r34.1, (ScreenScreen.mk r34.2 s_.spot s_.saved s_.waiting s_.top s_.bottom s_.wraps s_.title)))))

noncomputable def p_screen_Screen_last (s_ : ScreenScreen) : Option (Int × Int) :=
  (Option.bind (p_grid_Grid_Size s_.g) fun r1 => some ((IntKind.i64.wrap (r1.1 - 1)), (IntKind.i64.wrap (r1.2 - 1))))

noncomputable def p_screen_clip (n_ : Int) (lo : Int) (hi : Int) : Option Int :=
  some (imax lo (imin n_ hi))

noncomputable def p_screen_Screen_move (s_ : ScreenScreen) (x_ : Int) (y : Int) : Option ScreenScreen :=
  (Option.bind (p_screen_Screen_last s_) fun r1 => (Option.bind (p_screen_clip x_ 0 r1.1) fun r4 => (Option.bind (p_screen_clip y 0 r1.2) fun r7 => some (ScreenScreen.mk s_.g (ScreenSpot.mk r4 r7 s_.spot.style) s_.saved false s_.top s_.bottom s_.wraps s_.title))))

noncomputable def p_screen_Screen_line (s_ : ScreenScreen) : Option ((List RowRow) × ScreenScreen) :=
  (bif (s_.spot.y == s_.bottom) then (Option.bind (p_screen_Screen_up (ScreenScreen.mk s_.g s_.spot s_.saved false s_.top s_.bottom s_.wraps s_.title) 1) fun r10 => some (r10.1, r10.2)) else (Option.bind (p_screen_Screen_move (ScreenScreen.mk s_.g s_.spot s_.saved false s_.top s_.bottom s_.wraps s_.title) s_.spot.x (IntKind.i64.wrap (s_.spot.y + 1))) fun r29 => some (([] : List RowRow), r29)))

noncomputable def p_screen_Screen_print_2 (r_ : RowRow) (x1 : ScreenScreen) : Option RowRow :=
  (Option.bind (p_screen_Screen_num x1) fun r30 => (Option.bind (p_row_Row_Fill r_ r30) fun r33 => some r33))

noncomputable def p_screen_Screen_edit_Screen_print_2 (s_ : ScreenScreen) : Option ScreenScreen :=
  (Option.bind (p_grid_Grid_Row s_.g s_.spot.y) fun r17 => (Option.bind (p_screen_Screen_print_2 r17 s_) fun r23 => (Option.bind (p_grid_Grid_Set s_.g s_.spot.y r23) fun r29 => some (ScreenScreen.mk r29.2 s_.spot s_.saved s_.waiting s_.top s_.bottom s_.wraps s_.title))))

noncomputable def p_screen_Screen_print_3 (q : RowRow) (x1 : ScreenScreen) (x2 : Int) : Option RowRow :=
  (Option.bind (p_screen_Screen_num x1) fun r30 => (Option.bind (p_row_Row_Put q x1.spot.x x2 r30) fun r33 => some r33))

noncomputable def p_screen_Screen_edit_Screen_print_3 (s_ : ScreenScreen) (f_1 : Int) : Option ScreenScreen :=
  (Option.bind (p_grid_Grid_Row s_.g s_.spot.y) fun r17 => (Option.bind (p_screen_Screen_print_3 r17 s_ f_1) fun r23 => (Option.bind (p_grid_Grid_Set s_.g s_.spot.y r23) fun r29 => some (ScreenScreen.mk r29.2 s_.spot s_.saved s_.waiting s_.top s_.bottom s_.wraps s_.title))))

noncomputable def p_screen_Screen_print (s_ : ScreenScreen) (r_ : Int) : Option ((List RowRow) × ScreenScreen) :=
  (Option.bind (p_wide_Of r_) fun r3 => (Option.bind (p_grid_Grid_Size s_.g) fun r6 => (Option.bind ((bif (r3 == 0) then some true else some (decide (r3 > r6.1))) : Option Bool) fun e12 => (bif e12 then some (([] : List RowRow), s_) else (Option.bind ((bif s_.waiting then some s_.wraps else some false) : Option Bool) fun e22 => (Option.bind ((bif e22 then (Option.bind (p_screen_Screen_edit_Screen_print_1 s_) fun r75 => (Option.bind (p_screen_Screen_line (ScreenScreen.mk r75.g (ScreenSpot.mk 0 r75.spot.y r75.spot.style) r75.saved r75.waiting r75.top r75.bottom r75.wraps r75.title)) fun r79 => (Option.bind (chk (apok ([] : List RowRow).length r79.1.length 32)) fun _ => some ((([] : List RowRow) ++ r79.1), r79.2.g, r79.2)))) else some ([], s_.g, s_)) : Option ((List RowRow) × GridGrid × ScreenScreen)) fun e71 => (Option.bind ((bif (decide ((IntKind.i64.wrap (e71.2.2.spot.x + r3)) > r6.1)) then (bif e71.2.2.wraps then (Option.bind (p_screen_Screen_edit_Screen_print_2 (ScreenScreen.mk e71.2.1 e71.2.2.spot e71.2.2.saved e71.2.2.waiting e71.2.2.top e71.2.2.bottom e71.2.2.wraps e71.2.2.title)) fun r144 => (Option.bind (p_screen_Screen_line (ScreenScreen.mk r144.g (ScreenSpot.mk 0 r144.spot.y r144.spot.style) r144.saved r144.waiting r144.top r144.bottom r144.wraps r144.title)) fun r148 => (Option.bind (chk (apok e71.1.length r148.1.length 32)) fun _ => some ((e71.1 ++ r148.1), r148.2.g, r148.2)))) else some (e71.1, e71.2.1, (ScreenScreen.mk e71.2.1 (ScreenSpot.mk (IntKind.i64.wrap (e71.2.2.spot.x - 1)) e71.2.2.spot.y e71.2.2.spot.style) e71.2.2.saved e71.2.2.waiting e71.2.2.top e71.2.2.bottom e71.2.2.wraps e71.2.2.title))) else some (e71.1, e71.2.1, (ScreenScreen.mk e71.2.1 e71.2.2.spot e71.2.2.saved e71.2.2.waiting e71.2.2.top e71.2.2.bottom e71.2.2.wraps e71.2.2.title))) : Option ((List RowRow) × GridGrid × ScreenScreen)) fun e139 => (Option.bind (p_screen_Screen_edit_Screen_print_3 (ScreenScreen.mk e139.2.1 e139.2.2.spot e139.2.2.saved e139.2.2.waiting e139.2.2.top e139.2.2.bottom e139.2.2.wraps e139.2.2.title) r_) fun r161 => some (e139.1, (ScreenScreen.mk r161.g (ScreenSpot.mk (imin (IntKind.i64.wrap (r161.spot.x + r3)) (IntKind.i64.wrap (r6.1 - 1))) r161.spot.y r161.spot.style) r161.saved ((IntKind.i64.wrap (r161.spot.x + r3)) == r6.1) r161.top r161.bottom r161.wraps r161.title))))))))))

noncomputable def p_screen_Screen_control (s_ : ScreenScreen) (b : Int) : Option ((List RowRow) × ScreenScreen) :=
  (Option.bind ((bif (b == 8) then (Option.bind (p_screen_Screen_move s_ (IntKind.i64.wrap (s_.spot.x - 1)) s_.spot.y) fun r95 => some (.inl (r95, r95.g))) else (bif (b == 9) then (Option.bind (p_screen_Screen_move s_ (IntKind.i64.wrap ((IntKind.i64.wrap ((IntKind.i64.wrap (s_.spot.x.tdiv 8)) + 1)) * 8)) s_.spot.y) fun r104 => some (.inl (r104, r104.g))) else (Option.bind ((bif (b == 10) then some (b == 10) else (bif (b == 11) then some (b == 11) else some (b == 12))) : Option Bool) fun e113 => (bif e113 then (Option.bind (p_screen_Screen_line s_) fun r119 => (inrs (some (r119.1, r119.2)))) else (bif (b == 13) then (Option.bind (p_screen_Screen_move s_ 0 s_.spot.y) fun r129 => some (.inl (r129, r129.g))) else some (.inl (s_, s_.g))))))) : Option ((ScreenScreen × GridGrid) ⊕ ((List RowRow) × ScreenScreen))) fun | .inl e86 => some (([] : List RowRow), (ScreenScreen.mk e86.2 e86.1.spot e86.1.saved e86.1.waiting e86.1.top e86.1.bottom e86.1.wraps e86.1.title)) | .inr w => some w)

noncomputable def p_screen_Screen_back (s_ : ScreenScreen) : Option ScreenScreen :=
  (bif (s_.spot.y == s_.top) then (Option.bind (p_screen_Screen_num (ScreenScreen.mk s_.g s_.spot s_.saved false s_.top s_.bottom s_.wraps s_.title)) fun r73 => (Option.bind (p_grid_Grid_Down s_.g s_.top s_.bottom 1 r73) fun r76 => some (ScreenScreen.mk r76.2 s_.spot s_.saved false s_.top s_.bottom s_.wraps s_.title))) else (Option.bind (p_screen_Screen_move (ScreenScreen.mk s_.g s_.spot s_.saved false s_.top s_.bottom s_.wraps s_.title) s_.spot.x (IntKind.i64.wrap (s_.spot.y - 1))) fun r87 => some r87))

noncomputable def p_screen_Screen_escape (s_ : ScreenScreen) (b : Int) : Option ((List RowRow) × ScreenScreen) :=
  (Option.bind ((Option.bind ((bif (b == 69) then some (.inl (ScreenScreen.mk s_.g (ScreenSpot.mk 0 s_.spot.y s_.spot.style) s_.saved s_.waiting s_.top s_.bottom s_.wraps s_.title)) else (bif (b == 68) then some (.inl s_) else (bif (b == 77) then (inrs (Option.bind (p_screen_Screen_back s_) fun r4695 => some (.inl r4695))) else (bif (b == 55) then (inrs (some (.inl (ScreenScreen.mk s_.g s_.spot s_.spot s_.waiting s_.top s_.bottom s_.wraps s_.title)))) else (bif (b == 56) then (inrs (Option.bind (p_screen_Screen_move (ScreenScreen.mk s_.g (ScreenSpot.mk s_.spot.x s_.spot.y s_.saved.style) s_.saved s_.waiting s_.top s_.bottom s_.wraps s_.title) s_.saved.x s_.saved.y) fun r4719 => some (.inl r4719))) else (bif (b == 99) then (inrs (Option.bind (p_grid_Grid_Size s_.g) fun r4727 => (Option.bind (p_screen_New r4727.1 r4727.2) fun r4730 => some (.inl r4730)))) else (inrs (some (.inl s_))))))))) : Option (ScreenScreen ⊕ (ScreenScreen ⊕ ((List RowRow) × ScreenScreen)))) fun | .inl e4671 => (Option.bind (p_screen_Screen_line (ScreenScreen.mk s_.g e4671.spot e4671.saved e4671.waiting e4671.top e4671.bottom e4671.wraps e4671.title)) fun r4740 => (inrs (some (r4740.1, r4740.2)))) | .inr w => some w) : Option (ScreenScreen ⊕ ((List RowRow) × ScreenScreen))) fun | .inl e3164 => some (([] : List RowRow), e3164) | .inr w => some w)

noncomputable def p_screen_at (a : SeqAction) (i : Int) (d : Int) : Option Int :=
  (Option.bind ((bif (decide (i ≥ (a.nums.length : Int))) then some true else (Option.bind (idx a.nums i) fun x23 => some (decide (x23 ≤ 0)))) : Option Bool) fun e19 => (bif e19 then some d else (Option.bind (idx a.nums i) fun x32 => some (imin x32 9999))))

noncomputable def p_screen_Screen_climb (s_ : ScreenScreen) (n_ : Int) : Option ScreenScreen :=
  (Option.bind (p_screen_Screen_last s_) fun r1 => (Option.bind ((bif (decide (s_.spot.y ≥ s_.top)) then some (decide (n_ < 0)) else some false) : Option Bool) fun e9 => (Option.bind ((bif e9 then some s_.top else some 0) : Option Int) fun e17 => (Option.bind ((bif (decide (s_.spot.y ≤ s_.bottom)) then some (decide (n_ > 0)) else some false) : Option Bool) fun e26 => (Option.bind ((bif e26 then some s_.bottom else some r1.2) : Option Int) fun e34 => (Option.bind (p_screen_clip (IntKind.i64.wrap (s_.spot.y + n_)) e17 e34) fun r45 => (Option.bind (p_screen_Screen_move s_ s_.spot.x r45) fun r48 => some r48)))))))

noncomputable def p_screen_Screen_erase (s_ : ScreenScreen) (y : Int) (from_ : Int) (to : Int) : Option ScreenScreen :=
  (Option.bind (p_grid_Grid_Row s_.g y) fun r20 => (Option.bind (p_screen_Screen_num s_) fun r26 => (Option.bind (p_row_Row_Erase r20 from_ to r26) fun r29 => (Option.bind (p_grid_Grid_Set s_.g y r29) fun r35 => some (ScreenScreen.mk r35.2 s_.spot s_.saved s_.waiting s_.top s_.bottom s_.wraps s_.title)))))

noncomputable def p_screen_Screen_part (s_ : ScreenScreen) (n_ : Int) : Option ScreenScreen :=
  (Option.bind (p_grid_Grid_Size s_.g) fun r1 => (Option.bind ((bif (n_ == 0) then (Option.bind (p_screen_Screen_erase s_ s_.spot.y s_.spot.x r1.1) fun r61 => some (r61.g, r61)) else (bif (n_ == 1) then (Option.bind (p_screen_Screen_erase s_ s_.spot.y 0 (IntKind.i64.wrap (s_.spot.x + 1))) fun r70 => some (r70.g, r70)) else (bif (n_ == 2) then (Option.bind (p_screen_Screen_erase s_ s_.spot.y 0 r1.1) fun r75 => some (r75.g, r75)) else some (s_.g, s_)))) : Option (GridGrid × ScreenScreen)) fun e53 => (bif e53.2.waiting then some (ScreenScreen.mk e53.1 e53.2.spot e53.2.saved (decide (n_ > 2)) e53.2.top e53.2.bottom e53.2.wraps e53.2.title) else some (ScreenScreen.mk e53.1 e53.2.spot e53.2.saved false e53.2.top e53.2.bottom e53.2.wraps e53.2.title))))

noncomputable def p_screen_Screen_wipe (s_ : ScreenScreen) (n_ : Int) : Option ScreenScreen :=
  (Option.bind (p_grid_Grid_Size s_.g) fun r1 => (Option.bind (iter (σ := ScreenScreen × GridGrid × Int) (ρ := GridGrid × ScreenScreen) (fun s266 => (bif (decide (s266.2.2 < r1.2)) then (Option.bind ((Option.bind ((bif (decide (s266.2.2 < s266.1.spot.y)) then (bif (n_ == 1) then some true else (bif (decide (s266.2.2 > s266.1.spot.y)) then (bif (n_ == 0) then some true else (bif (s266.2.2 != s266.1.spot.y) then some (n_ == 2) else some false)) else (bif (s266.2.2 != s266.1.spot.y) then some (n_ == 2) else some false))) else (bif (decide (s266.2.2 > s266.1.spot.y)) then (bif (n_ == 0) then some true else (bif (s266.2.2 != s266.1.spot.y) then some (n_ == 2) else some false)) else (bif (s266.2.2 != s266.1.spot.y) then some (n_ == 2) else some false))) : Option Bool) fun e509 => (bif e509 then (Option.bind (p_screen_Screen_erase (ScreenScreen.mk s266.2.1 s266.1.spot s266.1.saved s266.1.waiting s266.1.top s266.1.bottom s266.1.wraps s266.1.title) s266.2.2 0 r1.1) fun r523 => some (r523.g, r523)) else some (s266.2.1, (ScreenScreen.mk s266.2.1 s266.1.spot s266.1.saved s266.1.waiting s266.1.top s266.1.bottom s266.1.wraps s266.1.title)))) : Option (GridGrid × ScreenScreen)) fun e485 => some (.inl ((ScreenScreen.mk e485.1 e485.2.spot e485.2.saved e485.2.waiting e485.2.top e485.2.bottom e485.2.wraps e485.2.title), e485.1, (IntKind.i64.wrap (s266.2.2 + 1))))) else some (.inr (s266.2.1, (ScreenScreen.mk s266.2.1 s266.1.spot s266.1.saved s266.1.waiting s266.1.top s266.1.bottom s266.1.wraps s266.1.title))))) (s_, s_.g, 0)) fun e395 => (Option.bind (p_screen_Screen_part (ScreenScreen.mk e395.1 e395.2.spot e395.2.saved e395.2.waiting e395.2.top e395.2.bottom e395.2.wraps e395.2.title) n_) fun r527 => some r527)))

noncomputable def p_screen_Screen_cells_1 (r_ : RowRow) (x1 : Int) (x2 : ScreenScreen) (x3 : Int) : Option RowRow :=
  (bif (x1 == 64) then (Option.bind (p_screen_Screen_num x2) fun r105 => (Option.bind (p_row_Row_Insert r_ x2.spot.x x3 r105) fun r108 => some r108)) else (bif (x1 == 80) then (Option.bind (p_screen_Screen_num x2) fun r142 => (Option.bind (p_row_Row_Delete r_ x2.spot.x x3 r142) fun r145 => some r145)) else (Option.bind (p_screen_Screen_num x2) fun r178 => (Option.bind (p_row_Row_Erase r_ x2.spot.x (IntKind.i64.wrap (x2.spot.x + x3)) r178) fun r181 => some r181))))

noncomputable def p_screen_Screen_edit_Screen_cells_1 (s_ : ScreenScreen) (f_0 : Int) (f_2 : Int) : Option ScreenScreen :=
  (Option.bind (p_grid_Grid_Row s_.g s_.spot.y) fun r17 => (Option.bind (p_screen_Screen_cells_1 r17 f_0 s_ f_2) fun r23 => (Option.bind (p_grid_Grid_Set s_.g s_.spot.y r23) fun r29 => some (ScreenScreen.mk r29.2 s_.spot s_.saved s_.waiting s_.top s_.bottom s_.wraps s_.title))))

noncomputable def p_screen_Screen_cells (s_ : ScreenScreen) (b : Int) (n_ : Int) : Option ScreenScreen :=
  (Option.bind (p_screen_Screen_edit_Screen_cells_1 s_ b n_) fun r4 => some (ScreenScreen.mk r4.g r4.spot r4.saved false r4.top r4.bottom r4.wraps r4.title))

noncomputable def p_screen_Screen_shift (s_ : ScreenScreen) (b : Int) (n_ : Int) : Option ScreenScreen :=
  (Option.bind ((bif (decide (s_.spot.y < s_.top)) then some true else some (decide (s_.spot.y > s_.bottom))) : Option Bool) fun e6 => (bif e6 then some s_ else (Option.bind ((bif (b == 76) then (Option.bind (p_screen_Screen_num s_) fun r111 => (Option.bind (p_grid_Grid_Down s_.g s_.spot.y s_.bottom n_ r111) fun r114 => some r114.2)) else (Option.bind (p_screen_Screen_num s_) fun r131 => (Option.bind (p_grid_Grid_Up s_.g s_.spot.y s_.bottom n_ r131) fun r134 => some r134.2))) : Option GridGrid) fun e97 => (Option.bind (p_screen_Screen_move (ScreenScreen.mk e97 s_.spot s_.saved s_.waiting s_.top s_.bottom s_.wraps s_.title) 0 s_.spot.y) fun r141 => some r141))))

noncomputable def p_screen_Screen_region (s_ : ScreenScreen) (a : SeqAction) : Option ScreenScreen :=
  (Option.bind (p_grid_Grid_Size s_.g) fun r2 => (Option.bind (p_screen_at a 0 1) fun r41 => (Option.bind (p_screen_clip r41 1 r2.2) fun r44 => (Option.bind (p_screen_at a 1 r2.2) fun r47 => (Option.bind (p_screen_clip r47 1 r2.2) fun r50 => (bif (decide ((IntKind.i64.wrap (r44 - 1)) < (IntKind.i64.wrap (r50 - 1)))) then (Option.bind (p_screen_Screen_move (ScreenScreen.mk s_.g s_.spot s_.saved s_.waiting (IntKind.i64.wrap (r44 - 1)) (IntKind.i64.wrap (r50 - 1)) s_.wraps s_.title) 0 0) fun r54 => some r54) else some s_))))))

noncomputable def p_screen_Screen_order (s_ : ScreenScreen) (a : SeqAction) : Option ((List RowRow) × ScreenScreen) :=
  (Option.bind (p_screen_at a 0 1) fun r2 => (Option.bind ((Option.bind ((bif (a.byte == 65) then some (a.byte == 65) else some (a.byte == 70)) : Option Bool) fun e317 => (bif e317 then (Option.bind (p_screen_Screen_climb s_ (IntKind.i64.wrap (0 - r2))) fun r322 => some (.inl (r322, r322.g))) else (Option.bind ((bif (a.byte == 66) then some (a.byte == 66) else some (a.byte == 69)) : Option Bool) fun e329 => (bif e329 then (Option.bind (p_screen_Screen_climb s_ r2) fun r334 => some (.inl (r334, r334.g))) else (bif (a.byte == 67) then (Option.bind (p_screen_Screen_move s_ (IntKind.i64.wrap (s_.spot.x + r2)) s_.spot.y) fun r343 => some (.inl (r343, r343.g))) else (bif (a.byte == 68) then (Option.bind (p_screen_Screen_move s_ (IntKind.i64.wrap (s_.spot.x - r2)) s_.spot.y) fun r352 => some (.inl (r352, r352.g))) else (bif (a.byte == 71) then (Option.bind (p_screen_Screen_move s_ (IntKind.i64.wrap (r2 - 1)) s_.spot.y) fun r357 => some (.inl (r357, r357.g))) else (bif (a.byte == 100) then (Option.bind (p_screen_Screen_move s_ s_.spot.x (IntKind.i64.wrap (r2 - 1))) fun r362 => some (.inl (r362, r362.g))) else (Option.bind ((bif (a.byte == 72) then some (a.byte == 72) else some (a.byte == 102)) : Option Bool) fun e369 => (bif e369 then (Option.bind (p_screen_at a 1 1) fun r374 => (Option.bind (p_screen_Screen_move s_ (IntKind.i64.wrap (r374 - 1)) (IntKind.i64.wrap (r2 - 1))) fun r377 => some (.inl (r377, r377.g)))) else (bif (a.byte == 74) then (Option.bind (p_screen_at a 0 0) fun r382 => (Option.bind (p_screen_Screen_wipe s_ r382) fun r385 => some (.inl (r385, r385.g)))) else (bif (a.byte == 75) then (Option.bind (p_screen_at a 0 0) fun r390 => (Option.bind (p_screen_Screen_part s_ r390) fun r393 => some (.inl (r393, r393.g)))) else (Option.bind ((bif (a.byte == 64) then some (a.byte == 64) else (bif (a.byte == 80) then some (a.byte == 80) else some (a.byte == 88))) : Option Bool) fun e402 => (bif e402 then (Option.bind (p_screen_Screen_cells s_ a.byte r2) fun r408 => some (.inl (r408, r408.g))) else (Option.bind ((bif (a.byte == 76) then some (a.byte == 76) else some (a.byte == 77)) : Option Bool) fun e415 => (bif e415 then (Option.bind (p_screen_Screen_shift s_ a.byte r2) fun r420 => some (.inl (r420, r420.g))) else (bif (a.byte == 83) then (Option.bind (p_screen_Screen_up (ScreenScreen.mk s_.g s_.spot s_.saved false s_.top s_.bottom s_.wraps s_.title) r2) fun r425 => (inrs (some (r425.1, r425.2)))) else (bif (a.byte == 84) then (Option.bind (p_screen_Screen_num (ScreenScreen.mk s_.g s_.spot s_.saved false s_.top s_.bottom s_.wraps s_.title)) fun r445 => (Option.bind (p_grid_Grid_Down s_.g s_.top s_.bottom r2 r445) fun r448 => some (.inl ((ScreenScreen.mk r448.2 s_.spot s_.saved false s_.top s_.bottom s_.wraps s_.title), r448.2)))) else (bif (a.byte == 109) then (Option.bind (p_style_Style_Set s_.spot.style a.nums) fun r459 => some (.inl ((ScreenScreen.mk s_.g (ScreenSpot.mk s_.spot.x s_.spot.y r459) s_.saved s_.waiting s_.top s_.bottom s_.wraps s_.title), s_.g))) else (bif (a.byte == 114) then (Option.bind (p_screen_Screen_region s_ a) fun r463 => some (.inl (r463, r463.g))) else some (.inl (s_, s_.g)))))))))))))))))))))) : Option ((ScreenScreen × GridGrid) ⊕ ((List RowRow) × ScreenScreen))) fun | .inl e310 => (Option.bind ((bif (a.byte == 69) then some true else some (a.byte == 70)) : Option Bool) fun e470 => (Option.bind ((bif e470 then some (ScreenScreen.mk e310.2 (ScreenSpot.mk 0 e310.1.spot.y e310.1.spot.style) e310.1.saved e310.1.waiting e310.1.top e310.1.bottom e310.1.wraps e310.1.title) else some (ScreenScreen.mk e310.2 e310.1.spot e310.1.saved e310.1.waiting e310.1.top e310.1.bottom e310.1.wraps e310.1.title)) : Option ScreenScreen) fun e477 => some (([] : List RowRow), (ScreenScreen.mk e310.2 e477.spot e477.saved e477.waiting e477.top e477.bottom e477.wraps e477.title)))) | .inr w => some w))

noncomputable def p_screen_Screen_Do (s_ : ScreenScreen) (a : SeqAction) : Option ((List RowRow) × ScreenScreen) :=
  (Option.bind ((bif (a.kind == 1) then (Option.bind (p_screen_Screen_print s_ a.rune) fun r138 => (inrs (some (r138.1, r138.2)))) else (bif (a.kind == 2) then (Option.bind (p_screen_Screen_control s_ a.byte) fun r148 => (inrs (some (r148.1, r148.2)))) else (bif (a.kind == 3) then (Option.bind (p_screen_Screen_escape s_ a.byte) fun r158 => (inrs (some (r158.1, r158.2)))) else (bif (a.kind == 5) then some (.inl (ScreenScreen.mk s_.g s_.spot s_.saved s_.waiting s_.top s_.bottom s_.wraps a.text)) else (bif (a.kind == 4) then (bif (!a.private_) then (Option.bind (p_screen_Screen_order s_ a) fun r181 => (inrs (some (r181.1, r181.2)))) else (Option.bind ((Option.bind (p_screen_at a 0 0) fun r204 => (bif (r204 == 7) then (bif (a.byte == 104) then some true else some (a.byte == 108)) else some false)) : Option Bool) fun e201 => (bif e201 then some (.inl (ScreenScreen.mk s_.g s_.spot s_.saved s_.waiting s_.top s_.bottom (a.byte == 104) s_.title)) else some (.inl s_)))) else some (.inl s_)))))) : Option (ScreenScreen ⊕ ((List RowRow) × ScreenScreen))) fun | .inl e133 => some (([] : List RowRow), (ScreenScreen.mk s_.g e133.spot e133.saved e133.waiting e133.top e133.bottom e133.wraps e133.title)) | .inr w => some w)

noncomputable def p_screen_Screen_Resize (s_ : ScreenScreen) (w : Int) (h_ : Int) : Option ((List RowRow) × ScreenScreen) :=
  (Option.bind (p_screen_clip h_ 1 1000) fun r10 => (Option.bind (p_grid_Grid_Resize s_.g w h_ (imax 0 (IntKind.i64.wrap (s_.spot.y - (IntKind.i64.wrap (r10 - 1)))))) fun r13 => (Option.bind (p_screen_Screen_move (ScreenScreen.mk r13.2 s_.spot s_.saved s_.waiting s_.top s_.bottom s_.wraps s_.title) s_.spot.x (IntKind.i64.wrap (s_.spot.y - (imax 0 (IntKind.i64.wrap (s_.spot.y - (IntKind.i64.wrap (r10 - 1)))))))) fun r34 => (Option.bind (p_screen_Screen_last r34) fun r38 => some (r13.1, (ScreenScreen.mk r34.g r34.spot r34.saved r34.waiting 0 r38.2 r34.wraps r34.title))))))

noncomputable def p_screen_Screen_Clone (s_ : ScreenScreen) : Option (ScreenScreen × ScreenScreen) :=
  (Option.bind (p_grid_Grid_Clone s_.g) fun r2 => some ((ScreenScreen.mk r2.1 s_.spot s_.saved s_.waiting s_.top s_.bottom s_.wraps s_.title), (ScreenScreen.mk r2.2 s_.spot s_.saved s_.waiting s_.top s_.bottom s_.wraps s_.title)))
end Go.Tw.X

set_option linter.unusedVariables false
set_option linter.unusedSimpArgs false
set_option maxRecDepth 10000
namespace Go.Tw.X
open Go Go.Tw
structure SnapSnap where
  k : Int
  w : Int
  h : Int
  x : Int
  y : Int
  title : ByteArray
  rows : List RowRow
  len : Int
  chain : Int
  begun : List RowGlyph
  deriving DecidableEq, Inhabited

noncomputable def p_snap_Of (k : Int) (s_ : ScreenScreen) (b : BookBook) : Option (SnapSnap × ScreenScreen) :=
  (Option.bind (p_screen_Screen_Grid (ScreenScreen.mk s_.g s_.spot s_.saved s_.waiting s_.top s_.bottom s_.wraps s_.title)) fun r2 => (Option.bind (p_screen_Screen_Title (ScreenScreen.mk r2.2.g r2.2.spot r2.2.saved r2.2.waiting r2.2.top r2.2.bottom r2.2.wraps r2.2.title)) fun r10 => (Option.bind (p_grid_Grid_Rows r2.1) fun r13 => (Option.bind (p_book_Book_Len b) fun r20 => (Option.bind (p_book_Book_Len b) fun r23 => (Option.bind (p_book_Book_Chain b r23) fun r26 => (Option.bind (p_book_Book_Begun b) fun r29 => (Option.bind (p_grid_Grid_Size r13.2) fun r36 => (Option.bind (p_screen_Screen_Cursor (ScreenScreen.mk r2.2.g r2.2.spot r2.2.saved r2.2.waiting r2.2.top r2.2.bottom r2.2.wraps r2.2.title)) fun r39 => some ((SnapSnap.mk k r36.1 r36.2 r39.1 r39.2 r10 r13.1 r20 r26 r29), (ScreenScreen.mk r2.2.g r2.2.spot r2.2.saved r2.2.waiting r2.2.top r2.2.bottom r2.2.wraps r2.2.title)))))))))))

noncomputable def p_snap_Snap_Same (s_ : SnapSnap) (t_ : SnapSnap) : Option Bool :=
  (Option.bind ((bif (s_.k == t_.k) then (bif (s_.w == t_.w) then (bif (s_.h == t_.h) then (bif (s_.x == t_.x) then (bif (s_.y == t_.y) then (bif (s_.title.toList == t_.title.toList) then (bif (s_.len == t_.len) then (bif (s_.chain == t_.chain) then (Option.bind (p_slices_EqualFunc_row_Row_Row_Same s_.rows t_.rows) fun r45 => (bif r45 then (Option.bind (p_slices_Equal_row_Glyph s_.begun t_.begun) fun r49 => some r49) else some false)) else some false) else some false) else some false) else some false) else some false) else some false) else some false) else some false) : Option Bool) fun e34 => some e34)

end Go.Tw.X

set_option linter.unusedVariables false
set_option linter.unusedSimpArgs false
set_option maxRecDepth 10000
namespace Go.Tw.X
open Go Go.Tw
structure ModelModel where
  book : BookBook
  parser : SeqParser
  screen : ScreenScreen
  k : Int
  deriving DecidableEq, Inhabited

structure ModelEvent where
  kind : Int
  text : ByteArray
  w : Int
  h : Int
  deriving DecidableEq, Inhabited

noncomputable def p_model_New (w : Int) (h_ : Int) : Option ModelModel :=
  (Option.bind p_book_New fun r1 => (Option.bind (p_screen_New w h_) fun r15 => some (ModelModel.mk r1 (SeqParser.mk 0 (SeqOrder.mk false false false false 0 ([] : List Int)) (ByteArray.mk #[]) (GlyphDecoder.mk 0 0 0) ([] : List SeqAction)) (ScreenScreen.mk r15.g r15.spot r15.saved r15.waiting r15.top r15.bottom r15.wraps r15.title) 0)))

noncomputable def p_model_Model_Snap (m_ : ModelModel) : Option (SnapSnap × ModelModel) :=
  (Option.bind (p_snap_Of (IntKind.i64.wrap (m_.k + 1)) (ScreenScreen.mk m_.screen.g m_.screen.spot m_.screen.saved m_.screen.waiting m_.screen.top m_.screen.bottom m_.screen.wraps m_.screen.title) m_.book) fun r32 => some (r32.1, (ModelModel.mk m_.book m_.parser (ScreenScreen.mk r32.2.g r32.2.spot r32.2.saved r32.2.waiting r32.2.top r32.2.bottom r32.2.wraps r32.2.title) m_.k)))

noncomputable def p_model_Event_Check (e : ModelEvent) : Option Int :=
  (Option.bind ((bif (e.kind == 0) then (bif (decide ((e.text.size : Int) > 1048576)) then (inrs (some 3)) else some (.inl ())) else (bif (e.kind == 1) then (Option.bind ((bif (decide (e.w < 1)) then some true else (bif (decide (e.w > 1000)) then some true else (bif (decide (e.h < 1)) then some true else some (decide (e.h > 1000))))) : Option Bool) fun e52 => (bif e52 then (inrs (some 6)) else some (.inl ()))) else (inrs (some 5)))) : Option (Unit ⊕ Int)) fun | .inl e36 => some 0 | .inr w => some w)

noncomputable def p_model_Model_off (m_ : ModelModel) (text : ByteArray) : Option ByteArray :=
  some text

noncomputable def p_model_Model_off_1 {σ : Type} (Y : σ → (List RowRow) → Option (σ × Bool)) (y0 : σ) (x1 : ModelModel) (x2 : ByteArray) : Option (σ × ModelModel) :=
  (Option.bind (p_seq_Parser_Feed x1.parser x2) fun r34 => (Option.bind (iter (σ := ScreenScreen × Int × σ) (ρ := (ScreenScreen × σ) ⊕ (σ × ModelModel)) (fun s293 => (bif (decide (s293.2.1 < (r34.1.length : Int))) then (Option.bind (idx r34.1 s293.2.1) fun x478 => (Option.bind (p_screen_Screen_Do s293.1 x478) fun r517 => (Option.bind (Y s293.2.2 r517.1) fun z528 => (bif (!z528.2) then (inrr (some (z528.1, (ModelModel.mk x1.book r34.2 r517.2 x1.k)))) else some (.inl (r517.2, (IntKind.i64.wrap (s293.2.1 + 1)), z528.1)))))) else some (.inr (.inl (s293.1, s293.2.2))))) (x1.screen, 0, y0)) fun | .inl e413 => some (e413.2, (ModelModel.mk x1.book r34.2 e413.1 x1.k)) | .inr w => some w))

noncomputable def p_model_Model_Do (m_ : ModelModel) (e : ModelEvent) : Option (Int × ModelModel) :=
  (Option.bind (p_model_Event_Check e) fun r3 => (bif (r3 != 0) then some (r3, m_) else (Option.bind ((bif (e.kind == 1) then (Option.bind (p_screen_Screen_Resize m_.screen e.w e.h) fun r340 => (Option.bind (p_book_Book_Add m_.book r340.1) fun r350 => some (ModelModel.mk r350.2 m_.parser r340.2 m_.k))) else (Option.bind (p_model_Model_off m_ e.text) fun r362 => (Option.bind (p_model_Model_off_1 (fun s417 x369 => (Option.bind (p_book_Book_Add s417 x369) fun r421 => some (r421.2, true))) (m_.book : BookBook) m_ r362) fun r433 => some (ModelModel.mk r433.1 r433.2.parser r433.2.screen r433.2.k)))) : Option ModelModel) fun e314 => some (0, (ModelModel.mk e314.book e314.parser e314.screen (IntKind.i64.wrap (e314.k + 1)))))))

noncomputable def p_model_Run (w : Int) (h_ : Int) (l : List ModelEvent) : Option ModelModel :=
  (Option.bind (p_model_New w h_) fun r1 => (Option.bind (iter (σ := ModelModel × Int) (ρ := ModelModel) (fun s200 => (bif (decide (s200.2 < (l.length : Int))) then (Option.bind (idx l s200.2) fun x316 => (Option.bind (p_model_Model_Do s200.1 x316) fun r324 => some (.inl (r324.2, (IntKind.i64.wrap (s200.2 + 1)))))) else some (.inr s200.1))) (r1, 0)) fun e278 => some e278))

noncomputable def p_model_Model_Screen (m_ : ModelModel) : Option (ScreenScreen × ModelModel) :=
  (Option.bind (p_screen_Screen_Clone m_.screen) fun r1 => some (r1.1, (ModelModel.mk m_.book m_.parser r1.2 m_.k)))

noncomputable def p_model_Model_K (m_ : ModelModel) : Option Int :=
  some m_.k

end Go.Tw.X

set_option linter.unusedVariables false
set_option linter.unusedSimpArgs false
set_option maxRecDepth 10000
namespace Go.Tw.X
open Go Go.Tw

noncomputable def p_law01_Cut (s_ : ByteArray) (n_ : Int) : Option ByteArray :=
  (bif (decide ((s_.size : Int) > n_)) then (Option.bind (chk (cutok 0 n_ s_.size)) fun _ => some (scut s_ 0 n_)) else some s_)

end Go.Tw.X

set_option linter.unusedVariables false
set_option linter.unusedSimpArgs false
set_option maxRecDepth 10000
namespace Go.Tw.X
open Go Go.Tw

noncomputable def p_ref06_Of (r_ : Int) : Option Int :=
  (Option.bind ((bif (decide (r_ < 32)) then some true else some (decide (r_ > 1114111))) : Option Bool) fun e8 => (bif e8 then some 0 else (Option.bind (iter (σ := Int) (ρ := Unit ⊕ Int) (fun s69 => (bif (decide (s69 < ([(Arr2Int.mk 127 159), (Arr2Int.mk 768 879), (Arr2Int.mk 6832 6911), (Arr2Int.mk 7616 7679), (Arr2Int.mk 8203 8207), (Arr2Int.mk 8400 8447), (Arr2Int.mk 55296 57343), (Arr2Int.mk 65024 65039), (Arr2Int.mk 65056 65071), (Arr2Int.mk 65279 65279), (Arr2Int.mk 917760 917999)].length : Int))) then (Option.bind (idx [(Arr2Int.mk 127 159), (Arr2Int.mk 768 879), (Arr2Int.mk 6832 6911), (Arr2Int.mk 7616 7679), (Arr2Int.mk 8203 8207), (Arr2Int.mk 8400 8447), (Arr2Int.mk 55296 57343), (Arr2Int.mk 65024 65039), (Arr2Int.mk 65056 65071), (Arr2Int.mk 65279 65279), (Arr2Int.mk 917760 917999)] s69) fun x118 => (Option.bind ((bif (decide (r_ ≥ x118.e0)) then some (decide (r_ ≤ x118.e1)) else some false) : Option Bool) fun e125 => (bif e125 then (inrr (some 0)) else some (.inl (IntKind.i64.wrap (s69 + 1)))))) else some (.inr (.inl ())))) 0) fun | .inl e96 => (Option.bind (iter (σ := Int) (ρ := Unit ⊕ Int) (fun s187 => (bif (decide (s187 < ([(Arr2Int.mk 4352 4447), (Arr2Int.mk 11904 12350), (Arr2Int.mk 12353 13311), (Arr2Int.mk 13312 19903), (Arr2Int.mk 19968 40959), (Arr2Int.mk 40960 42191), (Arr2Int.mk 44032 55203), (Arr2Int.mk 63744 64255), (Arr2Int.mk 65072 65135), (Arr2Int.mk 65280 65376), (Arr2Int.mk 65504 65510), (Arr2Int.mk 127744 128591), (Arr2Int.mk 129280 129535), (Arr2Int.mk 131072 262141)].length : Int))) then (Option.bind (idx [(Arr2Int.mk 4352 4447), (Arr2Int.mk 11904 12350), (Arr2Int.mk 12353 13311), (Arr2Int.mk 13312 19903), (Arr2Int.mk 19968 40959), (Arr2Int.mk 40960 42191), (Arr2Int.mk 44032 55203), (Arr2Int.mk 63744 64255), (Arr2Int.mk 65072 65135), (Arr2Int.mk 65280 65376), (Arr2Int.mk 65504 65510), (Arr2Int.mk 127744 128591), (Arr2Int.mk 129280 129535), (Arr2Int.mk 131072 262141)] s187) fun x236 => (Option.bind ((bif (decide (r_ ≥ x236.e0)) then some (decide (r_ ≤ x236.e1)) else some false) : Option Bool) fun e243 => (bif e243 then (inrr (some 2)) else some (.inl (IntKind.i64.wrap (s187 + 1)))))) else some (.inr (.inl ())))) 0) fun | .inl e214 => some 1 | .inr w => some w) | .inr w => some w)))
end Go.Tw.X

set_option linter.unusedVariables false
set_option linter.unusedSimpArgs false
set_option maxRecDepth 10000
namespace Go.Tw.X
open Go Go.Tw
structure Ref09Cell where
  rune : Int
  style : Int
  part : Int
  deriving DecidableEq, Inhabited

structure Ref09Row where
  l : List Ref09Cell
  wrapped : Bool
  deriving DecidableEq, Inhabited

structure Ref09Glyph where
  rune : Int
  style : Int
  deriving DecidableEq, Inhabited

noncomputable def p_ref09_near (n_ : Int) (lo : Int) (hi : Int) : Option Int :=
  (bif (decide (n_ < lo)) then some lo else (bif (decide (n_ > hi)) then some hi else some n_))

noncomputable def p_ref09_Blank (w : Int) (style : Int) : Option Ref09Row :=
  (Option.bind (iter (σ := (List Ref09Cell) × Int) (ρ := (List Ref09Cell)) (fun s61 => (Option.bind (p_ref09_near w 0 1000) fun r94 => (bif (decide (s61.2 < r94)) then (Option.bind (chk (apok s61.1.length [(Ref09Cell.mk 32 style 0)].length 24)) fun _ => some (.inl ((s61.1 ++ [(Ref09Cell.mk 32 style 0)]), (IntKind.i64.wrap (s61.2 + 1))))) else some (.inr s61.1)))) (([] : List Ref09Cell), 0)) fun e87 => some (Ref09Row.mk e87 false))

noncomputable def p_ref09_mend (l : List Ref09Cell) : Option Ref09Row :=
  (Option.bind (iter (σ := Int × (List Ref09Cell)) (ρ := (List Ref09Cell)) (fun s287 => (bif (decide (s287.1 < (l.length : Int))) then (Option.bind (idx l s287.1) fun x510 => (Option.bind ((bif (x510.part == 1) then (bif ((IntKind.i64.wrap (s287.1 + 1)) == (l.length : Int)) then some true else (Option.bind (idx l (IntKind.i64.wrap (s287.1 + 1))) fun x552 => some (x552.part != 2))) else (bif (x510.part == 2) then (bif (s287.1 == 0) then some true else (Option.bind (idx s287.2 (IntKind.i64.wrap (s287.1 - 1))) fun x558 => some (x558.part != 1))) else (bif (x510.part == 3) then some (decide (s287.1 < (IntKind.i64.wrap ((l.length : Int) - 1)))) else some false))) : Option Bool) fun e547 => (Option.bind ((bif e547 then some (Ref09Cell.mk 32 x510.style 0) else some x510) : Option Ref09Cell) fun e567 => (Option.bind (chk (apok s287.2.length [e567].length 24)) fun _ => some (.inl ((IntKind.i64.wrap (s287.1 + 1)), (s287.2 ++ [e567]))))))) else some (.inr s287.2))) (0, ([] : List Ref09Cell))) fun e432 => some (Ref09Row.mk e432 false))

noncomputable def p_ref09_Put (r_ : Ref09Row) (at_ : Int) (x_ : Int) (style : Int) : Option Ref09Row :=
  (Option.bind (p_ref06_Of x_) fun r3 => (Option.bind ((bif (r3 == 0) then some true else (bif (decide (at_ < 0)) then some true else some (decide (at_ > (IntKind.i64.wrap ((r_.l.length : Int) - r3)))))) : Option Bool) fun e11 => (bif e11 then (Option.bind (p_ref09_mend r_.l) fun r24 => some r24) else (Option.bind (chk (apok ([] : List Ref09Cell).length r_.l.length 24)) fun _ => (Option.bind (idx (([] : List Ref09Cell) ++ r_.l) at_) fun x37 => (Option.bind ((bif (r3 == 2) then (Option.bind (idx ((([] : List Ref09Cell) ++ r_.l).set at_.toNat (Ref09Cell.mk x_ style 0)) at_) fun x115 => (Option.bind (idx (((([] : List Ref09Cell) ++ r_.l).set at_.toNat (Ref09Cell.mk x_ style 0)).set at_.toNat (Ref09Cell.mk x_ style 1)) (IntKind.i64.wrap (at_ + 1))) fun x119 => (Option.bind ((bif (decide (at_ > 0)) then (Option.bind (idx ((((([] : List Ref09Cell) ++ r_.l).set at_.toNat (Ref09Cell.mk x_ style 0)).set at_.toNat (Ref09Cell.mk x_ style 1)).set ((IntKind.i64.wrap (at_ + 1)).toNat) (Ref09Cell.mk x_ style 2)) (IntKind.i64.wrap (at_ - 1))) fun x136 => some (x136.part == 1)) else some false) : Option Bool) fun e132 => (bif e132 then (Option.bind (idx ((((([] : List Ref09Cell) ++ r_.l).set at_.toNat (Ref09Cell.mk x_ style 0)).set at_.toNat (Ref09Cell.mk x_ style 1)).set ((IntKind.i64.wrap (at_ + 1)).toNat) (Ref09Cell.mk x_ style 2)) (IntKind.i64.wrap (at_ - 1))) fun x140 => (Option.bind (idx ((((([] : List Ref09Cell) ++ r_.l).set at_.toNat (Ref09Cell.mk x_ style 0)).set at_.toNat (Ref09Cell.mk x_ style 1)).set ((IntKind.i64.wrap (at_ + 1)).toNat) (Ref09Cell.mk x_ style 2)) (IntKind.i64.wrap (at_ - 1))) fun x143 => some (((((([] : List Ref09Cell) ++ r_.l).set at_.toNat (Ref09Cell.mk x_ style 0)).set at_.toNat (Ref09Cell.mk x_ style 1)).set ((IntKind.i64.wrap (at_ + 1)).toNat) (Ref09Cell.mk x_ style 2)).set ((IntKind.i64.wrap (at_ - 1)).toNat) (Ref09Cell.mk 32 x140.style 0)))) else some ((((([] : List Ref09Cell) ++ r_.l).set at_.toNat (Ref09Cell.mk x_ style 0)).set at_.toNat (Ref09Cell.mk x_ style 1)).set ((IntKind.i64.wrap (at_ + 1)).toNat) (Ref09Cell.mk x_ style 2)))))) else some ((([] : List Ref09Cell) ++ r_.l).set at_.toNat (Ref09Cell.mk x_ style 0))) : Option (List Ref09Cell)) fun e111 => (Option.bind (p_ref09_mend e111) fun r148 => some r148)))))))

noncomputable def p_ref09_Erase (r_ : Ref09Row) (from_ : Int) (to : Int) (style : Int) : Option Ref09Row :=
  (Option.bind (chk (apok ([] : List Ref09Cell).length r_.l.length 24)) fun _ => (Option.bind (iter (σ := Int × (List Ref09Cell)) (ρ := (List Ref09Cell)) (fun s117 => (bif (decide (s117.1 < ((([] : List Ref09Cell) ++ r_.l).length : Int))) then (Option.bind ((Option.bind ((bif (decide (s117.1 ≥ from_)) then some (decide (s117.1 < to)) else some false) : Option Bool) fun e214 => (bif e214 then (Option.bind (idx s117.2 s117.1) fun x219 => some (s117.2.set s117.1.toNat (Ref09Cell.mk 32 style 0))) else some s117.2)) : Option (List Ref09Cell)) fun e208 => some (.inl ((IntKind.i64.wrap (s117.1 + 1)), e208))) else some (.inr s117.2))) (0, (([] : List Ref09Cell) ++ r_.l))) fun e169 => (Option.bind (p_ref09_mend e169) fun r226 => some r226)))

noncomputable def p_ref09_Insert (r_ : Ref09Row) (at_ : Int) (n_ : Int) (style : Int) : Option Ref09Row :=
  (Option.bind ((bif (decide (at_ < 0)) then some true else (bif (decide (at_ ≥ (r_.l.length : Int))) then some true else some (decide (n_ ≤ 0)))) : Option Bool) fun e8 => (bif e8 then (Option.bind (p_ref09_mend r_.l) fun r21 => some r21) else (Option.bind (chk (cutok 0 at_ r_.l.length)) fun _ => (Option.bind (chk (apok ([] : List Ref09Cell).length (cut r_.l 0 at_).length 24)) fun _ => (Option.bind (p_ref09_Blank (imin n_ (IntKind.i64.wrap ((r_.l.length : Int) - at_))) style) fun r39 => (Option.bind (chk (apok (([] : List Ref09Cell) ++ (cut r_.l 0 at_)).length r39.l.length 24)) fun _ => (Option.bind (chk (cutok at_ (IntKind.i64.wrap ((r_.l.length : Int) - (imin n_ (IntKind.i64.wrap ((r_.l.length : Int) - at_))))) r_.l.length)) fun _ => (Option.bind (chk (apok ((([] : List Ref09Cell) ++ (cut r_.l 0 at_)) ++ r39.l).length (cut r_.l at_ (IntKind.i64.wrap ((r_.l.length : Int) - (imin n_ (IntKind.i64.wrap ((r_.l.length : Int) - at_)))))).length 24)) fun _ => (Option.bind (p_ref09_mend (((([] : List Ref09Cell) ++ (cut r_.l 0 at_)) ++ r39.l) ++ (cut r_.l at_ (IntKind.i64.wrap ((r_.l.length : Int) - (imin n_ (IntKind.i64.wrap ((r_.l.length : Int) - at_)))))))) fun r61 => some r61)))))))))

noncomputable def p_ref09_Delete (r_ : Ref09Row) (at_ : Int) (n_ : Int) (style : Int) : Option Ref09Row :=
  (Option.bind ((bif (decide (at_ < 0)) then some true else (bif (decide (at_ ≥ (r_.l.length : Int))) then some true else some (decide (n_ ≤ 0)))) : Option Bool) fun e8 => (bif e8 then (Option.bind (p_ref09_mend r_.l) fun r21 => some r21) else (Option.bind (chk (cutok 0 at_ r_.l.length)) fun _ => (Option.bind (chk (apok ([] : List Ref09Cell).length (cut r_.l 0 at_).length 24)) fun _ => (Option.bind (chk (cutok (IntKind.i64.wrap (at_ + (imin n_ (IntKind.i64.wrap ((r_.l.length : Int) - at_))))) (r_.l.length : Int) r_.l.length)) fun _ => (Option.bind (chk (apok (([] : List Ref09Cell) ++ (cut r_.l 0 at_)).length (cut r_.l (IntKind.i64.wrap (at_ + (imin n_ (IntKind.i64.wrap ((r_.l.length : Int) - at_))))) (r_.l.length : Int)).length 24)) fun _ => (Option.bind (p_ref09_Blank (imin n_ (IntKind.i64.wrap ((r_.l.length : Int) - at_))) style) fun r49 => (Option.bind (chk (apok ((([] : List Ref09Cell) ++ (cut r_.l 0 at_)) ++ (cut r_.l (IntKind.i64.wrap (at_ + (imin n_ (IntKind.i64.wrap ((r_.l.length : Int) - at_))))) (r_.l.length : Int))).length r49.l.length 24)) fun _ => (Option.bind (p_ref09_mend (((([] : List Ref09Cell) ++ (cut r_.l 0 at_)) ++ (cut r_.l (IntKind.i64.wrap (at_ + (imin n_ (IntKind.i64.wrap ((r_.l.length : Int) - at_))))) (r_.l.length : Int))) ++ r49.l)) fun r61 => some r61)))))))))

noncomputable def p_ref09_Fill (r_ : Ref09Row) (style : Int) : Option Ref09Row :=
  (Option.bind (chk (apok ([] : List Ref09Cell).length r_.l.length 24)) fun _ => (Option.bind ((bif (decide (((([] : List Ref09Cell) ++ r_.l).length : Int) > 0)) then (Option.bind (idx (([] : List Ref09Cell) ++ r_.l) (IntKind.i64.wrap (((([] : List Ref09Cell) ++ r_.l).length : Int) - 1))) fun x30 => some ((([] : List Ref09Cell) ++ r_.l).set ((IntKind.i64.wrap (((([] : List Ref09Cell) ++ r_.l).length : Int) - 1)).toNat) (Ref09Cell.mk 32 style 3))) else some (([] : List Ref09Cell) ++ r_.l)) : Option (List Ref09Cell)) fun e26 => (Option.bind (p_ref09_mend e26) fun r37 => some (Ref09Row.mk r37.l true))))

noncomputable def p_ref09_Resize (r_ : Ref09Row) (w : Int) : Option Ref09Row :=
  (Option.bind (p_ref09_near w 0 1000) fun r3 => (bif (r3 == (r_.l.length : Int)) then some r_ else (Option.bind (chk (cutok 0 (imin r3 (r_.l.length : Int)) r_.l.length)) fun _ => (Option.bind (chk (apok ([] : List Ref09Cell).length (cut r_.l 0 (imin r3 (r_.l.length : Int))).length 24)) fun _ => (Option.bind (p_ref09_Blank (IntKind.i64.wrap (r3 - ((([] : List Ref09Cell) ++ (cut r_.l 0 (imin r3 (r_.l.length : Int)))).length : Int))) 0) fun r20 => (Option.bind (chk (apok (([] : List Ref09Cell) ++ (cut r_.l 0 (imin r3 (r_.l.length : Int)))).length r20.l.length 24)) fun _ => (Option.bind (p_ref09_mend ((([] : List Ref09Cell) ++ (cut r_.l 0 (imin r3 (r_.l.length : Int)))) ++ r20.l)) fun r32 => some r32)))))))

end Go.Tw.X

set_option linter.unusedVariables false
set_option linter.unusedSimpArgs false
set_option maxRecDepth 10000
namespace Go.Tw.X
open Go Go.Tw
noncomputable def p_law09_Is (r_ : RowRow) (x_ : Ref09Row) : Option Bool :=
  (Option.bind ((bif ((r_.cells.length : Int) != (x_.l.length : Int)) then some true else some (!(r_.wrapped == x_.wrapped))) : Option Bool) fun e6 => (bif e6 then some false else (Option.bind (iter (σ := Int) (ρ := Unit ⊕ Bool) (fun s479 => (bif (decide (s479 < (r_.cells.length : Int))) then (Option.bind (idx r_.cells s479) fun x837 => (Option.bind ((Option.bind (idx x_.l s479) fun x934 => (bif ((IntKind.i64.wrap x837.rune) != x934.rune) then some true else (Option.bind (idx x_.l s479) fun x942 => (bif (x837.style != x942.style) then some true else (Option.bind (idx x_.l s479) fun x947 => some (x837.part != x947.part)))))) : Option Bool) fun e914 => (bif e914 then (inrr (some false)) else some (.inl (IntKind.i64.wrap (s479 + 1)))))) else some (.inr (.inl ())))) 0) fun | .inl e712 => some true | .inr w => some w)))

end Go.Tw.X

set_option linter.unusedVariables false
set_option linter.unusedSimpArgs false
set_option maxRecDepth 10000
namespace Go.Tw.X
open Go Go.Tw
structure Ref10Grid where
  w : Int
  l : List Ref09Row
  deriving DecidableEq, Inhabited

noncomputable def p_ref10_size (n_ : Int) : Option Int :=
  some (imax 1 (imin n_ 1000))

noncomputable def p_ref10_New (w : Int) (h_ : Int) : Option Ref10Grid :=
  (Option.bind (p_ref10_size w) fun r2 => (Option.bind (iter (σ := Ref10Grid × Int) (ρ := Ref10Grid) (fun s147 => (Option.bind (p_ref10_size h_) fun r220 => (bif (decide (s147.2 < r220)) then (Option.bind (p_ref09_Blank s147.1.w 0) fun r267 => (Option.bind (chk (apok s147.1.l.length [r267].length 32)) fun _ => some (.inl ((Ref10Grid.mk s147.1.w (s147.1.l ++ [r267])), (IntKind.i64.wrap (s147.2 + 1)))))) else some (.inr s147.1)))) ((Ref10Grid.mk r2 ([] : List Ref09Row)), 0)) fun e213 => some e213))

noncomputable def p_ref10_Set (g : Ref10Grid) (y : Int) (r_ : Ref09Row) : Option (Ref10Grid × Bool) :=
  (Option.bind ((bif (decide (y < 0)) then some true else some (decide (y ≥ (g.l.length : Int)))) : Option Bool) fun e7 => (bif e7 then some (g, false) else (Option.bind (chk (apok ([] : List Ref09Row).length g.l.length 32)) fun _ => (Option.bind (p_ref09_Resize r_ g.w) fun r20 => (Option.bind (idx (([] : List Ref09Row) ++ g.l) y) fun x26 => some ((Ref10Grid.mk g.w ((([] : List Ref09Row) ++ g.l).set y.toNat r20)), true))))))

noncomputable def p_ref10_Move (g : Ref10Grid) (up : Bool) (top : Int) (bottom : Int) (n_ : Int) (style : Int) : Option (Ref10Grid × (List Ref09Row)) :=
  (bif (decide ((imax 0 (imin bottom (IntKind.i64.wrap ((g.l.length : Int) - 1)))) < (imax 0 (imin top (IntKind.i64.wrap ((g.l.length : Int) - 1)))))) then some (g, ([] : List Ref09Row)) else (Option.bind (chk (apok ([] : List Ref09Row).length g.l.length 32)) fun _ => (Option.bind (p_ref09_Blank g.w style) fun r14 => (Option.bind (iter (σ := (List Ref09Row) × (List Ref09Row) × Int) (ρ := (List Ref09Row) × (List Ref09Row)) (fun s1608 => (Option.bind ((bif (decide (s1608.2.2 < n_)) then some (decide (s1608.2.2 ≤ (IntKind.i64.wrap ((imax 0 (imin bottom (IntKind.i64.wrap ((g.l.length : Int) - 1)))) - (imax 0 (imin top (IntKind.i64.wrap ((g.l.length : Int) - 1)))))))) else some false) : Option Bool) fun e2408 => (bif e2408 then (Option.bind ((bif up then (Option.bind (idx s1608.2.1 (imax 0 (imin top (IntKind.i64.wrap ((g.l.length : Int) - 1))))) fun x2934 => (Option.bind (chk (apok s1608.1.length [x2934].length 32)) fun _ => (Option.bind (iter (σ := (List Ref09Row) × Int) (ρ := (List Ref09Row)) (fun s3003 => (bif (decide (s3003.2 < (imax 0 (imin bottom (IntKind.i64.wrap ((g.l.length : Int) - 1)))))) then (Option.bind (idx s3003.1 (IntKind.i64.wrap (s3003.2 + 1))) fun x3047 => (Option.bind (idx s3003.1 s3003.2) fun x3053 => some (.inl ((s3003.1.set s3003.2.toNat x3047), (IntKind.i64.wrap (s3003.2 + 1)))))) else some (.inr s3003.1))) (s1608.2.1, (imax 0 (imin top (IntKind.i64.wrap ((g.l.length : Int) - 1)))))) fun e3028 => (Option.bind (idx e3028 (imax 0 (imin bottom (IntKind.i64.wrap ((g.l.length : Int) - 1))))) fun x3057 => some ((s1608.1 ++ [x2934]), (e3028.set ((imax 0 (imin bottom (IntKind.i64.wrap ((g.l.length : Int) - 1)))).toNat) r14)))))) else (Option.bind (idx s1608.2.1 (imax 0 (imin bottom (IntKind.i64.wrap ((g.l.length : Int) - 1))))) fun x3061 => (Option.bind (chk (apok s1608.1.length [x3061].length 32)) fun _ => (Option.bind (iter (σ := (List Ref09Row) × Int) (ρ := (List Ref09Row)) (fun s3130 => (bif (decide (s3130.2 > (imax 0 (imin top (IntKind.i64.wrap ((g.l.length : Int) - 1)))))) then (Option.bind (idx s3130.1 (IntKind.i64.wrap (s3130.2 - 1))) fun x3174 => (Option.bind (idx s3130.1 s3130.2) fun x3180 => some (.inl ((s3130.1.set s3130.2.toNat x3174), (IntKind.i64.wrap (s3130.2 - 1)))))) else some (.inr s3130.1))) (s1608.2.1, (imax 0 (imin bottom (IntKind.i64.wrap ((g.l.length : Int) - 1)))))) fun e3155 => (Option.bind (idx e3155 (imax 0 (imin top (IntKind.i64.wrap ((g.l.length : Int) - 1))))) fun x3184 => some ((s1608.1 ++ [x3061]), (e3155.set ((imax 0 (imin top (IntKind.i64.wrap ((g.l.length : Int) - 1)))).toNat) r14))))))) : Option ((List Ref09Row) × (List Ref09Row))) fun e2930 => some (.inl (e2930.1, e2930.2, (IntKind.i64.wrap (s1608.2.2 + 1))))) else some (.inr (s1608.1, s1608.2.1))))) (([] : List Ref09Row), (([] : List Ref09Row) ++ g.l), 0)) fun e2398 => some ((Ref10Grid.mk g.w e2398.2), e2398.1)))))

end Go.Tw.X

set_option linter.unusedVariables false
set_option linter.unusedSimpArgs false
set_option maxRecDepth 10000
namespace Go.Tw.X
open Go Go.Tw
noncomputable def p_law10_Rows (l : List RowRow) (x_ : List Ref09Row) : Option Bool :=
  (bif ((l.length : Int) != (x_.length : Int)) then some false else (Option.bind (iter (σ := Int) (ρ := Unit ⊕ Bool) (fun s382 => (bif (decide (s382 < (x_.length : Int))) then (Option.bind (idx l s382) fun x743 => (Option.bind (idx x_ s382) fun x753 => (Option.bind (p_law09_Is x743 x753) fun r763 => (bif (!r763) then (inrr (some false)) else some (.inl (IntKind.i64.wrap (s382 + 1))))))) else some (.inr (.inl ())))) 0) fun | .inl e571 => some true | .inr w => some w))

end Go.Tw.X

set_option linter.unusedVariables false
set_option linter.unusedSimpArgs false
set_option maxRecDepth 10000
namespace Go.Tw.X
open Go Go.Tw
structure Ref07Action where
  kind : Int
  rune : Int
  byte : Int
  private_ : Bool
  nums : List Int
  text : ByteArray
  deriving DecidableEq, Inhabited

end Go.Tw.X

set_option linter.unusedVariables false
set_option linter.unusedSimpArgs false
set_option maxRecDepth 10000
namespace Go.Tw.X
open Go Go.Tw
structure Ref08Style where
  fore : Int
  back : Int
  bold : Bool
  under : Bool
  inverse : Bool
  deriving DecidableEq, Inhabited

noncomputable def p_ref08_May (s_ : Ref08Style) : Option Bool :=
  (Option.bind ((bif (decide (s_.fore ≥ 0)) then (bif (decide (s_.fore ≤ 8)) then (bif (decide (s_.back ≥ 0)) then some (decide (s_.back ≤ 8)) else some false) else some false) else some false) : Option Bool) fun e9 => some e9)

noncomputable def p_ref08_Num (s_ : Ref08Style) : Option Int :=
  (Option.bind (p_ref08_May s_) fun r2 => (bif (!r2) then some 0 else (Option.bind ((bif s_.bold then some (IntKind.i64.wrap ((IntKind.i64.wrap (s_.fore + (IntKind.i64.wrap (9 * s_.back)))) + 81)) else some (IntKind.i64.wrap (s_.fore + (IntKind.i64.wrap (9 * s_.back))))) : Option Int) fun e10 => (Option.bind ((bif s_.under then some (IntKind.i64.wrap (e10 + 162)) else some e10) : Option Int) fun e17 => (Option.bind ((bif s_.inverse then some (IntKind.i64.wrap (e17 + 324)) else some e17) : Option Int) fun e24 => some e24)))))

noncomputable def p_ref08_Set (s_ : Ref08Style) (l : List Int) : Option Ref08Style :=
  (bif ((l.length : Int) == 0) then some (Ref08Style.mk 0 0 false false false) else (Option.bind (iter (σ := Ref08Style × Int × Int) (ρ := Ref08Style) (fun s1270 => (bif (decide (s1270.2.1 < (l.length : Int))) then (Option.bind ((Option.bind (idx l s1270.2.1) fun x2328 => (bif (decide (s1270.2.2 > 0)) then some ((IntKind.i64.wrap (s1270.2.2 - 1)), s1270.1) else (Option.bind ((bif (x2328 == 38) then some true else some (x2328 == 48)) : Option Bool) fun e2340 => (bif e2340 then (Option.bind ((bif (decide ((IntKind.i64.wrap (s1270.2.1 + 1)) < (l.length : Int))) then (Option.bind (idx l (IntKind.i64.wrap (s1270.2.1 + 1))) fun x2413 => some (x2413 == 5)) else some false) : Option Bool) fun e2409 => (Option.bind ((bif e2409 then some 2 else some s1270.2.2) : Option Int) fun e2420 => (Option.bind ((bif (decide ((IntKind.i64.wrap (s1270.2.1 + 1)) < (l.length : Int))) then (Option.bind (idx l (IntKind.i64.wrap (s1270.2.1 + 1))) fun x2439 => some (x2439 == 2)) else some false) : Option Bool) fun e2435 => (Option.bind ((bif e2435 then some 4 else some e2420) : Option Int) fun e2446 => some (e2446, s1270.1))))) else (Option.bind ((bif (x2328 == 0) then some (Ref08Style.mk 0 0 false false false) else some s1270.1) : Option Ref08Style) fun e2453 => (Option.bind ((bif (x2328 == 1) then some true else some (x2328 == 22)) : Option Bool) fun e2460 => (Option.bind ((bif e2460 then some (Ref08Style.mk e2453.fore e2453.back (decide (x2328 < 10)) e2453.under e2453.inverse) else some e2453) : Option Ref08Style) fun e2467 => (Option.bind ((bif (x2328 == 4) then some true else some (x2328 == 24)) : Option Bool) fun e2474 => (Option.bind ((bif e2474 then some (Ref08Style.mk e2467.fore e2467.back e2467.bold (decide (x2328 < 10)) e2467.inverse) else some e2467) : Option Ref08Style) fun e2481 => (Option.bind ((bif (x2328 == 7) then some true else some (x2328 == 27)) : Option Bool) fun e2488 => (Option.bind ((bif e2488 then some (Ref08Style.mk e2481.fore e2481.back e2481.bold e2481.under (decide (x2328 < 10))) else some e2481) : Option Ref08Style) fun e2495 => (Option.bind ((bif (decide (x2328 ≥ 30)) then some (decide (x2328 ≤ 37)) else some false) : Option Bool) fun e2502 => (Option.bind ((bif e2502 then some (Ref08Style.mk (IntKind.i64.wrap (x2328 - 29)) e2495.back e2495.bold e2495.under e2495.inverse) else some e2495) : Option Ref08Style) fun e2509 => (Option.bind ((bif (x2328 == 39) then some (Ref08Style.mk 0 e2509.back e2509.bold e2509.under e2509.inverse) else some e2509) : Option Ref08Style) fun e2516 => (Option.bind ((bif (decide (x2328 ≥ 40)) then some (decide (x2328 ≤ 47)) else some false) : Option Bool) fun e2523 => (Option.bind ((bif e2523 then some (Ref08Style.mk e2516.fore (IntKind.i64.wrap (x2328 - 39)) e2516.bold e2516.under e2516.inverse) else some e2516) : Option Ref08Style) fun e2530 => (bif (x2328 == 49) then some (s1270.2.2, (Ref08Style.mk e2530.fore 0 e2530.bold e2530.under e2530.inverse)) else some (s1270.2.2, e2530)))))))))))))))))) : Option (Int × Ref08Style)) fun e2325 => some (.inl (e2325.2, (IntKind.i64.wrap (s1270.2.1 + 1)), e2325.1))) else some (.inr s1270.1))) (s_, 0, 0)) fun e1900 => some e1900))
end Go.Tw.X

set_option linter.unusedVariables false
set_option linter.unusedSimpArgs false
set_option maxRecDepth 10000
namespace Go.Tw.X
open Go Go.Tw
structure Ref11Screen where
  g : Ref10Grid
  x : Int
  y : Int
  s : Ref08Style
  sX : Int
  sY : Int
  sS : Ref08Style
  waiting : Bool
  top : Int
  bottom : Int
  wraps : Bool
  title : ByteArray
  deriving DecidableEq, Inhabited

noncomputable def p_ref11_New (w : Int) (h_ : Int) : Option Ref11Screen :=
  (Option.bind (p_ref10_New w h_) fun r2 => some (Ref11Screen.mk r2 0 0 (Ref08Style.mk 0 0 false false false) 0 0 (Ref08Style.mk 0 0 false false false) false 0 (IntKind.i64.wrap ((r2.l.length : Int) - 1)) true (ByteArray.mk #[])))

noncomputable def p_ref11_set (s_ : Ref11Screen) (r_ : Ref09Row) : Option Ref11Screen :=
  (Option.bind (p_ref10_Set s_.g s_.y r_) fun r4 => some (Ref11Screen.mk r4.1 s_.x s_.y s_.s s_.sX s_.sY s_.sS s_.waiting s_.top s_.bottom s_.wraps s_.title))

noncomputable def p_ref11_scroll (s_ : Ref11Screen) (n_ : Int) : Option (Ref11Screen × (List Ref09Row)) :=
  (Option.bind (p_ref08_Num s_.s) fun r42 => (Option.bind (p_ref10_Move s_.g true s_.top s_.bottom n_ r42) fun r46 => (bif (decide (s_.top > 0)) then some ((Ref11Screen.mk r46.1 s_.x s_.y s_.s s_.sX s_.sY s_.sS s_.waiting s_.top s_.bottom s_.wraps s_.title), ([] : List Ref09Row)) else some ((Ref11Screen.mk r46.1 s_.x s_.y s_.s s_.sX s_.sY s_.sS s_.waiting s_.top s_.bottom s_.wraps s_.title), r46.2))))

noncomputable def p_ref11_place (s_ : Ref11Screen) (x_ : Int) (y : Int) : Option Ref11Screen :=
  some (Ref11Screen.mk s_.g (imax 0 (imin x_ (IntKind.i64.wrap (s_.g.w - 1)))) (imax 0 (imin y (IntKind.i64.wrap ((s_.g.l.length : Int) - 1)))) s_.s s_.sX s_.sY s_.sS false s_.top s_.bottom s_.wraps s_.title)

noncomputable def p_ref11_line (s_ : Ref11Screen) : Option (Ref11Screen × (List Ref09Row)) :=
  (bif (s_.y == s_.bottom) then (Option.bind (p_ref11_scroll (Ref11Screen.mk s_.g s_.x s_.y s_.s s_.sX s_.sY s_.sS false s_.top s_.bottom s_.wraps s_.title) 1) fun r14 => some (r14.1, r14.2)) else (Option.bind (p_ref11_place (Ref11Screen.mk s_.g s_.x s_.y s_.s s_.sX s_.sY s_.sS false s_.top s_.bottom s_.wraps s_.title) s_.x (IntKind.i64.wrap (s_.y + 1))) fun r23 => some (r23, ([] : List Ref09Row))))

noncomputable def p_ref11_show (s_ : Ref11Screen) (r_ : Int) : Option (Ref11Screen × (List Ref09Row)) :=
  (Option.bind (p_ref06_Of r_) fun r3 => (Option.bind ((bif (r3 == 0) then some true else some (decide (r3 > s_.g.w))) : Option Bool) fun e9 => (bif e9 then some (s_, ([] : List Ref09Row)) else (Option.bind (p_ref08_Num s_.s) fun r16 => (Option.bind ((bif s_.waiting then some s_.wraps else some false) : Option Bool) fun e24 => (Option.bind ((bif e24 then (Option.bind (idx s_.g.l s_.y) fun x108 => (Option.bind (p_ref11_set s_ (Ref09Row.mk x108.l true)) fun r119 => (Option.bind (p_ref11_line (Ref11Screen.mk r119.g 0 r119.y r119.s r119.sX r119.sY r119.sS r119.waiting r119.top r119.bottom r119.wraps r119.title)) fun r125 => (Option.bind (chk (apok ([] : List Ref09Row).length r125.2.length 32)) fun _ => some ((([] : List Ref09Row) ++ r125.2), r125.1))))) else some (([] : List Ref09Row), s_)) : Option ((List Ref09Row) × Ref11Screen)) fun e104 => (Option.bind ((bif (r3 == 2) then some (e104.2.x == (IntKind.i64.wrap (e104.2.g.w - 1))) else some false) : Option Bool) fun e144 => (Option.bind ((bif e144 then (bif e104.2.wraps then (Option.bind (idx e104.2.g.l e104.2.y) fun x439 => (Option.bind (p_ref09_Fill x439 r16) fun r449 => (Option.bind (p_ref11_set e104.2 r449) fun r455 => (Option.bind (p_ref11_line (Ref11Screen.mk r455.g 0 r455.y r455.s r455.sX r455.sY r455.sS r455.waiting r455.top r455.bottom r455.wraps r455.title)) fun r461 => (Option.bind (chk (apok e104.1.length r461.2.length 32)) fun _ => some ((e104.1 ++ r461.2), r461.1)))))) else some (e104.1, (Ref11Screen.mk e104.2.g (IntKind.i64.wrap (e104.2.x - 1)) e104.2.y e104.2.s e104.2.sX e104.2.sY e104.2.sS e104.2.waiting e104.2.top e104.2.bottom e104.2.wraps e104.2.title))) else some (e104.1, e104.2)) : Option ((List Ref09Row) × Ref11Screen)) fun e368 => (Option.bind (idx e368.2.g.l e368.2.y) fun x543 => (Option.bind (p_ref09_Put x543 e368.2.x r_ r16) fun r553 => (Option.bind (p_ref11_set e368.2 r553) fun r559 => (Option.bind ((bif ((IntKind.i64.wrap (r559.x + r3)) == r559.g.w) then some (Ref11Screen.mk r559.g (IntKind.i64.wrap ((IntKind.i64.wrap (r559.x + r3)) - 1)) r559.y r559.s r559.sX r559.sY r559.sS ((IntKind.i64.wrap (r559.x + r3)) == r559.g.w) r559.top r559.bottom r559.wraps r559.title) else some (Ref11Screen.mk r559.g (IntKind.i64.wrap (r559.x + r3)) r559.y r559.s r559.sX r559.sY r559.sS ((IntKind.i64.wrap (r559.x + r3)) == r559.g.w) r559.top r559.bottom r559.wraps r559.title)) : Option Ref11Screen) fun e569 => some (e569, e368.1)))))))))))))

noncomputable def p_ref11_num (l : List Int) (i : Int) (d : Int) : Option Int :=
  (Option.bind ((bif (decide (i < (l.length : Int))) then (Option.bind (idx l i) fun x22 => some (decide (x22 > 0))) else some false) : Option Bool) fun e18 => (bif e18 then (Option.bind (idx l i) fun x38 => some (imin x38 9999)) else some d))

noncomputable def p_ref11_erase (s_ : Ref11Screen) (y : Int) (from_ : Int) (to : Int) : Option Ref11Screen :=
  (Option.bind (idx s_.g.l y) fun x78 => (Option.bind (p_ref08_Num s_.s) fun r88 => (Option.bind (p_ref09_Erase x78 from_ to r88) fun r91 => (Option.bind (p_ref10_Set s_.g y r91) fun r97 => some (Ref11Screen.mk r97.1 s_.x s_.y s_.s s_.sX s_.sY s_.sS s_.waiting s_.top s_.bottom s_.wraps s_.title)))))

noncomputable def p_ref11_clear (s_ : Ref11Screen) (n_ : Int) (all : Bool) : Option Ref11Screen :=
  (bif (decide (n_ > 2)) then some s_ else (Option.bind (iter (σ := Ref11Screen × Int) (ρ := Ref11Screen) (fun s194 => (bif (decide (s194.2 < (s_.g.l.length : Int))) then (Option.bind ((Option.bind ((bif all then (bif (decide (s194.2 < s194.1.y)) then (bif (n_ != 0) then some true else (bif (decide (s194.2 > s194.1.y)) then some (n_ != 1) else some false)) else (bif (decide (s194.2 > s194.1.y)) then some (n_ != 1) else some false)) else some false) : Option Bool) fun e365 => (bif e365 then (Option.bind (p_ref11_erase s194.1 s194.2 0 s194.1.g.w) fun r374 => some r374) else some s194.1)) : Option Ref11Screen) fun e351 => some (.inl (e351, (IntKind.i64.wrap (s194.2 + 1))))) else some (.inr s194.1))) (s_, 0)) fun e286 => (Option.bind ((bif (n_ == 0) then some e286.x else some 0) : Option Int) fun e383 => (Option.bind ((bif (n_ == 1) then some (IntKind.i64.wrap (e286.x + 1)) else some e286.g.w) : Option Int) fun e390 => (Option.bind (p_ref11_erase e286 e286.y e383 e390) fun r394 => some (Ref11Screen.mk r394.g r394.x r394.y r394.s r394.sX r394.sY r394.sS false r394.top r394.bottom r394.wraps r394.title))))))

noncomputable def p_ref11_Command (s_ : Ref11Screen) (b : Int) (l : List Int) : Option (Ref11Screen × (List Ref09Row)) :=
  (Option.bind (p_ref11_num l 0 1) fun r3 => (Option.bind (p_ref08_Num s_.s) fun r6 => (Option.bind ((Option.bind ((bif (b == 65) then some (b == 65) else some (b == 70)) : Option Bool) fun e760 => (bif e760 then (Option.bind ((bif (decide (s_.y ≥ s_.top)) then some s_.top else some 0) : Option Int) fun e768 => (Option.bind (p_ref11_place s_ s_.x (imax e768 (IntKind.i64.wrap (s_.y - r3)))) fun r772 => (bif (b == 70) then some (.inl (Ref11Screen.mk r772.g 0 r772.y r772.s r772.sX r772.sY r772.sS r772.waiting r772.top r772.bottom r772.wraps r772.title)) else some (.inl r772)))) else (Option.bind ((bif (b == 66) then some (b == 66) else some (b == 69)) : Option Bool) fun e780 => (bif e780 then (Option.bind ((bif (decide (s_.y ≤ s_.bottom)) then some s_.bottom else some (IntKind.i64.wrap ((s_.g.l.length : Int) - 1))) : Option Int) fun e788 => (Option.bind (p_ref11_place s_ s_.x (imin e788 (IntKind.i64.wrap (s_.y + r3)))) fun r792 => (bif (b == 69) then some (.inl (Ref11Screen.mk r792.g 0 r792.y r792.s r792.sX r792.sY r792.sS r792.waiting r792.top r792.bottom r792.wraps r792.title)) else some (.inl r792)))) else (bif (b == 67) then (Option.bind (p_ref11_place s_ (IntKind.i64.wrap (s_.x + r3)) s_.y) fun r798 => some (.inl r798)) else (bif (b == 68) then (Option.bind (p_ref11_place s_ (IntKind.i64.wrap (s_.x - r3)) s_.y) fun r803 => some (.inl r803)) else (bif (b == 71) then (Option.bind (p_ref11_place s_ (IntKind.i64.wrap (r3 - 1)) s_.y) fun r808 => some (.inl r808)) else (bif (b == 100) then (Option.bind (p_ref11_place s_ s_.x (IntKind.i64.wrap (r3 - 1))) fun r813 => some (.inl r813)) else (Option.bind ((bif (b == 72) then some (b == 72) else some (b == 102)) : Option Bool) fun e820 => (bif e820 then (Option.bind (p_ref11_num l 1 1) fun r832 => (Option.bind (p_ref11_place s_ (IntKind.i64.wrap (r832 - 1)) (IntKind.i64.wrap (r3 - 1))) fun r835 => some (.inl r835))) else (bif (b == 74) then (Option.bind (p_ref11_num l 0 0) fun r849 => (Option.bind (p_ref11_clear s_ r849 true) fun r852 => some (.inl r852))) else (bif (b == 75) then (Option.bind (p_ref11_num l 0 0) fun r868 => (Option.bind (p_ref11_clear s_ r868 false) fun r871 => some (.inl r871))) else (bif (b == 88) then (Option.bind (p_ref11_erase s_ s_.y s_.x (IntKind.i64.wrap (s_.x + r3))) fun r878 => some (.inl (Ref11Screen.mk r878.g r878.x r878.y r878.s r878.sX r878.sY r878.sS false r878.top r878.bottom r878.wraps r878.title))) else (bif (b == 64) then (Option.bind (idx s_.g.l s_.y) fun x951 => (Option.bind (p_ref09_Insert x951 s_.x r3 r6) fun r961 => (Option.bind (p_ref11_set s_ r961) fun r967 => some (.inl (Ref11Screen.mk r967.g r967.x r967.y r967.s r967.sX r967.sY r967.sS false r967.top r967.bottom r967.wraps r967.title))))) else (bif (b == 80) then (Option.bind (idx s_.g.l s_.y) fun x1040 => (Option.bind (p_ref09_Delete x1040 s_.x r3 r6) fun r1050 => (Option.bind (p_ref11_set s_ r1050) fun r1056 => some (.inl (Ref11Screen.mk r1056.g r1056.x r1056.y r1056.s r1056.sX r1056.sY r1056.sS false r1056.top r1056.bottom r1056.wraps r1056.title))))) else (Option.bind ((bif (b == 76) then some (b == 76) else some (b == 77)) : Option Bool) fun e1065 => (bif e1065 then (Option.bind ((bif (decide (s_.y ≥ s_.top)) then some (decide (s_.y ≤ s_.bottom)) else some false) : Option Bool) fun e1073 => (bif e1073 then (Option.bind (p_ref10_Move s_.g (b == 77) s_.y s_.bottom r3 r6) fun r1078 => (Option.bind (p_ref11_place (Ref11Screen.mk r1078.1 s_.x s_.y s_.s s_.sX s_.sY s_.sS s_.waiting s_.top s_.bottom s_.wraps s_.title) 0 s_.y) fun r1087 => some (.inl r1087))) else some (.inl s_))) else (bif (b == 83) then (Option.bind (p_ref11_scroll (Ref11Screen.mk s_.g s_.x s_.y s_.s s_.sX s_.sY s_.sS false s_.top s_.bottom s_.wraps s_.title) r3) fun r1092 => (inrs (some (r1092.1, r1092.2)))) else (bif (b == 84) then (Option.bind (p_ref10_Move s_.g false s_.top s_.bottom r3 r6) fun r1104 => some (.inl (Ref11Screen.mk r1104.1 s_.x s_.y s_.s s_.sX s_.sY s_.sS false s_.top s_.bottom s_.wraps s_.title))) else (bif (b == 109) then (Option.bind (p_ref08_Set s_.s l) fun r1114 => some (.inl (Ref11Screen.mk s_.g s_.x s_.y r1114 s_.sX s_.sY s_.sS s_.waiting s_.top s_.bottom s_.wraps s_.title))) else (bif (b == 114) then (Option.bind (p_ref11_num l 0 1) fun r1118 => (Option.bind (p_ref11_num l 1 (s_.g.l.length : Int)) fun r1121 => (bif (decide ((IntKind.i64.wrap ((imax 1 (imin r1118 (s_.g.l.length : Int))) - 1)) < (IntKind.i64.wrap ((imax 1 (imin r1121 (s_.g.l.length : Int))) - 1)))) then (Option.bind (p_ref11_place (Ref11Screen.mk s_.g s_.x s_.y s_.s s_.sX s_.sY s_.sS s_.waiting (IntKind.i64.wrap ((imax 1 (imin r1118 (s_.g.l.length : Int))) - 1)) (IntKind.i64.wrap ((imax 1 (imin r1121 (s_.g.l.length : Int))) - 1)) s_.wraps s_.title) 0 0) fun r1125 => some (.inl r1125)) else some (.inl s_)))) else some (.inl s_)))))))))))))))))))))) : Option (Ref11Screen ⊕ (Ref11Screen × (List Ref09Row)))) fun | .inl e753 => some (e753, ([] : List Ref09Row)) | .inr w => some w)))

noncomputable def p_ref11_Do (s_ : Ref11Screen) (a : Ref07Action) : Option (Ref11Screen × (List Ref09Row)) :=
  (Option.bind ((bif (a.kind == 1) then (Option.bind (p_ref11_show s_ a.rune) fun r461 => (inrs (some (r461.1, r461.2)))) else (bif (a.kind == 2) then (bif (a.byte == 8) then (Option.bind (p_ref11_place s_ (IntKind.i64.wrap (s_.x - 1)) s_.y) fun r474 => (inrs (some (r474, ([] : List Ref09Row))))) else (bif (a.byte == 9) then (Option.bind (p_ref11_place s_ (IntKind.i64.wrap ((IntKind.i64.wrap ((IntKind.i64.wrap (s_.x.tdiv 8)) * 8)) + 8)) s_.y) fun r482 => (inrs (some (r482, ([] : List Ref09Row))))) else (Option.bind ((bif (a.byte == 10) then some (a.byte == 10) else (bif (a.byte == 11) then some (a.byte == 11) else some (a.byte == 12))) : Option Bool) fun e494 => (bif e494 then (Option.bind (p_ref11_line s_) fun r500 => (inrs (some (r500.1, r500.2)))) else (bif (a.byte == 13) then (Option.bind (p_ref11_place s_ 0 s_.y) fun r512 => (inrs (some (r512, ([] : List Ref09Row))))) else some (.inl s_)))))) else (bif (a.kind == 3) then (bif (a.byte == 68) then (Option.bind (p_ref11_line s_) fun r521 => (inrs (some (r521.1, r521.2)))) else (bif (a.byte == 69) then (Option.bind (p_ref11_line (Ref11Screen.mk s_.g 0 s_.y s_.s s_.sX s_.sY s_.sS s_.waiting s_.top s_.bottom s_.wraps s_.title)) fun r533 => (inrs (some (r533.1, r533.2)))) else (bif (a.byte == 77) then (bif (s_.y == s_.top) then (Option.bind (p_ref08_Num s_.s) fun r631 => (Option.bind (p_ref10_Move s_.g false s_.top s_.bottom 1 r631) fun r634 => (inrs (some ((Ref11Screen.mk r634.1 s_.x s_.y s_.s s_.sX s_.sY s_.sS false s_.top s_.bottom s_.wraps s_.title), ([] : List Ref09Row)))))) else (Option.bind (p_ref11_place (Ref11Screen.mk s_.g s_.x s_.y s_.s s_.sX s_.sY s_.sS false s_.top s_.bottom s_.wraps s_.title) s_.x (IntKind.i64.wrap (s_.y - 1))) fun r646 => (inrs (some (r646, ([] : List Ref09Row)))))) else (bif (a.byte == 55) then some (.inl (Ref11Screen.mk s_.g s_.x s_.y s_.s s_.x s_.y s_.s s_.waiting s_.top s_.bottom s_.wraps s_.title)) else (bif (a.byte == 56) then (Option.bind (p_ref11_place (Ref11Screen.mk s_.g s_.x s_.y s_.sS s_.sX s_.sY s_.sS s_.waiting s_.top s_.bottom s_.wraps s_.title) s_.sX s_.sY) fun r655 => (inrs (some (r655, ([] : List Ref09Row))))) else (bif (a.byte == 99) then (Option.bind (p_ref11_New s_.g.w (s_.g.l.length : Int)) fun r663 => (inrs (some (r663, ([] : List Ref09Row))))) else some (.inl s_))))))) else (bif (a.kind == 4) then (bif (!a.private_) then (Option.bind (p_ref11_Command s_ a.byte a.nums) fun r684 => (inrs (some (r684.1, r684.2)))) else (Option.bind ((Option.bind (p_ref11_num a.nums 0 0) fun r709 => (bif (r709 == 7) then (bif (a.byte == 104) then some true else some (a.byte == 108)) else some false)) : Option Bool) fun e706 => (bif e706 then some (.inl (Ref11Screen.mk s_.g s_.x s_.y s_.s s_.sX s_.sY s_.sS s_.waiting s_.top s_.bottom (a.byte == 104) s_.title)) else some (.inl s_)))) else (bif (a.kind == 5) then some (.inl (Ref11Screen.mk s_.g s_.x s_.y s_.s s_.sX s_.sY s_.sS s_.waiting s_.top s_.bottom s_.wraps a.text)) else some (.inl s_)))))) : Option (Ref11Screen ⊕ (Ref11Screen × (List Ref09Row)))) fun | .inl e456 => some (e456, ([] : List Ref09Row)) | .inr w => some w)

end Go.Tw.X

set_option linter.unusedVariables false
set_option linter.unusedSimpArgs false
set_option maxRecDepth 10000
namespace Go.Tw.X
open Go Go.Tw
noncomputable def p_law11_Own (a : Ref07Action) : Option SeqAction :=
  (Option.bind (chk (apok ([] : List Int).length a.nums.length 8)) fun _ => some (SeqAction.mk a.kind (IntKind.i32.wrap a.rune) (IntKind.u8.wrap a.byte) a.private_ (([] : List Int) ++ a.nums) a.text))

end Go.Tw.X

set_option linter.unusedVariables false
set_option linter.unusedSimpArgs false
set_option maxRecDepth 10000
namespace Go.Tw.X
open Go Go.Tw
structure Ref12Book where
  l : List (List Ref09Glyph)
  begun : List Ref09Glyph
  deriving DecidableEq, Inhabited

end Go.Tw.X

set_option linter.unusedVariables false
set_option linter.unusedSimpArgs false
set_option maxRecDepth 10000
namespace Go.Tw.X
open Go Go.Tw
structure Ref18Model where
  s : Ref11Screen
  b : Ref12Book
  all : ByteArray
  acts : Int
  k : Int
  deriving DecidableEq, Inhabited

end Go.Tw.X

set_option linter.unusedVariables false
set_option linter.unusedSimpArgs false
set_option maxRecDepth 10000
namespace Go.Tw.X
open Go Go.Tw

noncomputable def p_law18_awake : Option Bool :=
  (Option.bind (p_model_Run 3 1 ([(ModelEvent.mk 0 (ByteArray.mk #[97, 13, 10, 98]) 0 0), (ModelEvent.mk 1 (ByteArray.mk #[]) 0 0), (ModelEvent.mk 1 (ByteArray.mk #[]) 4 2)])) fun r4 => (Option.bind (p_model_Model_Screen r4) fun r44 => (Option.bind (p_book_Book_Line r44.2.book 0) fun r59 => (Option.bind (p_model_Model_Snap r44.2) fun r65 => (Option.bind ((Option.bind (p_model_Model_K r65.2) fun r122 => (bif (r122 == 2) then (Option.bind (p_book_Book_Len r65.2.book) fun r126 => (bif (r126 == 1) then (bif r59.2 then (bif ((r59.1.length : Int) == 1) then (Option.bind (idx r59.1 0) fun x132 => (bif (x132.rune == 97) then (bif (r65.1.k == 3) then (bif (r65.1.w == 4) then some ((r65.1.rows.length : Int) == 2) else some false) else some false) else some false)) else some false) else some false) else some false)) else some false)) : Option Bool) fun e119 => some e119)))))

noncomputable def p_law18_ModelParts (text : ByteArray) (cuts : List Int) : Option Bool :=
  (Option.bind p_law18_awake fun r1 => (bif (!r1) then some false else (Option.bind (p_law01_Cut text 200) fun r6 => (Option.bind (p_model_New 7 3) fun r9 => (Option.bind (p_model_Run 7 3 [(ModelEvent.mk 0 r6 0 0)]) fun r37 => (Option.bind (iter (σ := ModelModel × ByteArray × (List Int) × Int) (ρ := ModelModel ⊕ Bool) (fun s1609 => (bif (!(s1609.2.1.toList == (ByteArray.mk #[]).toList)) then (Option.bind ((bif (decide (s1609.2.2.2 < (cuts.length : Int))) then (Option.bind (idx cuts s1609.2.2.2) fun x2818 => some (imin (s1609.2.1.size : Int) (IntKind.i64.wrap (1 + (Go.bits .and .i64 x2818 15))))) else some (s1609.2.1.size : Int)) : Option Int) fun e2814 => (Option.bind (chk (cutok 0 e2814 s1609.2.1.size)) fun _ => (Option.bind (p_model_Model_Do s1609.1 (ModelEvent.mk 0 (scut s1609.2.1 0 e2814) 0 0)) fun r2827 => (Option.bind (chk (cutok e2814 (s1609.2.1.size : Int) s1609.2.1.size)) fun _ => (Option.bind (p_book_Book_Len r2827.2.book) fun r2850 => (Option.bind (iter (σ := Int × (List Int)) (ρ := (List Int) ⊕ ((ModelModel × ByteArray × (List Int) × Int) ⊕ (ModelModel ⊕ Bool))) (fun s3018 => (bif (decide (s3018.1 < r2850)) then (Option.bind ((Option.bind (p_book_Book_Line r2827.2.book s3018.1) fun r3158 => (bif (decide (s3018.1 < (s3018.2.length : Int))) then (Option.bind (idx s3018.2 s3018.1) fun x3165 => (bif (x3165 != (r3158.1.length : Int)) then (inrs (inrr (inrr (some false)))) else some (.inl s3018.2))) else (Option.bind (chk (apok s3018.2.length [(r3158.1.length : Int)].length 8)) fun _ => some (.inl (s3018.2 ++ [(r3158.1.length : Int)]))))) : Option ((List Int) ⊕ ((Int × (List Int)) ⊕ ((List Int) ⊕ ((ModelModel × ByteArray × (List Int) × Int) ⊕ (ModelModel ⊕ Bool)))))) fun | .inl e3154 => some (.inl ((IntKind.i64.wrap (s3018.1 + 1)), e3154)) | .inr w => some w) else some (.inr (.inl s3018.2)))) (0, s1609.2.2.1)) fun | .inl e3098 => some (.inl (r2827.2, (scut s1609.2.1 e2814 (s1609.2.1.size : Int)), e3098, (IntKind.i64.wrap (s1609.2.2.2 + 1)))) | .inr w => some w)))))) else some (.inr (.inl s1609.1)))) (r9, r6, [], 0)) fun | .inl e2401 => (Option.bind (p_model_Model_Snap e2401) fun r3185 => (Option.bind (p_model_Model_Snap r37) fun r3201 => (Option.bind ((Option.bind (p_snap_Snap_Same (SnapSnap.mk 1 r3185.1.w r3185.1.h r3185.1.x r3185.1.y r3185.1.title r3185.1.rows r3185.1.len r3185.1.chain r3185.1.begun) (SnapSnap.mk 1 r3201.1.w r3201.1.h r3201.1.x r3201.1.y r3201.1.title r3201.1.rows r3201.1.len r3201.1.chain r3201.1.begun)) fun r3231 => (bif r3231 then some (r3185.1.chain == r3201.1.chain) else some false)) : Option Bool) fun e3228 => some e3228))) | .inr w => some w))))))

end Go.Tw.X

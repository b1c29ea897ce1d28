import Derived.Test.YtncmjkhmhfmogaaGreatDoorFw2
set_option linter.unusedVariables false
set_option linter.unusedSimpArgs false
set_option maxRecDepth 10000
namespace Go.Tw.X
open Go Go.Tw
noncomputable def p_glyph_Encode (l : List Int) : Option ByteArray :=
  (Option.bind (iter (σ := (List Int) × Int) (ρ := (List Int)) (fun s418 => (bif (decide (s418.2 < (l.length : Int))) then (Option.bind ((Option.bind (idx l s418.2) fun x758 => (Option.bind ((bif (decide (x758 < 0)) then some true else (bif (decide (x758 > 1114111)) then some true else (bif (decide (x758 ≥ 55296)) then some (decide (x758 ≤ 57343)) else some false))) : Option Bool) fun e772 => (Option.bind ((bif e772 then some 65533 else some x758) : Option Int) fun e781 => (bif (decide (e781 < 128)) then (Option.bind (chk (apok s418.1.length [(IntKind.u8.wrap e781)].length 1)) fun _ => some (s418.1 ++ [(IntKind.u8.wrap e781)])) else (bif (decide (e781 < 2048)) then (Option.bind (chk (apok s418.1.length [(IntKind.u8.wrap (Go.bits .or .i32 192 (e781.fdiv (2 ^ (min 6 32))))), (IntKind.u8.wrap (Go.bits .or .i32 128 (Go.bits .and .i32 e781 63)))].length 1)) fun _ => some (s418.1 ++ [(IntKind.u8.wrap (Go.bits .or .i32 192 (e781.fdiv (2 ^ (min 6 32))))), (IntKind.u8.wrap (Go.bits .or .i32 128 (Go.bits .and .i32 e781 63)))])) else (bif (decide (e781 < 65536)) then (Option.bind (chk (apok s418.1.length [(IntKind.u8.wrap (Go.bits .or .i32 224 (e781.fdiv (2 ^ (min 12 32))))), (IntKind.u8.wrap (Go.bits .or .i32 128 (Go.bits .and .i32 (e781.fdiv (2 ^ (min 6 32))) 63))), (IntKind.u8.wrap (Go.bits .or .i32 128 (Go.bits .and .i32 e781 63)))].length 1)) fun _ => some (s418.1 ++ [(IntKind.u8.wrap (Go.bits .or .i32 224 (e781.fdiv (2 ^ (min 12 32))))), (IntKind.u8.wrap (Go.bits .or .i32 128 (Go.bits .and .i32 (e781.fdiv (2 ^ (min 6 32))) 63))), (IntKind.u8.wrap (Go.bits .or .i32 128 (Go.bits .and .i32 e781 63)))])) else (Option.bind (chk (apok s418.1.length [(IntKind.u8.wrap (Go.bits .or .i32 240 (e781.fdiv (2 ^ (min 18 32))))), (IntKind.u8.wrap (Go.bits .or .i32 128 (Go.bits .and .i32 (e781.fdiv (2 ^ (min 12 32))) 63))), (IntKind.u8.wrap (Go.bits .or .i32 128 (Go.bits .and .i32 (e781.fdiv (2 ^ (min 6 32))) 63))), (IntKind.u8.wrap (Go.bits .or .i32 128 (Go.bits .and .i32 e781 63)))].length 1)) fun _ => some (s418.1 ++ [(IntKind.u8.wrap (Go.bits .or .i32 240 (e781.fdiv (2 ^ (min 18 32))))), (IntKind.u8.wrap (Go.bits .or .i32 128 (Go.bits .and .i32 (e781.fdiv (2 ^ (min 12 32))) 63))), (IntKind.u8.wrap (Go.bits .or .i32 128 (Go.bits .and .i32 (e781.fdiv (2 ^ (min 6 32))) 63))), (IntKind.u8.wrap (Go.bits .or .i32 128 (Go.bits .and .i32 e781 63)))])))))))) : Option (List Int)) fun e755 => some (.inl (e755, (IntKind.i64.wrap (s418.2 + 1))))) else some (.inr s418.1))) ([], 0)) fun e618 => some (bstr e618))
end Go.Tw.X

set_option linter.unusedVariables false
set_option linter.unusedSimpArgs false
set_option maxRecDepth 10000
namespace Go.Tw.X
open Go Go.Tw
structure Arr2Int where
  e0 : Int
  e1 : Int
  deriving DecidableEq, Inhabited

noncomputable def p_bits_Mul64 (x_ : Int) (y : Int) : Option (Int × Int) :=
  some ((IntKind.u64.wrap ((IntKind.u64.wrap ((IntKind.u64.wrap ((x_.fdiv (2 ^ (min 32 64))) * (y.fdiv (2 ^ (min 32 64))))) + ((IntKind.u64.wrap ((IntKind.u64.wrap ((x_.fdiv (2 ^ (min 32 64))) * (Go.bits .and .u64 y 4294967295))) + ((IntKind.u64.wrap ((Go.bits .and .u64 x_ 4294967295) * (Go.bits .and .u64 y 4294967295))).fdiv (2 ^ (min 32 64))))).fdiv (2 ^ (min 32 64))))) + ((IntKind.u64.wrap ((Go.bits .and .u64 (IntKind.u64.wrap ((IntKind.u64.wrap ((x_.fdiv (2 ^ (min 32 64))) * (Go.bits .and .u64 y 4294967295))) + ((IntKind.u64.wrap ((Go.bits .and .u64 x_ 4294967295) * (Go.bits .and .u64 y 4294967295))).fdiv (2 ^ (min 32 64))))) 4294967295) + (IntKind.u64.wrap ((Go.bits .and .u64 x_ 4294967295) * (y.fdiv (2 ^ (min 32 64))))))).fdiv (2 ^ (min 32 64))))), (IntKind.u64.wrap (x_ * y)))

noncomputable def p_bits_Mul (x_ : Int) (y : Int) : Option (Int × Int) :=
  (Option.bind (p_bits_Mul64 x_ y) fun r1 => some (r1.1, r1.2))

end Go.Tw.X

set_option linter.unusedVariables false
set_option linter.unusedSimpArgs false
set_option maxRecDepth 10000
namespace Go.Tw.X
open Go Go.Tw
structure WideSpan where
  from_ : Int
  to : Int
  deriving DecidableEq, Inhabited

def t_wide_nones : List WideSpan := [⟨(-2147483648), 31⟩, ⟨127, 159⟩, ⟨768, 879⟩, ⟨6832, 6911⟩, ⟨7616, 7679⟩, ⟨8203, 8207⟩, ⟨8400, 8447⟩, ⟨55296, 57343⟩, ⟨65024, 65039⟩, ⟨65056, 65071⟩, ⟨65279, 65279⟩, ⟨917760, 917999⟩, ⟨1114112, 2147483647⟩]
def t_wide_twos : List WideSpan := [⟨4352, 4447⟩, ⟨11904, 12350⟩, ⟨12353, 13311⟩, ⟨13312, 19903⟩, ⟨19968, 40959⟩, ⟨40960, 42191⟩, ⟨44032, 55203⟩, ⟨63744, 64255⟩, ⟨65072, 65135⟩, ⟨65280, 65376⟩, ⟨65504, 65510⟩, ⟨127744, 128591⟩, ⟨129280, 129535⟩, ⟨131072, 262141⟩]
noncomputable def p_wide_in (l : List WideSpan) (r_ : Int) : Option Bool :=
  (Option.bind (iter (σ := Int × Int) (ρ := Int) (fun s27 => (bif (decide (s27.1 < s27.2)) then (Option.bind (idx l (IntKind.i64.wrap ((IntKind.i64.wrap (s27.1 + s27.2)).tdiv 2))) fun x48 => (bif (decide (x48.to < r_)) then some (.inl ((IntKind.i64.wrap ((IntKind.i64.wrap ((IntKind.i64.wrap (s27.1 + s27.2)).tdiv 2)) + 1)), s27.2)) else some (.inl (s27.1, (IntKind.i64.wrap ((IntKind.i64.wrap (s27.1 + s27.2)).tdiv 2)))))) else some (.inr s27.1))) (0, (l.length : Int))) fun e39 => (Option.bind ((bif (decide (e39 < (l.length : Int))) then (Option.bind (idx l e39) fun x77 => some (decide (x77.from_ ≤ r_))) else some false) : Option Bool) fun e73 => some e73))

noncomputable def p_wide_Of (r_ : Int) : Option Int :=
  (Option.bind (p_wide_in t_wide_nones r_) fun r9 => (bif r9 then some 0 else (Option.bind (p_wide_in t_wide_twos r_) fun r13 => (bif r13 then some 2 else some 1))))
end Go.Tw.X

set_option linter.unusedVariables false
set_option linter.unusedSimpArgs false
set_option maxRecDepth 10000
namespace Go.Tw.X
open Go Go.Tw
structure RowCell where
  rune : Int
  style : Int
  part : Int
  deriving DecidableEq, Inhabited

structure RowRow where
  cells : List RowCell
  wrapped : Bool
  deriving DecidableEq, Inhabited

structure RowGlyph where
  rune : Int
  style : Int
  deriving DecidableEq, Inhabited

noncomputable def p_row_clip (n_ : Int) (lo : Int) (hi : Int) : Option Int :=
  some (imax lo (imin n_ hi))

noncomputable def p_row_blank (style : Int) : Option RowCell :=
  some (RowCell.mk 32 style 0)

noncomputable def p_slices_Repeat_row_Cell (x_ : List RowCell) (count : Int) : Option (List RowCell) :=
  (bif (decide (count < 0)) then none else (Option.bind (p_bits_Mul (IntKind.u64.wrap (x_.length : Int)) (IntKind.u64.wrap count)) fun r3 => (Option.bind ((bif (decide (r3.1 > 0)) then some true else some (decide (r3.2 > 9223372036854775807))) : Option Bool) fun e9 => (bif e9 then none else (Option.bind (chk (mkok (IntKind.i64.wrap r3.2) 24)) fun _ => (Option.bind (iter (σ := (List RowCell) × Int) (ρ := (List RowCell)) (fun s67 => (bif (decide (s67.2 < (s67.1.length : Int))) then (Option.bind (chk (cutok s67.2 (s67.1.length : Int) s67.1.length)) fun _ => (Option.bind (chk (cutok 0 s67.2 s67.1.length)) fun _ => some (.inl ((cpys s67.1 s67.2.toNat), (IntKind.i64.wrap (s67.2 + ((Nat.min s67.2.toNat (s67.1.length - s67.2.toNat) : Nat) : Int))))))) else some (.inr s67.1))) ((cpy (List.replicate (IntKind.i64.wrap r3.2).toNat (RowCell.mk 0 0 0)) x_), ((Nat.min x_.length (List.replicate (IntKind.i64.wrap r3.2).toNat (RowCell.mk 0 0 0)).length : Nat) : Int))) fun e88 => some e88))))))

noncomputable def p_row_blanks (n_ : Int) (style : Int) : Option (List RowCell) :=
  (Option.bind (p_row_blank style) fun r1 => (Option.bind (p_slices_Repeat_row_Cell [r1] (imax 0 n_)) fun r7 => some r7))

noncomputable def p_row_Blank (w : Int) (style : Int) : Option RowRow :=
  (Option.bind (p_row_clip w 0 1000) fun r2 => (Option.bind (p_row_blanks r2 style) fun r5 => some (RowRow.mk r5 false)))

noncomputable def p_slices_Clone_row_Cell (s_ : List RowCell) : Option (List RowCell) :=
  (Option.bind (chk (apok ([] : List RowCell).length s_.length 24)) fun _ => some (([] : List RowCell) ++ s_))

noncomputable def p_row_Row_cells (r_ : RowRow) : Option (List RowCell) :=
  (Option.bind (p_slices_Clone_row_Cell r_.cells) fun r2 => some r2)

noncomputable def p_row_broken (l : List RowCell) (i : Int) : Option Bool :=
  (Option.bind (idx l i) fun x1 => (bif (x1.part == 1) then (Option.bind ((bif (decide ((IntKind.i64.wrap (i + 1)) ≥ (l.length : Int))) then some true else (Option.bind (idx l (IntKind.i64.wrap (i + 1))) fun x65 => some (x65.part != 2))) : Option Bool) fun e61 => some e61) else (bif (x1.part == 2) then (Option.bind ((bif (i == 0) then some true else (Option.bind (idx l (IntKind.i64.wrap (i - 1))) fun x85 => some (x85.part != 1))) : Option Bool) fun e81 => some e81) else (bif (x1.part == 3) then some (i != (IntKind.i64.wrap ((l.length : Int) - 1))) else some false))))

noncomputable def p_row_mend (l : List RowCell) : Option RowRow :=
  (Option.bind (iter (σ := (List RowCell) × Int) (ρ := (List RowCell)) (fun s121 => (bif (decide (s121.2 < (l.length : Int))) then (Option.bind ((Option.bind (p_row_broken s121.1 s121.2) fun r225 => (bif r225 then (Option.bind (idx s121.1 s121.2) fun x229 => (Option.bind (p_row_blank x229.style) fun r234 => (Option.bind (idx s121.1 s121.2) fun x237 => some (s121.1.set s121.2.toNat r234)))) else some s121.1)) : Option (List RowCell)) fun e222 => some (.inl (e222, (IntKind.i64.wrap (s121.2 + 1))))) else some (.inr s121.1))) (l, 0)) fun e179 => some (RowRow.mk e179 false))

noncomputable def p_row_Row_Put (r_ : RowRow) (at_ : Int) (x_ : Int) (style : Int) : Option RowRow :=
  (Option.bind (p_row_Row_cells r_) fun r3 => (Option.bind (p_wide_Of x_) fun r9 => (Option.bind ((Option.bind ((bif (r9 == 0) then some true else (bif (decide (at_ < 0)) then some true else some (decide (at_ > (IntKind.i64.wrap ((r3.length : Int) - r9)))))) : Option Bool) fun e132 => (bif e132 then some r3 else (bif (r9 == 1) then (Option.bind (idx r3 at_) fun x139 => some (r3.set at_.toNat (RowCell.mk x_ style 0))) else (Option.bind (idx r3 at_) fun x145 => (Option.bind (idx (r3.set at_.toNat (RowCell.mk x_ style 1)) (IntKind.i64.wrap (at_ + 1))) fun x151 => (Option.bind ((bif (decide (at_ > 0)) then (Option.bind (idx ((r3.set at_.toNat (RowCell.mk x_ style 1)).set ((IntKind.i64.wrap (at_ + 1)).toNat) (RowCell.mk x_ style 2)) (IntKind.i64.wrap (at_ - 1))) fun x168 => some (x168.part == 1)) else some false) : Option Bool) fun e164 => (bif e164 then (Option.bind (idx ((r3.set at_.toNat (RowCell.mk x_ style 1)).set ((IntKind.i64.wrap (at_ + 1)).toNat) (RowCell.mk x_ style 2)) (IntKind.i64.wrap (at_ - 1))) fun x172 => (Option.bind (p_row_blank x172.style) fun r175 => (Option.bind (idx ((r3.set at_.toNat (RowCell.mk x_ style 1)).set ((IntKind.i64.wrap (at_ + 1)).toNat) (RowCell.mk x_ style 2)) (IntKind.i64.wrap (at_ - 1))) fun x178 => some (((r3.set at_.toNat (RowCell.mk x_ style 1)).set ((IntKind.i64.wrap (at_ + 1)).toNat) (RowCell.mk x_ style 2)).set ((IntKind.i64.wrap (at_ - 1)).toNat) r175)))) else some ((r3.set at_.toNat (RowCell.mk x_ style 1)).set ((IntKind.i64.wrap (at_ + 1)).toNat) (RowCell.mk x_ style 2))))))))) : Option (List RowCell)) fun e124 => (Option.bind (p_row_mend e124) fun r182 => some r182))))

noncomputable def p_row_Row_Glyphs (r_ : RowRow) : Option (List RowGlyph) :=
  (Option.bind (iter (σ := (List RowCell)) (ρ := (List RowCell)) (fun s180 => (Option.bind ((bif (!r_.wrapped) then (bif (decide ((s180.length : Int) > 0)) then (Option.bind (idx s180 (IntKind.i64.wrap ((s180.length : Int) - 1))) fun x341 => (Option.bind (p_row_blank 0) fun r348 => some ((x341.rune == r348.rune) && ((x341.style == r348.style) && ((x341.part == r348.part) && true))))) else some false) else some false) : Option Bool) fun e324 => (bif e324 then (Option.bind (chk (cutok 0 (IntKind.i64.wrap ((s180.length : Int) - 1)) s180.length)) fun _ => some (.inl (cut s180 0 (IntKind.i64.wrap ((s180.length : Int) - 1))))) else some (.inr s180)))) r_.cells) fun e268 => (Option.bind (iter (σ := Int × (List RowGlyph)) (ρ := (List RowGlyph)) (fun s539 => (bif (decide (s539.1 < (e268.length : Int))) then (Option.bind ((Option.bind (idx e268 s539.1) fun x689 => (Option.bind ((bif (x689.part == 0) then some true else some (x689.part == 1)) : Option Bool) fun e700 => (bif e700 then (Option.bind (chk (apok s539.2.length [(RowGlyph.mk x689.rune x689.style)].length 16)) fun _ => some (s539.2 ++ [(RowGlyph.mk x689.rune x689.style)])) else some s539.2))) : Option (List RowGlyph)) fun e686 => some (.inl ((IntKind.i64.wrap (s539.1 + 1)), e686))) else some (.inr s539.2))) (0, [])) fun e625 => some e625))

noncomputable def p_row_Row_Erase (r_ : RowRow) (from_ : Int) (to : Int) (style : Int) : Option RowRow :=
  (Option.bind (p_row_Row_cells r_) fun r3 => (Option.bind (p_row_clip from_ 0 (r3.length : Int)) fun r9 => (Option.bind (iter (σ := Int × (List RowCell)) (ρ := (List RowCell)) (fun s67 => (Option.bind (p_row_clip to 0 (s67.2.length : Int)) fun r100 => (bif (decide (s67.1 < r100)) then (Option.bind (p_row_blank style) fun r114 => (Option.bind (idx s67.2 s67.1) fun x117 => some (.inl ((IntKind.i64.wrap (s67.1 + 1)), (s67.2.set s67.1.toNat r114))))) else some (.inr s67.2)))) (r9, r3)) fun e93 => (Option.bind (p_row_mend e93) fun r123 => some r123))))

noncomputable def p_row_Row_within (r_ : RowRow) (at_ : Int) (n_ : Int) : Option Int :=
  (Option.bind ((bif (decide (at_ < 0)) then some true else some (decide (at_ ≥ (r_.cells.length : Int)))) : Option Bool) fun e5 => (bif e5 then some 0 else (Option.bind (p_row_clip n_ 0 (IntKind.i64.wrap ((r_.cells.length : Int) - at_))) fun r11 => some r11)))

noncomputable def p_slices_Grow_row_Cell (n_ : Int) : Option (List RowCell) :=
  (bif (decide (n_ < 0)) then none else (Option.bind ((bif (decide ((IntKind.i64.wrap (n_ - (IntKind.i64.wrap (0 - 0)))) > 0)) then (Option.bind (chk (gzok (IntKind.i64.wrap (n_ - (IntKind.i64.wrap (0 - 0)))) 24)) fun _ => (Option.bind (chk (cutok 0 0 (List.replicate (IntKind.i64.wrap (n_ - (IntKind.i64.wrap (0 - 0)))).toNat (RowCell.mk 0 0 0)).length)) fun _ => some (cut (List.replicate (IntKind.i64.wrap (n_ - (IntKind.i64.wrap (0 - 0)))).toNat (RowCell.mk 0 0 0)) 0 0))) else some []) : Option (List RowCell)) fun e29 => some e29))

noncomputable def p_slices_Concat_row_Cell (slices : List (List RowCell)) : Option (List RowCell) :=
  (Option.bind (iter (σ := Int × Int) (ρ := Int) (fun s55 => (bif (decide (s55.1 < (slices.length : Int))) then (Option.bind (idx slices s55.1) fun x101 => (bif (decide ((IntKind.i64.wrap (s55.2 + (x101.length : Int))) < 0)) then none else some (.inl ((IntKind.i64.wrap (s55.1 + 1)), (IntKind.i64.wrap (s55.2 + (x101.length : Int))))))) else some (.inr s55.2))) (0, 0)) fun e81 => (Option.bind (p_slices_Grow_row_Cell e81) fun r112 => (Option.bind (iter (σ := Int × (List RowCell)) (ρ := (List RowCell)) (fun s197 => (bif (decide (s197.1 < (slices.length : Int))) then (Option.bind (idx slices s197.1) fun x258 => (Option.bind (chk (apok s197.2.length x258.length 24)) fun _ => some (.inl ((IntKind.i64.wrap (s197.1 + 1)), (s197.2 ++ x258))))) else some (.inr s197.2))) (0, r112)) fun e234 => some e234)))

noncomputable def p_row_Row_Insert (r_ : RowRow) (at_ : Int) (n_ : Int) (style : Int) : Option RowRow :=
  (Option.bind (p_row_Row_within r_ at_ n_) fun r3 => (bif (r3 == 0) then (Option.bind (p_row_Row_cells r_) fun r18 => (Option.bind (p_row_mend r18) fun r24 => some r24)) else (Option.bind (chk (cutok 0 at_ r_.cells.length)) fun _ => (Option.bind (chk (cutok at_ (r_.cells.length : Int) r_.cells.length)) fun _ => (Option.bind (p_row_blanks r3 style) fun r116 => (Option.bind (p_slices_Concat_row_Cell [(cut r_.cells 0 at_), r116, (cut r_.cells at_ (r_.cells.length : Int))]) fun r126 => (Option.bind (chk (cutok 0 (r_.cells.length : Int) r126.length)) fun _ => (Option.bind (p_row_mend (cut r126 0 (r_.cells.length : Int))) fun r137 => some r137))))))))

noncomputable def p_row_Row_Delete (r_ : RowRow) (at_ : Int) (n_ : Int) (style : Int) : Option RowRow :=
  (Option.bind (p_row_Row_within r_ at_ n_) fun r3 => (bif (r3 == 0) then (Option.bind (p_row_Row_cells r_) fun r18 => (Option.bind (p_row_mend r18) fun r24 => some r24)) else (Option.bind (chk (cutok 0 at_ r_.cells.length)) fun _ => (Option.bind (chk (cutok (IntKind.i64.wrap (at_ + r3)) (r_.cells.length : Int) r_.cells.length)) fun _ => (Option.bind (p_row_blanks r3 style) fun r128 => (Option.bind (p_slices_Concat_row_Cell [(cut r_.cells 0 at_), (cut r_.cells (IntKind.i64.wrap (at_ + r3)) (r_.cells.length : Int)), r128]) fun r138 => (Option.bind (p_row_mend r138) fun r144 => some r144)))))))

noncomputable def p_row_Row_Fill (r_ : RowRow) (style : Int) : Option RowRow :=
  (Option.bind (p_row_Row_cells r_) fun r3 => (Option.bind ((bif (decide ((r3.length : Int) > 0)) then (Option.bind (idx r3 (IntKind.i64.wrap ((r3.length : Int) - 1))) fun x29 => some (r3.set ((IntKind.i64.wrap ((r3.length : Int) - 1)).toNat) (RowCell.mk 32 style 3))) else some r3) : Option (List RowCell)) fun e25 => (Option.bind (p_row_mend e25) fun r35 => some (RowRow.mk r35.cells true))))

noncomputable def p_row_Row_Resize (r_ : RowRow) (w : Int) : Option RowRow :=
  (Option.bind (p_row_clip w 0 1000) fun r3 => (Option.bind (p_row_Row_cells r_) fun r6 => (bif (r3 == (r6.length : Int)) then some (RowRow.mk r6 r_.wrapped) else (Option.bind (p_row_blanks (IntKind.i64.wrap (r3 - (r6.length : Int))) 0) fun r78 => (Option.bind (chk (cutok 0 (imin r3 (r6.length : Int)) r6.length)) fun _ => (Option.bind (chk (apok (cut r6 0 (imin r3 (r6.length : Int))).length r78.length 24)) fun _ => (Option.bind (p_row_mend ((cut r6 0 (imin r3 (r6.length : Int))) ++ r78)) fun r95 => some r95)))))))

noncomputable def p_slices_Clone_row_Row (s_ : List RowRow) : Option (List RowRow) :=
  (Option.bind (chk (apok ([] : List RowRow).length s_.length 32)) fun _ => some (([] : List RowRow) ++ s_))

noncomputable def p_slices_Reverse_row_Row (s_ : List RowRow) : Option (List RowRow) :=
  (Option.bind (iter (σ := (List RowRow) × Int × Int) (ρ := (List RowRow)) (fun s627 => (bif (decide (s627.2.1 < s627.2.2)) then (Option.bind ((Option.bind (idx s627.1 s627.2.2) fun x1201 => (Option.bind (idx s627.1 s627.2.1) fun x1206 => (Option.bind (idx s627.1 s627.2.1) fun x1215 => (Option.bind (idx s627.1 s627.2.2) fun x1219 => some ((s627.1.set s627.2.1.toNat x1201).set s627.2.2.toNat x1206))))) : Option (List RowRow)) fun e1148 => some (.inl (e1148, (IntKind.i64.wrap (s627.2.1 + 1)), (IntKind.i64.wrap (s627.2.2 - 1))))) else some (.inr s627.1))) (s_, 0, (IntKind.i64.wrap ((s_.length : Int) - 1)))) fun e937 => some e937)

end Go.Tw.X

set_option linter.unusedVariables false
set_option linter.unusedSimpArgs false
set_option maxRecDepth 10000
namespace Go.Tw.X
open Go Go.Tw
structure GridGrid where
  w : Int
  l : List RowRow
  deriving DecidableEq, Inhabited

noncomputable def p_grid_clip (n_ : Int) (lo : Int) (hi : Int) : Option Int :=
  some (imax lo (imin n_ hi))

noncomputable def p_grid_size (n_ : Int) : Option Int :=
  (Option.bind (p_grid_clip n_ 1 1000) fun r1 => some r1)

noncomputable def p_grid_New (w : Int) (h_ : Int) : Option GridGrid :=
  (Option.bind (p_grid_size w) fun r1 => (Option.bind (p_grid_size h_) fun r5 => (Option.bind (iter (σ := GridGrid × Int) (ρ := GridGrid) (fun s143 => (bif (decide (s143.2 < r5)) then (Option.bind (p_row_Blank s143.1.w 0) fun r257 => (Option.bind (chk (apok s143.1.l.length [r257].length 32)) fun _ => some (.inl ((GridGrid.mk s143.1.w (s143.1.l ++ [r257])), (IntKind.i64.wrap (s143.2 + 1)))))) else some (.inr s143.1))) ((GridGrid.mk r1 ([] : List RowRow)), 0)) fun e206 => some e206)))

noncomputable def p_grid_own (r_ : RowRow) : Option RowRow :=
  (Option.bind (p_slices_Clone_row_Cell r_.cells) fun r21 => some (RowRow.mk r21 r_.wrapped))

noncomputable def p_grid_Grid_Row (g : GridGrid) (y : Int) : Option RowRow :=
  (Option.bind ((bif (decide (y < 0)) then some true else some (decide (y ≥ (g.l.length : Int)))) : Option Bool) fun e5 => (bif e5 then some (RowRow.mk ([] : List RowCell) false) else (Option.bind (idx g.l y) fun x12 => (Option.bind (p_grid_own x12) fun r20 => some r20))))

noncomputable def p_grid_Grid_Set (g : GridGrid) (y : Int) (r_ : RowRow) : Option (Bool × GridGrid) :=
  (Option.bind ((bif (decide (y < 0)) then some true else some (decide (y ≥ (g.l.length : Int)))) : Option Bool) fun e5 => (bif e5 then some (false, g) else (Option.bind (p_row_Row_Resize r_ g.w) fun r47 => (Option.bind (idx g.l y) fun x53 => some (true, (GridGrid.mk g.w (g.l.set y.toNat r47)))))))

noncomputable def p_grid_Grid_region (g : GridGrid) (top : Int) (bottom : Int) : Option (Unit ⊕ (Int × Int)) :=
  (Option.bind (p_grid_clip top 0 (IntKind.i64.wrap ((g.l.length : Int) - 1))) fun r1 => (Option.bind (p_grid_clip bottom 0 (IntKind.i64.wrap ((g.l.length : Int) - 1))) fun r4 => (bif (decide (r4 < r1)) then some (.inl ()) else (Option.bind (chk (cutok r1 (IntKind.i64.wrap (r4 + 1)) g.l.length)) fun _ => some (.inr (r1, (IntKind.i64.wrap (r4 + 1))))))))

noncomputable def p_grid_Grid_Up (g : GridGrid) (top : Int) (bottom : Int) (n_ : Int) (style : Int) : Option ((List RowRow) × GridGrid) :=
  (Option.bind (p_grid_Grid_region g top bottom) fun | .inl r1 => some (([] : List RowRow), g) | .inr r1 => (Option.bind (chk (cutok r1.1 r1.2 g.l.length)) fun _ => (Option.bind (p_grid_clip n_ 0 ((cut g.l r1.1 r1.2).length : Int)) fun r9 => (Option.bind (chk (cutok 0 r9 (cut g.l r1.1 r1.2).length)) fun _ => (Option.bind (p_slices_Clone_row_Row (cut g.l (r1.1 + 0) (r1.1 + r9))) fun r17 => (Option.bind (chk (cutok r9 ((cut g.l r1.1 r1.2).length : Int) (cut g.l r1.1 r1.2).length)) fun _ => (Option.bind (iter (σ := GridGrid × Int) (ρ := GridGrid) (fun s103 => (bif (decide (s103.2 < ((cut s103.1.l r1.1 r1.2).length : Int))) then (Option.bind (p_row_Blank s103.1.w style) fun r168 => (Option.bind (chk (cutok r1.1 r1.2 s103.1.l.length)) fun _ => (Option.bind (idx (cut s103.1.l r1.1 r1.2) s103.2) fun x178 => some (.inl ((GridGrid.mk s103.1.w (s103.1.l.set (r1.1.toNat + s103.2.toNat) r168)), (IntKind.i64.wrap (s103.2 + 1))))))) else some (.inr s103.1))) ((GridGrid.mk g.w (cpyv g.l r1.1 r1.2 (r1.1 + r9) (r1.1 + ((cut g.l r1.1 r1.2).length : Int)))), (IntKind.i64.wrap (((cut (cpyv g.l r1.1 r1.2 (r1.1 + r9) (r1.1 + ((cut g.l r1.1 r1.2).length : Int))) r1.1 r1.2).length : Int) - r9)))) fun e142 => some (r17, e142))))))))

noncomputable def p_grid_Grid_Text (g : GridGrid) : Option (List ByteArray) :=
  (Option.bind (iter (σ := Int × (List ByteArray)) (ρ := (List ByteArray)) (fun s722 => (bif (decide (s722.1 < (g.l.length : Int))) then (Option.bind (idx g.l s722.1) fun x1263 => (Option.bind (p_row_Row_Glyphs x1263) fun r1272 => (Option.bind (iter (σ := Int × (List Int)) (ρ := (List Int)) (fun s1355 => (bif (decide (s1355.1 < (r1272.length : Int))) then (Option.bind (idx r1272 s1355.1) fun x1413 => (Option.bind (chk (apok s1355.2.length [x1413.rune].length 4)) fun _ => some (.inl ((IntKind.i64.wrap (s1355.1 + 1)), (s1355.2 ++ [x1413.rune]))))) else some (.inr s1355.2))) (0, [])) fun e1390 => (Option.bind (p_glyph_Encode e1390) fun r1427 => (Option.bind (chk (apok s722.2.length [r1427].length 16)) fun _ => some (.inl ((IntKind.i64.wrap (s722.1 + 1)), (s722.2 ++ [r1427])))))))) else some (.inr s722.2))) (0, [])) fun e1079 => some e1079)

noncomputable def p_grid_Grid_Down (g : GridGrid) (top : Int) (bottom : Int) (n_ : Int) (style : Int) : Option ((List RowRow) × GridGrid) :=
  (Option.bind (p_grid_Grid_region g top bottom) fun | .inl r1 => some (([] : List RowRow), g) | .inr r1 => (Option.bind (chk (cutok r1.1 r1.2 g.l.length)) fun _ => (Option.bind (p_grid_clip n_ 0 ((cut g.l r1.1 r1.2).length : Int)) fun r9 => (Option.bind (chk (cutok (IntKind.i64.wrap (((cut g.l r1.1 r1.2).length : Int) - r9)) ((cut g.l r1.1 r1.2).length : Int) (cut g.l r1.1 r1.2).length)) fun _ => (Option.bind (p_slices_Clone_row_Row (cut g.l (r1.1 + (IntKind.i64.wrap (((cut g.l r1.1 r1.2).length : Int) - r9))) (r1.1 + ((cut g.l r1.1 r1.2).length : Int)))) fun r17 => (Option.bind (p_slices_Reverse_row_Row r17) fun r23 => (Option.bind (chk (decide (r23.length = r17.length))) fun _ => (Option.bind (chk (cutok r9 ((cut g.l r1.1 r1.2).length : Int) (cut g.l r1.1 r1.2).length)) fun _ => (Option.bind (chk (cutok 0 (IntKind.i64.wrap (((cut g.l r1.1 r1.2).length : Int) - r9)) (cut g.l r1.1 r1.2).length)) fun _ => (Option.bind (iter (σ := GridGrid × Int) (ρ := GridGrid) (fun s150 => (bif (decide (s150.2 < r9)) then (Option.bind (p_row_Blank s150.1.w style) fun r215 => (Option.bind (chk (cutok r1.1 r1.2 s150.1.l.length)) fun _ => (Option.bind (idx (cut s150.1.l r1.1 r1.2) s150.2) fun x225 => some (.inl ((GridGrid.mk s150.1.w (s150.1.l.set (r1.1.toNat + s150.2.toNat) r215)), (IntKind.i64.wrap (s150.2 + 1))))))) else some (.inr s150.1))) ((GridGrid.mk g.w (cpyv g.l (r1.1 + r9) (r1.1 + ((cut g.l r1.1 r1.2).length : Int)) (r1.1 + 0) (r1.1 + (IntKind.i64.wrap (((cut g.l r1.1 r1.2).length : Int) - r9))))), 0)) fun e189 => some (r23, e189)))))))))))

noncomputable def p_grid_Grid_Resize (g : GridGrid) (w : Int) (h_ : Int) (off : Int) : Option ((List RowRow) × GridGrid) :=
  (Option.bind (p_grid_clip off 0 (IntKind.i64.wrap ((g.l.length : Int) - 1))) fun r1 => (Option.bind (chk (cutok 0 r1 g.l.length)) fun _ => (Option.bind (p_slices_Clone_row_Row (cut g.l 0 r1)) fun r10 => (Option.bind (chk (cutok r1 (g.l.length : Int) g.l.length)) fun _ => (Option.bind (p_slices_Clone_row_Row (cut g.l r1 (g.l.length : Int))) fun r22 => (Option.bind (p_grid_size h_) fun r28 => (Option.bind (chk (cutok 0 (imin (r22.length : Int) r28) r22.length)) fun _ => (Option.bind (iter (σ := (List RowRow)) (ρ := (List RowRow)) (fun s92 => (Option.bind (p_grid_size h_) fun r126 => (bif (decide ((s92.length : Int) < r126)) then (Option.bind (p_grid_size w) fun r131 => (Option.bind (p_row_Blank r131 0) fun r134 => (Option.bind (chk (apok s92.length [r134].length 32)) fun _ => some (.inl (s92 ++ [r134]))))) else some (.inr s92)))) (cut r22 0 (imin (r22.length : Int) r28))) fun e119 => (Option.bind (p_grid_size w) fun r148 => (Option.bind (iter (σ := GridGrid × Int) (ρ := GridGrid) (fun s218 => (bif (decide (s218.2 < (e119.length : Int))) then (Option.bind (idx s218.1.l s218.2) fun x270 => (Option.bind (p_grid_Grid_Set s218.1 s218.2 x270) fun r278 => some (.inl (r278.2, (IntKind.i64.wrap (s218.2 + 1)))))) else some (.inr s218.1))) ((GridGrid.mk r148 e119), 0)) fun e249 => some (r10, e249)))))))))))

noncomputable def p_grid_Grid_Size (g : GridGrid) : Option (Int × Int) :=
  some (g.w, (g.l.length : Int))

noncomputable def p_grid_each_v2 (l : List RowRow) : Option (List RowRow) :=
  some l

noncomputable def p_grid_each_1_v2 {σ : Type} (Y : σ → RowRow → Option (σ × Bool)) (y0 : σ) (x1 : List RowRow) : Option σ :=
  (Option.bind (iter (σ := Int × σ) (ρ := σ ⊕ σ) (fun s94 => (bif (decide (s94.1 < (x1.length : Int))) then (Option.bind (idx x1 s94.1) fun x169 => (Option.bind (p_grid_own x169) fun r178 => (Option.bind (Y s94.2 r178) fun z184 => (bif (!z184.2) then (inrr (some z184.1)) else some (.inl ((IntKind.i64.wrap (s94.1 + 1)), z184.1)))))) else some (.inr (.inl s94.2)))) (0, y0)) fun | .inl e139 => some e139 | .inr w => some w)

noncomputable def p_grid_copies_v2 (l : List RowRow) : Option ((List RowRow) × (List RowRow)) :=
  (Option.bind (p_grid_each_v2 l) fun r2 => (Option.bind (p_grid_each_1_v2 (fun s40 x9 => (Option.bind (chk (apok s40.length [x9].length 32)) fun _ => some ((s40 ++ [x9]), true))) ([] : (List RowRow)) r2) fun r54 => some (r54, r2)))

noncomputable def p_grid_Grid_Rows (g : GridGrid) : Option ((List RowRow) × GridGrid) :=
  (Option.bind (p_grid_copies_v2 g.l) fun r1 => (Option.bind (chk (decide (r1.2.length = g.l.length))) fun _ => some (r1.1, (GridGrid.mk g.w r1.2))))

noncomputable def p_grid_Grid_Clone (g : GridGrid) : Option (GridGrid × GridGrid) :=
  (Option.bind (p_grid_copies_v2 g.l) fun r31 => (Option.bind (chk (decide (r31.2.length = g.l.length))) fun _ => some ((GridGrid.mk g.w r31.1), (GridGrid.mk g.w r31.2))))

end Go.Tw.X

set_option linter.unusedVariables false
set_option linter.unusedSimpArgs false
set_option maxRecDepth 10000
namespace Go.Tw.X
open Go Go.Tw
structure SeqAction where
  kind : Int
  rune : Int
  byte : Int
  private_ : Bool
  nums : List Int
  text : ByteArray
  deriving DecidableEq, Inhabited

end Go.Tw.X

set_option linter.unusedVariables false
set_option linter.unusedSimpArgs false
set_option maxRecDepth 10000
namespace Go.Tw.X
open Go Go.Tw
structure StyleStyle where
  fore : Int
  back : Int
  bold : Bool
  under : Bool
  inverse : Bool
  deriving DecidableEq, Inhabited

noncomputable def p_style_Style_may (s_ : StyleStyle) : Option Bool :=
  (Option.bind ((bif (decide (s_.fore ≥ 0)) then (bif (decide (s_.fore < 9)) then (bif (decide (s_.back ≥ 0)) then some (decide (s_.back < 9)) else some false) else some false) else some false) : Option Bool) fun e9 => some e9)

noncomputable def p_style_bit (is : Bool) (n_ : Int) : Option Int :=
  (bif is then some n_ else some 0)

noncomputable def p_style_Style_Num (s_ : StyleStyle) : Option Int :=
  (Option.bind (p_style_Style_may s_) fun r2 => (bif (!r2) then some 0 else (Option.bind (p_style_bit s_.bold 81) fun r34 => (Option.bind (p_style_bit s_.under 162) fun r37 => (Option.bind (p_style_bit s_.inverse 324) fun r40 => some (IntKind.i64.wrap ((IntKind.i64.wrap ((IntKind.i64.wrap ((IntKind.i64.wrap (s_.fore + (IntKind.i64.wrap (9 * s_.back)))) + r34)) + r37)) + r40)))))))

noncomputable def p_style_skip (l : List Int) : Option Int :=
  (Option.bind ((bif (decide ((l.length : Int) > 0)) then (Option.bind (idx l 0) fun x80 => some (x80 == 5)) else some false) : Option Bool) fun e76 => (bif e76 then some (imin 2 (l.length : Int)) else (Option.bind ((bif (decide ((l.length : Int) > 0)) then (Option.bind (idx l 0) fun x109 => some (x109 == 2)) else some false) : Option Bool) fun e105 => (bif e105 then some (imin 4 (l.length : Int)) else some 0))))

noncomputable def p_style_Style_one (s_ : StyleStyle) (n_ : Int) : Option StyleStyle :=
  (Option.bind ((bif (n_ == 0) then (inrs (some (StyleStyle.mk 0 0 false false false))) else (Option.bind ((bif (n_ == 1) then some true else some (n_ == 22)) : Option Bool) fun e100 => (bif e100 then some (.inl (StyleStyle.mk s_.fore s_.back (n_ == 1) s_.under s_.inverse)) else (Option.bind ((bif (n_ == 4) then some true else some (n_ == 24)) : Option Bool) fun e108 => (bif e108 then some (.inl (StyleStyle.mk s_.fore s_.back s_.bold (n_ == 4) s_.inverse)) else (Option.bind ((bif (n_ == 7) then some true else some (n_ == 27)) : Option Bool) fun e116 => (bif e116 then some (.inl (StyleStyle.mk s_.fore s_.back s_.bold s_.under (n_ == 7))) else (Option.bind ((bif (decide (n_ ≥ 30)) then some (decide (n_ < 38)) else some false) : Option Bool) fun e124 => (bif e124 then some (.inl (StyleStyle.mk (IntKind.i64.wrap ((IntKind.i64.wrap (n_ - 30)) + 1)) s_.back s_.bold s_.under s_.inverse)) else (bif (n_ == 39) then some (.inl (StyleStyle.mk 0 s_.back s_.bold s_.under s_.inverse)) else (Option.bind ((bif (decide (n_ ≥ 40)) then some (decide (n_ < 48)) else some false) : Option Bool) fun e133 => (bif e133 then some (.inl (StyleStyle.mk s_.fore (IntKind.i64.wrap ((IntKind.i64.wrap (n_ - 40)) + 1)) s_.bold s_.under s_.inverse)) else (bif (n_ == 49) then some (.inl (StyleStyle.mk s_.fore 0 s_.bold s_.under s_.inverse)) else some (.inl s_)))))))))))))) : Option (StyleStyle ⊕ StyleStyle)) fun | .inl e90 => some e90 | .inr w => some w)

noncomputable def p_style_Style_Set (s_ : StyleStyle) (nums : List Int) : Option StyleStyle :=
  (bif ((nums.length : Int) == 0) then some (StyleStyle.mk 0 0 false false false) else (Option.bind (iter (σ := StyleStyle × Int) (ρ := StyleStyle) (fun s301 => (bif (decide (s301.2 < (nums.length : Int))) then (Option.bind ((Option.bind (idx nums s301.2) fun x554 => (Option.bind ((bif (x554 == 38) then some true else some (x554 == 48)) : Option Bool) fun e564 => (bif e564 then (Option.bind (chk (cutok (IntKind.i64.wrap (s301.2 + 1)) (nums.length : Int) nums.length)) fun _ => (Option.bind (p_style_skip (cut nums (IntKind.i64.wrap (s301.2 + 1)) (nums.length : Int))) fun r583 => some ((IntKind.i64.wrap (s301.2 + r583)), s301.1))) else (Option.bind (idx nums s301.2) fun x593 => (Option.bind (p_style_Style_one s301.1 x593) fun r597 => some (s301.2, r597)))))) : Option (Int × StyleStyle)) fun e551 => some (.inl (e551.2, (IntKind.i64.wrap (e551.1 + 1))))) else some (.inr s301.1))) (s_, 0)) fun e448 => some e448))
end Go.Tw.X

set_option linter.unusedVariables false
set_option linter.unusedSimpArgs false
set_option maxRecDepth 10000
namespace Go.Tw.X
open Go Go.Tw
structure ScreenSpot where
  x : Int
  y : Int
  style : StyleStyle
  deriving DecidableEq, Inhabited

structure ScreenScreen where
  g : GridGrid
  spot : ScreenSpot
  saved : ScreenSpot
  waiting : Bool
  top : Int
  bottom : Int
  wraps : Bool
  title : ByteArray
  deriving DecidableEq, Inhabited

noncomputable def p_screen_New (w : Int) (h_ : Int) : Option ScreenScreen :=
  (Option.bind (p_grid_New w h_) fun r1 => (Option.bind (p_grid_Grid_Size r1) fun r9 => some (ScreenScreen.mk r1 (ScreenSpot.mk 0 0 (StyleStyle.mk 0 0 false false false)) (ScreenSpot.mk 0 0 (StyleStyle.mk 0 0 false false false)) false 0 (IntKind.i64.wrap (r9.2 - 1)) true (ByteArray.mk #[]))))

noncomputable def p_screen_Screen_Grid (s_ : ScreenScreen) : Option (GridGrid × ScreenScreen) :=
  (Option.bind (p_grid_Grid_Clone s_.g) fun r1 => some (r1.1, (ScreenScreen.mk r1.2 s_.spot s_.saved s_.waiting s_.top s_.bottom s_.wraps s_.title)))

noncomputable def p_screen_Screen_Title (s_ : ScreenScreen) : Option ByteArray :=
  some s_.title

noncomputable def p_screen_Screen_Cursor (s_ : ScreenScreen) : Option (Int × Int) :=
  some (s_.spot.x, s_.spot.y)

noncomputable def p_screen_Screen_print_1 (r_ : RowRow) : Option RowRow :=
  some (RowRow.mk r_.cells true)

noncomputable def p_screen_Screen_edit_Screen_print_1 (s_ : ScreenScreen) : Option ScreenScreen :=
  (Option.bind (p_grid_Grid_Row s_.g s_.spot.y) fun r15 => (Option.bind (p_screen_Screen_print_1 r15) fun r21 => (Option.bind (p_grid_Grid_Set s_.g s_.spot.y r21) fun r25 => some (ScreenScreen.mk r25.2 s_.spot s_.saved s_.waiting s_.top s_.bottom s_.wraps s_.title))))

noncomputable def p_screen_Screen_num (s_ : ScreenScreen) : Option Int :=
  (Option.bind (p_style_Style_Num s_.spot.style) fun r1 => some r1)

noncomputable def p_screen_Screen_up (s_ : ScreenScreen) (n_ : Int) : Option ((List RowRow) × ScreenScreen) :=
  (Option.bind (p_screen_Screen_num s_) fun r31 => (Option.bind (p_grid_Grid_Up s_.g s_.top s_.bottom n_ r31) fun r34 => (bif (decide (s_.top > 0)) then some (([] : List RowRow), (ScreenScreen.mk r34.2 s_.spot s_.saved s_.waiting s_.top s_.bottom s_.wraps s_.title)) else some (r34.1, (ScreenScreen.mk r34.2 s_.spot s_.saved s_.waiting s_.top s_.bottom s_.wraps s_.title)))))

noncomputable def p_screen_Screen_last (s_ : ScreenScreen) : Option (Int × Int) :=
  (Option.bind (p_grid_Grid_Size s_.g) fun r1 => some ((IntKind.i64.wrap (r1.1 - 1)), (IntKind.i64.wrap (r1.2 - 1))))

noncomputable def p_screen_clip (n_ : Int) (lo : Int) (hi : Int) : Option Int :=
  some (imax lo (imin n_ hi))

noncomputable def p_screen_Screen_move (s_ : ScreenScreen) (x_ : Int) (y : Int) : Option ScreenScreen :=
  (Option.bind (p_screen_Screen_last s_) fun r1 => (Option.bind (p_screen_clip x_ 0 r1.1) fun r4 => (Option.bind (p_screen_clip y 0 r1.2) fun r7 => some (ScreenScreen.mk s_.g (ScreenSpot.mk r4 r7 s_.spot.style) s_.saved false s_.top s_.bottom s_.wraps s_.title))))

noncomputable def p_screen_Screen_line (s_ : ScreenScreen) : Option ((List RowRow) × ScreenScreen) :=
  (bif (s_.spot.y == s_.bottom) then (Option.bind (p_screen_Screen_up (ScreenScreen.mk s_.g s_.spot s_.saved false s_.top s_.bottom s_.wraps s_.title) 1) fun r10 => some (r10.1, r10.2)) else (Option.bind (p_screen_Screen_move (ScreenScreen.mk s_.g s_.spot s_.saved false s_.top s_.bottom s_.wraps s_.title) s_.spot.x (IntKind.i64.wrap (s_.spot.y + 1))) fun r29 => some (([] : List RowRow), r29)))

noncomputable def p_screen_Screen_print_2 (r_ : RowRow) (x1 : ScreenScreen) : Option RowRow :=
  (Option.bind (p_screen_Screen_num x1) fun r30 => (Option.bind (p_row_Row_Fill r_ r30) fun r33 => some r33))

noncomputable def p_screen_Screen_edit_Screen_print_2 (s_ : ScreenScreen) : Option ScreenScreen :=
  (Option.bind (p_grid_Grid_Row s_.g s_.spot.y) fun r17 => (Option.bind (p_screen_Screen_print_2 r17 s_) fun r23 => (Option.bind (p_grid_Grid_Set s_.g s_.spot.y r23) fun r29 => some (ScreenScreen.mk r29.2 s_.spot s_.saved s_.waiting s_.top s_.bottom s_.wraps s_.title))))

noncomputable def p_screen_Screen_print_3 (q : RowRow) (x1 : ScreenScreen) (x2 : Int) : Option RowRow :=
  (Option.bind (p_screen_Screen_num x1) fun r30 => (Option.bind (p_row_Row_Put q x1.spot.x x2 r30) fun r33 => some r33))

noncomputable def p_screen_Screen_edit_Screen_print_3 (s_ : ScreenScreen) (f_1 : Int) : Option ScreenScreen :=
  (Option.bind (p_grid_Grid_Row s_.g s_.spot.y) fun r17 => (Option.bind (p_screen_Screen_print_3 r17 s_ f_1) fun r23 => (Option.bind (p_grid_Grid_Set s_.g s_.spot.y r23) fun r29 => some (ScreenScreen.mk r29.2 s_.spot s_.saved s_.waiting s_.top s_.bottom s_.wraps s_.title))))

noncomputable def p_screen_Screen_print (s_ : ScreenScreen) (r_ : Int) : Option ((List RowRow) × ScreenScreen) :=
  (Option.bind (p_wide_Of r_) fun r3 => (Option.bind (p_grid_Grid_Size s_.g) fun r6 => (Option.bind ((bif (r3 == 0) then some true else some (decide (r3 > r6.1))) : Option Bool) fun e12 => (bif e12 then some (([] : List RowRow), s_) else (Option.bind ((bif s_.waiting then some s_.wraps else some false) : Option Bool) fun e22 => (Option.bind ((bif e22 then (Option.bind (p_screen_Screen_edit_Screen_print_1 s_) fun r75 => (Option.bind (p_screen_Screen_line (ScreenScreen.mk r75.g (ScreenSpot.mk 0 r75.spot.y r75.spot.style) r75.saved r75.waiting r75.top r75.bottom r75.wraps r75.title)) fun r79 => (Option.bind (chk (apok ([] : List RowRow).length r79.1.length 32)) fun _ => some ((([] : List RowRow) ++ r79.1), r79.2.g, r79.2)))) else some ([], s_.g, s_)) : Option ((List RowRow) × GridGrid × ScreenScreen)) fun e71 => (Option.bind ((bif (decide ((IntKind.i64.wrap (e71.2.2.spot.x + r3)) > r6.1)) then (bif e71.2.2.wraps then (Option.bind (p_screen_Screen_edit_Screen_print_2 (ScreenScreen.mk e71.2.1 e71.2.2.spot e71.2.2.saved e71.2.2.waiting e71.2.2.top e71.2.2.bottom e71.2.2.wraps e71.2.2.title)) fun r144 => (Option.bind (p_screen_Screen_line (ScreenScreen.mk r144.g (ScreenSpot.mk 0 r144.spot.y r144.spot.style) r144.saved r144.waiting r144.top r144.bottom r144.wraps r144.title)) fun r148 => (Option.bind (chk (apok e71.1.length r148.1.length 32)) fun _ => some ((e71.1 ++ r148.1), r148.2.g, r148.2)))) else some (e71.1, e71.2.1, (ScreenScreen.mk e71.2.1 (ScreenSpot.mk (IntKind.i64.wrap (e71.2.2.spot.x - 1)) e71.2.2.spot.y e71.2.2.spot.style) e71.2.2.saved e71.2.2.waiting e71.2.2.top e71.2.2.bottom e71.2.2.wraps e71.2.2.title))) else some (e71.1, e71.2.1, (ScreenScreen.mk e71.2.1 e71.2.2.spot e71.2.2.saved e71.2.2.waiting e71.2.2.top e71.2.2.bottom e71.2.2.wraps e71.2.2.title))) : Option ((List RowRow) × GridGrid × ScreenScreen)) fun e139 => (Option.bind (p_screen_Screen_edit_Screen_print_3 (ScreenScreen.mk e139.2.1 e139.2.2.spot e139.2.2.saved e139.2.2.waiting e139.2.2.top e139.2.2.bottom e139.2.2.wraps e139.2.2.title) r_) fun r161 => some (e139.1, (ScreenScreen.mk r161.g (ScreenSpot.mk (imin (IntKind.i64.wrap (r161.spot.x + r3)) (IntKind.i64.wrap (r6.1 - 1))) r161.spot.y r161.spot.style) r161.saved ((IntKind.i64.wrap (r161.spot.x + r3)) == r6.1) r161.top r161.bottom r161.wraps r161.title))))))))))

noncomputable def p_screen_Screen_control (s_ : ScreenScreen) (b : Int) : Option ((List RowRow) × ScreenScreen) :=
  (Option.bind ((bif (b == 8) then (Option.bind (p_screen_Screen_move s_ (IntKind.i64.wrap (s_.spot.x - 1)) s_.spot.y) fun r95 => some (.inl (r95, r95.g))) else (bif (b == 9) then (Option.bind (p_screen_Screen_move s_ (IntKind.i64.wrap ((IntKind.i64.wrap ((IntKind.i64.wrap (s_.spot.x.tdiv 8)) + 1)) * 8)) s_.spot.y) fun r104 => some (.inl (r104, r104.g))) else (Option.bind ((bif (b == 10) then some (b == 10) else (bif (b == 11) then some (b == 11) else some (b == 12))) : Option Bool) fun e113 => (bif e113 then (Option.bind (p_screen_Screen_line s_) fun r119 => (inrs (some (r119.1, r119.2)))) else (bif (b == 13) then (Option.bind (p_screen_Screen_move s_ 0 s_.spot.y) fun r129 => some (.inl (r129, r129.g))) else some (.inl (s_, s_.g))))))) : Option ((ScreenScreen × GridGrid) ⊕ ((List RowRow) × ScreenScreen))) fun | .inl e86 => some (([] : List RowRow), (ScreenScreen.mk e86.2 e86.1.spot e86.1.saved e86.1.waiting e86.1.top e86.1.bottom e86.1.wraps e86.1.title)) | .inr w => some w)

noncomputable def p_screen_Screen_back (s_ : ScreenScreen) : Option ScreenScreen :=
  (bif (s_.spot.y == s_.top) then (Option.bind (p_screen_Screen_num (ScreenScreen.mk s_.g s_.spot s_.saved false s_.top s_.bottom s_.wraps s_.title)) fun r73 => (Option.bind (p_grid_Grid_Down s_.g s_.top s_.bottom 1 r73) fun r76 => some (ScreenScreen.mk r76.2 s_.spot s_.saved false s_.top s_.bottom s_.wraps s_.title))) else (Option.bind (p_screen_Screen_move (ScreenScreen.mk s_.g s_.spot s_.saved false s_.top s_.bottom s_.wraps s_.title) s_.spot.x (IntKind.i64.wrap (s_.spot.y - 1))) fun r87 => some r87))

noncomputable def p_screen_Screen_escape (s_ : ScreenScreen) (b : Int) : Option ((List RowRow) × ScreenScreen) :=
  (Option.bind ((Option.bind ((bif (b == 69) then some (.inl (ScreenScreen.mk s_.g (ScreenSpot.mk 0 s_.spot.y s_.spot.style) s_.saved s_.waiting s_.top s_.bottom s_.wraps s_.title)) else (bif (b == 68) then some (.inl s_) else (bif (b == 77) then (inrs (Option.bind (p_screen_Screen_back s_) fun r4695 => some (.inl r4695))) else (bif (b == 55) then (inrs (some (.inl (ScreenScreen.mk s_.g s_.spot s_.spot s_.waiting s_.top s_.bottom s_.wraps s_.title)))) else (bif (b == 56) then (inrs (Option.bind (p_screen_Screen_move (ScreenScreen.mk s_.g (ScreenSpot.mk s_.spot.x s_.spot.y s_.saved.style) s_.saved s_.waiting s_.top s_.bottom s_.wraps s_.title) s_.saved.x s_.saved.y) fun r4719 => some (.inl r4719))) else (bif (b == 99) then (inrs (Option.bind (p_grid_Grid_Size s_.g) fun r4727 => (Option.bind (p_screen_New r4727.1 r4727.2) fun r4730 => some (.inl r4730)))) else (inrs (some (.inl s_))))))))) : Option (ScreenScreen ⊕ (ScreenScreen ⊕ ((List RowRow) × ScreenScreen)))) fun | .inl e4671 => (Option.bind (p_screen_Screen_line (ScreenScreen.mk s_.g e4671.spot e4671.saved e4671.waiting e4671.top e4671.bottom e4671.wraps e4671.title)) fun r4740 => (inrs (some (r4740.1, r4740.2)))) | .inr w => some w) : Option (ScreenScreen ⊕ ((List RowRow) × ScreenScreen))) fun | .inl e3164 => some (([] : List RowRow), e3164) | .inr w => some w)

noncomputable def p_screen_at (a : SeqAction) (i : Int) (d : Int) : Option Int :=
  (Option.bind ((bif (decide (i ≥ (a.nums.length : Int))) then some true else (Option.bind (idx a.nums i) fun x23 => some (decide (x23 ≤ 0)))) : Option Bool) fun e19 => (bif e19 then some d else (Option.bind (idx a.nums i) fun x32 => some (imin x32 9999))))

noncomputable def p_screen_Screen_climb (s_ : ScreenScreen) (n_ : Int) : Option ScreenScreen :=
  (Option.bind (p_screen_Screen_last s_) fun r1 => (Option.bind ((bif (decide (s_.spot.y ≥ s_.top)) then some (decide (n_ < 0)) else some false) : Option Bool) fun e9 => (Option.bind ((bif e9 then some s_.top else some 0) : Option Int) fun e17 => (Option.bind ((bif (decide (s_.spot.y ≤ s_.bottom)) then some (decide (n_ > 0)) else some false) : Option Bool) fun e26 => (Option.bind ((bif e26 then some s_.bottom else some r1.2) : Option Int) fun e34 => (Option.bind (p_screen_clip (IntKind.i64.wrap (s_.spot.y + n_)) e17 e34) fun r45 => (Option.bind (p_screen_Screen_move s_ s_.spot.x r45) fun r48 => some r48)))))))

noncomputable def p_screen_Screen_erase (s_ : ScreenScreen) (y : Int) (from_ : Int) (to : Int) : Option ScreenScreen :=
  (Option.bind (p_grid_Grid_Row s_.g y) fun r20 => (Option.bind (p_screen_Screen_num s_) fun r26 => (Option.bind (p_row_Row_Erase r20 from_ to r26) fun r29 => (Option.bind (p_grid_Grid_Set s_.g y r29) fun r35 => some (ScreenScreen.mk r35.2 s_.spot s_.saved s_.waiting s_.top s_.bottom s_.wraps s_.title)))))

noncomputable def p_screen_Screen_part (s_ : ScreenScreen) (n_ : Int) : Option ScreenScreen :=
  (Option.bind (p_grid_Grid_Size s_.g) fun r1 => (Option.bind ((bif (n_ == 0) then (Option.bind (p_screen_Screen_erase s_ s_.spot.y s_.spot.x r1.1) fun r61 => some (r61.g, r61)) else (bif (n_ == 1) then (Option.bind (p_screen_Screen_erase s_ s_.spot.y 0 (IntKind.i64.wrap (s_.spot.x + 1))) fun r70 => some (r70.g, r70)) else (bif (n_ == 2) then (Option.bind (p_screen_Screen_erase s_ s_.spot.y 0 r1.1) fun r75 => some (r75.g, r75)) else some (s_.g, s_)))) : Option (GridGrid × ScreenScreen)) fun e53 => (bif e53.2.waiting then some (ScreenScreen.mk e53.1 e53.2.spot e53.2.saved (decide (n_ > 2)) e53.2.top e53.2.bottom e53.2.wraps e53.2.title) else some (ScreenScreen.mk e53.1 e53.2.spot e53.2.saved false e53.2.top e53.2.bottom e53.2.wraps e53.2.title))))

noncomputable def p_screen_Screen_wipe (s_ : ScreenScreen) (n_ : Int) : Option ScreenScreen :=
  (Option.bind (p_grid_Grid_Size s_.g) fun r1 => (Option.bind (iter (σ := ScreenScreen × GridGrid × Int) (ρ := GridGrid × ScreenScreen) (fun s266 => (bif (decide (s266.2.2 < r1.2)) then (Option.bind ((Option.bind ((bif (decide (s266.2.2 < s266.1.spot.y)) then (bif (n_ == 1) then some true else (bif (decide (s266.2.2 > s266.1.spot.y)) then (bif (n_ == 0) then some true else (bif (s266.2.2 != s266.1.spot.y) then some (n_ == 2) else some false)) else (bif (s266.2.2 != s266.1.spot.y) then some (n_ == 2) else some false))) else (bif (decide (s266.2.2 > s266.1.spot.y)) then (bif (n_ == 0) then some true else (bif (s266.2.2 != s266.1.spot.y) then some (n_ == 2) else some false)) else (bif (s266.2.2 != s266.1.spot.y) then some (n_ == 2) else some false))) : Option Bool) fun e509 => (bif e509 then (Option.bind (p_screen_Screen_erase (ScreenScreen.mk s266.2.1 s266.1.spot s266.1.saved s266.1.waiting s266.1.top s266.1.bottom s266.1.wraps s266.1.title) s266.2.2 0 r1.1) fun r523 => some (r523.g, r523)) else some (s266.2.1, (ScreenScreen.mk s266.2.1 s266.1.spot s266.1.saved s266.1.waiting s266.1.top s266.1.bottom s266.1.wraps s266.1.title)))) : Option (GridGrid × ScreenScreen)) fun e485 => some (.inl ((ScreenScreen.mk e485.1 e485.2.spot e485.2.saved e485.2.waiting e485.2.top e485.2.bottom e485.2.wraps e485.2.title), e485.1, (IntKind.i64.wrap (s266.2.2 + 1))))) else some (.inr (s266.2.1, (ScreenScreen.mk s266.2.1 s266.1.spot s266.1.saved s266.1.waiting s266.1.top s266.1.bottom s266.1.wraps s266.1.title))))) (s_, s_.g, 0)) fun e395 => (Option.bind (p_screen_Screen_part (ScreenScreen.mk e395.1 e395.2.spot e395.2.saved e395.2.waiting e395.2.top e395.2.bottom e395.2.wraps e395.2.title) n_) fun r527 => some r527)))

noncomputable def p_screen_Screen_cells_1 (r_ : RowRow) (x1 : Int) (x2 : ScreenScreen) (x3 : Int) : Option RowRow :=
  (bif (x1 == 64) then (Option.bind (p_screen_Screen_num x2) fun r105 => (Option.bind (p_row_Row_Insert r_ x2.spot.x x3 r105) fun r108 => some r108)) else (bif (x1 == 80) then (Option.bind (p_screen_Screen_num x2) fun r142 => (Option.bind (p_row_Row_Delete r_ x2.spot.x x3 r142) fun r145 => some r145)) else (Option.bind (p_screen_Screen_num x2) fun r178 => (Option.bind (p_row_Row_Erase r_ x2.spot.x (IntKind.i64.wrap (x2.spot.x + x3)) r178) fun r181 => some r181))))

noncomputable def p_screen_Screen_edit_Screen_cells_1 (s_ : ScreenScreen) (f_0 : Int) (f_2 : Int) : Option ScreenScreen :=
  (Option.bind (p_grid_Grid_Row s_.g s_.spot.y) fun r17 => (Option.bind (p_screen_Screen_cells_1 r17 f_0 s_ f_2) fun r23 => (Option.bind (p_grid_Grid_Set s_.g s_.spot.y r23) fun r29 => some (ScreenScreen.mk r29.2 s_.spot s_.saved s_.waiting s_.top s_.bottom s_.wraps s_.title))))

noncomputable def p_screen_Screen_cells (s_ : ScreenScreen) (b : Int) (n_ : Int) : Option ScreenScreen :=
  (Option.bind (p_screen_Screen_edit_Screen_cells_1 s_ b n_) fun r4 => some (ScreenScreen.mk r4.g r4.spot r4.saved false r4.top r4.bottom r4.wraps r4.title))

noncomputable def p_screen_Screen_shift (s_ : ScreenScreen) (b : Int) (n_ : Int) : Option ScreenScreen :=
  (Option.bind ((bif (decide (s_.spot.y < s_.top)) then some true else some (decide (s_.spot.y > s_.bottom))) : Option Bool) fun e6 => (bif e6 then some s_ else (Option.bind ((bif (b == 76) then (Option.bind (p_screen_Screen_num s_) fun r111 => (Option.bind (p_grid_Grid_Down s_.g s_.spot.y s_.bottom n_ r111) fun r114 => some r114.2)) else (Option.bind (p_screen_Screen_num s_) fun r131 => (Option.bind (p_grid_Grid_Up s_.g s_.spot.y s_.bottom n_ r131) fun r134 => some r134.2))) : Option GridGrid) fun e97 => (Option.bind (p_screen_Screen_move (ScreenScreen.mk e97 s_.spot s_.saved s_.waiting s_.top s_.bottom s_.wraps s_.title) 0 s_.spot.y) fun r141 => some r141))))

noncomputable def p_screen_Screen_region (s_ : ScreenScreen) (a : SeqAction) : Option ScreenScreen :=
  (Option.bind (p_grid_Grid_Size s_.g) fun r2 => (Option.bind (p_screen_at a 0 1) fun r41 => (Option.bind (p_screen_clip r41 1 r2.2) fun r44 => (Option.bind (p_screen_at a 1 r2.2) fun r47 => (Option.bind (p_screen_clip r47 1 r2.2) fun r50 => (bif (decide ((IntKind.i64.wrap (r44 - 1)) < (IntKind.i64.wrap (r50 - 1)))) then (Option.bind (p_screen_Screen_move (ScreenScreen.mk s_.g s_.spot s_.saved s_.waiting (IntKind.i64.wrap (r44 - 1)) (IntKind.i64.wrap (r50 - 1)) s_.wraps s_.title) 0 0) fun r54 => some r54) else some s_))))))

noncomputable def p_screen_Screen_order (s_ : ScreenScreen) (a : SeqAction) : Option ((List RowRow) × ScreenScreen) :=
  (Option.bind (p_screen_at a 0 1) fun r2 => (Option.bind ((Option.bind ((bif (a.byte == 65) then some (a.byte == 65) else some (a.byte == 70)) : Option Bool) fun e317 => (bif e317 then (Option.bind (p_screen_Screen_climb s_ (IntKind.i64.wrap (0 - r2))) fun r322 => some (.inl (r322, r322.g))) else (Option.bind ((bif (a.byte == 66) then some (a.byte == 66) else some (a.byte == 69)) : Option Bool) fun e329 => (bif e329 then (Option.bind (p_screen_Screen_climb s_ r2) fun r334 => some (.inl (r334, r334.g))) else (bif (a.byte == 67) then (Option.bind (p_screen_Screen_move s_ (IntKind.i64.wrap (s_.spot.x + r2)) s_.spot.y) fun r343 => some (.inl (r343, r343.g))) else (bif (a.byte == 68) then (Option.bind (p_screen_Screen_move s_ (IntKind.i64.wrap (s_.spot.x - r2)) s_.spot.y) fun r352 => some (.inl (r352, r352.g))) else (bif (a.byte == 71) then (Option.bind (p_screen_Screen_move s_ (IntKind.i64.wrap (r2 - 1)) s_.spot.y) fun r357 => some (.inl (r357, r357.g))) else (bif (a.byte == 100) then (Option.bind (p_screen_Screen_move s_ s_.spot.x (IntKind.i64.wrap (r2 - 1))) fun r362 => some (.inl (r362, r362.g))) else (Option.bind ((bif (a.byte == 72) then some (a.byte == 72) else some (a.byte == 102)) : Option Bool) fun e369 => (bif e369 then (Option.bind (p_screen_at a 1 1) fun r374 => (Option.bind (p_screen_Screen_move s_ (IntKind.i64.wrap (r374 - 1)) (IntKind.i64.wrap (r2 - 1))) fun r377 => some (.inl (r377, r377.g)))) else (bif (a.byte == 74) then (Option.bind (p_screen_at a 0 0) fun r382 => (Option.bind (p_screen_Screen_wipe s_ r382) fun r385 => some (.inl (r385, r385.g)))) else (bif (a.byte == 75) then (Option.bind (p_screen_at a 0 0) fun r390 => (Option.bind (p_screen_Screen_part s_ r390) fun r393 => some (.inl (r393, r393.g)))) else (Option.bind ((bif (a.byte == 64) then some (a.byte == 64) else (bif (a.byte == 80) then some (a.byte == 80) else some (a.byte == 88))) : Option Bool) fun e402 => (bif e402 then (Option.bind (p_screen_Screen_cells s_ a.byte r2) fun r408 => some (.inl (r408, r408.g))) else (Option.bind ((bif (a.byte == 76) then some (a.byte == 76) else some (a.byte == 77)) : Option Bool) fun e415 => (bif e415 then (Option.bind (p_screen_Screen_shift s_ a.byte r2) fun r420 => some (.inl (r420, r420.g))) else (bif (a.byte == 83) then (Option.bind (p_screen_Screen_up (ScreenScreen.mk s_.g s_.spot s_.saved false s_.top s_.bottom s_.wraps s_.title) r2) fun r425 => (inrs (some (r425.1, r425.2)))) else (bif (a.byte == 84) then (Option.bind (p_screen_Screen_num (ScreenScreen.mk s_.g s_.spot s_.saved false s_.top s_.bottom s_.wraps s_.title)) fun r445 => (Option.bind (p_grid_Grid_Down s_.g s_.top s_.bottom r2 r445) fun r448 => some (.inl ((ScreenScreen.mk r448.2 s_.spot s_.saved false s_.top s_.bottom s_.wraps s_.title), r448.2)))) else (bif (a.byte == 109) then (Option.bind (p_style_Style_Set s_.spot.style a.nums) fun r459 => some (.inl ((ScreenScreen.mk s_.g (ScreenSpot.mk s_.spot.x s_.spot.y r459) s_.saved s_.waiting s_.top s_.bottom s_.wraps s_.title), s_.g))) else (bif (a.byte == 114) then (Option.bind (p_screen_Screen_region s_ a) fun r463 => some (.inl (r463, r463.g))) else some (.inl (s_, s_.g)))))))))))))))))))))) : Option ((ScreenScreen × GridGrid) ⊕ ((List RowRow) × ScreenScreen))) fun | .inl e310 => (Option.bind ((bif (a.byte == 69) then some true else some (a.byte == 70)) : Option Bool) fun e470 => (Option.bind ((bif e470 then some (ScreenScreen.mk e310.2 (ScreenSpot.mk 0 e310.1.spot.y e310.1.spot.style) e310.1.saved e310.1.waiting e310.1.top e310.1.bottom e310.1.wraps e310.1.title) else some (ScreenScreen.mk e310.2 e310.1.spot e310.1.saved e310.1.waiting e310.1.top e310.1.bottom e310.1.wraps e310.1.title)) : Option ScreenScreen) fun e477 => some (([] : List RowRow), (ScreenScreen.mk e310.2 e477.spot e477.saved e477.waiting e477.top e477.bottom e477.wraps e477.title)))) | .inr w => some w))

noncomputable def p_screen_Screen_Do (s_ : ScreenScreen) (a : SeqAction) : Option ((List RowRow) × ScreenScreen) :=
  (Option.bind ((bif (a.kind == 1) then (Option.bind (p_screen_Screen_print s_ a.rune) fun r138 => (inrs (some (r138.1, r138.2)))) else (bif (a.kind == 2) then (Option.bind (p_screen_Screen_control s_ a.byte) fun r148 => (inrs (some (r148.1, r148.2)))) else (bif (a.kind == 3) then (Option.bind (p_screen_Screen_escape s_ a.byte) fun r158 => (inrs (some (r158.1, r158.2)))) else (bif (a.kind == 5) then some (.inl (ScreenScreen.mk s_.g s_.spot s_.saved s_.waiting s_.top s_.bottom s_.wraps a.text)) else (bif (a.kind == 4) then (bif (!a.private_) then (Option.bind (p_screen_Screen_order s_ a) fun r181 => (inrs (some (r181.1, r181.2)))) else (Option.bind ((Option.bind (p_screen_at a 0 0) fun r204 => (bif (r204 == 7) then (bif (a.byte == 104) then some true else some (a.byte == 108)) else some false)) : Option Bool) fun e201 => (bif e201 then some (.inl (ScreenScreen.mk s_.g s_.spot s_.saved s_.waiting s_.top s_.bottom (a.byte == 104) s_.title)) else some (.inl s_)))) else some (.inl s_)))))) : Option (ScreenScreen ⊕ ((List RowRow) × ScreenScreen))) fun | .inl e133 => some (([] : List RowRow), (ScreenScreen.mk s_.g e133.spot e133.saved e133.waiting e133.top e133.bottom e133.wraps e133.title)) | .inr w => some w)

noncomputable def p_screen_Screen_Resize (s_ : ScreenScreen) (w : Int) (h_ : Int) : Option ((List RowRow) × ScreenScreen) :=
  (Option.bind (p_screen_clip h_ 1 1000) fun r10 => (Option.bind (p_grid_Grid_Resize s_.g w h_ (imax 0 (IntKind.i64.wrap (s_.spot.y - (IntKind.i64.wrap (r10 - 1)))))) fun r13 => (Option.bind (p_screen_Screen_move (ScreenScreen.mk r13.2 s_.spot s_.saved s_.waiting s_.top s_.bottom s_.wraps s_.title) s_.spot.x (IntKind.i64.wrap (s_.spot.y - (imax 0 (IntKind.i64.wrap (s_.spot.y - (IntKind.i64.wrap (r10 - 1)))))))) fun r34 => (Option.bind (p_screen_Screen_last r34) fun r38 => some (r13.1, (ScreenScreen.mk r34.g r34.spot r34.saved r34.waiting 0 r38.2 r34.wraps r34.title))))))

noncomputable def p_screen_Screen_Region (s_ : ScreenScreen) : Option (Int × Int) :=
  some (s_.top, s_.bottom)

noncomputable def p_screen_Screen_Waiting (s_ : ScreenScreen) : Option Bool :=
  some s_.waiting

noncomputable def p_screen_Screen_Style (s_ : ScreenScreen) : Option StyleStyle :=
  some s_.spot.style

end Go.Tw.X

set_option linter.unusedVariables false
set_option linter.unusedSimpArgs false
set_option maxRecDepth 10000
namespace Go.Tw.X
open Go Go.Tw

noncomputable def p_law01_Cut (s_ : ByteArray) (n_ : Int) : Option ByteArray :=
  (bif (decide ((s_.size : Int) > n_)) then (Option.bind (chk (cutok 0 n_ s_.size)) fun _ => some (scut s_ 0 n_)) else some s_)

end Go.Tw.X

set_option linter.unusedVariables false
set_option linter.unusedSimpArgs false
set_option maxRecDepth 10000
namespace Go.Tw.X
open Go Go.Tw

noncomputable def p_ref06_Of (r_ : Int) : Option Int :=
  (Option.bind ((bif (decide (r_ < 32)) then some true else some (decide (r_ > 1114111))) : Option Bool) fun e8 => (bif e8 then some 0 else (Option.bind (iter (σ := Int) (ρ := Unit ⊕ Int) (fun s69 => (bif (decide (s69 < ([(Arr2Int.mk 127 159), (Arr2Int.mk 768 879), (Arr2Int.mk 6832 6911), (Arr2Int.mk 7616 7679), (Arr2Int.mk 8203 8207), (Arr2Int.mk 8400 8447), (Arr2Int.mk 55296 57343), (Arr2Int.mk 65024 65039), (Arr2Int.mk 65056 65071), (Arr2Int.mk 65279 65279), (Arr2Int.mk 917760 917999)].length : Int))) then (Option.bind (idx [(Arr2Int.mk 127 159), (Arr2Int.mk 768 879), (Arr2Int.mk 6832 6911), (Arr2Int.mk 7616 7679), (Arr2Int.mk 8203 8207), (Arr2Int.mk 8400 8447), (Arr2Int.mk 55296 57343), (Arr2Int.mk 65024 65039), (Arr2Int.mk 65056 65071), (Arr2Int.mk 65279 65279), (Arr2Int.mk 917760 917999)] s69) fun x118 => (Option.bind ((bif (decide (r_ ≥ x118.e0)) then some (decide (r_ ≤ x118.e1)) else some false) : Option Bool) fun e125 => (bif e125 then (inrr (some 0)) else some (.inl (IntKind.i64.wrap (s69 + 1)))))) else some (.inr (.inl ())))) 0) fun | .inl e96 => (Option.bind (iter (σ := Int) (ρ := Unit ⊕ Int) (fun s187 => (bif (decide (s187 < ([(Arr2Int.mk 4352 4447), (Arr2Int.mk 11904 12350), (Arr2Int.mk 12353 13311), (Arr2Int.mk 13312 19903), (Arr2Int.mk 19968 40959), (Arr2Int.mk 40960 42191), (Arr2Int.mk 44032 55203), (Arr2Int.mk 63744 64255), (Arr2Int.mk 65072 65135), (Arr2Int.mk 65280 65376), (Arr2Int.mk 65504 65510), (Arr2Int.mk 127744 128591), (Arr2Int.mk 129280 129535), (Arr2Int.mk 131072 262141)].length : Int))) then (Option.bind (idx [(Arr2Int.mk 4352 4447), (Arr2Int.mk 11904 12350), (Arr2Int.mk 12353 13311), (Arr2Int.mk 13312 19903), (Arr2Int.mk 19968 40959), (Arr2Int.mk 40960 42191), (Arr2Int.mk 44032 55203), (Arr2Int.mk 63744 64255), (Arr2Int.mk 65072 65135), (Arr2Int.mk 65280 65376), (Arr2Int.mk 65504 65510), (Arr2Int.mk 127744 128591), (Arr2Int.mk 129280 129535), (Arr2Int.mk 131072 262141)] s187) fun x236 => (Option.bind ((bif (decide (r_ ≥ x236.e0)) then some (decide (r_ ≤ x236.e1)) else some false) : Option Bool) fun e243 => (bif e243 then (inrr (some 2)) else some (.inl (IntKind.i64.wrap (s187 + 1)))))) else some (.inr (.inl ())))) 0) fun | .inl e214 => some 1 | .inr w => some w) | .inr w => some w)))
end Go.Tw.X

set_option linter.unusedVariables false
set_option linter.unusedSimpArgs false
set_option maxRecDepth 10000
namespace Go.Tw.X
open Go Go.Tw
structure Ref09Cell where
  rune : Int
  style : Int
  part : Int
  deriving DecidableEq, Inhabited

structure Ref09Row where
  l : List Ref09Cell
  wrapped : Bool
  deriving DecidableEq, Inhabited

structure Ref09Glyph where
  rune : Int
  style : Int
  deriving DecidableEq, Inhabited

noncomputable def p_ref09_near (n_ : Int) (lo : Int) (hi : Int) : Option Int :=
  (bif (decide (n_ < lo)) then some lo else (bif (decide (n_ > hi)) then some hi else some n_))

noncomputable def p_ref09_Blank (w : Int) (style : Int) : Option Ref09Row :=
  (Option.bind (iter (σ := (List Ref09Cell) × Int) (ρ := (List Ref09Cell)) (fun s61 => (Option.bind (p_ref09_near w 0 1000) fun r94 => (bif (decide (s61.2 < r94)) then (Option.bind (chk (apok s61.1.length [(Ref09Cell.mk 32 style 0)].length 24)) fun _ => some (.inl ((s61.1 ++ [(Ref09Cell.mk 32 style 0)]), (IntKind.i64.wrap (s61.2 + 1))))) else some (.inr s61.1)))) (([] : List Ref09Cell), 0)) fun e87 => some (Ref09Row.mk e87 false))

noncomputable def p_ref09_mend (l : List Ref09Cell) : Option Ref09Row :=
  (Option.bind (iter (σ := Int × (List Ref09Cell)) (ρ := (List Ref09Cell)) (fun s287 => (bif (decide (s287.1 < (l.length : Int))) then (Option.bind (idx l s287.1) fun x510 => (Option.bind ((bif (x510.part == 1) then (bif ((IntKind.i64.wrap (s287.1 + 1)) == (l.length : Int)) then some true else (Option.bind (idx l (IntKind.i64.wrap (s287.1 + 1))) fun x552 => some (x552.part != 2))) else (bif (x510.part == 2) then (bif (s287.1 == 0) then some true else (Option.bind (idx s287.2 (IntKind.i64.wrap (s287.1 - 1))) fun x558 => some (x558.part != 1))) else (bif (x510.part == 3) then some (decide (s287.1 < (IntKind.i64.wrap ((l.length : Int) - 1)))) else some false))) : Option Bool) fun e547 => (Option.bind ((bif e547 then some (Ref09Cell.mk 32 x510.style 0) else some x510) : Option Ref09Cell) fun e567 => (Option.bind (chk (apok s287.2.length [e567].length 24)) fun _ => some (.inl ((IntKind.i64.wrap (s287.1 + 1)), (s287.2 ++ [e567]))))))) else some (.inr s287.2))) (0, ([] : List Ref09Cell))) fun e432 => some (Ref09Row.mk e432 false))

noncomputable def p_ref09_Put (r_ : Ref09Row) (at_ : Int) (x_ : Int) (style : Int) : Option Ref09Row :=
  (Option.bind (p_ref06_Of x_) fun r3 => (Option.bind ((bif (r3 == 0) then some true else (bif (decide (at_ < 0)) then some true else some (decide (at_ > (IntKind.i64.wrap ((r_.l.length : Int) - r3)))))) : Option Bool) fun e11 => (bif e11 then (Option.bind (p_ref09_mend r_.l) fun r24 => some r24) else (Option.bind (chk (apok ([] : List Ref09Cell).length r_.l.length 24)) fun _ => (Option.bind (idx (([] : List Ref09Cell) ++ r_.l) at_) fun x37 => (Option.bind ((bif (r3 == 2) then (Option.bind (idx ((([] : List Ref09Cell) ++ r_.l).set at_.toNat (Ref09Cell.mk x_ style 0)) at_) fun x115 => (Option.bind (idx (((([] : List Ref09Cell) ++ r_.l).set at_.toNat (Ref09Cell.mk x_ style 0)).set at_.toNat (Ref09Cell.mk x_ style 1)) (IntKind.i64.wrap (at_ + 1))) fun x119 => (Option.bind ((bif (decide (at_ > 0)) then (Option.bind (idx ((((([] : List Ref09Cell) ++ r_.l).set at_.toNat (Ref09Cell.mk x_ style 0)).set at_.toNat (Ref09Cell.mk x_ style 1)).set ((IntKind.i64.wrap (at_ + 1)).toNat) (Ref09Cell.mk x_ style 2)) (IntKind.i64.wrap (at_ - 1))) fun x136 => some (x136.part == 1)) else some false) : Option Bool) fun e132 => (bif e132 then (Option.bind (idx ((((([] : List Ref09Cell) ++ r_.l).set at_.toNat (Ref09Cell.mk x_ style 0)).set at_.toNat (Ref09Cell.mk x_ style 1)).set ((IntKind.i64.wrap (at_ + 1)).toNat) (Ref09Cell.mk x_ style 2)) (IntKind.i64.wrap (at_ - 1))) fun x140 => (Option.bind (idx ((((([] : List Ref09Cell) ++ r_.l).set at_.toNat (Ref09Cell.mk x_ style 0)).set at_.toNat (Ref09Cell.mk x_ style 1)).set ((IntKind.i64.wrap (at_ + 1)).toNat) (Ref09Cell.mk x_ style 2)) (IntKind.i64.wrap (at_ - 1))) fun x143 => some (((((([] : List Ref09Cell) ++ r_.l).set at_.toNat (Ref09Cell.mk x_ style 0)).set at_.toNat (Ref09Cell.mk x_ style 1)).set ((IntKind.i64.wrap (at_ + 1)).toNat) (Ref09Cell.mk x_ style 2)).set ((IntKind.i64.wrap (at_ - 1)).toNat) (Ref09Cell.mk 32 x140.style 0)))) else some ((((([] : List Ref09Cell) ++ r_.l).set at_.toNat (Ref09Cell.mk x_ style 0)).set at_.toNat (Ref09Cell.mk x_ style 1)).set ((IntKind.i64.wrap (at_ + 1)).toNat) (Ref09Cell.mk x_ style 2)))))) else some ((([] : List Ref09Cell) ++ r_.l).set at_.toNat (Ref09Cell.mk x_ style 0))) : Option (List Ref09Cell)) fun e111 => (Option.bind (p_ref09_mend e111) fun r148 => some r148)))))))

noncomputable def p_ref09_Erase (r_ : Ref09Row) (from_ : Int) (to : Int) (style : Int) : Option Ref09Row :=
  (Option.bind (chk (apok ([] : List Ref09Cell).length r_.l.length 24)) fun _ => (Option.bind (iter (σ := Int × (List Ref09Cell)) (ρ := (List Ref09Cell)) (fun s117 => (bif (decide (s117.1 < ((([] : List Ref09Cell) ++ r_.l).length : Int))) then (Option.bind ((Option.bind ((bif (decide (s117.1 ≥ from_)) then some (decide (s117.1 < to)) else some false) : Option Bool) fun e214 => (bif e214 then (Option.bind (idx s117.2 s117.1) fun x219 => some (s117.2.set s117.1.toNat (Ref09Cell.mk 32 style 0))) else some s117.2)) : Option (List Ref09Cell)) fun e208 => some (.inl ((IntKind.i64.wrap (s117.1 + 1)), e208))) else some (.inr s117.2))) (0, (([] : List Ref09Cell) ++ r_.l))) fun e169 => (Option.bind (p_ref09_mend e169) fun r226 => some r226)))

noncomputable def p_ref09_Insert (r_ : Ref09Row) (at_ : Int) (n_ : Int) (style : Int) : Option Ref09Row :=
  (Option.bind ((bif (decide (at_ < 0)) then some true else (bif (decide (at_ ≥ (r_.l.length : Int))) then some true else some (decide (n_ ≤ 0)))) : Option Bool) fun e8 => (bif e8 then (Option.bind (p_ref09_mend r_.l) fun r21 => some r21) else (Option.bind (chk (cutok 0 at_ r_.l.length)) fun _ => (Option.bind (chk (apok ([] : List Ref09Cell).length (cut r_.l 0 at_).length 24)) fun _ => (Option.bind (p_ref09_Blank (imin n_ (IntKind.i64.wrap ((r_.l.length : Int) - at_))) style) fun r39 => (Option.bind (chk (apok (([] : List Ref09Cell) ++ (cut r_.l 0 at_)).length r39.l.length 24)) fun _ => (Option.bind (chk (cutok at_ (IntKind.i64.wrap ((r_.l.length : Int) - (imin n_ (IntKind.i64.wrap ((r_.l.length : Int) - at_))))) r_.l.length)) fun _ => (Option.bind (chk (apok ((([] : List Ref09Cell) ++ (cut r_.l 0 at_)) ++ r39.l).length (cut r_.l at_ (IntKind.i64.wrap ((r_.l.length : Int) - (imin n_ (IntKind.i64.wrap ((r_.l.length : Int) - at_)))))).length 24)) fun _ => (Option.bind (p_ref09_mend (((([] : List Ref09Cell) ++ (cut r_.l 0 at_)) ++ r39.l) ++ (cut r_.l at_ (IntKind.i64.wrap ((r_.l.length : Int) - (imin n_ (IntKind.i64.wrap ((r_.l.length : Int) - at_)))))))) fun r61 => some r61)))))))))

noncomputable def p_ref09_Delete (r_ : Ref09Row) (at_ : Int) (n_ : Int) (style : Int) : Option Ref09Row :=
  (Option.bind ((bif (decide (at_ < 0)) then some true else (bif (decide (at_ ≥ (r_.l.length : Int))) then some true else some (decide (n_ ≤ 0)))) : Option Bool) fun e8 => (bif e8 then (Option.bind (p_ref09_mend r_.l) fun r21 => some r21) else (Option.bind (chk (cutok 0 at_ r_.l.length)) fun _ => (Option.bind (chk (apok ([] : List Ref09Cell).length (cut r_.l 0 at_).length 24)) fun _ => (Option.bind (chk (cutok (IntKind.i64.wrap (at_ + (imin n_ (IntKind.i64.wrap ((r_.l.length : Int) - at_))))) (r_.l.length : Int) r_.l.length)) fun _ => (Option.bind (chk (apok (([] : List Ref09Cell) ++ (cut r_.l 0 at_)).length (cut r_.l (IntKind.i64.wrap (at_ + (imin n_ (IntKind.i64.wrap ((r_.l.length : Int) - at_))))) (r_.l.length : Int)).length 24)) fun _ => (Option.bind (p_ref09_Blank (imin n_ (IntKind.i64.wrap ((r_.l.length : Int) - at_))) style) fun r49 => (Option.bind (chk (apok ((([] : List Ref09Cell) ++ (cut r_.l 0 at_)) ++ (cut r_.l (IntKind.i64.wrap (at_ + (imin n_ (IntKind.i64.wrap ((r_.l.length : Int) - at_))))) (r_.l.length : Int))).length r49.l.length 24)) fun _ => (Option.bind (p_ref09_mend (((([] : List Ref09Cell) ++ (cut r_.l 0 at_)) ++ (cut r_.l (IntKind.i64.wrap (at_ + (imin n_ (IntKind.i64.wrap ((r_.l.length : Int) - at_))))) (r_.l.length : Int))) ++ r49.l)) fun r61 => some r61)))))))))

noncomputable def p_ref09_Fill (r_ : Ref09Row) (style : Int) : Option Ref09Row :=
  (Option.bind (chk (apok ([] : List Ref09Cell).length r_.l.length 24)) fun _ => (Option.bind ((bif (decide (((([] : List Ref09Cell) ++ r_.l).length : Int) > 0)) then (Option.bind (idx (([] : List Ref09Cell) ++ r_.l) (IntKind.i64.wrap (((([] : List Ref09Cell) ++ r_.l).length : Int) - 1))) fun x30 => some ((([] : List Ref09Cell) ++ r_.l).set ((IntKind.i64.wrap (((([] : List Ref09Cell) ++ r_.l).length : Int) - 1)).toNat) (Ref09Cell.mk 32 style 3))) else some (([] : List Ref09Cell) ++ r_.l)) : Option (List Ref09Cell)) fun e26 => (Option.bind (p_ref09_mend e26) fun r37 => some (Ref09Row.mk r37.l true))))

noncomputable def p_ref09_Resize (r_ : Ref09Row) (w : Int) : Option Ref09Row :=
  (Option.bind (p_ref09_near w 0 1000) fun r3 => (bif (r3 == (r_.l.length : Int)) then some r_ else (Option.bind (chk (cutok 0 (imin r3 (r_.l.length : Int)) r_.l.length)) fun _ => (Option.bind (chk (apok ([] : List Ref09Cell).length (cut r_.l 0 (imin r3 (r_.l.length : Int))).length 24)) fun _ => (Option.bind (p_ref09_Blank (IntKind.i64.wrap (r3 - ((([] : List Ref09Cell) ++ (cut r_.l 0 (imin r3 (r_.l.length : Int)))).length : Int))) 0) fun r20 => (Option.bind (chk (apok (([] : List Ref09Cell) ++ (cut r_.l 0 (imin r3 (r_.l.length : Int)))).length r20.l.length 24)) fun _ => (Option.bind (p_ref09_mend ((([] : List Ref09Cell) ++ (cut r_.l 0 (imin r3 (r_.l.length : Int)))) ++ r20.l)) fun r32 => some r32)))))))

noncomputable def p_ref09_Glyphs (r_ : Ref09Row) : Option (List Ref09Glyph) :=
  (Option.bind (iter (σ := Int) (ρ := Int) (fun s71 => (Option.bind ((bif (decide (s71 > 0)) then (bif (!r_.wrapped) then (Option.bind (idx r_.l (IntKind.i64.wrap (s71 - 1))) fun x137 => some ((x137.rune == 32) && ((x137.style == 0) && ((x137.part == 0) && true)))) else some false) else some false) : Option Bool) fun e132 => (bif e132 then some (.inl (IntKind.i64.wrap (s71 - 1))) else some (.inr s71)))) (r_.l.length : Int)) fun e106 => (Option.bind (chk (cutok 0 e106 r_.l.length)) fun _ => (Option.bind (iter (σ := Int × (List Ref09Glyph)) (ρ := (List Ref09Glyph)) (fun s330 => (bif (decide (s330.1 < ((cut r_.l 0 e106).length : Int))) then (Option.bind ((Option.bind (idx (cut r_.l 0 e106) s330.1) fun x480 => (Option.bind ((bif (x480.part == 0) then some true else some (x480.part == 1)) : Option Bool) fun e491 => (bif e491 then (Option.bind (chk (apok s330.2.length [(Ref09Glyph.mk x480.rune x480.style)].length 16)) fun _ => some (s330.2 ++ [(Ref09Glyph.mk x480.rune x480.style)])) else some s330.2))) : Option (List Ref09Glyph)) fun e477 => some (.inl ((IntKind.i64.wrap (s330.1 + 1)), e477))) else some (.inr s330.2))) (0, ([] : List Ref09Glyph))) fun e416 => some e416)))
end Go.Tw.X

set_option linter.unusedVariables false
set_option linter.unusedSimpArgs false
set_option maxRecDepth 10000
namespace Go.Tw.X
open Go Go.Tw
noncomputable def p_law09_Is (r_ : RowRow) (x_ : Ref09Row) : Option Bool :=
  (Option.bind ((bif ((r_.cells.length : Int) != (x_.l.length : Int)) then some true else some (!(r_.wrapped == x_.wrapped))) : Option Bool) fun e6 => (bif e6 then some false else (Option.bind (iter (σ := Int) (ρ := Unit ⊕ Bool) (fun s479 => (bif (decide (s479 < (r_.cells.length : Int))) then (Option.bind (idx r_.cells s479) fun x837 => (Option.bind ((Option.bind (idx x_.l s479) fun x934 => (bif ((IntKind.i64.wrap x837.rune) != x934.rune) then some true else (Option.bind (idx x_.l s479) fun x942 => (bif (x837.style != x942.style) then some true else (Option.bind (idx x_.l s479) fun x947 => some (x837.part != x947.part)))))) : Option Bool) fun e914 => (bif e914 then (inrr (some false)) else some (.inl (IntKind.i64.wrap (s479 + 1)))))) else some (.inr (.inl ())))) 0) fun | .inl e712 => some true | .inr w => some w)))

end Go.Tw.X

set_option linter.unusedVariables false
set_option linter.unusedSimpArgs false
set_option maxRecDepth 10000
namespace Go.Tw.X
open Go Go.Tw

noncomputable def p_ref05_Encode (r_ : Int) : Option ByteArray :=
  (Option.bind ((bif (decide (r_ < 0)) then some true else (bif (decide (r_ > 1114111)) then some true else (bif (decide (r_ ≥ 55296)) then some (decide (r_ ≤ 57343)) else some false))) : Option Bool) fun e8 => (Option.bind ((bif e8 then some 65533 else some r_) : Option Int) fun e17 => (bif (decide (e17 < 128)) then some (bstr [(IntKind.u8.wrap e17)]) else (bif (decide (e17 < 2048)) then some (bstr [(IntKind.u8.wrap (IntKind.i64.wrap (192 + (IntKind.i64.wrap (e17.tdiv 64))))), (IntKind.u8.wrap (IntKind.i64.wrap (128 + (e17.tmod 64))))]) else (bif (decide (e17 < 65536)) then some (bstr [(IntKind.u8.wrap (IntKind.i64.wrap (224 + (IntKind.i64.wrap (e17.tdiv 4096))))), (IntKind.u8.wrap (IntKind.i64.wrap (128 + ((IntKind.i64.wrap (e17.tdiv 64)).tmod 64)))), (IntKind.u8.wrap (IntKind.i64.wrap (128 + (e17.tmod 64))))]) else some (bstr [(IntKind.u8.wrap (IntKind.i64.wrap (240 + (IntKind.i64.wrap (e17.tdiv 262144))))), (IntKind.u8.wrap (IntKind.i64.wrap (128 + ((IntKind.i64.wrap (e17.tdiv 4096)).tmod 64)))), (IntKind.u8.wrap (IntKind.i64.wrap (128 + ((IntKind.i64.wrap (e17.tdiv 64)).tmod 64)))), (IntKind.u8.wrap (IntKind.i64.wrap (128 + (e17.tmod 64))))]))))))

noncomputable def p_ref05_need (b : Int) : Option (Int × Int × Int) :=
  (Option.bind ((bif (decide (b ≥ 194)) then some (decide (b ≤ 223)) else some false) : Option Bool) fun e4 => (bif e4 then some (1, 128, 191) else (bif (b == 224) then some (2, 160, 191) else (bif (b == 237) then some (2, 128, 159) else (Option.bind ((bif (decide (b ≥ 225)) then some (decide (b ≤ 239)) else some false) : Option Bool) fun e17 => (bif e17 then some (2, 128, 191) else (bif (b == 240) then some (3, 144, 191) else (bif (b == 244) then some (3, 128, 143) else (Option.bind ((bif (decide (b ≥ 241)) then some (decide (b ≤ 243)) else some false) : Option Bool) fun e30 => (bif e30 then some (3, 128, 191) else some (0, 0, 0)))))))))))

noncomputable def p_ref05_Runes (s_ : ByteArray) : Option ((List Int) × Int) :=
  (Option.bind (iter (σ := (List Int) × Int) (ρ := (List Int) ⊕ ((List Int) × Int)) (fun s460 => (bif (decide (s460.2 < (s_.size : Int))) then (Option.bind (sidx s_ s460.2) fun b696 => (bif (decide ((IntKind.i64.wrap b696) < 128)) then (Option.bind (chk (apok s460.1.length [(IntKind.i64.wrap b696)].length 8)) fun _ => some (.inl ((s460.1 ++ [(IntKind.i64.wrap b696)]), (IntKind.i64.wrap (s460.2 + 1))))) else (Option.bind (p_ref05_need (IntKind.i64.wrap b696)) fun r717 => (bif (r717.1 == 0) then (Option.bind (chk (apok s460.1.length [65533].length 8)) fun _ => some (.inl ((s460.1 ++ [65533]), (IntKind.i64.wrap (s460.2 + 1))))) else (Option.bind (idx [0, 32, 16, 8] r717.1) fun x740 => (Option.bind (chk (decide (x740 ≠ 0))) fun _ => (Option.bind (iter (σ := Int × Int × Int × Int) (ρ := Int × Int) (fun s799 => (Option.bind ((bif (decide (s799.2.1 ≤ r717.1)) then some (decide ((IntKind.i64.wrap (s460.2 + s799.2.1)) < (s_.size : Int))) else some false) : Option Bool) fun e833 => (bif e833 then (Option.bind (sidx s_ (IntKind.i64.wrap (s460.2 + s799.2.1))) fun b839 => (Option.bind ((bif (decide ((IntKind.i64.wrap b839) < s799.2.2.1)) then some true else some (decide ((IntKind.i64.wrap b839) > s799.2.2.2))) : Option Bool) fun e845 => (bif e845 then some (.inr (s799.1, s799.2.1)) else some (.inl ((IntKind.i64.wrap ((IntKind.i64.wrap (s799.1 * 64)) + ((IntKind.i64.wrap b839).tmod 64))), (IntKind.i64.wrap (s799.2.1 + 1)), 128, 191))))) else some (.inr (s799.1, s799.2.1))))) (((IntKind.i64.wrap b696).tmod x740), 1, r717.2.1, r717.2.2)) fun e823 => (Option.bind ((bif (decide (e823.2 > r717.1)) then (Option.bind (chk (apok s460.1.length [e823.1].length 8)) fun _ => some (.inl (s460.1 ++ [e823.1]))) else (bif ((IntKind.i64.wrap (s460.2 + e823.2)) == (s_.size : Int)) then (inrs (inrr (some (s460.1, e823.2)))) else (Option.bind (chk (apok s460.1.length [65533].length 8)) fun _ => some (.inl (s460.1 ++ [65533]))))) : Option ((List Int) ⊕ (((List Int) × Int) ⊕ ((List Int) ⊕ ((List Int) × Int))))) fun | .inl e891 => some (.inl (e891, (IntKind.i64.wrap (s460.2 + e823.2)))) | .inr w => some w)))))))) else some (.inr (.inl s460.1)))) (([] : List Int), 0)) fun | .inl e686 => some (e686, 0) | .inr w => some w)
end Go.Tw.X

set_option linter.unusedVariables false
set_option linter.unusedSimpArgs false
set_option maxRecDepth 10000
namespace Go.Tw.X
open Go Go.Tw
structure Ref10Grid where
  w : Int
  l : List Ref09Row
  deriving DecidableEq, Inhabited

noncomputable def p_ref10_size (n_ : Int) : Option Int :=
  some (imax 1 (imin n_ 1000))

noncomputable def p_ref10_New (w : Int) (h_ : Int) : Option Ref10Grid :=
  (Option.bind (p_ref10_size w) fun r2 => (Option.bind (iter (σ := Ref10Grid × Int) (ρ := Ref10Grid) (fun s147 => (Option.bind (p_ref10_size h_) fun r220 => (bif (decide (s147.2 < r220)) then (Option.bind (p_ref09_Blank s147.1.w 0) fun r267 => (Option.bind (chk (apok s147.1.l.length [r267].length 32)) fun _ => some (.inl ((Ref10Grid.mk s147.1.w (s147.1.l ++ [r267])), (IntKind.i64.wrap (s147.2 + 1)))))) else some (.inr s147.1)))) ((Ref10Grid.mk r2 ([] : List Ref09Row)), 0)) fun e213 => some e213))

noncomputable def p_ref10_Set (g : Ref10Grid) (y : Int) (r_ : Ref09Row) : Option (Ref10Grid × Bool) :=
  (Option.bind ((bif (decide (y < 0)) then some true else some (decide (y ≥ (g.l.length : Int)))) : Option Bool) fun e7 => (bif e7 then some (g, false) else (Option.bind (chk (apok ([] : List Ref09Row).length g.l.length 32)) fun _ => (Option.bind (p_ref09_Resize r_ g.w) fun r20 => (Option.bind (idx (([] : List Ref09Row) ++ g.l) y) fun x26 => some ((Ref10Grid.mk g.w ((([] : List Ref09Row) ++ g.l).set y.toNat r20)), true))))))

noncomputable def p_ref10_Move (g : Ref10Grid) (up : Bool) (top : Int) (bottom : Int) (n_ : Int) (style : Int) : Option (Ref10Grid × (List Ref09Row)) :=
  (bif (decide ((imax 0 (imin bottom (IntKind.i64.wrap ((g.l.length : Int) - 1)))) < (imax 0 (imin top (IntKind.i64.wrap ((g.l.length : Int) - 1)))))) then some (g, ([] : List Ref09Row)) else (Option.bind (chk (apok ([] : List Ref09Row).length g.l.length 32)) fun _ => (Option.bind (p_ref09_Blank g.w style) fun r14 => (Option.bind (iter (σ := (List Ref09Row) × (List Ref09Row) × Int) (ρ := (List Ref09Row) × (List Ref09Row)) (fun s1608 => (Option.bind ((bif (decide (s1608.2.2 < n_)) then some (decide (s1608.2.2 ≤ (IntKind.i64.wrap ((imax 0 (imin bottom (IntKind.i64.wrap ((g.l.length : Int) - 1)))) - (imax 0 (imin top (IntKind.i64.wrap ((g.l.length : Int) - 1)))))))) else some false) : Option Bool) fun e2408 => (bif e2408 then (Option.bind ((bif up then (Option.bind (idx s1608.2.1 (imax 0 (imin top (IntKind.i64.wrap ((g.l.length : Int) - 1))))) fun x2934 => (Option.bind (chk (apok s1608.1.length [x2934].length 32)) fun _ => (Option.bind (iter (σ := (List Ref09Row) × Int) (ρ := (List Ref09Row)) (fun s3003 => (bif (decide (s3003.2 < (imax 0 (imin bottom (IntKind.i64.wrap ((g.l.length : Int) - 1)))))) then (Option.bind (idx s3003.1 (IntKind.i64.wrap (s3003.2 + 1))) fun x3047 => (Option.bind (idx s3003.1 s3003.2) fun x3053 => some (.inl ((s3003.1.set s3003.2.toNat x3047), (IntKind.i64.wrap (s3003.2 + 1)))))) else some (.inr s3003.1))) (s1608.2.1, (imax 0 (imin top (IntKind.i64.wrap ((g.l.length : Int) - 1)))))) fun e3028 => (Option.bind (idx e3028 (imax 0 (imin bottom (IntKind.i64.wrap ((g.l.length : Int) - 1))))) fun x3057 => some ((s1608.1 ++ [x2934]), (e3028.set ((imax 0 (imin bottom (IntKind.i64.wrap ((g.l.length : Int) - 1)))).toNat) r14)))))) else (Option.bind (idx s1608.2.1 (imax 0 (imin bottom (IntKind.i64.wrap ((g.l.length : Int) - 1))))) fun x3061 => (Option.bind (chk (apok s1608.1.length [x3061].length 32)) fun _ => (Option.bind (iter (σ := (List Ref09Row) × Int) (ρ := (List Ref09Row)) (fun s3130 => (bif (decide (s3130.2 > (imax 0 (imin top (IntKind.i64.wrap ((g.l.length : Int) - 1)))))) then (Option.bind (idx s3130.1 (IntKind.i64.wrap (s3130.2 - 1))) fun x3174 => (Option.bind (idx s3130.1 s3130.2) fun x3180 => some (.inl ((s3130.1.set s3130.2.toNat x3174), (IntKind.i64.wrap (s3130.2 - 1)))))) else some (.inr s3130.1))) (s1608.2.1, (imax 0 (imin bottom (IntKind.i64.wrap ((g.l.length : Int) - 1)))))) fun e3155 => (Option.bind (idx e3155 (imax 0 (imin top (IntKind.i64.wrap ((g.l.length : Int) - 1))))) fun x3184 => some ((s1608.1 ++ [x3061]), (e3155.set ((imax 0 (imin top (IntKind.i64.wrap ((g.l.length : Int) - 1)))).toNat) r14))))))) : Option ((List Ref09Row) × (List Ref09Row))) fun e2930 => some (.inl (e2930.1, e2930.2, (IntKind.i64.wrap (s1608.2.2 + 1))))) else some (.inr (s1608.1, s1608.2.1))))) (([] : List Ref09Row), (([] : List Ref09Row) ++ g.l), 0)) fun e2398 => some ((Ref10Grid.mk g.w e2398.2), e2398.1)))))

noncomputable def p_ref10_Resize (g : Ref10Grid) (w : Int) (h_ : Int) (off : Int) : Option (Ref10Grid × (List Ref09Row)) :=
  (Option.bind (p_ref10_size w) fun r3 => (Option.bind (iter (σ := Ref10Grid × Int) (ρ := Ref10Grid) (fun s520 => (Option.bind (p_ref10_size h_) fun r775 => (bif (decide (s520.2 < r775)) then (Option.bind ((bif (decide ((IntKind.i64.wrap ((imax 0 (imin off (IntKind.i64.wrap ((g.l.length : Int) - 1)))) + s520.2)) < (g.l.length : Int))) then (Option.bind (idx g.l (IntKind.i64.wrap ((imax 0 (imin off (IntKind.i64.wrap ((g.l.length : Int) - 1)))) + s520.2))) fun x966 => (Option.bind (p_ref09_Resize x966 s520.1.w) fun r976 => (Option.bind (chk (apok s520.1.l.length [r976].length 32)) fun _ => some (Ref10Grid.mk s520.1.w (s520.1.l ++ [r976]))))) else (Option.bind (p_ref09_Blank s520.1.w 0) fun r1004 => (Option.bind (chk (apok s520.1.l.length [r1004].length 32)) fun _ => some (Ref10Grid.mk s520.1.w (s520.1.l ++ [r1004]))))) : Option Ref10Grid) fun e938 => some (.inl (e938, (IntKind.i64.wrap (s520.2 + 1))))) else some (.inr s520.1)))) ((Ref10Grid.mk r3 ([] : List Ref09Row)), 0)) fun e768 => (Option.bind (chk (cutok 0 (imax 0 (imin off (IntKind.i64.wrap ((g.l.length : Int) - 1)))) g.l.length)) fun _ => some (e768, (cut g.l 0 (imax 0 (imin off (IntKind.i64.wrap ((g.l.length : Int) - 1)))))))))

noncomputable def p_ref10_Text (r_ : Ref09Row) : Option ByteArray :=
  (Option.bind (p_ref09_Glyphs r_) fun r2 => (Option.bind (iter (σ := ByteArray × Int) (ρ := ByteArray) (fun s62 => (bif (decide (s62.2 < (r2.length : Int))) then (Option.bind (idx r2 s62.2) fun x108 => (Option.bind (p_ref05_Encode x108.rune) fun r114 => (Option.bind (chk (sadd s62.1.size r114.size)) fun _ => some (.inl ((s62.1 ++ r114), (IntKind.i64.wrap (s62.2 + 1))))))) else some (.inr s62.1))) ((ByteArray.mk #[]), 0)) fun e88 => some e88))
end Go.Tw.X

set_option linter.unusedVariables false
set_option linter.unusedSimpArgs false
set_option maxRecDepth 10000
namespace Go.Tw.X
open Go Go.Tw
noncomputable def p_law10_Rows (l : List RowRow) (x_ : List Ref09Row) : Option Bool :=
  (bif ((l.length : Int) != (x_.length : Int)) then some false else (Option.bind (iter (σ := Int) (ρ := Unit ⊕ Bool) (fun s382 => (bif (decide (s382 < (x_.length : Int))) then (Option.bind (idx l s382) fun x743 => (Option.bind (idx x_ s382) fun x753 => (Option.bind (p_law09_Is x743 x753) fun r763 => (bif (!r763) then (inrr (some false)) else some (.inl (IntKind.i64.wrap (s382 + 1))))))) else some (.inr (.inl ())))) 0) fun | .inl e571 => some true | .inr w => some w))

noncomputable def p_law10_Is (g : GridGrid) (x_ : Ref10Grid) : Option (Bool × GridGrid) :=
  (Option.bind (p_grid_Grid_Size g) fun r2 => (Option.bind (p_grid_Grid_Text g) fun r5 => (Option.bind ((bif (r2.1 != x_.w) then some (true, g) else (bif (r2.2 != (x_.l.length : Int)) then some (true, g) else (Option.bind (p_grid_Grid_Rows g) fun r154 => (Option.bind (p_law10_Rows r154.1 x_.l) fun r161 => (bif (!r161) then some (true, r154.2) else (bif ((r5.length : Int) != r2.2) then some (true, r154.2) else (Option.bind (p_grid_Grid_Row r154.2 (-1)) fun r166 => (bif ((r166.cells.length : Int) != 0) then some (true, r154.2) else (Option.bind (p_grid_Grid_Row r154.2 r2.2) fun r173 => some (((r173.cells.length : Int) != 0), r154.2)))))))))) : Option (Bool × GridGrid)) fun e122 => (bif e122.1 then some (false, e122.2) else (Option.bind (iter (σ := Int) (ρ := Unit ⊕ (Bool × GridGrid)) (fun s684 => (bif (decide (s684 < (x_.l.length : Int))) then (Option.bind (idx x_.l s684) fun x1069 => (Option.bind ((Option.bind (p_grid_Grid_Row e122.2 s684) fun r1174 => (Option.bind (p_law09_Is r1174 x1069) fun r1180 => (bif (!r1180) then some true else (Option.bind (idx r5 s684) fun x1184 => (Option.bind (p_ref10_Text x1069) fun r1189 => some (!(x1184.toList == r1189.toList))))))) : Option Bool) fun e1153 => (bif e1153 then (inrr (some (false, e122.2))) else some (.inl (IntKind.i64.wrap (s684 + 1)))))) else some (.inr (.inl ())))) 0) fun | .inl e935 => some (true, e122.2) | .inr w => some w)))))

end Go.Tw.X

set_option linter.unusedVariables false
set_option linter.unusedSimpArgs false
set_option maxRecDepth 10000
namespace Go.Tw.X
open Go Go.Tw
structure Ref07Action where
  kind : Int
  rune : Int
  byte : Int
  private_ : Bool
  nums : List Int
  text : ByteArray
  deriving DecidableEq, Inhabited

def wfRef07Action (x : Ref07Action) : Prop := (inK .i64) x.kind ∧ (inK .i64) x.rune ∧ (inK .i64) x.byte ∧ (fun _ => True) x.private_ ∧ (fun xs : List Int => ∀ x ∈ xs, (inK .i64) x) x.nums ∧ (fun s : ByteArray => s.size ≤ maxLen) x.text ∧ True
noncomputable def p_ref07_prints (l : List Int) : Option (List Ref07Action) :=
  (Option.bind (iter (σ := (List Ref07Action) × Int) (ρ := (List Ref07Action)) (fun s86 => (bif (decide (s86.2 < (l.length : Int))) then (Option.bind (idx l s86.2) fun x150 => (Option.bind (chk (apok s86.1.length ([(Ref07Action.mk 1 x150 0 false ([] : List Int) (ByteArray.mk #[]))]).length 72)) fun _ => some (.inl ((s86.1 ++ [(Ref07Action.mk 1 x150 0 false ([] : List Int) (ByteArray.mk #[]))]), (IntKind.i64.wrap (s86.2 + 1)))))) else some (.inr s86.1))) (([] : List Ref07Action), 0)) fun e125 => some e125)

noncomputable def p_ref07_Titles (s_ : ByteArray) : Option (List Ref07Action) :=
  (Option.bind ((bif (decide ((s_.size : Int) > 200)) then (Option.bind (chk (cutok 0 200 s_.size)) fun _ => some (scut s_ 0 200)) else some s_) : Option ByteArray) fun e8 => (Option.bind ((bif (decide ((e8.size : Int) > 1)) then (Option.bind (sidx e8 0) fun b49 => (bif (b49 == 48) then (Option.bind (sidx e8 1) fun b53 => some (b53 == 59)) else (Option.bind (sidx e8 0) fun b56 => (bif (b56 == 50) then (Option.bind (sidx e8 1) fun b60 => some (b60 == 59)) else some false)))) else some false) : Option Bool) fun e45 => (bif e45 then (Option.bind (chk (cutok 2 (e8.size : Int) e8.size)) fun _ => some ([(Ref07Action.mk 5 0 0 false ([] : List Int) (scut e8 2 (e8.size : Int)))])) else some ([] : List Ref07Action))))

noncomputable def p_ref07_Order (s_ : ByteArray) (last : Int) : Option (List Ref07Action) :=
  (Option.bind ((bif (!(s_.toList == (ByteArray.mk #[]).toList)) then (Option.bind (sidx s_ 0) fun b15 => some (b15 == 63)) else some false) : Option Bool) fun e11 => (Option.bind ((bif e11 then (Option.bind (chk (cutok 1 (s_.size : Int) s_.size)) fun _ => some ((scut s_ 1 (s_.size : Int)), (Ref07Action.mk 4 0 last true ([] : List Int) (ByteArray.mk #[])))) else some (s_, (Ref07Action.mk 4 0 last false ([] : List Int) (ByteArray.mk #[])))) : Option (ByteArray × Ref07Action)) fun e29 => (bif (e29.1.toList == (ByteArray.mk #[]).toList) then some [e29.2] else (Option.bind (iter (σ := Ref07Action × Int × Int) (ρ := Ref07Action ⊕ (List Ref07Action)) (fun s689 => (bif (decide (s689.2.2 ≤ (e29.1.size : Int))) then (Option.bind ((Option.bind ((bif (decide (s689.2.2 < (e29.1.size : Int))) then (Option.bind (sidx e29.1 s689.2.2) fun b1247 => (bif (decide (b1247 ≥ 48)) then (Option.bind (sidx e29.1 s689.2.2) fun b1251 => some (decide (b1251 ≤ 57))) else some false)) else some false) : Option Bool) fun e1243 => (bif e1243 then (Option.bind (sidx e29.1 s689.2.2) fun b1259 => some (.inl ((imin 9999 (IntKind.i64.wrap ((IntKind.i64.wrap ((IntKind.i64.wrap (10 * s689.2.1)) + (IntKind.i64.wrap b1259))) - 48))), s689.1))) else (Option.bind ((bif (decide (s689.2.2 < (e29.1.size : Int))) then (Option.bind (sidx e29.1 s689.2.2) fun b1283 => (bif (b1283 != 59) then (Option.bind (sidx e29.1 s689.2.2) fun b1287 => some (b1287 != 58)) else some false)) else some false) : Option Bool) fun e1279 => (bif e1279 then (inrs (inrr (some ([] : List Ref07Action)))) else (Option.bind ((bif (decide ((s689.1.nums.length : Int) < 16)) then (Option.bind (chk (apok s689.1.nums.length [s689.2.1].length 8)) fun _ => some (Ref07Action.mk s689.1.kind s689.1.rune s689.1.byte s689.1.private_ (s689.1.nums ++ [s689.2.1]) s689.1.text)) else some s689.1) : Option Ref07Action) fun e1319 => some (.inl (0, e1319))))))) : Option ((Int × Ref07Action) ⊕ ((Ref07Action × Int × Int) ⊕ (Ref07Action ⊕ (List Ref07Action))))) fun | .inl e1222 => some (.inl (e1222.2, e1222.1, (IntKind.i64.wrap (s689.2.2 + 1)))) | .inr w => some w) else some (.inr (.inl s689.1)))) (e29.2, 0, 0)) fun | .inl e1007 => some [e1007] | .inr w => some w))))

noncomputable def p_ref07_Read (s_ : ByteArray) : Option (List Ref07Action) :=
  (Option.bind (iter (σ := (List Ref07Action) × Int × Int × ByteArray) (ρ := (List Ref07Action) ⊕ (List Ref07Action)) (fun s1946 => (bif (decide (s1946.2.2.1 < (s_.size : Int))) then (Option.bind ((bif (s1946.2.1 == 0) then (Option.bind (iter (σ := Int) (ρ := Int) (fun s3381 => (Option.bind ((bif (decide (s3381 < (s_.size : Int))) then (Option.bind (sidx s_ s3381) fun b3441 => (bif (decide (b3441 ≥ 32)) then (Option.bind (sidx s_ s3381) fun b3445 => some (b3445 != 127)) else some false)) else some false) : Option Bool) fun e3437 => (bif e3437 then some (.inl (IntKind.i64.wrap (s3381 + 1))) else some (.inr s3381)))) s1946.2.2.1) fun e3413 => (Option.bind (chk (cutok s1946.2.2.1 e3413 s_.size)) fun _ => (Option.bind (p_ref05_Runes (scut s_ s1946.2.2.1 e3413)) fun r3452 => (Option.bind (p_ref07_prints r3452.1) fun r3459 => (Option.bind (chk (apok s1946.1.length r3459.length 72)) fun _ => (bif (e3413 == (s_.size : Int)) then (inrs (inrr (some (s1946.1 ++ r3459)))) else (Option.bind ((bif (decide (r3452.2 > 0)) then (Option.bind (chk (apok (s1946.1 ++ r3459).length ([(Ref07Action.mk 1 65533 0 false ([] : List Int) (ByteArray.mk #[]))]).length 72)) fun _ => some ((s1946.1 ++ r3459) ++ [(Ref07Action.mk 1 65533 0 false ([] : List Int) (ByteArray.mk #[]))])) else some (s1946.1 ++ r3459)) : Option (List Ref07Action)) fun e3501 => some (.inl (e3501, e3413))))))))) else some (.inl (s1946.1, s1946.2.2.1))) : Option (((List Ref07Action) × Int) ⊕ (((List Ref07Action) × Int × Int × ByteArray) ⊕ ((List Ref07Action) ⊕ (List Ref07Action))))) fun | .inl e3313 => (Option.bind (sidx s_ e3313.2) fun b3514 => (bif (s1946.2.1 == 4) then (Option.bind ((bif ((IntKind.i64.wrap b3514) == 7) then (Option.bind (p_ref07_Titles s1946.2.2.2) fun r3764 => (Option.bind (chk (apok e3313.1.length r3764.length 72)) fun _ => some (.inl ((e3313.1 ++ r3764), 0, (IntKind.i64.wrap (e3313.2 + 1)), s1946.2.2.2)))) else (Option.bind ((bif ((IntKind.i64.wrap b3514) == 24) then some true else some ((IntKind.i64.wrap b3514) == 26)) : Option Bool) fun e3779 => (bif e3779 then some (.inl (e3313.1, 0, (IntKind.i64.wrap (e3313.2 + 1)), s1946.2.2.2)) else (bif ((IntKind.i64.wrap b3514) != 27) then (Option.bind (chk (sadd s1946.2.2.2.size (bstr [(IntKind.u8.wrap (IntKind.i64.wrap b3514))]).size)) fun _ => some (.inl (e3313.1, s1946.2.1, (IntKind.i64.wrap (e3313.2 + 1)), (s1946.2.2.2 ++ (bstr [(IntKind.u8.wrap (IntKind.i64.wrap b3514))]))))) else (bif ((IntKind.i64.wrap (e3313.2 + 1)) == (s_.size : Int)) then (inrs (inrr (some e3313.1))) else (Option.bind (sidx s_ (IntKind.i64.wrap (e3313.2 + 1))) fun b3795 => (bif (b3795 == 92) then (Option.bind (p_ref07_Titles s1946.2.2.2) fun r3799 => (Option.bind (chk (apok e3313.1.length r3799.length 72)) fun _ => some (.inl ((e3313.1 ++ r3799), 0, (IntKind.i64.wrap ((IntKind.i64.wrap (e3313.2 + 1)) + 1)), s1946.2.2.2)))) else some (.inl (e3313.1, 1, (IntKind.i64.wrap (e3313.2 + 1)), s1946.2.2.2))))))))) : Option (((List Ref07Action) × Int × Int × ByteArray) ⊕ (((List Ref07Action) × Int × Int × ByteArray) ⊕ ((List Ref07Action) ⊕ (List Ref07Action))))) fun | .inl e3759 => some (.inl (e3759.1, e3759.2.1, e3759.2.2.1, e3759.2.2.2)) | .inr w => some w) else (Option.bind ((bif ((IntKind.i64.wrap b3514) == 24) then some true else some ((IntKind.i64.wrap b3514) == 26)) : Option Bool) fun e3814 => (bif e3814 then some (.inl (e3313.1, 0, (IntKind.i64.wrap (e3313.2 + 1)), s1946.2.2.2)) else (bif ((IntKind.i64.wrap b3514) == 27) then some (.inl (e3313.1, 1, (IntKind.i64.wrap (e3313.2 + 1)), s1946.2.2.2)) else (bif (decide ((IntKind.i64.wrap b3514) < 32)) then (Option.bind (chk (apok e3313.1.length ([(Ref07Action.mk 2 0 (IntKind.i64.wrap b3514) false ([] : List Int) (ByteArray.mk #[]))]).length 72)) fun _ => some (.inl ((e3313.1 ++ [(Ref07Action.mk 2 0 (IntKind.i64.wrap b3514) false ([] : List Int) (ByteArray.mk #[]))]), s1946.2.1, (IntKind.i64.wrap (e3313.2 + 1)), s1946.2.2.2))) else (bif ((IntKind.i64.wrap b3514) == 127) then some (.inl (e3313.1, s1946.2.1, (IntKind.i64.wrap (e3313.2 + 1)), s1946.2.2.2)) else (bif (s1946.2.1 == 1) then (bif ((IntKind.i64.wrap b3514) == 91) then some (.inl (e3313.1, 3, (IntKind.i64.wrap (e3313.2 + 1)), (ByteArray.mk #[]))) else (bif ((IntKind.i64.wrap b3514) == 93) then some (.inl (e3313.1, 4, (IntKind.i64.wrap (e3313.2 + 1)), (ByteArray.mk #[]))) else (bif (decide ((IntKind.i64.wrap b3514) < 48)) then some (.inl (e3313.1, 2, (IntKind.i64.wrap (e3313.2 + 1)), (ByteArray.mk #[]))) else (bif (decide ((IntKind.i64.wrap b3514) < 127)) then (Option.bind (chk (apok e3313.1.length ([(Ref07Action.mk 3 0 (IntKind.i64.wrap b3514) false ([] : List Int) (ByteArray.mk #[]))]).length 72)) fun _ => some (.inl ((e3313.1 ++ [(Ref07Action.mk 3 0 (IntKind.i64.wrap b3514) false ([] : List Int) (ByteArray.mk #[]))]), 0, (IntKind.i64.wrap (e3313.2 + 1)), (ByteArray.mk #[])))) else some (.inl (e3313.1, 0, (IntKind.i64.wrap (e3313.2 + 1)), (ByteArray.mk #[]))))))) else (bif (s1946.2.1 == 2) then (bif (decide ((IntKind.i64.wrap b3514) ≥ 48)) then some (.inl (e3313.1, 0, (IntKind.i64.wrap (e3313.2 + 1)), s1946.2.2.2)) else some (.inl (e3313.1, s1946.2.1, (IntKind.i64.wrap (e3313.2 + 1)), s1946.2.2.2))) else (bif (s1946.2.1 == 3) then (Option.bind ((bif (decide ((IntKind.i64.wrap b3514) < 64)) then some true else some (decide ((IntKind.i64.wrap b3514) > 126))) : Option Bool) fun e3864 => (bif e3864 then (Option.bind (chk (sadd s1946.2.2.2.size (bstr [(IntKind.u8.wrap (IntKind.i64.wrap b3514))]).size)) fun _ => some (.inl (e3313.1, s1946.2.1, (IntKind.i64.wrap (e3313.2 + 1)), (s1946.2.2.2 ++ (bstr [(IntKind.u8.wrap (IntKind.i64.wrap b3514))]))))) else (Option.bind (p_ref07_Order s1946.2.2.2 (IntKind.i64.wrap b3514)) fun r3873 => (Option.bind (chk (apok e3313.1.length r3873.length 72)) fun _ => some (.inl ((e3313.1 ++ r3873), 0, (IntKind.i64.wrap (e3313.2 + 1)), s1946.2.2.2)))))) else some (.inl (e3313.1, s1946.2.1, (IntKind.i64.wrap (e3313.2 + 1)), s1946.2.2.2)))))))))))) | .inr w => some w) else some (.inr (.inl s1946.1)))) (([] : List Ref07Action), 0, 0, (ByteArray.mk #[]))) fun | .inl e2912 => some e2912 | .inr w => some w)
end Go.Tw.X

set_option linter.unusedVariables false
set_option linter.unusedSimpArgs false
set_option maxRecDepth 10000
namespace Go.Tw.X
open Go Go.Tw
structure Ref08Style where
  fore : Int
  back : Int
  bold : Bool
  under : Bool
  inverse : Bool
  deriving DecidableEq, Inhabited

noncomputable def p_ref08_May (s_ : Ref08Style) : Option Bool :=
  (Option.bind ((bif (decide (s_.fore ≥ 0)) then (bif (decide (s_.fore ≤ 8)) then (bif (decide (s_.back ≥ 0)) then some (decide (s_.back ≤ 8)) else some false) else some false) else some false) : Option Bool) fun e9 => some e9)

noncomputable def p_ref08_Num (s_ : Ref08Style) : Option Int :=
  (Option.bind (p_ref08_May s_) fun r2 => (bif (!r2) then some 0 else (Option.bind ((bif s_.bold then some (IntKind.i64.wrap ((IntKind.i64.wrap (s_.fore + (IntKind.i64.wrap (9 * s_.back)))) + 81)) else some (IntKind.i64.wrap (s_.fore + (IntKind.i64.wrap (9 * s_.back))))) : Option Int) fun e10 => (Option.bind ((bif s_.under then some (IntKind.i64.wrap (e10 + 162)) else some e10) : Option Int) fun e17 => (Option.bind ((bif s_.inverse then some (IntKind.i64.wrap (e17 + 324)) else some e17) : Option Int) fun e24 => some e24)))))

noncomputable def p_ref08_Set (s_ : Ref08Style) (l : List Int) : Option Ref08Style :=
  (bif ((l.length : Int) == 0) then some (Ref08Style.mk 0 0 false false false) else (Option.bind (iter (σ := Ref08Style × Int × Int) (ρ := Ref08Style) (fun s1270 => (bif (decide (s1270.2.1 < (l.length : Int))) then (Option.bind ((Option.bind (idx l s1270.2.1) fun x2328 => (bif (decide (s1270.2.2 > 0)) then some ((IntKind.i64.wrap (s1270.2.2 - 1)), s1270.1) else (Option.bind ((bif (x2328 == 38) then some true else some (x2328 == 48)) : Option Bool) fun e2340 => (bif e2340 then (Option.bind ((bif (decide ((IntKind.i64.wrap (s1270.2.1 + 1)) < (l.length : Int))) then (Option.bind (idx l (IntKind.i64.wrap (s1270.2.1 + 1))) fun x2413 => some (x2413 == 5)) else some false) : Option Bool) fun e2409 => (Option.bind ((bif e2409 then some 2 else some s1270.2.2) : Option Int) fun e2420 => (Option.bind ((bif (decide ((IntKind.i64.wrap (s1270.2.1 + 1)) < (l.length : Int))) then (Option.bind (idx l (IntKind.i64.wrap (s1270.2.1 + 1))) fun x2439 => some (x2439 == 2)) else some false) : Option Bool) fun e2435 => (Option.bind ((bif e2435 then some 4 else some e2420) : Option Int) fun e2446 => some (e2446, s1270.1))))) else (Option.bind ((bif (x2328 == 0) then some (Ref08Style.mk 0 0 false false false) else some s1270.1) : Option Ref08Style) fun e2453 => (Option.bind ((bif (x2328 == 1) then some true else some (x2328 == 22)) : Option Bool) fun e2460 => (Option.bind ((bif e2460 then some (Ref08Style.mk e2453.fore e2453.back (decide (x2328 < 10)) e2453.under e2453.inverse) else some e2453) : Option Ref08Style) fun e2467 => (Option.bind ((bif (x2328 == 4) then some true else some (x2328 == 24)) : Option Bool) fun e2474 => (Option.bind ((bif e2474 then some (Ref08Style.mk e2467.fore e2467.back e2467.bold (decide (x2328 < 10)) e2467.inverse) else some e2467) : Option Ref08Style) fun e2481 => (Option.bind ((bif (x2328 == 7) then some true else some (x2328 == 27)) : Option Bool) fun e2488 => (Option.bind ((bif e2488 then some (Ref08Style.mk e2481.fore e2481.back e2481.bold e2481.under (decide (x2328 < 10))) else some e2481) : Option Ref08Style) fun e2495 => (Option.bind ((bif (decide (x2328 ≥ 30)) then some (decide (x2328 ≤ 37)) else some false) : Option Bool) fun e2502 => (Option.bind ((bif e2502 then some (Ref08Style.mk (IntKind.i64.wrap (x2328 - 29)) e2495.back e2495.bold e2495.under e2495.inverse) else some e2495) : Option Ref08Style) fun e2509 => (Option.bind ((bif (x2328 == 39) then some (Ref08Style.mk 0 e2509.back e2509.bold e2509.under e2509.inverse) else some e2509) : Option Ref08Style) fun e2516 => (Option.bind ((bif (decide (x2328 ≥ 40)) then some (decide (x2328 ≤ 47)) else some false) : Option Bool) fun e2523 => (Option.bind ((bif e2523 then some (Ref08Style.mk e2516.fore (IntKind.i64.wrap (x2328 - 39)) e2516.bold e2516.under e2516.inverse) else some e2516) : Option Ref08Style) fun e2530 => (bif (x2328 == 49) then some (s1270.2.2, (Ref08Style.mk e2530.fore 0 e2530.bold e2530.under e2530.inverse)) else some (s1270.2.2, e2530)))))))))))))))))) : Option (Int × Ref08Style)) fun e2325 => some (.inl (e2325.2, (IntKind.i64.wrap (s1270.2.1 + 1)), e2325.1))) else some (.inr s1270.1))) (s_, 0, 0)) fun e1900 => some e1900))
end Go.Tw.X

set_option linter.unusedVariables false
set_option linter.unusedSimpArgs false
set_option maxRecDepth 10000
namespace Go.Tw.X
open Go Go.Tw
structure Ref11Screen where
  g : Ref10Grid
  x : Int
  y : Int
  s : Ref08Style
  sX : Int
  sY : Int
  sS : Ref08Style
  waiting : Bool
  top : Int
  bottom : Int
  wraps : Bool
  title : ByteArray
  deriving DecidableEq, Inhabited

noncomputable def p_ref11_New (w : Int) (h_ : Int) : Option Ref11Screen :=
  (Option.bind (p_ref10_New w h_) fun r2 => some (Ref11Screen.mk r2 0 0 (Ref08Style.mk 0 0 false false false) 0 0 (Ref08Style.mk 0 0 false false false) false 0 (IntKind.i64.wrap ((r2.l.length : Int) - 1)) true (ByteArray.mk #[])))

noncomputable def p_ref11_set (s_ : Ref11Screen) (r_ : Ref09Row) : Option Ref11Screen :=
  (Option.bind (p_ref10_Set s_.g s_.y r_) fun r4 => some (Ref11Screen.mk r4.1 s_.x s_.y s_.s s_.sX s_.sY s_.sS s_.waiting s_.top s_.bottom s_.wraps s_.title))

noncomputable def p_ref11_scroll (s_ : Ref11Screen) (n_ : Int) : Option (Ref11Screen × (List Ref09Row)) :=
  (Option.bind (p_ref08_Num s_.s) fun r42 => (Option.bind (p_ref10_Move s_.g true s_.top s_.bottom n_ r42) fun r46 => (bif (decide (s_.top > 0)) then some ((Ref11Screen.mk r46.1 s_.x s_.y s_.s s_.sX s_.sY s_.sS s_.waiting s_.top s_.bottom s_.wraps s_.title), ([] : List Ref09Row)) else some ((Ref11Screen.mk r46.1 s_.x s_.y s_.s s_.sX s_.sY s_.sS s_.waiting s_.top s_.bottom s_.wraps s_.title), r46.2))))

noncomputable def p_ref11_place (s_ : Ref11Screen) (x_ : Int) (y : Int) : Option Ref11Screen :=
  some (Ref11Screen.mk s_.g (imax 0 (imin x_ (IntKind.i64.wrap (s_.g.w - 1)))) (imax 0 (imin y (IntKind.i64.wrap ((s_.g.l.length : Int) - 1)))) s_.s s_.sX s_.sY s_.sS false s_.top s_.bottom s_.wraps s_.title)

noncomputable def p_ref11_line (s_ : Ref11Screen) : Option (Ref11Screen × (List Ref09Row)) :=
  (bif (s_.y == s_.bottom) then (Option.bind (p_ref11_scroll (Ref11Screen.mk s_.g s_.x s_.y s_.s s_.sX s_.sY s_.sS false s_.top s_.bottom s_.wraps s_.title) 1) fun r14 => some (r14.1, r14.2)) else (Option.bind (p_ref11_place (Ref11Screen.mk s_.g s_.x s_.y s_.s s_.sX s_.sY s_.sS false s_.top s_.bottom s_.wraps s_.title) s_.x (IntKind.i64.wrap (s_.y + 1))) fun r23 => some (r23, ([] : List Ref09Row))))

noncomputable def p_ref11_show (s_ : Ref11Screen) (r_ : Int) : Option (Ref11Screen × (List Ref09Row)) :=
  (Option.bind (p_ref06_Of r_) fun r3 => (Option.bind ((bif (r3 == 0) then some true else some (decide (r3 > s_.g.w))) : Option Bool) fun e9 => (bif e9 then some (s_, ([] : List Ref09Row)) else (Option.bind (p_ref08_Num s_.s) fun r16 => (Option.bind ((bif s_.waiting then some s_.wraps else some false) : Option Bool) fun e24 => (Option.bind ((bif e24 then (Option.bind (idx s_.g.l s_.y) fun x108 => (Option.bind (p_ref11_set s_ (Ref09Row.mk x108.l true)) fun r119 => (Option.bind (p_ref11_line (Ref11Screen.mk r119.g 0 r119.y r119.s r119.sX r119.sY r119.sS r119.waiting r119.top r119.bottom r119.wraps r119.title)) fun r125 => (Option.bind (chk (apok ([] : List Ref09Row).length r125.2.length 32)) fun _ => some ((([] : List Ref09Row) ++ r125.2), r125.1))))) else some (([] : List Ref09Row), s_)) : Option ((List Ref09Row) × Ref11Screen)) fun e104 => (Option.bind ((bif (r3 == 2) then some (e104.2.x == (IntKind.i64.wrap (e104.2.g.w - 1))) else some false) : Option Bool) fun e144 => (Option.bind ((bif e144 then (bif e104.2.wraps then (Option.bind (idx e104.2.g.l e104.2.y) fun x439 => (Option.bind (p_ref09_Fill x439 r16) fun r449 => (Option.bind (p_ref11_set e104.2 r449) fun r455 => (Option.bind (p_ref11_line (Ref11Screen.mk r455.g 0 r455.y r455.s r455.sX r455.sY r455.sS r455.waiting r455.top r455.bottom r455.wraps r455.title)) fun r461 => (Option.bind (chk (apok e104.1.length r461.2.length 32)) fun _ => some ((e104.1 ++ r461.2), r461.1)))))) else some (e104.1, (Ref11Screen.mk e104.2.g (IntKind.i64.wrap (e104.2.x - 1)) e104.2.y e104.2.s e104.2.sX e104.2.sY e104.2.sS e104.2.waiting e104.2.top e104.2.bottom e104.2.wraps e104.2.title))) else some (e104.1, e104.2)) : Option ((List Ref09Row) × Ref11Screen)) fun e368 => (Option.bind (idx e368.2.g.l e368.2.y) fun x543 => (Option.bind (p_ref09_Put x543 e368.2.x r_ r16) fun r553 => (Option.bind (p_ref11_set e368.2 r553) fun r559 => (Option.bind ((bif ((IntKind.i64.wrap (r559.x + r3)) == r559.g.w) then some (Ref11Screen.mk r559.g (IntKind.i64.wrap ((IntKind.i64.wrap (r559.x + r3)) - 1)) r559.y r559.s r559.sX r559.sY r559.sS ((IntKind.i64.wrap (r559.x + r3)) == r559.g.w) r559.top r559.bottom r559.wraps r559.title) else some (Ref11Screen.mk r559.g (IntKind.i64.wrap (r559.x + r3)) r559.y r559.s r559.sX r559.sY r559.sS ((IntKind.i64.wrap (r559.x + r3)) == r559.g.w) r559.top r559.bottom r559.wraps r559.title)) : Option Ref11Screen) fun e569 => some (e569, e368.1)))))))))))))

noncomputable def p_ref11_num (l : List Int) (i : Int) (d : Int) : Option Int :=
  (Option.bind ((bif (decide (i < (l.length : Int))) then (Option.bind (idx l i) fun x22 => some (decide (x22 > 0))) else some false) : Option Bool) fun e18 => (bif e18 then (Option.bind (idx l i) fun x38 => some (imin x38 9999)) else some d))

noncomputable def p_ref11_erase (s_ : Ref11Screen) (y : Int) (from_ : Int) (to : Int) : Option Ref11Screen :=
  (Option.bind (idx s_.g.l y) fun x78 => (Option.bind (p_ref08_Num s_.s) fun r88 => (Option.bind (p_ref09_Erase x78 from_ to r88) fun r91 => (Option.bind (p_ref10_Set s_.g y r91) fun r97 => some (Ref11Screen.mk r97.1 s_.x s_.y s_.s s_.sX s_.sY s_.sS s_.waiting s_.top s_.bottom s_.wraps s_.title)))))

noncomputable def p_ref11_clear (s_ : Ref11Screen) (n_ : Int) (all : Bool) : Option Ref11Screen :=
  (bif (decide (n_ > 2)) then some s_ else (Option.bind (iter (σ := Ref11Screen × Int) (ρ := Ref11Screen) (fun s194 => (bif (decide (s194.2 < (s_.g.l.length : Int))) then (Option.bind ((Option.bind ((bif all then (bif (decide (s194.2 < s194.1.y)) then (bif (n_ != 0) then some true else (bif (decide (s194.2 > s194.1.y)) then some (n_ != 1) else some false)) else (bif (decide (s194.2 > s194.1.y)) then some (n_ != 1) else some false)) else some false) : Option Bool) fun e365 => (bif e365 then (Option.bind (p_ref11_erase s194.1 s194.2 0 s194.1.g.w) fun r374 => some r374) else some s194.1)) : Option Ref11Screen) fun e351 => some (.inl (e351, (IntKind.i64.wrap (s194.2 + 1))))) else some (.inr s194.1))) (s_, 0)) fun e286 => (Option.bind ((bif (n_ == 0) then some e286.x else some 0) : Option Int) fun e383 => (Option.bind ((bif (n_ == 1) then some (IntKind.i64.wrap (e286.x + 1)) else some e286.g.w) : Option Int) fun e390 => (Option.bind (p_ref11_erase e286 e286.y e383 e390) fun r394 => some (Ref11Screen.mk r394.g r394.x r394.y r394.s r394.sX r394.sY r394.sS false r394.top r394.bottom r394.wraps r394.title))))))

noncomputable def p_ref11_Command (s_ : Ref11Screen) (b : Int) (l : List Int) : Option (Ref11Screen × (List Ref09Row)) :=
  (Option.bind (p_ref11_num l 0 1) fun r3 => (Option.bind (p_ref08_Num s_.s) fun r6 => (Option.bind ((Option.bind ((bif (b == 65) then some (b == 65) else some (b == 70)) : Option Bool) fun e760 => (bif e760 then (Option.bind ((bif (decide (s_.y ≥ s_.top)) then some s_.top else some 0) : Option Int) fun e768 => (Option.bind (p_ref11_place s_ s_.x (imax e768 (IntKind.i64.wrap (s_.y - r3)))) fun r772 => (bif (b == 70) then some (.inl (Ref11Screen.mk r772.g 0 r772.y r772.s r772.sX r772.sY r772.sS r772.waiting r772.top r772.bottom r772.wraps r772.title)) else some (.inl r772)))) else (Option.bind ((bif (b == 66) then some (b == 66) else some (b == 69)) : Option Bool) fun e780 => (bif e780 then (Option.bind ((bif (decide (s_.y ≤ s_.bottom)) then some s_.bottom else some (IntKind.i64.wrap ((s_.g.l.length : Int) - 1))) : Option Int) fun e788 => (Option.bind (p_ref11_place s_ s_.x (imin e788 (IntKind.i64.wrap (s_.y + r3)))) fun r792 => (bif (b == 69) then some (.inl (Ref11Screen.mk r792.g 0 r792.y r792.s r792.sX r792.sY r792.sS r792.waiting r792.top r792.bottom r792.wraps r792.title)) else some (.inl r792)))) else (bif (b == 67) then (Option.bind (p_ref11_place s_ (IntKind.i64.wrap (s_.x + r3)) s_.y) fun r798 => some (.inl r798)) else (bif (b == 68) then (Option.bind (p_ref11_place s_ (IntKind.i64.wrap (s_.x - r3)) s_.y) fun r803 => some (.inl r803)) else (bif (b == 71) then (Option.bind (p_ref11_place s_ (IntKind.i64.wrap (r3 - 1)) s_.y) fun r808 => some (.inl r808)) else (bif (b == 100) then (Option.bind (p_ref11_place s_ s_.x (IntKind.i64.wrap (r3 - 1))) fun r813 => some (.inl r813)) else (Option.bind ((bif (b == 72) then some (b == 72) else some (b == 102)) : Option Bool) fun e820 => (bif e820 then (Option.bind (p_ref11_num l 1 1) fun r832 => (Option.bind (p_ref11_place s_ (IntKind.i64.wrap (r832 - 1)) (IntKind.i64.wrap (r3 - 1))) fun r835 => some (.inl r835))) else (bif (b == 74) then (Option.bind (p_ref11_num l 0 0) fun r849 => (Option.bind (p_ref11_clear s_ r849 true) fun r852 => some (.inl r852))) else (bif (b == 75) then (Option.bind (p_ref11_num l 0 0) fun r868 => (Option.bind (p_ref11_clear s_ r868 false) fun r871 => some (.inl r871))) else (bif (b == 88) then (Option.bind (p_ref11_erase s_ s_.y s_.x (IntKind.i64.wrap (s_.x + r3))) fun r878 => some (.inl (Ref11Screen.mk r878.g r878.x r878.y r878.s r878.sX r878.sY r878.sS false r878.top r878.bottom r878.wraps r878.title))) else (bif (b == 64) then (Option.bind (idx s_.g.l s_.y) fun x951 => (Option.bind (p_ref09_Insert x951 s_.x r3 r6) fun r961 => (Option.bind (p_ref11_set s_ r961) fun r967 => some (.inl (Ref11Screen.mk r967.g r967.x r967.y r967.s r967.sX r967.sY r967.sS false r967.top r967.bottom r967.wraps r967.title))))) else (bif (b == 80) then (Option.bind (idx s_.g.l s_.y) fun x1040 => (Option.bind (p_ref09_Delete x1040 s_.x r3 r6) fun r1050 => (Option.bind (p_ref11_set s_ r1050) fun r1056 => some (.inl (Ref11Screen.mk r1056.g r1056.x r1056.y r1056.s r1056.sX r1056.sY r1056.sS false r1056.top r1056.bottom r1056.wraps r1056.title))))) else (Option.bind ((bif (b == 76) then some (b == 76) else some (b == 77)) : Option Bool) fun e1065 => (bif e1065 then (Option.bind ((bif (decide (s_.y ≥ s_.top)) then some (decide (s_.y ≤ s_.bottom)) else some false) : Option Bool) fun e1073 => (bif e1073 then (Option.bind (p_ref10_Move s_.g (b == 77) s_.y s_.bottom r3 r6) fun r1078 => (Option.bind (p_ref11_place (Ref11Screen.mk r1078.1 s_.x s_.y s_.s s_.sX s_.sY s_.sS s_.waiting s_.top s_.bottom s_.wraps s_.title) 0 s_.y) fun r1087 => some (.inl r1087))) else some (.inl s_))) else (bif (b == 83) then (Option.bind (p_ref11_scroll (Ref11Screen.mk s_.g s_.x s_.y s_.s s_.sX s_.sY s_.sS false s_.top s_.bottom s_.wraps s_.title) r3) fun r1092 => (inrs (some (r1092.1, r1092.2)))) else (bif (b == 84) then (Option.bind (p_ref10_Move s_.g false s_.top s_.bottom r3 r6) fun r1104 => some (.inl (Ref11Screen.mk r1104.1 s_.x s_.y s_.s s_.sX s_.sY s_.sS false s_.top s_.bottom s_.wraps s_.title))) else (bif (b == 109) then (Option.bind (p_ref08_Set s_.s l) fun r1114 => some (.inl (Ref11Screen.mk s_.g s_.x s_.y r1114 s_.sX s_.sY s_.sS s_.waiting s_.top s_.bottom s_.wraps s_.title))) else (bif (b == 114) then (Option.bind (p_ref11_num l 0 1) fun r1118 => (Option.bind (p_ref11_num l 1 (s_.g.l.length : Int)) fun r1121 => (bif (decide ((IntKind.i64.wrap ((imax 1 (imin r1118 (s_.g.l.length : Int))) - 1)) < (IntKind.i64.wrap ((imax 1 (imin r1121 (s_.g.l.length : Int))) - 1)))) then (Option.bind (p_ref11_place (Ref11Screen.mk s_.g s_.x s_.y s_.s s_.sX s_.sY s_.sS s_.waiting (IntKind.i64.wrap ((imax 1 (imin r1118 (s_.g.l.length : Int))) - 1)) (IntKind.i64.wrap ((imax 1 (imin r1121 (s_.g.l.length : Int))) - 1)) s_.wraps s_.title) 0 0) fun r1125 => some (.inl r1125)) else some (.inl s_)))) else some (.inl s_)))))))))))))))))))))) : Option (Ref11Screen ⊕ (Ref11Screen × (List Ref09Row)))) fun | .inl e753 => some (e753, ([] : List Ref09Row)) | .inr w => some w)))

noncomputable def p_ref11_Do (s_ : Ref11Screen) (a : Ref07Action) : Option (Ref11Screen × (List Ref09Row)) :=
  (Option.bind ((bif (a.kind == 1) then (Option.bind (p_ref11_show s_ a.rune) fun r461 => (inrs (some (r461.1, r461.2)))) else (bif (a.kind == 2) then (bif (a.byte == 8) then (Option.bind (p_ref11_place s_ (IntKind.i64.wrap (s_.x - 1)) s_.y) fun r474 => (inrs (some (r474, ([] : List Ref09Row))))) else (bif (a.byte == 9) then (Option.bind (p_ref11_place s_ (IntKind.i64.wrap ((IntKind.i64.wrap ((IntKind.i64.wrap (s_.x.tdiv 8)) * 8)) + 8)) s_.y) fun r482 => (inrs (some (r482, ([] : List Ref09Row))))) else (Option.bind ((bif (a.byte == 10) then some (a.byte == 10) else (bif (a.byte == 11) then some (a.byte == 11) else some (a.byte == 12))) : Option Bool) fun e494 => (bif e494 then (Option.bind (p_ref11_line s_) fun r500 => (inrs (some (r500.1, r500.2)))) else (bif (a.byte == 13) then (Option.bind (p_ref11_place s_ 0 s_.y) fun r512 => (inrs (some (r512, ([] : List Ref09Row))))) else some (.inl s_)))))) else (bif (a.kind == 3) then (bif (a.byte == 68) then (Option.bind (p_ref11_line s_) fun r521 => (inrs (some (r521.1, r521.2)))) else (bif (a.byte == 69) then (Option.bind (p_ref11_line (Ref11Screen.mk s_.g 0 s_.y s_.s s_.sX s_.sY s_.sS s_.waiting s_.top s_.bottom s_.wraps s_.title)) fun r533 => (inrs (some (r533.1, r533.2)))) else (bif (a.byte == 77) then (bif (s_.y == s_.top) then (Option.bind (p_ref08_Num s_.s) fun r631 => (Option.bind (p_ref10_Move s_.g false s_.top s_.bottom 1 r631) fun r634 => (inrs (some ((Ref11Screen.mk r634.1 s_.x s_.y s_.s s_.sX s_.sY s_.sS false s_.top s_.bottom s_.wraps s_.title), ([] : List Ref09Row)))))) else (Option.bind (p_ref11_place (Ref11Screen.mk s_.g s_.x s_.y s_.s s_.sX s_.sY s_.sS false s_.top s_.bottom s_.wraps s_.title) s_.x (IntKind.i64.wrap (s_.y - 1))) fun r646 => (inrs (some (r646, ([] : List Ref09Row)))))) else (bif (a.byte == 55) then some (.inl (Ref11Screen.mk s_.g s_.x s_.y s_.s s_.x s_.y s_.s s_.waiting s_.top s_.bottom s_.wraps s_.title)) else (bif (a.byte == 56) then (Option.bind (p_ref11_place (Ref11Screen.mk s_.g s_.x s_.y s_.sS s_.sX s_.sY s_.sS s_.waiting s_.top s_.bottom s_.wraps s_.title) s_.sX s_.sY) fun r655 => (inrs (some (r655, ([] : List Ref09Row))))) else (bif (a.byte == 99) then (Option.bind (p_ref11_New s_.g.w (s_.g.l.length : Int)) fun r663 => (inrs (some (r663, ([] : List Ref09Row))))) else some (.inl s_))))))) else (bif (a.kind == 4) then (bif (!a.private_) then (Option.bind (p_ref11_Command s_ a.byte a.nums) fun r684 => (inrs (some (r684.1, r684.2)))) else (Option.bind ((Option.bind (p_ref11_num a.nums 0 0) fun r709 => (bif (r709 == 7) then (bif (a.byte == 104) then some true else some (a.byte == 108)) else some false)) : Option Bool) fun e706 => (bif e706 then some (.inl (Ref11Screen.mk s_.g s_.x s_.y s_.s s_.sX s_.sY s_.sS s_.waiting s_.top s_.bottom (a.byte == 104) s_.title)) else some (.inl s_)))) else (bif (a.kind == 5) then some (.inl (Ref11Screen.mk s_.g s_.x s_.y s_.s s_.sX s_.sY s_.sS s_.waiting s_.top s_.bottom s_.wraps a.text)) else some (.inl s_)))))) : Option (Ref11Screen ⊕ (Ref11Screen × (List Ref09Row)))) fun | .inl e456 => some (e456, ([] : List Ref09Row)) | .inr w => some w)

noncomputable def p_ref11_Resize (s_ : Ref11Screen) (w : Int) (h_ : Int) : Option (Ref11Screen × (List Ref09Row)) :=
  (Option.bind (p_ref10_Resize s_.g w h_ (imax 0 (IntKind.i64.wrap ((IntKind.i64.wrap (s_.y + 1)) - (imax 1 (imin h_ 1000)))))) fun r3 => (Option.bind (p_ref11_place (Ref11Screen.mk r3.1 s_.x s_.y s_.s s_.sX s_.sY s_.sS s_.waiting 0 (IntKind.i64.wrap ((r3.1.l.length : Int) - 1)) s_.wraps s_.title) s_.x (IntKind.i64.wrap (s_.y - (imax 0 (IntKind.i64.wrap ((IntKind.i64.wrap (s_.y + 1)) - (imax 1 (imin h_ 1000)))))))) fun r13 => some (r13, r3.2)))
end Go.Tw.X

set_option linter.unusedVariables false
set_option linter.unusedSimpArgs false
set_option maxRecDepth 10000
namespace Go.Tw.X
open Go Go.Tw
structure Law11Step where
  kind : Int
  w : Int
  h : Int
  a : Ref07Action
  text : ByteArray
  deriving DecidableEq, Inhabited

def wfLaw11Step (x : Law11Step) : Prop := (inK .i64) x.kind ∧ (inK .i64) x.w ∧ (inK .i64) x.h ∧ wfRef07Action x.a ∧ (fun s : ByteArray => s.size ≤ maxLen) x.text ∧ True
noncomputable def p_law11_awake : Option Bool :=
  (Option.bind (p_screen_New 3 2) fun r1 => (Option.bind (iter (σ := ScreenScreen × Int) (ρ := ScreenScreen ⊕ Bool) (fun s93 => (bif (decide (s93.2 < ([97, 98, 99, 100].length : Int))) then (Option.bind (idx [97, 98, 99, 100] s93.2) fun x156 => (Option.bind (p_screen_Screen_Do s93.1 (SeqAction.mk 1 x156 0 false ([] : List Int) (ByteArray.mk #[]))) fun r160 => (bif ((r160.1.length : Int) != 0) then (inrr (some false)) else some (.inl (r160.2, (IntKind.i64.wrap (s93.2 + 1))))))) else some (.inr (.inl s93.1)))) (r1, 0)) fun | .inl e131 => (Option.bind (p_screen_Screen_Do e131 (SeqAction.mk 2 0 10 false ([] : List Int) (ByteArray.mk #[]))) fun r174 => (Option.bind (p_screen_Screen_Cursor r174.2) fun r184 => (Option.bind ((bif ((r174.1.length : Int) == 1) then (Option.bind (idx r174.1 0) fun x261 => (bif x261.wrapped then (Option.bind (idx r174.1 0) fun x270 => (Option.bind (p_row_Row_Glyphs x270) fun r276 => (bif ((r276.length : Int) == 3) then (bif (r184.1 == 1) then (bif (r184.2 == 1) then (Option.bind (p_screen_Screen_Grid r174.2) fun r285 => some (true, r285.2, r285.2.g)) else some (false, r174.2, r174.2.g)) else some (false, r174.2, r174.2.g)) else some (false, r174.2, r174.2.g)))) else some (false, r174.2, r174.2.g))) else some (false, r174.2, r174.2.g)) : Option (Bool × ScreenScreen × GridGrid)) fun e257 => some e257.1))) | .inr w => some w))

noncomputable def p_law11_Own (a : Ref07Action) : Option SeqAction :=
  (Option.bind (chk (apok ([] : List Int).length a.nums.length 8)) fun _ => some (SeqAction.mk a.kind (IntKind.i32.wrap a.rune) (IntKind.u8.wrap a.byte) a.private_ (([] : List Int) ++ a.nums) a.text))

noncomputable def p_law11_small (n_ : Int) : Option Int :=
  some (imin n_ 14)

noncomputable def p_law11_Do (s_ : ScreenScreen) (x_ : Ref11Screen) (t_ : Law11Step) : Option (Ref11Screen × Bool × ScreenScreen) :=
  (bif (t_.kind == 0) then (Option.bind (chk (cutok 0 (imin (t_.a.nums.length : Int) 18) t_.a.nums.length)) fun _ => (Option.bind (p_law01_Cut t_.a.text 50) fun r292 => (Option.bind (p_ref11_Do x_ (Ref07Action.mk t_.a.kind (IntKind.i64.wrap (IntKind.i32.wrap t_.a.rune)) (IntKind.i64.wrap (IntKind.u8.wrap t_.a.byte)) t_.a.private_ (cut t_.a.nums 0 (imin (t_.a.nums.length : Int) 18)) r292)) fun r295 => (Option.bind (p_law11_Own (Ref07Action.mk t_.a.kind (IntKind.i64.wrap (IntKind.i32.wrap t_.a.rune)) (IntKind.i64.wrap (IntKind.u8.wrap t_.a.byte)) t_.a.private_ (cut t_.a.nums 0 (imin (t_.a.nums.length : Int) 18)) r292)) fun r362 => (Option.bind (p_screen_Screen_Do s_ r362) fun r368 => (Option.bind (p_law10_Rows r368.1 r295.2) fun r378 => some (r295.1, r378, r368.2))))))) else (bif (t_.kind == 1) then (Option.bind (p_law11_small t_.w) fun r430 => (Option.bind (p_law11_small t_.h) fun r433 => (Option.bind (p_ref11_Resize x_ r430 r433) fun r437 => (Option.bind (p_law11_small t_.w) fun r500 => (Option.bind (p_law11_small t_.h) fun r503 => (Option.bind (p_screen_Screen_Resize s_ r500 r503) fun r506 => (Option.bind (p_law10_Rows r506.1 r437.2) fun r515 => some (r437.1, r515, r506.2)))))))) else (Option.bind (p_law01_Cut t_.text 100) fun r518 => (Option.bind (p_ref07_Read r518) fun r521 => (Option.bind (iter (σ := Ref11Screen × ScreenScreen × Int) (ρ := (Ref11Screen × ScreenScreen) ⊕ (Ref11Screen × Bool × ScreenScreen)) (fun s717 => (bif (decide (s717.2.2 < (r521.length : Int))) then (Option.bind (idx r521 s717.2.2) fun x856 => (Option.bind (p_ref11_Do s717.1 x856) fun r865 => (Option.bind (p_law11_Own x856) fun r875 => (Option.bind (p_screen_Screen_Do s717.2.1 r875) fun r881 => (Option.bind (p_law10_Rows r881.1 r865.2) fun r891 => (bif (!r891) then (inrr (some (r865.1, false, r881.2))) else some (.inl (r865.1, r881.2, (IntKind.i64.wrap (s717.2.2 + 1)))))))))) else some (.inr (.inl (s717.1, s717.2.1))))) (x_, s_, 0)) fun | .inl e807 => some (e807.1, true, e807.2) | .inr w => some w)))))

noncomputable def p_law11_Is (s_ : ScreenScreen) (x_ : Ref11Screen) : Option (Bool × ScreenScreen) :=
  (Option.bind (p_screen_Screen_Cursor s_) fun r2 => (Option.bind (p_screen_Screen_Region s_) fun r5 => (Option.bind (p_screen_Screen_Grid s_) fun r8 => (Option.bind ((Option.bind (p_law10_Is r8.1 x_.g) fun r122 => (bif r122.1 then (bif (r2.1 == x_.x) then (bif (r2.2 == x_.y) then (bif (r5.1 == x_.top) then (bif (r5.2 == x_.bottom) then (Option.bind (p_screen_Screen_Waiting r8.2) fun r131 => (bif (r131 == x_.waiting) then (Option.bind (p_screen_Screen_Title r8.2) fun r135 => (bif (r135.toList == x_.title.toList) then (Option.bind (p_screen_Screen_Style r8.2) fun r139 => some (((r139.fore == x_.s.fore) && ((r139.back == x_.s.back) && ((r139.bold == x_.s.bold) && ((r139.under == x_.s.under) && ((r139.inverse == x_.s.inverse) && true))))), r122.2)) else some (false, r122.2))) else some (false, r122.2))) else some (false, r122.2)) else some (false, r122.2)) else some (false, r122.2)) else some (false, r122.2)) else some (false, r122.2))) : Option (Bool × GridGrid)) fun e99 => some (e99.1, r8.2)))))

noncomputable def p_law11_ScreenAnew (w : Int) (h_ : Int) (l : List Law11Step) : Option Bool :=
  (Option.bind p_law11_awake fun r1 => (bif (!r1) then some false else (Option.bind (p_law11_small w) fun r6 => (Option.bind (p_law11_small h_) fun r9 => (Option.bind (p_screen_New r6 r9) fun r12 => (Option.bind (p_law11_small w) fun r20 => (Option.bind (p_law11_small h_) fun r23 => (Option.bind (p_ref11_New r20 r23) fun r26 => (Option.bind (iter (σ := ScreenScreen × Ref11Screen × Int) (ρ := Ref11Screen × ScreenScreen) (fun s241 => (Option.bind ((bif (decide (s241.2.2 < (l.length : Int))) then some (decide (s241.2.2 < 20)) else some false) : Option Bool) fun e350 => (bif e350 then (Option.bind (idx l s241.2.2) fun x416 => (Option.bind (p_law11_Do s241.1 s241.2.1 x416) fun r426 => some (.inl (r426.2.2, r426.1, (IntKind.i64.wrap (s241.2.2 + 1)))))) else some (.inr (s241.2.1, s241.1))))) (r12, r26, 0)) fun e340 => (Option.bind (p_screen_Screen_Do e340.2 (SeqAction.mk 3 0 99 false ([] : List Int) (ByteArray.mk #[]))) fun r437 => (Option.bind ((bif ((r437.1.length : Int) == 0) then (Option.bind (p_ref11_New e340.1.g.w (e340.1.g.l.length : Int)) fun r477 => (Option.bind (p_law11_Is r437.2 r477) fun r483 => some (r483.1, r483.2, r483.2.g))) else some (false, r437.2, r437.2.g)) : Option (Bool × ScreenScreen × GridGrid)) fun e473 => some e473.1)))))))))))

end Go.Tw.X

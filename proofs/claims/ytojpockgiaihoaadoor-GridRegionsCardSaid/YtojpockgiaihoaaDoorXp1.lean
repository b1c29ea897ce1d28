import Derived.Test.YtojpockgiaihoaaDoorFw2
set_option linter.unusedVariables false
set_option linter.unusedSimpArgs false
set_option maxRecDepth 10000
namespace Go.Tw.X
open Go Go.Tw

noncomputable def p_glyph_Encode (l : List Int) : Option ByteArray :=
  (Option.bind (iter (σ := (List Int) × Int) (ρ := (List Int)) (fun s418 => (bif (decide (s418.2 < (l.length : Int))) then (Option.bind ((Option.bind (idx l s418.2) fun x758 => (Option.bind ((bif (decide (x758 < 0)) then some true else (bif (decide (x758 > 1114111)) then some true else (bif (decide (x758 ≥ 55296)) then some (decide (x758 ≤ 57343)) else some false))) : Option Bool) fun e772 => (Option.bind ((bif e772 then some 65533 else some x758) : Option Int) fun e781 => (bif (decide (e781 < 128)) then (Option.bind (chk (apok s418.1.length [(IntKind.u8.wrap e781)].length 1)) fun _ => some (s418.1 ++ [(IntKind.u8.wrap e781)])) else (bif (decide (e781 < 2048)) then (Option.bind (chk (apok s418.1.length [(IntKind.u8.wrap (Go.bits .or .i32 192 (e781.fdiv (2 ^ (min 6 32))))), (IntKind.u8.wrap (Go.bits .or .i32 128 (Go.bits .and .i32 e781 63)))].length 1)) fun _ => some (s418.1 ++ [(IntKind.u8.wrap (Go.bits .or .i32 192 (e781.fdiv (2 ^ (min 6 32))))), (IntKind.u8.wrap (Go.bits .or .i32 128 (Go.bits .and .i32 e781 63)))])) else (bif (decide (e781 < 65536)) then (Option.bind (chk (apok s418.1.length [(IntKind.u8.wrap (Go.bits .or .i32 224 (e781.fdiv (2 ^ (min 12 32))))), (IntKind.u8.wrap (Go.bits .or .i32 128 (Go.bits .and .i32 (e781.fdiv (2 ^ (min 6 32))) 63))), (IntKind.u8.wrap (Go.bits .or .i32 128 (Go.bits .and .i32 e781 63)))].length 1)) fun _ => some (s418.1 ++ [(IntKind.u8.wrap (Go.bits .or .i32 224 (e781.fdiv (2 ^ (min 12 32))))), (IntKind.u8.wrap (Go.bits .or .i32 128 (Go.bits .and .i32 (e781.fdiv (2 ^ (min 6 32))) 63))), (IntKind.u8.wrap (Go.bits .or .i32 128 (Go.bits .and .i32 e781 63)))])) else (Option.bind (chk (apok s418.1.length [(IntKind.u8.wrap (Go.bits .or .i32 240 (e781.fdiv (2 ^ (min 18 32))))), (IntKind.u8.wrap (Go.bits .or .i32 128 (Go.bits .and .i32 (e781.fdiv (2 ^ (min 12 32))) 63))), (IntKind.u8.wrap (Go.bits .or .i32 128 (Go.bits .and .i32 (e781.fdiv (2 ^ (min 6 32))) 63))), (IntKind.u8.wrap (Go.bits .or .i32 128 (Go.bits .and .i32 e781 63)))].length 1)) fun _ => some (s418.1 ++ [(IntKind.u8.wrap (Go.bits .or .i32 240 (e781.fdiv (2 ^ (min 18 32))))), (IntKind.u8.wrap (Go.bits .or .i32 128 (Go.bits .and .i32 (e781.fdiv (2 ^ (min 12 32))) 63))), (IntKind.u8.wrap (Go.bits .or .i32 128 (Go.bits .and .i32 (e781.fdiv (2 ^ (min 6 32))) 63))), (IntKind.u8.wrap (Go.bits .or .i32 128 (Go.bits .and .i32 e781 63)))])))))))) : Option (List Int)) fun e755 => some (.inl (e755, (IntKind.i64.wrap (s418.2 + 1))))) else some (.inr s418.1))) ([], 0)) fun e618 => some (bstr e618))
end Go.Tw.X

set_option linter.unusedVariables false
set_option linter.unusedSimpArgs false
set_option maxRecDepth 10000
namespace Go.Tw.X
open Go Go.Tw
structure Arr2Int where
  e0 : Int
  e1 : Int
  deriving DecidableEq, Inhabited

def wfArr2Int (x : Arr2Int) : Prop := (inK .i64) x.e0 ∧ (inK .i64) x.e1 ∧ True
noncomputable def p_bits_Mul64 (x_ : Int) (y : Int) : Option (Int × Int) :=
  some ((IntKind.u64.wrap ((IntKind.u64.wrap ((IntKind.u64.wrap ((x_.fdiv (2 ^ (min 32 64))) * (y.fdiv (2 ^ (min 32 64))))) + ((IntKind.u64.wrap ((IntKind.u64.wrap ((x_.fdiv (2 ^ (min 32 64))) * (Go.bits .and .u64 y 4294967295))) + ((IntKind.u64.wrap ((Go.bits .and .u64 x_ 4294967295) * (Go.bits .and .u64 y 4294967295))).fdiv (2 ^ (min 32 64))))).fdiv (2 ^ (min 32 64))))) + ((IntKind.u64.wrap ((Go.bits .and .u64 (IntKind.u64.wrap ((IntKind.u64.wrap ((x_.fdiv (2 ^ (min 32 64))) * (Go.bits .and .u64 y 4294967295))) + ((IntKind.u64.wrap ((Go.bits .and .u64 x_ 4294967295) * (Go.bits .and .u64 y 4294967295))).fdiv (2 ^ (min 32 64))))) 4294967295) + (IntKind.u64.wrap ((Go.bits .and .u64 x_ 4294967295) * (y.fdiv (2 ^ (min 32 64))))))).fdiv (2 ^ (min 32 64))))), (IntKind.u64.wrap (x_ * y)))

noncomputable def p_bits_Mul (x_ : Int) (y : Int) : Option (Int × Int) :=
  (Option.bind (p_bits_Mul64 x_ y) fun r1 => some (r1.1, r1.2))
end Go.Tw.X

set_option linter.unusedVariables false
set_option linter.unusedSimpArgs false
set_option maxRecDepth 10000
namespace Go.Tw.X
open Go Go.Tw
structure WideSpan where
  from_ : Int
  to : Int
  deriving DecidableEq, Inhabited

def wfWideSpan (x : WideSpan) : Prop := (inK .i32) x.from_ ∧ (inK .i32) x.to ∧ True
def t_wide_nones : List WideSpan := [⟨(-2147483648), 31⟩, ⟨127, 159⟩, ⟨768, 879⟩, ⟨6832, 6911⟩, ⟨7616, 7679⟩, ⟨8203, 8207⟩, ⟨8400, 8447⟩, ⟨55296, 57343⟩, ⟨65024, 65039⟩, ⟨65056, 65071⟩, ⟨65279, 65279⟩, ⟨917760, 917999⟩, ⟨1114112, 2147483647⟩]
def t_wide_twos : List WideSpan := [⟨4352, 4447⟩, ⟨11904, 12350⟩, ⟨12353, 13311⟩, ⟨13312, 19903⟩, ⟨19968, 40959⟩, ⟨40960, 42191⟩, ⟨44032, 55203⟩, ⟨63744, 64255⟩, ⟨65072, 65135⟩, ⟨65280, 65376⟩, ⟨65504, 65510⟩, ⟨127744, 128591⟩, ⟨129280, 129535⟩, ⟨131072, 262141⟩]
noncomputable def p_wide_in (l : List WideSpan) (r_ : Int) : Option Bool :=
  (Option.bind (iter (σ := Int × Int) (ρ := Int) (fun s27 => (bif (decide (s27.1 < s27.2)) then (Option.bind (idx l (IntKind.i64.wrap ((IntKind.i64.wrap (s27.1 + s27.2)).tdiv 2))) fun x48 => (bif (decide (x48.to < r_)) then some (.inl ((IntKind.i64.wrap ((IntKind.i64.wrap ((IntKind.i64.wrap (s27.1 + s27.2)).tdiv 2)) + 1)), s27.2)) else some (.inl (s27.1, (IntKind.i64.wrap ((IntKind.i64.wrap (s27.1 + s27.2)).tdiv 2)))))) else some (.inr s27.1))) (0, (l.length : Int))) fun e39 => (Option.bind ((bif (decide (e39 < (l.length : Int))) then (Option.bind (idx l e39) fun x77 => some (decide (x77.from_ ≤ r_))) else some false) : Option Bool) fun e73 => some e73))

noncomputable def p_wide_Of (r_ : Int) : Option Int :=
  (Option.bind (p_wide_in t_wide_nones r_) fun r9 => (bif r9 then some 0 else (Option.bind (p_wide_in t_wide_twos r_) fun r13 => (bif r13 then some 2 else some 1))))
end Go.Tw.X

set_option linter.unusedVariables false
set_option linter.unusedSimpArgs false
set_option maxRecDepth 10000
namespace Go.Tw.X
open Go Go.Tw
structure RowCell where
  rune : Int
  style : Int
  part : Int
  deriving DecidableEq, Inhabited

structure RowRow where
  cells : List RowCell
  wrapped : Bool
  deriving DecidableEq, Inhabited

structure RowGlyph where
  rune : Int
  style : Int
  deriving DecidableEq, Inhabited

def wfRowCell (x : RowCell) : Prop := (inK .i32) x.rune ∧ (inK .i64) x.style ∧ (inK .i64) x.part ∧ True
def wfRowRow (x : RowRow) : Prop := (fun xs : List RowCell => ∀ x ∈ xs, wfRowCell x) x.cells ∧ (fun _ => True) x.wrapped ∧ True
def wfRowGlyph (x : RowGlyph) : Prop := (inK .i32) x.rune ∧ (inK .i64) x.style ∧ True
noncomputable def p_row_clip (n_ : Int) (lo : Int) (hi : Int) : Option Int :=
  some (imax lo (imin n_ hi))

noncomputable def p_row_blank (style : Int) : Option RowCell :=
  some (RowCell.mk 32 style 0)

noncomputable def p_slices_Repeat_row_Cell (x_ : List RowCell) (count : Int) : Option (List RowCell) :=
  (bif (decide (count < 0)) then none else (Option.bind (p_bits_Mul (IntKind.u64.wrap (x_.length : Int)) (IntKind.u64.wrap count)) fun r3 => (Option.bind ((bif (decide (r3.1 > 0)) then some true else some (decide (r3.2 > 9223372036854775807))) : Option Bool) fun e9 => (bif e9 then none else (Option.bind (chk (mkok (IntKind.i64.wrap r3.2) 24)) fun _ => (Option.bind (iter (σ := (List RowCell) × Int) (ρ := (List RowCell)) (fun s67 => (bif (decide (s67.2 < (s67.1.length : Int))) then (Option.bind (chk (cutok s67.2 (s67.1.length : Int) s67.1.length)) fun _ => (Option.bind (chk (cutok 0 s67.2 s67.1.length)) fun _ => some (.inl ((cpys s67.1 s67.2.toNat), (IntKind.i64.wrap (s67.2 + ((Nat.min s67.2.toNat (s67.1.length - s67.2.toNat) : Nat) : Int))))))) else some (.inr s67.1))) ((cpy (List.replicate (IntKind.i64.wrap r3.2).toNat (RowCell.mk 0 0 0)) x_), ((Nat.min x_.length (List.replicate (IntKind.i64.wrap r3.2).toNat (RowCell.mk 0 0 0)).length : Nat) : Int))) fun e88 => some e88))))))

noncomputable def p_row_blanks (n_ : Int) (style : Int) : Option (List RowCell) :=
  (Option.bind (p_row_blank style) fun r1 => (Option.bind (p_slices_Repeat_row_Cell [r1] (imax 0 n_)) fun r7 => some r7))

noncomputable def p_row_Blank (w : Int) (style : Int) : Option RowRow :=
  (Option.bind (p_row_clip w 0 1000) fun r2 => (Option.bind (p_row_blanks r2 style) fun r5 => some (RowRow.mk r5 false)))

noncomputable def p_slices_Clone_row_Cell (s_ : List RowCell) : Option (List RowCell) :=
  (Option.bind (chk (apok ([] : List RowCell).length s_.length 24)) fun _ => some (([] : List RowCell) ++ s_))

noncomputable def p_row_Row_cells (r_ : RowRow) : Option (List RowCell) :=
  (Option.bind (p_slices_Clone_row_Cell r_.cells) fun r2 => some r2)

noncomputable def p_row_broken (l : List RowCell) (i : Int) : Option Bool :=
  (Option.bind (idx l i) fun x1 => (bif (x1.part == 1) then (Option.bind ((bif (decide ((IntKind.i64.wrap (i + 1)) ≥ (l.length : Int))) then some true else (Option.bind (idx l (IntKind.i64.wrap (i + 1))) fun x65 => some (x65.part != 2))) : Option Bool) fun e61 => some e61) else (bif (x1.part == 2) then (Option.bind ((bif (i == 0) then some true else (Option.bind (idx l (IntKind.i64.wrap (i - 1))) fun x85 => some (x85.part != 1))) : Option Bool) fun e81 => some e81) else (bif (x1.part == 3) then some (i != (IntKind.i64.wrap ((l.length : Int) - 1))) else some false))))

noncomputable def p_row_mend (l : List RowCell) : Option RowRow :=
  (Option.bind (iter (σ := (List RowCell) × Int) (ρ := (List RowCell)) (fun s121 => (bif (decide (s121.2 < (l.length : Int))) then (Option.bind ((Option.bind (p_row_broken s121.1 s121.2) fun r225 => (bif r225 then (Option.bind (idx s121.1 s121.2) fun x229 => (Option.bind (p_row_blank x229.style) fun r234 => (Option.bind (idx s121.1 s121.2) fun x237 => some (s121.1.set s121.2.toNat r234)))) else some s121.1)) : Option (List RowCell)) fun e222 => some (.inl (e222, (IntKind.i64.wrap (s121.2 + 1))))) else some (.inr s121.1))) (l, 0)) fun e179 => some (RowRow.mk e179 false))

noncomputable def p_row_Row_Put (r_ : RowRow) (at_ : Int) (x_ : Int) (style : Int) : Option RowRow :=
  (Option.bind (p_row_Row_cells r_) fun r3 => (Option.bind (p_wide_Of x_) fun r9 => (Option.bind ((Option.bind ((bif (r9 == 0) then some true else (bif (decide (at_ < 0)) then some true else some (decide (at_ > (IntKind.i64.wrap ((r3.length : Int) - r9)))))) : Option Bool) fun e132 => (bif e132 then some r3 else (bif (r9 == 1) then (Option.bind (idx r3 at_) fun x139 => some (r3.set at_.toNat (RowCell.mk x_ style 0))) else (Option.bind (idx r3 at_) fun x145 => (Option.bind (idx (r3.set at_.toNat (RowCell.mk x_ style 1)) (IntKind.i64.wrap (at_ + 1))) fun x151 => (Option.bind ((bif (decide (at_ > 0)) then (Option.bind (idx ((r3.set at_.toNat (RowCell.mk x_ style 1)).set ((IntKind.i64.wrap (at_ + 1)).toNat) (RowCell.mk x_ style 2)) (IntKind.i64.wrap (at_ - 1))) fun x168 => some (x168.part == 1)) else some false) : Option Bool) fun e164 => (bif e164 then (Option.bind (idx ((r3.set at_.toNat (RowCell.mk x_ style 1)).set ((IntKind.i64.wrap (at_ + 1)).toNat) (RowCell.mk x_ style 2)) (IntKind.i64.wrap (at_ - 1))) fun x172 => (Option.bind (p_row_blank x172.style) fun r175 => (Option.bind (idx ((r3.set at_.toNat (RowCell.mk x_ style 1)).set ((IntKind.i64.wrap (at_ + 1)).toNat) (RowCell.mk x_ style 2)) (IntKind.i64.wrap (at_ - 1))) fun x178 => some (((r3.set at_.toNat (RowCell.mk x_ style 1)).set ((IntKind.i64.wrap (at_ + 1)).toNat) (RowCell.mk x_ style 2)).set ((IntKind.i64.wrap (at_ - 1)).toNat) r175)))) else some ((r3.set at_.toNat (RowCell.mk x_ style 1)).set ((IntKind.i64.wrap (at_ + 1)).toNat) (RowCell.mk x_ style 2))))))))) : Option (List RowCell)) fun e124 => (Option.bind (p_row_mend e124) fun r182 => some r182))))

noncomputable def p_row_Row_Glyphs (r_ : RowRow) : Option (List RowGlyph) :=
  (Option.bind (iter (σ := (List RowCell)) (ρ := (List RowCell)) (fun s180 => (Option.bind ((bif (!r_.wrapped) then (bif (decide ((s180.length : Int) > 0)) then (Option.bind (idx s180 (IntKind.i64.wrap ((s180.length : Int) - 1))) fun x341 => (Option.bind (p_row_blank 0) fun r348 => some ((x341.rune == r348.rune) && ((x341.style == r348.style) && ((x341.part == r348.part) && true))))) else some false) else some false) : Option Bool) fun e324 => (bif e324 then (Option.bind (chk (cutok 0 (IntKind.i64.wrap ((s180.length : Int) - 1)) s180.length)) fun _ => some (.inl (cut s180 0 (IntKind.i64.wrap ((s180.length : Int) - 1))))) else some (.inr s180)))) r_.cells) fun e268 => (Option.bind (iter (σ := Int × (List RowGlyph)) (ρ := (List RowGlyph)) (fun s539 => (bif (decide (s539.1 < (e268.length : Int))) then (Option.bind ((Option.bind (idx e268 s539.1) fun x689 => (Option.bind ((bif (x689.part == 0) then some true else some (x689.part == 1)) : Option Bool) fun e700 => (bif e700 then (Option.bind (chk (apok s539.2.length [(RowGlyph.mk x689.rune x689.style)].length 16)) fun _ => some (s539.2 ++ [(RowGlyph.mk x689.rune x689.style)])) else some s539.2))) : Option (List RowGlyph)) fun e686 => some (.inl ((IntKind.i64.wrap (s539.1 + 1)), e686))) else some (.inr s539.2))) (0, [])) fun e625 => some e625))

noncomputable def p_row_Row_Erase (r_ : RowRow) (from_ : Int) (to : Int) (style : Int) : Option RowRow :=
  (Option.bind (p_row_Row_cells r_) fun r3 => (Option.bind (p_row_clip from_ 0 (r3.length : Int)) fun r9 => (Option.bind (iter (σ := Int × (List RowCell)) (ρ := (List RowCell)) (fun s67 => (Option.bind (p_row_clip to 0 (s67.2.length : Int)) fun r100 => (bif (decide (s67.1 < r100)) then (Option.bind (p_row_blank style) fun r114 => (Option.bind (idx s67.2 s67.1) fun x117 => some (.inl ((IntKind.i64.wrap (s67.1 + 1)), (s67.2.set s67.1.toNat r114))))) else some (.inr s67.2)))) (r9, r3)) fun e93 => (Option.bind (p_row_mend e93) fun r123 => some r123))))

noncomputable def p_row_Row_within (r_ : RowRow) (at_ : Int) (n_ : Int) : Option Int :=
  (Option.bind ((bif (decide (at_ < 0)) then some true else some (decide (at_ ≥ (r_.cells.length : Int)))) : Option Bool) fun e5 => (bif e5 then some 0 else (Option.bind (p_row_clip n_ 0 (IntKind.i64.wrap ((r_.cells.length : Int) - at_))) fun r11 => some r11)))

noncomputable def p_slices_Grow_row_Cell (n_ : Int) : Option (List RowCell) :=
  (bif (decide (n_ < 0)) then none else (Option.bind ((bif (decide ((IntKind.i64.wrap (n_ - (IntKind.i64.wrap (0 - 0)))) > 0)) then (Option.bind (chk (gzok (IntKind.i64.wrap (n_ - (IntKind.i64.wrap (0 - 0)))) 24)) fun _ => (Option.bind (chk (cutok 0 0 (List.replicate (IntKind.i64.wrap (n_ - (IntKind.i64.wrap (0 - 0)))).toNat (RowCell.mk 0 0 0)).length)) fun _ => some (cut (List.replicate (IntKind.i64.wrap (n_ - (IntKind.i64.wrap (0 - 0)))).toNat (RowCell.mk 0 0 0)) 0 0))) else some []) : Option (List RowCell)) fun e29 => some e29))

noncomputable def p_slices_Concat_row_Cell (slices : List (List RowCell)) : Option (List RowCell) :=
  (Option.bind (iter (σ := Int × Int) (ρ := Int) (fun s55 => (bif (decide (s55.1 < (slices.length : Int))) then (Option.bind (idx slices s55.1) fun x101 => (bif (decide ((IntKind.i64.wrap (s55.2 + (x101.length : Int))) < 0)) then none else some (.inl ((IntKind.i64.wrap (s55.1 + 1)), (IntKind.i64.wrap (s55.2 + (x101.length : Int))))))) else some (.inr s55.2))) (0, 0)) fun e81 => (Option.bind (p_slices_Grow_row_Cell e81) fun r112 => (Option.bind (iter (σ := Int × (List RowCell)) (ρ := (List RowCell)) (fun s197 => (bif (decide (s197.1 < (slices.length : Int))) then (Option.bind (idx slices s197.1) fun x258 => (Option.bind (chk (apok s197.2.length x258.length 24)) fun _ => some (.inl ((IntKind.i64.wrap (s197.1 + 1)), (s197.2 ++ x258))))) else some (.inr s197.2))) (0, r112)) fun e234 => some e234)))

noncomputable def p_row_Row_Insert (r_ : RowRow) (at_ : Int) (n_ : Int) (style : Int) : Option RowRow :=
  (Option.bind (p_row_Row_within r_ at_ n_) fun r3 => (bif (r3 == 0) then (Option.bind (p_row_Row_cells r_) fun r18 => (Option.bind (p_row_mend r18) fun r24 => some r24)) else (Option.bind (chk (cutok 0 at_ r_.cells.length)) fun _ => (Option.bind (chk (cutok at_ (r_.cells.length : Int) r_.cells.length)) fun _ => (Option.bind (p_row_blanks r3 style) fun r116 => (Option.bind (p_slices_Concat_row_Cell [(cut r_.cells 0 at_), r116, (cut r_.cells at_ (r_.cells.length : Int))]) fun r126 => (Option.bind (chk (cutok 0 (r_.cells.length : Int) r126.length)) fun _ => (Option.bind (p_row_mend (cut r126 0 (r_.cells.length : Int))) fun r137 => some r137))))))))

noncomputable def p_row_Row_Delete (r_ : RowRow) (at_ : Int) (n_ : Int) (style : Int) : Option RowRow :=
  (Option.bind (p_row_Row_within r_ at_ n_) fun r3 => (bif (r3 == 0) then (Option.bind (p_row_Row_cells r_) fun r18 => (Option.bind (p_row_mend r18) fun r24 => some r24)) else (Option.bind (chk (cutok 0 at_ r_.cells.length)) fun _ => (Option.bind (chk (cutok (IntKind.i64.wrap (at_ + r3)) (r_.cells.length : Int) r_.cells.length)) fun _ => (Option.bind (p_row_blanks r3 style) fun r128 => (Option.bind (p_slices_Concat_row_Cell [(cut r_.cells 0 at_), (cut r_.cells (IntKind.i64.wrap (at_ + r3)) (r_.cells.length : Int)), r128]) fun r138 => (Option.bind (p_row_mend r138) fun r144 => some r144)))))))

noncomputable def p_row_Row_Fill (r_ : RowRow) (style : Int) : Option RowRow :=
  (Option.bind (p_row_Row_cells r_) fun r3 => (Option.bind ((bif (decide ((r3.length : Int) > 0)) then (Option.bind (idx r3 (IntKind.i64.wrap ((r3.length : Int) - 1))) fun x29 => some (r3.set ((IntKind.i64.wrap ((r3.length : Int) - 1)).toNat) (RowCell.mk 32 style 3))) else some r3) : Option (List RowCell)) fun e25 => (Option.bind (p_row_mend e25) fun r35 => some (RowRow.mk r35.cells true))))

noncomputable def p_row_Row_Resize (r_ : RowRow) (w : Int) : Option RowRow :=
  (Option.bind (p_row_clip w 0 1000) fun r3 => (Option.bind (p_row_Row_cells r_) fun r6 => (bif (r3 == (r6.length : Int)) then some (RowRow.mk r6 r_.wrapped) else (Option.bind ((Option.bind (chk (cutok 0 (imin r3 (r6.length : Int)) r6.length)) fun _ => (Option.bind (p_row_blanks (IntKind.i64.wrap (r3 - (r6.length : Int))) 0) fun r282 => (Option.bind (chk (apok (cut r6 0 (imin r3 (r6.length : Int))).length r282.length 24)) fun _ => (Option.bind (p_row_mend ((cut r6 0 (imin r3 (r6.length : Int))) ++ r282)) fun r294 => some r294)))) : Option RowRow) fun e223 => some e223))))

noncomputable def p_slices_Equal_row_Cell (s1_ : List RowCell) (s2_ : List RowCell) : Option Bool :=
  (bif ((s1_.length : Int) != (s2_.length : Int)) then some false else (Option.bind (iter (σ := Int) (ρ := Unit ⊕ Bool) (fun s238 => (bif (decide (s238 < (s1_.length : Int))) then (Option.bind (idx s1_ s238) fun x464 => (Option.bind (idx s2_ s238) fun x471 => (bif (!((x464.rune == x471.rune) && ((x464.style == x471.style) && ((x464.part == x471.part) && true)))) then (inrr (some false)) else some (.inl (IntKind.i64.wrap (s238 + 1)))))) else some (.inr (.inl ())))) 0) fun | .inl e355 => some true | .inr w => some w))

noncomputable def p_row_Row_Same (r_ : RowRow) (q : RowRow) : Option Bool :=
  (Option.bind ((bif (r_.wrapped == q.wrapped) then (Option.bind (p_slices_Equal_row_Cell r_.cells q.cells) fun r16 => some r16) else some false) : Option Bool) fun e12 => some e12)

noncomputable def p_slices_Clone_row_Row (s_ : List RowRow) : Option (List RowRow) :=
  (Option.bind (chk (apok ([] : List RowRow).length s_.length 32)) fun _ => some (([] : List RowRow) ++ s_))

noncomputable def p_slices_Reverse_row_Row (s_ : List RowRow) : Option (List RowRow) :=
  (Option.bind (iter (σ := (List RowRow) × Int × Int) (ρ := (List RowRow)) (fun s627 => (bif (decide (s627.2.1 < s627.2.2)) then (Option.bind ((Option.bind (idx s627.1 s627.2.2) fun x1201 => (Option.bind (idx s627.1 s627.2.1) fun x1206 => (Option.bind (idx s627.1 s627.2.1) fun x1215 => (Option.bind (idx s627.1 s627.2.2) fun x1219 => some ((s627.1.set s627.2.1.toNat x1201).set s627.2.2.toNat x1206))))) : Option (List RowRow)) fun e1148 => some (.inl (e1148, (IntKind.i64.wrap (s627.2.1 + 1)), (IntKind.i64.wrap (s627.2.2 - 1))))) else some (.inr s627.1))) (s_, 0, (IntKind.i64.wrap ((s_.length : Int) - 1)))) fun e937 => some e937)

noncomputable def p_slices_EqualFunc_row_Row_Row_Same (s1_ : List RowRow) (s2_ : List RowRow) : Option Bool :=
  (bif ((s1_.length : Int) != (s2_.length : Int)) then some false else (Option.bind (iter (σ := Int) (ρ := Unit ⊕ Bool) (fun s114 => (bif (decide (s114 < (s1_.length : Int))) then (Option.bind (idx s1_ s114) fun x205 => (Option.bind (idx s2_ s114) fun x216 => (Option.bind (p_row_Row_Same x205 x216) fun r227 => (bif (!r227) then (inrr (some false)) else some (.inl (IntKind.i64.wrap (s114 + 1))))))) else some (.inr (.inl ())))) 0) fun | .inl e169 => some true | .inr w => some w))

noncomputable def p_slices_Clone_row_Glyph (s_ : List RowGlyph) : Option (List RowGlyph) :=
  (Option.bind (chk (apok ([] : List RowGlyph).length s_.length 16)) fun _ => some (([] : List RowGlyph) ++ s_))
end Go.Tw.X

set_option linter.unusedVariables false
set_option linter.unusedSimpArgs false
set_option maxRecDepth 10000
namespace Go.Tw.X
open Go Go.Tw
structure GridGrid where
  w : Int
  l : List RowRow
  deriving DecidableEq, Inhabited

def wfGridGrid (x : GridGrid) : Prop := (inK .i64) x.w ∧ (fun xs : List RowRow => ∀ x ∈ xs, wfRowRow x) x.l ∧ True
noncomputable def p_grid_clip (n_ : Int) (lo : Int) (hi : Int) : Option Int :=
  some (imax lo (imin n_ hi))

noncomputable def p_grid_size (n_ : Int) : Option Int :=
  (Option.bind (p_grid_clip n_ 1 1000) fun r1 => some r1)

noncomputable def p_grid_New (w : Int) (h_ : Int) : Option GridGrid :=
  (Option.bind (p_grid_size w) fun r1 => (Option.bind (p_grid_size h_) fun r5 => (Option.bind (iter (σ := GridGrid × Int) (ρ := GridGrid) (fun s143 => (bif (decide (s143.2 < r5)) then (Option.bind (p_row_Blank s143.1.w 0) fun r257 => (Option.bind (chk (apok s143.1.l.length [r257].length 32)) fun _ => some (.inl ((GridGrid.mk s143.1.w (s143.1.l ++ [r257])), (IntKind.i64.wrap (s143.2 + 1)))))) else some (.inr s143.1))) ((GridGrid.mk r1 ([] : List RowRow)), 0)) fun e206 => some e206)))

noncomputable def p_grid_own (r_ : RowRow) : Option RowRow :=
  (Option.bind (p_slices_Clone_row_Cell r_.cells) fun r21 => some (RowRow.mk r21 r_.wrapped))

noncomputable def p_grid_Grid_Row (g : GridGrid) (y : Int) : Option RowRow :=
  (Option.bind ((bif (decide (y < 0)) then some true else some (decide (y ≥ (g.l.length : Int)))) : Option Bool) fun e5 => (bif e5 then some (RowRow.mk ([] : List RowCell) false) else (Option.bind (idx g.l y) fun x12 => (Option.bind (p_grid_own x12) fun r20 => some r20))))

noncomputable def p_grid_Grid_Set (g : GridGrid) (y : Int) (r_ : RowRow) : Option (Bool × GridGrid) :=
  (Option.bind ((bif (decide (y < 0)) then some true else some (decide (y ≥ (g.l.length : Int)))) : Option Bool) fun e5 => (bif e5 then some (false, g) else (Option.bind (p_row_Row_Resize r_ g.w) fun r47 => (Option.bind (idx g.l y) fun x53 => some (true, (GridGrid.mk g.w (g.l.set y.toNat r47)))))))

noncomputable def p_grid_Grid_region (g : GridGrid) (top : Int) (bottom : Int) : Option (Unit ⊕ (Int × Int)) :=
  (Option.bind (p_grid_clip top 0 (IntKind.i64.wrap ((g.l.length : Int) - 1))) fun r1 => (Option.bind (p_grid_clip bottom 0 (IntKind.i64.wrap ((g.l.length : Int) - 1))) fun r4 => (bif (decide (r4 < r1)) then some (.inl ()) else (Option.bind (chk (cutok r1 (IntKind.i64.wrap (r4 + 1)) g.l.length)) fun _ => some (.inr (r1, (IntKind.i64.wrap (r4 + 1))))))))

noncomputable def p_grid_Grid_Up (g : GridGrid) (top : Int) (bottom : Int) (n_ : Int) (style : Int) : Option ((List RowRow) × GridGrid) :=
  (Option.bind (p_grid_Grid_region g top bottom) fun | .inl r1 => some (([] : List RowRow), g) | .inr r1 => (Option.bind (chk (cutok r1.1 r1.2 g.l.length)) fun _ => (Option.bind (p_grid_clip n_ 0 ((cut g.l r1.1 r1.2).length : Int)) fun r9 => (Option.bind (chk (cutok 0 r9 (cut g.l r1.1 r1.2).length)) fun _ => (Option.bind (p_slices_Clone_row_Row (cut g.l (r1.1 + 0) (r1.1 + r9))) fun r17 => (Option.bind (chk (cutok r9 ((cut g.l r1.1 r1.2).length : Int) (cut g.l r1.1 r1.2).length)) fun _ => (Option.bind (iter (σ := GridGrid × Int) (ρ := GridGrid) (fun s103 => (bif (decide (s103.2 < ((cut s103.1.l r1.1 r1.2).length : Int))) then (Option.bind (p_row_Blank s103.1.w style) fun r168 => (Option.bind (chk (cutok r1.1 r1.2 s103.1.l.length)) fun _ => (Option.bind (idx (cut s103.1.l r1.1 r1.2) s103.2) fun x178 => some (.inl ((GridGrid.mk s103.1.w (s103.1.l.set (r1.1.toNat + s103.2.toNat) r168)), (IntKind.i64.wrap (s103.2 + 1))))))) else some (.inr s103.1))) ((GridGrid.mk g.w (cpyv g.l r1.1 r1.2 (r1.1 + r9) (r1.1 + ((cut g.l r1.1 r1.2).length : Int)))), (IntKind.i64.wrap (((cut (cpyv g.l r1.1 r1.2 (r1.1 + r9) (r1.1 + ((cut g.l r1.1 r1.2).length : Int))) r1.1 r1.2).length : Int) - r9)))) fun e142 => some (r17, e142))))))))

noncomputable def p_grid_Grid_Text (g : GridGrid) : Option (List ByteArray) :=
  (Option.bind (iter (σ := Int × (List ByteArray)) (ρ := (List ByteArray)) (fun s726 => (bif (decide (s726.1 < (g.l.length : Int))) then (Option.bind (idx g.l s726.1) fun x1270 => (Option.bind (p_row_Row_Glyphs x1270) fun r1279 => (Option.bind (iter (σ := Int × (List Int)) (ρ := (List Int)) (fun s1362 => (bif (decide (s1362.1 < (r1279.length : Int))) then (Option.bind (idx r1279 s1362.1) fun x1420 => (Option.bind (chk (apok s1362.2.length [x1420.rune].length 4)) fun _ => some (.inl ((IntKind.i64.wrap (s1362.1 + 1)), (s1362.2 ++ [x1420.rune]))))) else some (.inr s1362.2))) (0, [])) fun e1397 => (Option.bind (p_glyph_Encode e1397) fun r1434 => (Option.bind (chk (apok s726.2.length [r1434].length 16)) fun _ => some (.inl ((IntKind.i64.wrap (s726.1 + 1)), (s726.2 ++ [r1434])))))))) else some (.inr s726.2))) (0, [])) fun e1085 => some e1085)

noncomputable def p_grid_Grid_Down (g : GridGrid) (top : Int) (bottom : Int) (n_ : Int) (style : Int) : Option ((List RowRow) × GridGrid) :=
  (Option.bind (p_grid_Grid_region g top bottom) fun | .inl r1 => some (([] : List RowRow), g) | .inr r1 => (Option.bind (chk (cutok r1.1 r1.2 g.l.length)) fun _ => (Option.bind (p_grid_clip n_ 0 ((cut g.l r1.1 r1.2).length : Int)) fun r9 => (Option.bind (chk (cutok (IntKind.i64.wrap (((cut g.l r1.1 r1.2).length : Int) - r9)) ((cut g.l r1.1 r1.2).length : Int) (cut g.l r1.1 r1.2).length)) fun _ => (Option.bind (p_slices_Clone_row_Row (cut g.l (r1.1 + (IntKind.i64.wrap (((cut g.l r1.1 r1.2).length : Int) - r9))) (r1.1 + ((cut g.l r1.1 r1.2).length : Int)))) fun r17 => (Option.bind (p_slices_Reverse_row_Row r17) fun r23 => (Option.bind (chk (decide (r23.length = r17.length))) fun _ => (Option.bind (chk (cutok r9 ((cut g.l r1.1 r1.2).length : Int) (cut g.l r1.1 r1.2).length)) fun _ => (Option.bind (chk (cutok 0 (IntKind.i64.wrap (((cut g.l r1.1 r1.2).length : Int) - r9)) (cut g.l r1.1 r1.2).length)) fun _ => (Option.bind (iter (σ := GridGrid × Int) (ρ := GridGrid) (fun s150 => (bif (decide (s150.2 < r9)) then (Option.bind (p_row_Blank s150.1.w style) fun r215 => (Option.bind (chk (cutok r1.1 r1.2 s150.1.l.length)) fun _ => (Option.bind (idx (cut s150.1.l r1.1 r1.2) s150.2) fun x225 => some (.inl ((GridGrid.mk s150.1.w (s150.1.l.set (r1.1.toNat + s150.2.toNat) r215)), (IntKind.i64.wrap (s150.2 + 1))))))) else some (.inr s150.1))) ((GridGrid.mk g.w (cpyv g.l (r1.1 + r9) (r1.1 + ((cut g.l r1.1 r1.2).length : Int)) (r1.1 + 0) (r1.1 + (IntKind.i64.wrap (((cut g.l r1.1 r1.2).length : Int) - r9))))), 0)) fun e189 => some (r23, e189)))))))))))

noncomputable def p_grid_Grid_Resize (g : GridGrid) (w : Int) (h_ : Int) (off : Int) : Option ((List RowRow) × GridGrid) :=
  (Option.bind (p_grid_clip off 0 (IntKind.i64.wrap ((g.l.length : Int) - 1))) fun r1 => (Option.bind (chk (cutok 0 r1 g.l.length)) fun _ => (Option.bind (p_slices_Clone_row_Row (cut g.l 0 r1)) fun r10 => (Option.bind (chk (cutok r1 (g.l.length : Int) g.l.length)) fun _ => (Option.bind (p_slices_Clone_row_Row (cut g.l r1 (g.l.length : Int))) fun r22 => (Option.bind (p_grid_size h_) fun r28 => (Option.bind (chk (cutok 0 (imin (r22.length : Int) r28) r22.length)) fun _ => (Option.bind (iter (σ := (List RowRow)) (ρ := (List RowRow)) (fun s92 => (Option.bind (p_grid_size h_) fun r126 => (bif (decide ((s92.length : Int) < r126)) then (Option.bind (p_grid_size w) fun r131 => (Option.bind (p_row_Blank r131 0) fun r134 => (Option.bind (chk (apok s92.length [r134].length 32)) fun _ => some (.inl (s92 ++ [r134]))))) else some (.inr s92)))) (cut r22 0 (imin (r22.length : Int) r28))) fun e119 => (Option.bind (p_grid_size w) fun r148 => (Option.bind (iter (σ := GridGrid × Int) (ρ := GridGrid) (fun s218 => (bif (decide (s218.2 < (e119.length : Int))) then (Option.bind (idx s218.1.l s218.2) fun x270 => (Option.bind (p_grid_Grid_Set s218.1 s218.2 x270) fun r278 => some (.inl (r278.2, (IntKind.i64.wrap (s218.2 + 1)))))) else some (.inr s218.1))) ((GridGrid.mk r148 e119), 0)) fun e249 => some (r10, e249)))))))))))

noncomputable def p_grid_Grid_Size (g : GridGrid) : Option (Int × Int) :=
  some (g.w, (g.l.length : Int))

noncomputable def p_grid_each (l : List RowRow) : Option (List RowRow) :=
  some l

noncomputable def p_grid_each_1 {σ : Type} (Y : σ → RowRow → Option (σ × Bool)) (y0 : σ) (x1 : List RowRow) : Option σ :=
  (Option.bind (iter (σ := Int × σ) (ρ := σ ⊕ σ) (fun s102 => (bif (decide (s102.1 < (x1.length : Int))) then (Option.bind (idx x1 s102.1) fun x183 => (Option.bind (p_grid_own x183) fun r194 => (Option.bind (Y s102.2 r194) fun z200 => (bif (!z200.2) then (inrr (some z200.1)) else some (.inl ((IntKind.i64.wrap (s102.1 + 1)), z200.1)))))) else some (.inr (.inl s102.2)))) (0, y0)) fun | .inl e151 => some e151 | .inr w => some w)

noncomputable def p_grid_copies (l : List RowRow) : Option (List RowRow) :=
  (Option.bind (p_grid_each l) fun r2 => (Option.bind (p_grid_each_1 (fun s40 x9 => (Option.bind (chk (apok s40.length [x9].length 32)) fun _ => some ((s40 ++ [x9]), true))) ([] : (List RowRow)) r2) fun r54 => some r54))

noncomputable def p_grid_each_v2 (l : List RowRow) : Option (List RowRow) :=
  some l

noncomputable def p_grid_each_1_v2 {σ : Type} (Y : σ → RowRow → Option (σ × Bool)) (y0 : σ) (x1 : List RowRow) : Option σ :=
  (Option.bind (iter (σ := Int × σ) (ρ := σ ⊕ σ) (fun s94 => (bif (decide (s94.1 < (x1.length : Int))) then (Option.bind (idx x1 s94.1) fun x169 => (Option.bind (p_grid_own x169) fun r178 => (Option.bind (Y s94.2 r178) fun z184 => (bif (!z184.2) then (inrr (some z184.1)) else some (.inl ((IntKind.i64.wrap (s94.1 + 1)), z184.1)))))) else some (.inr (.inl s94.2)))) (0, y0)) fun | .inl e139 => some e139 | .inr w => some w)

noncomputable def p_grid_copies_v2 (l : List RowRow) : Option ((List RowRow) × (List RowRow)) :=
  (Option.bind (p_grid_each_v2 l) fun r2 => (Option.bind (p_grid_each_1_v2 (fun s40 x9 => (Option.bind (chk (apok s40.length [x9].length 32)) fun _ => some ((s40 ++ [x9]), true))) ([] : (List RowRow)) r2) fun r54 => some (r54, r2)))

noncomputable def p_grid_Grid_Rows (g : GridGrid) : Option ((List RowRow) × GridGrid) :=
  (Option.bind (p_grid_copies_v2 g.l) fun r1 => (Option.bind (chk (decide (r1.2.length = g.l.length))) fun _ => some (r1.1, (GridGrid.mk g.w r1.2))))

noncomputable def p_grid_Grid_Clone (g : GridGrid) : Option (GridGrid × GridGrid) :=
  (Option.bind (p_grid_copies_v2 g.l) fun r31 => (Option.bind (chk (decide (r31.2.length = g.l.length))) fun _ => some ((GridGrid.mk g.w r31.1), (GridGrid.mk g.w r31.2))))

noncomputable def p_grid_Grid_Same (g : GridGrid) (h_ : GridGrid) : Option Bool :=
  (Option.bind ((bif (g.w == h_.w) then (Option.bind (p_slices_EqualFunc_row_Row_Row_Same g.l h_.l) fun r26 => some r26) else some false) : Option Bool) fun e18 => some e18)
end Go.Tw.X

set_option linter.unusedVariables false
set_option linter.unusedSimpArgs false
set_option maxRecDepth 10000
namespace Go.Tw.X
open Go Go.Tw

noncomputable def p_ref06_Of (r_ : Int) : Option Int :=
  (Option.bind ((bif (decide (r_ < 32)) then some true else some (decide (r_ > 1114111))) : Option Bool) fun e8 => (bif e8 then some 0 else (Option.bind (iter (σ := Int) (ρ := Unit ⊕ Int) (fun s69 => (bif (decide (s69 < ([(Arr2Int.mk 127 159), (Arr2Int.mk 768 879), (Arr2Int.mk 6832 6911), (Arr2Int.mk 7616 7679), (Arr2Int.mk 8203 8207), (Arr2Int.mk 8400 8447), (Arr2Int.mk 55296 57343), (Arr2Int.mk 65024 65039), (Arr2Int.mk 65056 65071), (Arr2Int.mk 65279 65279), (Arr2Int.mk 917760 917999)].length : Int))) then (Option.bind (idx [(Arr2Int.mk 127 159), (Arr2Int.mk 768 879), (Arr2Int.mk 6832 6911), (Arr2Int.mk 7616 7679), (Arr2Int.mk 8203 8207), (Arr2Int.mk 8400 8447), (Arr2Int.mk 55296 57343), (Arr2Int.mk 65024 65039), (Arr2Int.mk 65056 65071), (Arr2Int.mk 65279 65279), (Arr2Int.mk 917760 917999)] s69) fun x118 => (Option.bind ((bif (decide (r_ ≥ x118.e0)) then some (decide (r_ ≤ x118.e1)) else some false) : Option Bool) fun e125 => (bif e125 then (inrr (some 0)) else some (.inl (IntKind.i64.wrap (s69 + 1)))))) else some (.inr (.inl ())))) 0) fun | .inl e96 => (Option.bind (iter (σ := Int) (ρ := Unit ⊕ Int) (fun s187 => (bif (decide (s187 < ([(Arr2Int.mk 4352 4447), (Arr2Int.mk 11904 12350), (Arr2Int.mk 12353 13311), (Arr2Int.mk 13312 19903), (Arr2Int.mk 19968 40959), (Arr2Int.mk 40960 42191), (Arr2Int.mk 44032 55203), (Arr2Int.mk 63744 64255), (Arr2Int.mk 65072 65135), (Arr2Int.mk 65280 65376), (Arr2Int.mk 65504 65510), (Arr2Int.mk 127744 128591), (Arr2Int.mk 129280 129535), (Arr2Int.mk 131072 262141)].length : Int))) then (Option.bind (idx [(Arr2Int.mk 4352 4447), (Arr2Int.mk 11904 12350), (Arr2Int.mk 12353 13311), (Arr2Int.mk 13312 19903), (Arr2Int.mk 19968 40959), (Arr2Int.mk 40960 42191), (Arr2Int.mk 44032 55203), (Arr2Int.mk 63744 64255), (Arr2Int.mk 65072 65135), (Arr2Int.mk 65280 65376), (Arr2Int.mk 65504 65510), (Arr2Int.mk 127744 128591), (Arr2Int.mk 129280 129535), (Arr2Int.mk 131072 262141)] s187) fun x236 => (Option.bind ((bif (decide (r_ ≥ x236.e0)) then some (decide (r_ ≤ x236.e1)) else some false) : Option Bool) fun e243 => (bif e243 then (inrr (some 2)) else some (.inl (IntKind.i64.wrap (s187 + 1)))))) else some (.inr (.inl ())))) 0) fun | .inl e214 => some 1 | .inr w => some w) | .inr w => some w)))
end Go.Tw.X

set_option linter.unusedVariables false
set_option linter.unusedSimpArgs false
set_option maxRecDepth 10000
namespace Go.Tw.X
open Go Go.Tw
structure Ref09Cell where
  rune : Int
  style : Int
  part : Int
  deriving DecidableEq, Inhabited

structure Ref09Row where
  l : List Ref09Cell
  wrapped : Bool
  deriving DecidableEq, Inhabited

structure Ref09Glyph where
  rune : Int
  style : Int
  deriving DecidableEq, Inhabited

def wfRef09Cell (x : Ref09Cell) : Prop := (inK .i64) x.rune ∧ (inK .i64) x.style ∧ (inK .i64) x.part ∧ True
def wfRef09Row (x : Ref09Row) : Prop := (fun xs : List Ref09Cell => ∀ x ∈ xs, wfRef09Cell x) x.l ∧ (fun _ => True) x.wrapped ∧ True
def wfRef09Glyph (x : Ref09Glyph) : Prop := (inK .i64) x.rune ∧ (inK .i64) x.style ∧ True
noncomputable def p_ref09_near (n_ : Int) (lo : Int) (hi : Int) : Option Int :=
  (bif (decide (n_ < lo)) then some lo else (bif (decide (n_ > hi)) then some hi else some n_))

noncomputable def p_ref09_Blank (w : Int) (style : Int) : Option Ref09Row :=
  (Option.bind (iter (σ := (List Ref09Cell) × Int) (ρ := (List Ref09Cell)) (fun s61 => (Option.bind (p_ref09_near w 0 1000) fun r94 => (bif (decide (s61.2 < r94)) then (Option.bind (chk (apok s61.1.length [(Ref09Cell.mk 32 style 0)].length 24)) fun _ => some (.inl ((s61.1 ++ [(Ref09Cell.mk 32 style 0)]), (IntKind.i64.wrap (s61.2 + 1))))) else some (.inr s61.1)))) (([] : List Ref09Cell), 0)) fun e87 => some (Ref09Row.mk e87 false))

noncomputable def p_ref09_mend (l : List Ref09Cell) : Option Ref09Row :=
  (Option.bind (iter (σ := Int × (List Ref09Cell)) (ρ := (List Ref09Cell)) (fun s287 => (bif (decide (s287.1 < (l.length : Int))) then (Option.bind (idx l s287.1) fun x510 => (Option.bind ((bif (x510.part == 1) then (bif ((IntKind.i64.wrap (s287.1 + 1)) == (l.length : Int)) then some true else (Option.bind (idx l (IntKind.i64.wrap (s287.1 + 1))) fun x552 => some (x552.part != 2))) else (bif (x510.part == 2) then (bif (s287.1 == 0) then some true else (Option.bind (idx s287.2 (IntKind.i64.wrap (s287.1 - 1))) fun x558 => some (x558.part != 1))) else (bif (x510.part == 3) then some (decide (s287.1 < (IntKind.i64.wrap ((l.length : Int) - 1)))) else some false))) : Option Bool) fun e547 => (Option.bind ((bif e547 then some (Ref09Cell.mk 32 x510.style 0) else some x510) : Option Ref09Cell) fun e567 => (Option.bind (chk (apok s287.2.length [e567].length 24)) fun _ => some (.inl ((IntKind.i64.wrap (s287.1 + 1)), (s287.2 ++ [e567]))))))) else some (.inr s287.2))) (0, ([] : List Ref09Cell))) fun e432 => some (Ref09Row.mk e432 false))

noncomputable def p_ref09_Put (r_ : Ref09Row) (at_ : Int) (x_ : Int) (style : Int) : Option Ref09Row :=
  (Option.bind (p_ref06_Of x_) fun r3 => (Option.bind ((bif (r3 == 0) then some true else (bif (decide (at_ < 0)) then some true else some (decide (at_ > (IntKind.i64.wrap ((r_.l.length : Int) - r3)))))) : Option Bool) fun e11 => (bif e11 then (Option.bind (p_ref09_mend r_.l) fun r24 => some r24) else (Option.bind (chk (apok ([] : List Ref09Cell).length r_.l.length 24)) fun _ => (Option.bind (idx (([] : List Ref09Cell) ++ r_.l) at_) fun x37 => (Option.bind ((bif (r3 == 2) then (Option.bind (idx ((([] : List Ref09Cell) ++ r_.l).set at_.toNat (Ref09Cell.mk x_ style 0)) at_) fun x115 => (Option.bind (idx (((([] : List Ref09Cell) ++ r_.l).set at_.toNat (Ref09Cell.mk x_ style 0)).set at_.toNat (Ref09Cell.mk x_ style 1)) (IntKind.i64.wrap (at_ + 1))) fun x119 => (Option.bind ((bif (decide (at_ > 0)) then (Option.bind (idx ((((([] : List Ref09Cell) ++ r_.l).set at_.toNat (Ref09Cell.mk x_ style 0)).set at_.toNat (Ref09Cell.mk x_ style 1)).set ((IntKind.i64.wrap (at_ + 1)).toNat) (Ref09Cell.mk x_ style 2)) (IntKind.i64.wrap (at_ - 1))) fun x136 => some (x136.part == 1)) else some false) : Option Bool) fun e132 => (bif e132 then (Option.bind (idx ((((([] : List Ref09Cell) ++ r_.l).set at_.toNat (Ref09Cell.mk x_ style 0)).set at_.toNat (Ref09Cell.mk x_ style 1)).set ((IntKind.i64.wrap (at_ + 1)).toNat) (Ref09Cell.mk x_ style 2)) (IntKind.i64.wrap (at_ - 1))) fun x140 => (Option.bind (idx ((((([] : List Ref09Cell) ++ r_.l).set at_.toNat (Ref09Cell.mk x_ style 0)).set at_.toNat (Ref09Cell.mk x_ style 1)).set ((IntKind.i64.wrap (at_ + 1)).toNat) (Ref09Cell.mk x_ style 2)) (IntKind.i64.wrap (at_ - 1))) fun x143 => some (((((([] : List Ref09Cell) ++ r_.l).set at_.toNat (Ref09Cell.mk x_ style 0)).set at_.toNat (Ref09Cell.mk x_ style 1)).set ((IntKind.i64.wrap (at_ + 1)).toNat) (Ref09Cell.mk x_ style 2)).set ((IntKind.i64.wrap (at_ - 1)).toNat) (Ref09Cell.mk 32 x140.style 0)))) else some ((((([] : List Ref09Cell) ++ r_.l).set at_.toNat (Ref09Cell.mk x_ style 0)).set at_.toNat (Ref09Cell.mk x_ style 1)).set ((IntKind.i64.wrap (at_ + 1)).toNat) (Ref09Cell.mk x_ style 2)))))) else some ((([] : List Ref09Cell) ++ r_.l).set at_.toNat (Ref09Cell.mk x_ style 0))) : Option (List Ref09Cell)) fun e111 => (Option.bind (p_ref09_mend e111) fun r148 => some r148)))))))

noncomputable def p_ref09_Erase (r_ : Ref09Row) (from_ : Int) (to : Int) (style : Int) : Option Ref09Row :=
  (Option.bind (chk (apok ([] : List Ref09Cell).length r_.l.length 24)) fun _ => (Option.bind (iter (σ := Int × (List Ref09Cell)) (ρ := (List Ref09Cell)) (fun s117 => (bif (decide (s117.1 < ((([] : List Ref09Cell) ++ r_.l).length : Int))) then (Option.bind ((Option.bind ((bif (decide (s117.1 ≥ from_)) then some (decide (s117.1 < to)) else some false) : Option Bool) fun e214 => (bif e214 then (Option.bind (idx s117.2 s117.1) fun x219 => some (s117.2.set s117.1.toNat (Ref09Cell.mk 32 style 0))) else some s117.2)) : Option (List Ref09Cell)) fun e208 => some (.inl ((IntKind.i64.wrap (s117.1 + 1)), e208))) else some (.inr s117.2))) (0, (([] : List Ref09Cell) ++ r_.l))) fun e169 => (Option.bind (p_ref09_mend e169) fun r226 => some r226)))

noncomputable def p_ref09_Insert (r_ : Ref09Row) (at_ : Int) (n_ : Int) (style : Int) : Option Ref09Row :=
  (Option.bind ((bif (decide (at_ < 0)) then some true else (bif (decide (at_ ≥ (r_.l.length : Int))) then some true else some (decide (n_ ≤ 0)))) : Option Bool) fun e8 => (bif e8 then (Option.bind (p_ref09_mend r_.l) fun r21 => some r21) else (Option.bind (chk (cutok 0 at_ r_.l.length)) fun _ => (Option.bind (chk (apok ([] : List Ref09Cell).length (cut r_.l 0 at_).length 24)) fun _ => (Option.bind (p_ref09_Blank (imin n_ (IntKind.i64.wrap ((r_.l.length : Int) - at_))) style) fun r39 => (Option.bind (chk (apok (([] : List Ref09Cell) ++ (cut r_.l 0 at_)).length r39.l.length 24)) fun _ => (Option.bind (chk (cutok at_ (IntKind.i64.wrap ((r_.l.length : Int) - (imin n_ (IntKind.i64.wrap ((r_.l.length : Int) - at_))))) r_.l.length)) fun _ => (Option.bind (chk (apok ((([] : List Ref09Cell) ++ (cut r_.l 0 at_)) ++ r39.l).length (cut r_.l at_ (IntKind.i64.wrap ((r_.l.length : Int) - (imin n_ (IntKind.i64.wrap ((r_.l.length : Int) - at_)))))).length 24)) fun _ => (Option.bind (p_ref09_mend (((([] : List Ref09Cell) ++ (cut r_.l 0 at_)) ++ r39.l) ++ (cut r_.l at_ (IntKind.i64.wrap ((r_.l.length : Int) - (imin n_ (IntKind.i64.wrap ((r_.l.length : Int) - at_)))))))) fun r61 => some r61)))))))))

noncomputable def p_ref09_Delete (r_ : Ref09Row) (at_ : Int) (n_ : Int) (style : Int) : Option Ref09Row :=
  (Option.bind ((bif (decide (at_ < 0)) then some true else (bif (decide (at_ ≥ (r_.l.length : Int))) then some true else some (decide (n_ ≤ 0)))) : Option Bool) fun e8 => (bif e8 then (Option.bind (p_ref09_mend r_.l) fun r21 => some r21) else (Option.bind (chk (cutok 0 at_ r_.l.length)) fun _ => (Option.bind (chk (apok ([] : List Ref09Cell).length (cut r_.l 0 at_).length 24)) fun _ => (Option.bind (chk (cutok (IntKind.i64.wrap (at_ + (imin n_ (IntKind.i64.wrap ((r_.l.length : Int) - at_))))) (r_.l.length : Int) r_.l.length)) fun _ => (Option.bind (chk (apok (([] : List Ref09Cell) ++ (cut r_.l 0 at_)).length (cut r_.l (IntKind.i64.wrap (at_ + (imin n_ (IntKind.i64.wrap ((r_.l.length : Int) - at_))))) (r_.l.length : Int)).length 24)) fun _ => (Option.bind (p_ref09_Blank (imin n_ (IntKind.i64.wrap ((r_.l.length : Int) - at_))) style) fun r49 => (Option.bind (chk (apok ((([] : List Ref09Cell) ++ (cut r_.l 0 at_)) ++ (cut r_.l (IntKind.i64.wrap (at_ + (imin n_ (IntKind.i64.wrap ((r_.l.length : Int) - at_))))) (r_.l.length : Int))).length r49.l.length 24)) fun _ => (Option.bind (p_ref09_mend (((([] : List Ref09Cell) ++ (cut r_.l 0 at_)) ++ (cut r_.l (IntKind.i64.wrap (at_ + (imin n_ (IntKind.i64.wrap ((r_.l.length : Int) - at_))))) (r_.l.length : Int))) ++ r49.l)) fun r61 => some r61)))))))))

noncomputable def p_ref09_Fill (r_ : Ref09Row) (style : Int) : Option Ref09Row :=
  (Option.bind (chk (apok ([] : List Ref09Cell).length r_.l.length 24)) fun _ => (Option.bind ((bif (decide (((([] : List Ref09Cell) ++ r_.l).length : Int) > 0)) then (Option.bind (idx (([] : List Ref09Cell) ++ r_.l) (IntKind.i64.wrap (((([] : List Ref09Cell) ++ r_.l).length : Int) - 1))) fun x30 => some ((([] : List Ref09Cell) ++ r_.l).set ((IntKind.i64.wrap (((([] : List Ref09Cell) ++ r_.l).length : Int) - 1)).toNat) (Ref09Cell.mk 32 style 3))) else some (([] : List Ref09Cell) ++ r_.l)) : Option (List Ref09Cell)) fun e26 => (Option.bind (p_ref09_mend e26) fun r37 => some (Ref09Row.mk r37.l true))))

noncomputable def p_ref09_Resize (r_ : Ref09Row) (w : Int) : Option Ref09Row :=
  (Option.bind (p_ref09_near w 0 1000) fun r3 => (bif (r3 == (r_.l.length : Int)) then some r_ else (Option.bind (chk (cutok 0 (imin r3 (r_.l.length : Int)) r_.l.length)) fun _ => (Option.bind (chk (apok ([] : List Ref09Cell).length (cut r_.l 0 (imin r3 (r_.l.length : Int))).length 24)) fun _ => (Option.bind (p_ref09_Blank (IntKind.i64.wrap (r3 - ((([] : List Ref09Cell) ++ (cut r_.l 0 (imin r3 (r_.l.length : Int)))).length : Int))) 0) fun r20 => (Option.bind (chk (apok (([] : List Ref09Cell) ++ (cut r_.l 0 (imin r3 (r_.l.length : Int)))).length r20.l.length 24)) fun _ => (Option.bind (p_ref09_mend ((([] : List Ref09Cell) ++ (cut r_.l 0 (imin r3 (r_.l.length : Int)))) ++ r20.l)) fun r32 => some r32)))))))

noncomputable def p_ref09_Whole (r_ : Ref09Row) : Option Bool :=
  (Option.bind (p_ref09_mend r_.l) fun r2 => (Option.bind (iter (σ := Int) (ρ := Unit ⊕ Bool) (fun s163 => (bif (decide (s163 < (r2.l.length : Int))) then (Option.bind (idx r2.l s163) fun x287 => (Option.bind (idx r_.l s163) fun x316 => (bif (!((x287.rune == x316.rune) && ((x287.style == x316.style) && ((x287.part == x316.part) && true)))) then (inrr (some false)) else some (.inl (IntKind.i64.wrap (s163 + 1)))))) else some (.inr (.inl ())))) 0) fun | .inl e240 => some true | .inr w => some w))

noncomputable def p_ref09_Glyphs (r_ : Ref09Row) : Option (List Ref09Glyph) :=
  (Option.bind (iter (σ := Int) (ρ := Int) (fun s71 => (Option.bind ((bif (decide (s71 > 0)) then (bif (!r_.wrapped) then (Option.bind (idx r_.l (IntKind.i64.wrap (s71 - 1))) fun x137 => some ((x137.rune == 32) && ((x137.style == 0) && ((x137.part == 0) && true)))) else some false) else some false) : Option Bool) fun e132 => (bif e132 then some (.inl (IntKind.i64.wrap (s71 - 1))) else some (.inr s71)))) (r_.l.length : Int)) fun e106 => (Option.bind (chk (cutok 0 e106 r_.l.length)) fun _ => (Option.bind (iter (σ := Int × (List Ref09Glyph)) (ρ := (List Ref09Glyph)) (fun s330 => (bif (decide (s330.1 < ((cut r_.l 0 e106).length : Int))) then (Option.bind ((Option.bind (idx (cut r_.l 0 e106) s330.1) fun x480 => (Option.bind ((bif (x480.part == 0) then some true else some (x480.part == 1)) : Option Bool) fun e491 => (bif e491 then (Option.bind (chk (apok s330.2.length [(Ref09Glyph.mk x480.rune x480.style)].length 16)) fun _ => some (s330.2 ++ [(Ref09Glyph.mk x480.rune x480.style)])) else some s330.2))) : Option (List Ref09Glyph)) fun e477 => some (.inl ((IntKind.i64.wrap (s330.1 + 1)), e477))) else some (.inr s330.2))) (0, ([] : List Ref09Glyph))) fun e416 => some e416)))
end Go.Tw.X

set_option linter.unusedVariables false
set_option linter.unusedSimpArgs false
set_option maxRecDepth 10000
namespace Go.Tw.X
open Go Go.Tw
structure Law09Act where
  kind : Int
  at_ : Int
  n : Int
  style : Int
  rune : Int
  deriving DecidableEq, Inhabited

def wfLaw09Act (x : Law09Act) : Prop := (inK .i64) x.kind ∧ (inK .i64) x.at_ ∧ (inK .i64) x.n ∧ (inK .i64) x.style ∧ (inK .i32) x.rune ∧ True
noncomputable def p_law09_awake : Option Bool :=
  (Option.bind (p_row_Blank 3 0) fun r1 => (Option.bind (p_row_Row_Put r1 0 20013 0) fun r7 => (Option.bind (p_row_Row_Put r7 1 97 0) fun r13 => (Option.bind ((bif ((r13.cells.length : Int) == 3) then (Option.bind (idx r13.cells 0) fun x85 => (bif (x85.rune == 32) then (Option.bind (idx r13.cells 1) fun x93 => (bif (x93.rune == 97) then (Option.bind (idx r13.cells 2) fun x98 => (bif (x98.rune == 32) then (Option.bind (idx r13.cells 2) fun x103 => (bif (x103.part == 0) then (Option.bind (p_row_Row_Glyphs r13) fun r108 => some ((r108.length : Int) == 2)) else some false)) else some false)) else some false)) else some false)) else some false) : Option Bool) fun e81 => some e81))))

noncomputable def p_law09_Do (r_ : RowRow) (x_ : Ref09Row) (a : Law09Act) : Option (RowRow × Ref09Row) :=
  (bif (a.kind == 0) then (Option.bind (p_row_Row_Put r_ a.at_ a.rune a.style) fun r288 => (Option.bind (p_ref09_Put x_ a.at_ (IntKind.i64.wrap a.rune) a.style) fun r294 => some (r288, r294))) else (bif (a.kind == 1) then (Option.bind (p_row_Row_Erase r_ a.at_ a.n a.style) fun r337 => (Option.bind (p_ref09_Erase x_ a.at_ a.n a.style) fun r343 => some (r337, r343))) else (bif (a.kind == 2) then (Option.bind (p_row_Row_Insert r_ a.at_ a.n a.style) fun r386 => (Option.bind (p_ref09_Insert x_ a.at_ a.n a.style) fun r392 => some (r386, r392))) else (bif (a.kind == 3) then (Option.bind (p_row_Row_Delete r_ a.at_ a.n a.style) fun r435 => (Option.bind (p_ref09_Delete x_ a.at_ a.n a.style) fun r441 => some (r435, r441))) else (bif (a.kind == 4) then (Option.bind (p_row_Row_Fill r_ a.style) fun r484 => (Option.bind (p_ref09_Fill x_ a.style) fun r490 => some (r484, r490))) else (Option.bind ((bif (decide (a.n > 60)) then some (decide (a.n < 1000)) else some false) : Option Bool) fun e499 => (Option.bind ((bif e499 then some 60 else some a.n) : Option Int) fun e506 => (Option.bind (p_row_Row_Resize r_ e506) fun r546 => (Option.bind (p_ref09_Resize x_ e506) fun r552 => some (r546, r552))))))))))

noncomputable def p_law09_Is (r_ : RowRow) (x_ : Ref09Row) : Option Bool :=
  (Option.bind ((bif ((r_.cells.length : Int) != (x_.l.length : Int)) then some true else some (!(r_.wrapped == x_.wrapped))) : Option Bool) fun e6 => (bif e6 then some false else (Option.bind (iter (σ := Int) (ρ := Unit ⊕ Bool) (fun s479 => (bif (decide (s479 < (r_.cells.length : Int))) then (Option.bind (idx r_.cells s479) fun x837 => (Option.bind ((Option.bind (idx x_.l s479) fun x934 => (bif ((IntKind.i64.wrap x837.rune) != x934.rune) then some true else (Option.bind (idx x_.l s479) fun x942 => (bif (x837.style != x942.style) then some true else (Option.bind (idx x_.l s479) fun x947 => some (x837.part != x947.part)))))) : Option Bool) fun e914 => (bif e914 then (inrr (some false)) else some (.inl (IntKind.i64.wrap (s479 + 1)))))) else some (.inr (.inl ())))) 0) fun | .inl e712 => some true | .inr w => some w)))

noncomputable def p_law09_RowPlays (w : Int) (style : Int) (acts : List Law09Act) : Option Bool :=
  (Option.bind p_law09_awake fun r1 => (bif (!r1) then some false else (Option.bind ((bif (decide (w > 60)) then some (decide (w < 1000)) else some false) : Option Bool) fun e9 => (Option.bind ((bif e9 then some 60 else some w) : Option Int) fun e16 => (Option.bind (p_row_Blank e16 style) fun r20 => (Option.bind (p_ref09_Blank e16 style) fun r26 => (Option.bind (iter (σ := RowRow × Ref09Row × Int) (ρ := (Ref09Row × RowRow) ⊕ Bool) (fun s439 => (Option.bind ((bif (decide (s439.2.2 < (acts.length : Int))) then some (decide (s439.2.2 < 30)) else some false) : Option Bool) fun e648 => (bif e648 then (Option.bind (idx acts s439.2.2) fun x792 => (Option.bind (p_law09_Do s439.1 s439.2.1 x792) fun r799 => (Option.bind ((Option.bind (p_law09_Is r799.1 r799.2) fun r826 => (bif (!r826) then some true else (Option.bind (p_ref09_Whole r799.2) fun r830 => some (!r830)))) : Option Bool) fun e823 => (bif e823 then (inrr (some false)) else some (.inl (r799.1, r799.2, (IntKind.i64.wrap (s439.2.2 + 1)))))))) else some (.inr (.inl (s439.2.1, s439.1)))))) (r20, r26, 0)) fun | .inl e637 => (Option.bind (p_law09_Is e637.2 e637.1) fun r836 => some r836) | .inr w => some w)))))))

noncomputable def p_law09_Any (l : List RowCell) (wrapped : Bool) : Option RowRow :=
  (Option.bind (chk (cutok 0 (imin (l.length : Int) 40) l.length)) fun _ => (Option.bind (chk (apok ([] : List RowCell).length (cut l 0 (imin (l.length : Int) 40)).length 24)) fun _ => some (RowRow.mk (([] : List RowCell) ++ (cut l 0 (imin (l.length : Int) 40))) wrapped)))

noncomputable def p_law09_Told (r_ : RowRow) : Option Ref09Row :=
  (Option.bind (iter (σ := Ref09Row × Int) (ρ := Ref09Row) (fun s89 => (bif (decide (s89.2 < (r_.cells.length : Int))) then (Option.bind (idx r_.cells s89.2) fun x153 => (Option.bind (chk (apok s89.1.l.length [(Ref09Cell.mk (IntKind.i64.wrap x153.rune) x153.style x153.part)].length 24)) fun _ => some (.inl ((Ref09Row.mk (s89.1.l ++ [(Ref09Cell.mk (IntKind.i64.wrap x153.rune) x153.style x153.part)]) s89.1.wrapped), (IntKind.i64.wrap (s89.2 + 1)))))) else some (.inr s89.1))) ((Ref09Row.mk ([] : List Ref09Cell) r_.wrapped), 0)) fun e128 => some e128)

noncomputable def p_law09_RowKeeps (l : List RowCell) (wrapped : Bool) (acts : List Law09Act) : Option Bool :=
  (Option.bind p_law09_awake fun r1 => (bif (!r1) then some false else (Option.bind (p_law09_Any l wrapped) fun r6 => (Option.bind (p_law09_Told r6) fun r13 => (Option.bind (iter (σ := Int) (ρ := Unit ⊕ Bool) (fun s3473 => (Option.bind ((bif (decide (s3473 < (acts.length : Int))) then some (decide (s3473 < 10)) else some false) : Option Bool) fun e5210 => (bif e5210 then (Option.bind ((Option.bind (idx acts s3473) fun x6517 => (Option.bind (p_law09_Do r6 r13 x6517) fun r6524 => some (r6524.1, r6524.2))) : Option (RowRow × Ref09Row)) fun e6428 => (Option.bind (iter (σ := Int) (ρ := Unit) (fun s6752 => (Option.bind ((bif (decide (s6752 < (acts.length : Int))) then some (decide (s6752 < (IntKind.i64.wrap (s3473 + 3)))) else some false) : Option Bool) fun e6836 => (bif e6836 then (Option.bind (idx acts s6752) fun x6890 => (Option.bind (p_law09_Do (RowRow.mk e6428.1.cells e6428.1.wrapped) (Ref09Row.mk e6428.2.l e6428.2.wrapped) x6890) fun r6897 => some (.inl (IntKind.i64.wrap (s6752 + 1))))) else some (.inr ())))) (IntKind.i64.wrap (s3473 + 1))) fun e6826 => (Option.bind ((Option.bind (p_law09_Is r6 r13) fun r6924 => (bif (!r6924) then some true else (Option.bind (p_law09_Is (RowRow.mk e6428.1.cells e6428.1.wrapped) (Ref09Row.mk e6428.2.l e6428.2.wrapped)) fun r6928 => some (!r6928)))) : Option Bool) fun e6921 => (bif e6921 then (inrr (some false)) else some (.inl (IntKind.i64.wrap (s3473 + 1))))))) else some (.inr (.inl ()))))) 0) fun | .inl e5199 => some true | .inr w => some w)))))

noncomputable def p_law09_RowColumns (w : Int) (acts : List Law09Act) : Option Bool :=
  (Option.bind p_law09_awake fun r1 => (bif (!r1) then some false else (Option.bind (p_row_Blank (Go.bits .and .i64 w 31) 0) fun r6 => (Option.bind (iter (σ := RowRow × Int) (ρ := RowRow) (fun s216 => (Option.bind ((bif (decide (s216.2 < (acts.length : Int))) then some (decide (s216.2 < 20)) else some false) : Option Bool) fun e325 => (bif e325 then (Option.bind ((Option.bind (idx acts s216.2) fun x390 => (Option.bind ((bif (decide (x390.kind ≥ 0)) then some (decide (x390.kind < 4)) else some false) : Option Bool) fun e401 => (bif e401 then (Option.bind (p_law09_Do s216.1 (Ref09Row.mk ([] : List Ref09Cell) false) x390) fun r407 => some r407.1) else some s216.1))) : Option RowRow) fun e387 => some (.inl (e387, (IntKind.i64.wrap (s216.2 + 1))))) else some (.inr s216.1)))) (r6, 0)) fun e315 => (Option.bind (p_row_Row_Glyphs (RowRow.mk e315.cells true)) fun r416 => (Option.bind (iter (σ := Int × Int) (ρ := Int) (fun s468 => (bif (decide (s468.1 < (r416.length : Int))) then (Option.bind (idx r416 s468.1) fun x508 => (Option.bind (p_wide_Of x508.rune) fun r514 => some (.inl ((IntKind.i64.wrap (s468.1 + 1)), (IntKind.i64.wrap (s468.2 + r514)))))) else some (.inr s468.2))) (0, 0)) fun e490 => (bif (e490 != (Go.bits .and .i64 w 31)) then some false else (Option.bind (p_row_Row_Fill (RowRow.mk e315.cells true) 0) fun r519 => (Option.bind (p_row_Row_Glyphs r519) fun r526 => (Option.bind (iter (σ := Int × Int) (ρ := Int) (fun s578 => (bif (decide (s578.1 < (r526.length : Int))) then (Option.bind (idx r526 s578.1) fun x618 => (Option.bind (p_wide_Of x618.rune) fun r624 => some (.inl ((IntKind.i64.wrap (s578.1 + 1)), (IntKind.i64.wrap (s578.2 + r624)))))) else some (.inr s578.2))) (0, 0)) fun e600 => some (e600 == (imax 0 (IntKind.i64.wrap ((Go.bits .and .i64 w 31) - 1))))))))))))))

noncomputable def p_law09_RowLength (l : List RowCell) (wrapped : Bool) (a : Law09Act) : Option Bool :=
  (Option.bind p_law09_awake fun r2 => (bif (!r2) then some false else (Option.bind (p_law09_Any l wrapped) fun r7 => (Option.bind (p_row_Row_Erase r7 0 (r7.cells.length : Int) a.style) fun r14 => (Option.bind ((Option.bind (p_row_Row_Put r7 a.at_ a.rune a.style) fun r245 => (bif ((r245.cells.length : Int) == (r7.cells.length : Int)) then (Option.bind (p_row_Row_Erase r7 a.at_ a.n a.style) fun r252 => (bif ((r252.cells.length : Int) == (r7.cells.length : Int)) then (Option.bind (p_row_Row_Insert r7 a.at_ a.n a.style) fun r259 => (bif ((r259.cells.length : Int) == (r7.cells.length : Int)) then (Option.bind (p_row_Row_Delete r7 a.at_ a.n a.style) fun r266 => (bif ((r266.cells.length : Int) == (r7.cells.length : Int)) then (Option.bind (p_row_Row_Fill r7 a.style) fun r273 => (bif ((r273.cells.length : Int) == (r7.cells.length : Int)) then (Option.bind (p_row_Blank (r7.cells.length : Int) a.style) fun r280 => (Option.bind (p_row_Row_Same r14 r280) fun r286 => some r286)) else some false)) else some false)) else some false)) else some false)) else some false)) : Option Bool) fun e198 => some e198)))))
end Go.Tw.X

set_option linter.unusedVariables false
set_option linter.unusedSimpArgs false
set_option maxRecDepth 10000
namespace Go.Tw.X
open Go Go.Tw

noncomputable def p_ref05_Encode (r_ : Int) : Option ByteArray :=
  (Option.bind ((bif (decide (r_ < 0)) then some true else (bif (decide (r_ > 1114111)) then some true else (bif (decide (r_ ≥ 55296)) then some (decide (r_ ≤ 57343)) else some false))) : Option Bool) fun e8 => (Option.bind ((bif e8 then some 65533 else some r_) : Option Int) fun e17 => (bif (decide (e17 < 128)) then some (bstr [(IntKind.u8.wrap e17)]) else (bif (decide (e17 < 2048)) then some (bstr [(IntKind.u8.wrap (IntKind.i64.wrap (192 + (IntKind.i64.wrap (e17.tdiv 64))))), (IntKind.u8.wrap (IntKind.i64.wrap (128 + (e17.tmod 64))))]) else (bif (decide (e17 < 65536)) then some (bstr [(IntKind.u8.wrap (IntKind.i64.wrap (224 + (IntKind.i64.wrap (e17.tdiv 4096))))), (IntKind.u8.wrap (IntKind.i64.wrap (128 + ((IntKind.i64.wrap (e17.tdiv 64)).tmod 64)))), (IntKind.u8.wrap (IntKind.i64.wrap (128 + (e17.tmod 64))))]) else some (bstr [(IntKind.u8.wrap (IntKind.i64.wrap (240 + (IntKind.i64.wrap (e17.tdiv 262144))))), (IntKind.u8.wrap (IntKind.i64.wrap (128 + ((IntKind.i64.wrap (e17.tdiv 4096)).tmod 64)))), (IntKind.u8.wrap (IntKind.i64.wrap (128 + ((IntKind.i64.wrap (e17.tdiv 64)).tmod 64)))), (IntKind.u8.wrap (IntKind.i64.wrap (128 + (e17.tmod 64))))]))))))
end Go.Tw.X

set_option linter.unusedVariables false
set_option linter.unusedSimpArgs false
set_option maxRecDepth 10000
namespace Go.Tw.X
open Go Go.Tw
structure Ref10Grid where
  w : Int
  l : List Ref09Row
  deriving DecidableEq, Inhabited

def wfRef10Grid (x : Ref10Grid) : Prop := (inK .i64) x.w ∧ (fun xs : List Ref09Row => ∀ x ∈ xs, wfRef09Row x) x.l ∧ True
noncomputable def p_ref10_size (n_ : Int) : Option Int :=
  some (imax 1 (imin n_ 1000))

noncomputable def p_ref10_New (w : Int) (h_ : Int) : Option Ref10Grid :=
  (Option.bind (p_ref10_size w) fun r2 => (Option.bind (iter (σ := Ref10Grid × Int) (ρ := Ref10Grid) (fun s147 => (Option.bind (p_ref10_size h_) fun r220 => (bif (decide (s147.2 < r220)) then (Option.bind (p_ref09_Blank s147.1.w 0) fun r267 => (Option.bind (chk (apok s147.1.l.length [r267].length 32)) fun _ => some (.inl ((Ref10Grid.mk s147.1.w (s147.1.l ++ [r267])), (IntKind.i64.wrap (s147.2 + 1)))))) else some (.inr s147.1)))) ((Ref10Grid.mk r2 ([] : List Ref09Row)), 0)) fun e213 => some e213))

noncomputable def p_ref10_Set (g : Ref10Grid) (y : Int) (r_ : Ref09Row) : Option (Ref10Grid × Bool) :=
  (Option.bind ((bif (decide (y < 0)) then some true else some (decide (y ≥ (g.l.length : Int)))) : Option Bool) fun e7 => (bif e7 then some (g, false) else (Option.bind (chk (apok ([] : List Ref09Row).length g.l.length 32)) fun _ => (Option.bind (p_ref09_Resize r_ g.w) fun r20 => (Option.bind (idx (([] : List Ref09Row) ++ g.l) y) fun x26 => some ((Ref10Grid.mk g.w ((([] : List Ref09Row) ++ g.l).set y.toNat r20)), true))))))

noncomputable def p_ref10_Move (g : Ref10Grid) (up : Bool) (top : Int) (bottom : Int) (n_ : Int) (style : Int) : Option (Ref10Grid × (List Ref09Row)) :=
  (bif (decide ((imax 0 (imin bottom (IntKind.i64.wrap ((g.l.length : Int) - 1)))) < (imax 0 (imin top (IntKind.i64.wrap ((g.l.length : Int) - 1)))))) then some (g, ([] : List Ref09Row)) else (Option.bind (chk (apok ([] : List Ref09Row).length g.l.length 32)) fun _ => (Option.bind (p_ref09_Blank g.w style) fun r14 => (Option.bind (iter (σ := (List Ref09Row) × (List Ref09Row) × Int) (ρ := (List Ref09Row) × (List Ref09Row)) (fun s1608 => (Option.bind ((bif (decide (s1608.2.2 < n_)) then some (decide (s1608.2.2 ≤ (IntKind.i64.wrap ((imax 0 (imin bottom (IntKind.i64.wrap ((g.l.length : Int) - 1)))) - (imax 0 (imin top (IntKind.i64.wrap ((g.l.length : Int) - 1)))))))) else some false) : Option Bool) fun e2408 => (bif e2408 then (Option.bind ((bif up then (Option.bind (idx s1608.2.1 (imax 0 (imin top (IntKind.i64.wrap ((g.l.length : Int) - 1))))) fun x2934 => (Option.bind (chk (apok s1608.1.length [x2934].length 32)) fun _ => (Option.bind (iter (σ := (List Ref09Row) × Int) (ρ := (List Ref09Row)) (fun s3003 => (bif (decide (s3003.2 < (imax 0 (imin bottom (IntKind.i64.wrap ((g.l.length : Int) - 1)))))) then (Option.bind (idx s3003.1 (IntKind.i64.wrap (s3003.2 + 1))) fun x3047 => (Option.bind (idx s3003.1 s3003.2) fun x3053 => some (.inl ((s3003.1.set s3003.2.toNat x3047), (IntKind.i64.wrap (s3003.2 + 1)))))) else some (.inr s3003.1))) (s1608.2.1, (imax 0 (imin top (IntKind.i64.wrap ((g.l.length : Int) - 1)))))) fun e3028 => (Option.bind (idx e3028 (imax 0 (imin bottom (IntKind.i64.wrap ((g.l.length : Int) - 1))))) fun x3057 => some ((s1608.1 ++ [x2934]), (e3028.set ((imax 0 (imin bottom (IntKind.i64.wrap ((g.l.length : Int) - 1)))).toNat) r14)))))) else (Option.bind (idx s1608.2.1 (imax 0 (imin bottom (IntKind.i64.wrap ((g.l.length : Int) - 1))))) fun x3061 => (Option.bind (chk (apok s1608.1.length [x3061].length 32)) fun _ => (Option.bind (iter (σ := (List Ref09Row) × Int) (ρ := (List Ref09Row)) (fun s3130 => (bif (decide (s3130.2 > (imax 0 (imin top (IntKind.i64.wrap ((g.l.length : Int) - 1)))))) then (Option.bind (idx s3130.1 (IntKind.i64.wrap (s3130.2 - 1))) fun x3174 => (Option.bind (idx s3130.1 s3130.2) fun x3180 => some (.inl ((s3130.1.set s3130.2.toNat x3174), (IntKind.i64.wrap (s3130.2 - 1)))))) else some (.inr s3130.1))) (s1608.2.1, (imax 0 (imin bottom (IntKind.i64.wrap ((g.l.length : Int) - 1)))))) fun e3155 => (Option.bind (idx e3155 (imax 0 (imin top (IntKind.i64.wrap ((g.l.length : Int) - 1))))) fun x3184 => some ((s1608.1 ++ [x3061]), (e3155.set ((imax 0 (imin top (IntKind.i64.wrap ((g.l.length : Int) - 1)))).toNat) r14))))))) : Option ((List Ref09Row) × (List Ref09Row))) fun e2930 => some (.inl (e2930.1, e2930.2, (IntKind.i64.wrap (s1608.2.2 + 1))))) else some (.inr (s1608.1, s1608.2.1))))) (([] : List Ref09Row), (([] : List Ref09Row) ++ g.l), 0)) fun e2398 => some ((Ref10Grid.mk g.w e2398.2), e2398.1)))))

noncomputable def p_ref10_Resize (g : Ref10Grid) (w : Int) (h_ : Int) (off : Int) : Option (Ref10Grid × (List Ref09Row)) :=
  (Option.bind (p_ref10_size w) fun r3 => (Option.bind (iter (σ := Ref10Grid × Int) (ρ := Ref10Grid) (fun s520 => (Option.bind (p_ref10_size h_) fun r775 => (bif (decide (s520.2 < r775)) then (Option.bind ((bif (decide ((IntKind.i64.wrap ((imax 0 (imin off (IntKind.i64.wrap ((g.l.length : Int) - 1)))) + s520.2)) < (g.l.length : Int))) then (Option.bind (idx g.l (IntKind.i64.wrap ((imax 0 (imin off (IntKind.i64.wrap ((g.l.length : Int) - 1)))) + s520.2))) fun x966 => (Option.bind (p_ref09_Resize x966 s520.1.w) fun r976 => (Option.bind (chk (apok s520.1.l.length [r976].length 32)) fun _ => some (Ref10Grid.mk s520.1.w (s520.1.l ++ [r976]))))) else (Option.bind (p_ref09_Blank s520.1.w 0) fun r1004 => (Option.bind (chk (apok s520.1.l.length [r1004].length 32)) fun _ => some (Ref10Grid.mk s520.1.w (s520.1.l ++ [r1004]))))) : Option Ref10Grid) fun e938 => some (.inl (e938, (IntKind.i64.wrap (s520.2 + 1))))) else some (.inr s520.1)))) ((Ref10Grid.mk r3 ([] : List Ref09Row)), 0)) fun e768 => (Option.bind (chk (cutok 0 (imax 0 (imin off (IntKind.i64.wrap ((g.l.length : Int) - 1)))) g.l.length)) fun _ => some (e768, (cut g.l 0 (imax 0 (imin off (IntKind.i64.wrap ((g.l.length : Int) - 1)))))))))

noncomputable def p_ref10_Text (r_ : Ref09Row) : Option ByteArray :=
  (Option.bind (p_ref09_Glyphs r_) fun r2 => (Option.bind (iter (σ := ByteArray × Int) (ρ := ByteArray) (fun s62 => (bif (decide (s62.2 < (r2.length : Int))) then (Option.bind (idx r2 s62.2) fun x108 => (Option.bind (p_ref05_Encode x108.rune) fun r114 => (Option.bind (chk (sadd s62.1.size r114.size)) fun _ => some (.inl ((s62.1 ++ r114), (IntKind.i64.wrap (s62.2 + 1))))))) else some (.inr s62.1))) ((ByteArray.mk #[]), 0)) fun e88 => some e88))
end Go.Tw.X

set_option linter.unusedVariables false
set_option linter.unusedSimpArgs false
set_option maxRecDepth 10000
namespace Go.Tw.X
open Go Go.Tw
structure Law10Act where
  kind : Int
  y : Int
  top : Int
  bottom : Int
  n : Int
  style : Int
  w : Int
  h : Int
  row : Law09Act
  deriving DecidableEq, Inhabited

def wfLaw10Act (x : Law10Act) : Prop := (inK .i64) x.kind ∧ (inK .i64) x.y ∧ (inK .i64) x.top ∧ (inK .i64) x.bottom ∧ (inK .i64) x.n ∧ (inK .i64) x.style ∧ (inK .i64) x.w ∧ (inK .i64) x.h ∧ wfLaw09Act x.row ∧ True
noncomputable def p_law10_awake : Option Bool :=
  (Option.bind (p_grid_New 3 3) fun r1 => (Option.bind (iter (σ := GridGrid × Int) (ρ := GridGrid) (fun s99 => (bif (decide (s99.2 < ([97, 98, 99].length : Int))) then (Option.bind (idx [97, 98, 99] s99.2) fun x170 => (Option.bind (p_grid_Grid_Row s99.1 s99.2) fun r173 => (Option.bind (p_row_Row_Put r173 0 x170 0) fun r179 => (Option.bind (p_grid_Grid_Set s99.1 s99.2 r179) fun r185 => some (.inl (r185.2, (IntKind.i64.wrap (s99.2 + 1)))))))) else some (.inr s99.1))) (r1, 0)) fun e142 => (Option.bind (p_grid_Grid_Up e142 0 1 1 0) fun r189 => (Option.bind (p_grid_Grid_Text r189.2) fun r196 => (Option.bind ((bif ((r189.1.length : Int) == 1) then (Option.bind (idx r189.1 0) fun x283 => (bif ((x283.cells.length : Int) == 3) then (Option.bind (idx r189.1 0) fun x292 => (Option.bind (idx x292.cells 0) fun x298 => (bif (x298.rune == 97) then (bif ((r196.length : Int) == 3) then (Option.bind (idx r196 0) fun x307 => (bif (x307.toList == (ByteArray.mk #[98]).toList) then (Option.bind (idx r196 1) fun x313 => (bif (x313.toList == (ByteArray.mk #[]).toList) then (Option.bind (idx r196 2) fun x317 => some (x317.toList == (ByteArray.mk #[99]).toList)) else some false)) else some false)) else some false) else some false))) else some false)) else some false) : Option Bool) fun e279 => some e279)))))

noncomputable def p_law10_small (n_ : Int) : Option Int :=
  (Option.bind ((bif (decide (n_ > 12)) then some (decide (n_ < 1000)) else some false) : Option Bool) fun e4 => (bif e4 then some 12 else some (imin n_ 12)))

noncomputable def p_law10_Rows (l : List RowRow) (x_ : List Ref09Row) : Option Bool :=
  (bif ((l.length : Int) != (x_.length : Int)) then some false else (Option.bind (iter (σ := Int) (ρ := Unit ⊕ Bool) (fun s382 => (bif (decide (s382 < (x_.length : Int))) then (Option.bind (idx l s382) fun x743 => (Option.bind (idx x_ s382) fun x753 => (Option.bind (p_law09_Is x743 x753) fun r763 => (bif (!r763) then (inrr (some false)) else some (.inl (IntKind.i64.wrap (s382 + 1))))))) else some (.inr (.inl ())))) 0) fun | .inl e571 => some true | .inr w => some w))

noncomputable def p_law10_do (g : GridGrid) (x_ : Ref10Grid) (a : Law10Act) : Option (Ref10Grid × Bool × GridGrid) :=
  (bif (a.kind == 0) then (Option.bind (p_grid_Grid_Row g a.y) fun r241 => (Option.bind ((bif (decide (a.y ≥ 0)) then some (decide (a.y < (x_.l.length : Int))) else some false) : Option Bool) fun e252 => (Option.bind ((bif e252 then (Option.bind (idx x_.l a.y) fun x286 => some x286) else some (Ref09Row.mk ([] : List Ref09Cell) false)) : Option Ref09Row) fun e282 => (Option.bind (p_law09_Is r241 e282) fun r297 => (bif (!r297) then some (x_, false, g) else (Option.bind (p_law09_Do r241 e282 a.row) fun r302 => (Option.bind (p_ref10_Set x_ a.y r302.2) fun r313 => (Option.bind (p_grid_Grid_Set g a.y r302.1) fun r332 => some (r313.1, (r332.1 == r313.2), r332.2))))))))) else (Option.bind ((bif (a.kind == 1) then some (a.kind == 1) else some (a.kind == 2)) : Option Bool) fun e339 => (bif e339 then (Option.bind (p_ref10_Move x_ (a.kind == 1) a.top a.bottom a.n a.style) fun r344 => (bif (a.kind == 1) then (Option.bind (p_grid_Grid_Up g a.top a.bottom a.n a.style) fun r426 => (Option.bind (p_law10_Rows r426.1 r344.2) fun r433 => some (r344.1, r433, r426.2))) else (Option.bind (p_grid_Grid_Down g a.top a.bottom a.n a.style) fun r466 => (Option.bind (p_law10_Rows r466.1 r344.2) fun r473 => some (r344.1, r473, r466.2))))) else (Option.bind ((Option.bind (p_law10_small a.w) fun r1198 => (Option.bind (p_law10_small a.h) fun r1201 => (Option.bind (p_ref10_Resize x_ r1198 r1201 a.n) fun r1204 => some (r1204.1, r1204.2)))) : Option (Ref10Grid × (List Ref09Row))) fun e1053 => (Option.bind (p_law10_small a.w) fun r1394 => (Option.bind (p_law10_small a.h) fun r1397 => (Option.bind (p_grid_Grid_Resize g r1394 r1397 a.n) fun r1400 => (Option.bind (p_law10_Rows r1400.1 e1053.2) fun r1409 => some ((Ref10Grid.mk e1053.1.w e1053.1.l), r1409, r1400.2)))))))))

noncomputable def p_law10_Is (g : GridGrid) (x_ : Ref10Grid) : Option (Bool × GridGrid) :=
  (Option.bind (p_grid_Grid_Size g) fun r2 => (Option.bind (p_grid_Grid_Text g) fun r5 => (Option.bind ((bif (r2.1 != x_.w) then some (true, g) else (bif (r2.2 != (x_.l.length : Int)) then some (true, g) else (Option.bind (p_grid_Grid_Rows g) fun r154 => (Option.bind (p_law10_Rows r154.1 x_.l) fun r161 => (bif (!r161) then some (true, r154.2) else (bif ((r5.length : Int) != r2.2) then some (true, r154.2) else (Option.bind (p_grid_Grid_Row r154.2 (-1)) fun r166 => (bif ((r166.cells.length : Int) != 0) then some (true, r154.2) else (Option.bind (p_grid_Grid_Row r154.2 r2.2) fun r173 => some (((r173.cells.length : Int) != 0), r154.2)))))))))) : Option (Bool × GridGrid)) fun e122 => (bif e122.1 then some (false, e122.2) else (Option.bind (iter (σ := Int) (ρ := Unit ⊕ (Bool × GridGrid)) (fun s684 => (bif (decide (s684 < (x_.l.length : Int))) then (Option.bind (idx x_.l s684) fun x1069 => (Option.bind ((Option.bind (p_grid_Grid_Row e122.2 s684) fun r1174 => (Option.bind (p_law09_Is r1174 x1069) fun r1180 => (bif (!r1180) then some true else (Option.bind (idx r5 s684) fun x1184 => (Option.bind (p_ref10_Text x1069) fun r1189 => some (!(x1184.toList == r1189.toList))))))) : Option Bool) fun e1153 => (bif e1153 then (inrr (some (false, e122.2))) else some (.inl (IntKind.i64.wrap (s684 + 1)))))) else some (.inr (.inl ())))) 0) fun | .inl e935 => some (true, e122.2) | .inr w => some w)))))

noncomputable def p_law10_GridPlays (w : Int) (h_ : Int) (acts : List Law10Act) : Option Bool :=
  (Option.bind p_law10_awake fun r1 => (bif (!r1) then some false else (Option.bind (p_law10_small w) fun r6 => (Option.bind (p_law10_small h_) fun r9 => (Option.bind (p_grid_New r6 r9) fun r12 => (Option.bind (p_law10_small w) fun r19 => (Option.bind (p_law10_small h_) fun r22 => (Option.bind (p_ref10_New r19 r22) fun r25 => (Option.bind (iter (σ := GridGrid × Ref10Grid × Int) (ρ := (Ref10Grid × GridGrid) ⊕ Bool) (fun s421 => (Option.bind ((bif (decide (s421.2.2 < (acts.length : Int))) then some (decide (s421.2.2 < 25)) else some false) : Option Bool) fun e622 => (bif e622 then (Option.bind (idx acts s421.2.2) fun x762 => (Option.bind (p_law10_do s421.1 s421.2.1 x762) fun r769 => (Option.bind ((bif (!r769.2.1) then some (true, r769.2.2) else (Option.bind (p_law10_Is r769.2.2 r769.1) fun r795 => some ((!r795.1), r795.2))) : Option (Bool × GridGrid)) fun e791 => (bif e791.1 then (inrr (some false)) else some (.inl (e791.2, r769.1, (IntKind.i64.wrap (s421.2.2 + 1)))))))) else some (.inr (.inl (s421.2.1, s421.1)))))) (r12, r25, 0)) fun | .inl e611 => (Option.bind (p_law10_Is e611.2 e611.1) fun r802 => some r802.1) | .inr w => some w)))))))))

noncomputable def p_law10_GridRows (w : Int) (h_ : Int) (acts : List Law10Act) : Option Bool :=
  (Option.bind p_law10_awake fun r1 => (bif (!r1) then some false else (Option.bind (p_law10_small w) fun r6 => (Option.bind (p_law10_small h_) fun r9 => (Option.bind (p_grid_New r6 r9) fun r12 => (Option.bind (p_law10_small w) fun r19 => (Option.bind (p_law10_small h_) fun r22 => (Option.bind (p_ref10_New r19 r22) fun r25 => (Option.bind (iter (σ := GridGrid × Ref10Grid × Int) (ρ := (Ref10Grid × GridGrid) ⊕ Bool) (fun s829 => (Option.bind ((bif (decide (s829.2.2 < (acts.length : Int))) then some (decide (s829.2.2 < 20)) else some false) : Option Bool) fun e1234 => (bif e1234 then (Option.bind (idx acts s829.2.2) fun x1476 => (Option.bind (p_law10_do s829.1 s829.2.1 x1476) fun r1483 => (Option.bind (p_grid_Grid_Size r1483.2.2) fun r1492 => (Option.bind (p_grid_Grid_Rows r1483.2.2) fun r1495 => (Option.bind ((bif (decide (r1492.1 < 1)) then some true else (bif (decide (r1492.2 < 1)) then some true else some ((r1495.1.length : Int) != r1492.2))) : Option Bool) fun e1507 => (bif e1507 then (inrr (some false)) else (Option.bind (iter (σ := Int) (ρ := Unit ⊕ ((GridGrid × Ref10Grid × Int) ⊕ ((Ref10Grid × GridGrid) ⊕ Bool))) (fun s1563 => (bif (decide (s1563 < (r1495.1.length : Int))) then (Option.bind (idx r1495.1 s1563) fun x1606 => (bif ((x1606.cells.length : Int) != r1492.1) then (inrr (inrr (some false))) else some (.inl (IntKind.i64.wrap (s1563 + 1))))) else some (.inr (.inl ())))) 0) fun | .inl e1586 => some (.inl (r1495.2, r1483.1, (IntKind.i64.wrap (s829.2.2 + 1)))) | .inr w => some w))))))) else some (.inr (.inl (s829.2.1, s829.1)))))) (r12, r25, 0)) fun | .inl e1223 => some true | .inr w => some w)))))))))

noncomputable def p_law10_GridRegions (acts : List Law10Act) (a : Law10Act) : Option Bool :=
  (Option.bind p_law10_awake fun r2 => (bif (!r2) then some false else (Option.bind (p_grid_New 4 6) fun r7 => (Option.bind (p_ref10_New 4 6) fun r14 => (Option.bind (iter (σ := GridGrid × Ref10Grid × Int) (ρ := Ref10Grid × GridGrid) (fun s526 => (Option.bind ((bif (decide (s526.2.2 < (acts.length : Int))) then some (decide (s526.2.2 < 12)) else some false) : Option Bool) fun e784 => (bif e784 then (Option.bind ((Option.bind ((Option.bind (idx acts s526.2.2) fun x975 => (bif (decide (x975.kind < 3)) then (Option.bind (idx acts s526.2.2) fun x983 => some (decide (x983.kind ≥ 0))) else some false)) : Option Bool) fun e972 => (bif e972 then (Option.bind (idx acts s526.2.2) fun x1004 => (Option.bind (p_law10_do s526.1 s526.2.1 x1004) fun r1011 => some (r1011.1, r1011.2.2))) else some (s526.2.1, s526.1))) : Option (Ref10Grid × GridGrid)) fun e944 => some (.inl (e944.2, e944.1, (IntKind.i64.wrap (s526.2.2 + 1))))) else some (.inr (s526.2.1, s526.1))))) (r7, r14, 0)) fun e774 => (Option.bind (p_grid_Grid_Rows e774.2) fun r1020 => (Option.bind (p_grid_Grid_Up r1020.2 (Go.bits .and .i64 a.top 7) (Go.bits .and .i64 a.bottom 7) 1 a.style) fun r1027 => (Option.bind (p_grid_Grid_Rows r1027.2) fun r1034 => (bif (decide ((imin (Go.bits .and .i64 a.bottom 7) 5) < (imin (Go.bits .and .i64 a.top 7) 5))) then (Option.bind ((bif ((r1027.1.length : Int) == 0) then (Option.bind (p_law10_Rows r1034.1 e774.1.l) fun r1072 => some r1072) else some false) : Option Bool) fun e1068 => some e1068) else (Option.bind ((bif ((r1027.1.length : Int) != 1) then some true else (bif ((r1034.1.length : Int) != 6) then some true else (Option.bind (idx r1027.1 0) fun x1196 => (Option.bind (idx e774.1.l (imin (Go.bits .and .i64 a.top 7) 5)) fun x1201 => (Option.bind (p_law09_Is x1196 x1201) fun r1214 => some (!r1214)))))) : Option Bool) fun e1168 => (bif e1168 then some false else (Option.bind (iter (σ := Int) (ρ := Unit ⊕ Bool) (fun s8542 => (bif (decide (s8542 < 6)) then (Option.bind ((bif (decide (s8542 < (imin (Go.bits .and .i64 a.top 7) 5))) then (Option.bind (idx r1034.1 s8542) fun x15567 => (Option.bind (idx r1020.1 s8542) fun x15572 => (Option.bind (p_row_Row_Same x15567 x15572) fun r15583 => (bif (!r15583) then some true else (bif (decide (s8542 ≥ (imin (Go.bits .and .i64 a.top 7) 5))) then (bif (decide (s8542 < (imin (Go.bits .and .i64 a.bottom 7) 5))) then (Option.bind (idx r1034.1 s8542) fun x15630 => (Option.bind (idx r1020.1 (IntKind.i64.wrap (s8542 + 1))) fun x15633 => (Option.bind (p_row_Row_Same x15630 x15633) fun r15642 => some (!r15642)))) else some false) else some false))))) else (bif (decide (s8542 > (imin (Go.bits .and .i64 a.bottom 7) 5))) then (Option.bind (idx r1034.1 s8542) fun x15701 => (Option.bind (idx r1020.1 s8542) fun x15706 => (Option.bind (p_row_Row_Same x15701 x15706) fun r15717 => (bif (!r15717) then some true else (bif (decide (s8542 ≥ (imin (Go.bits .and .i64 a.top 7) 5))) then (bif (decide (s8542 < (imin (Go.bits .and .i64 a.bottom 7) 5))) then (Option.bind (idx r1034.1 s8542) fun x15764 => (Option.bind (idx r1020.1 (IntKind.i64.wrap (s8542 + 1))) fun x15767 => (Option.bind (p_row_Row_Same x15764 x15767) fun r15776 => some (!r15776)))) else some false) else some false))))) else (bif (decide (s8542 ≥ (imin (Go.bits .and .i64 a.top 7) 5))) then (bif (decide (s8542 < (imin (Go.bits .and .i64 a.bottom 7) 5))) then (Option.bind (idx r1034.1 s8542) fun x15836 => (Option.bind (idx r1020.1 (IntKind.i64.wrap (s8542 + 1))) fun x15841 => (Option.bind (p_row_Row_Same x15836 x15841) fun r15852 => some (!r15852)))) else some false) else some false))) : Option Bool) fun e15259 => (bif e15259 then (inrr (some false)) else some (.inl (IntKind.i64.wrap (s8542 + 1))))) else some (.inr (.inl ())))) 0) fun | .inl e12203 => (Option.bind (p_grid_Grid_Down r1034.2 (imin (Go.bits .and .i64 a.top 7) 5) (imin (Go.bits .and .i64 a.bottom 7) 5) 1 0) fun r15873 => (Option.bind (idx r1027.1 0) fun x15880 => (Option.bind (p_grid_Grid_Set r15873.2 (imin (Go.bits .and .i64 a.top 7) 5) x15880) fun r15888 => (Option.bind (p_grid_Grid_Rows r15888.2) fun r15922 => (Option.bind (p_law10_Rows r15922.1 e774.1.l) fun r15929 => some r15929))))) | .inr w => some w))))))))))))

noncomputable def p_law10_GridSteps (acts : List Law10Act) (a : Law10Act) (n_ : Int) : Option Bool :=
  (Option.bind p_law10_awake fun r2 => (bif (!r2) then some false else (Option.bind (p_grid_New 4 5) fun r7 => (Option.bind (p_ref10_New 4 5) fun r14 => (Option.bind (iter (σ := GridGrid × Ref10Grid × Int) (ρ := Ref10Grid × GridGrid) (fun s526 => (Option.bind ((bif (decide (s526.2.2 < (acts.length : Int))) then some (decide (s526.2.2 < 10)) else some false) : Option Bool) fun e784 => (bif e784 then (Option.bind ((Option.bind ((Option.bind (idx acts s526.2.2) fun x975 => (bif (decide (x975.kind ≥ 0)) then (Option.bind (idx acts s526.2.2) fun x983 => some (decide (x983.kind < 3))) else some false)) : Option Bool) fun e972 => (bif e972 then (Option.bind (idx acts s526.2.2) fun x1004 => (Option.bind (p_law10_do s526.1 s526.2.1 x1004) fun r1011 => some (r1011.1, r1011.2.2))) else some (s526.2.1, s526.1))) : Option (Ref10Grid × GridGrid)) fun e944 => some (.inl (e944.2, e944.1, (IntKind.i64.wrap (s526.2.2 + 1))))) else some (.inr (s526.2.1, s526.1))))) (r7, r14, 0)) fun e774 => (Option.bind (p_grid_Grid_Clone e774.2) fun r1020 => (Option.bind (p_grid_Grid_Up r1020.2 a.top a.bottom (Go.bits .and .i64 n_ 3) a.style) fun r1028 => (Option.bind (iter (σ := GridGrid × (List RowRow) × Int) (ρ := (List RowRow) × GridGrid) (fun s1114 => (bif (decide (s1114.2.2 < (Go.bits .and .i64 n_ 3))) then (Option.bind (p_grid_Grid_Up s1114.1 a.top a.bottom 1 a.style) fun r1171 => (Option.bind (chk (apok s1114.2.1.length r1171.1.length 32)) fun _ => some (.inl (r1171.2, (s1114.2.1 ++ r1171.1), (IntKind.i64.wrap (s1114.2.2 + 1)))))) else some (.inr (s1114.2.1, s1114.1)))) (r1020.1, [], 0)) fun e1149 => (Option.bind ((bif (decide ((e1149.1.length : Int) > (r1028.1.length : Int))) then (Option.bind (chk (cutok 0 (r1028.1.length : Int) e1149.1.length)) fun _ => some (cut e1149.1 0 (r1028.1.length : Int))) else some e1149.1) : Option (List RowRow)) fun e1198 => (Option.bind ((bif ((r1028.1.length : Int) != (e1198.length : Int)) then some true else (Option.bind (p_grid_Grid_Same r1028.2 e1149.2) fun r1220 => some (!r1220))) : Option Bool) fun e1216 => (bif e1216 then some false else (Option.bind (iter (σ := Int) (ρ := Unit ⊕ Bool) (fun s2068 => (bif (decide (s2068 < (r1028.1.length : Int))) then (Option.bind ((Option.bind (idx r1028.1 s2068) fun x2882 => (Option.bind (idx e1198 s2068) fun x2887 => (Option.bind (p_row_Row_Same x2882 x2887) fun r2898 => some (!r2898)))) : Option Bool) fun e2845 => (bif e2845 then (inrr (some false)) else some (.inl (IntKind.i64.wrap (s2068 + 1))))) else some (.inr (.inl ())))) 0) fun | .inl e2489 => some true | .inr w => some w))))))))))))

noncomputable def p_law10_GridClones (acts : List Law10Act) (more : List Law10Act) : Option Bool :=
  (Option.bind p_law10_awake fun r1 => (bif (!r1) then some false else (Option.bind (p_grid_New 5 4) fun r6 => (Option.bind (p_ref10_New 5 4) fun r13 => (Option.bind (iter (σ := Ref10Grid × GridGrid × Int) (ρ := (Ref10Grid × GridGrid) ⊕ Bool) (fun s325 => (Option.bind ((bif (decide (s325.2.2 < (acts.length : Int))) then some (decide (s325.2.2 < 12)) else some false) : Option Bool) fun e484 => (bif e484 then (Option.bind (idx acts s325.2.2) fun x603 => (Option.bind (p_law10_do s325.2.1 s325.1 x603) fun r610 => (bif (!r610.2.1) then (inrr (some false)) else some (.inl (r610.1, r610.2.2, (IntKind.i64.wrap (s325.2.2 + 1))))))) else some (.inr (.inl (s325.1, s325.2.1)))))) (r13, r6, 0)) fun | .inl e473 => (Option.bind ((Option.bind (p_grid_Grid_Clone e473.2) fun r757 => some (r757.1, e473.1, r757.2)) : Option (GridGrid × Ref10Grid × GridGrid)) fun e730 => (Option.bind (p_grid_Grid_Same (GridGrid.mk e730.1.w e730.1.l) e730.2.2) fun r784 => (bif (!r784) then some false else (Option.bind (iter (σ := GridGrid × Ref10Grid × Int) (ρ := (GridGrid × Ref10Grid) ⊕ Bool) (fun s1094 => (Option.bind ((bif (decide (s1094.2.2 < (more.length : Int))) then some (decide (s1094.2.2 < 12)) else some false) : Option Bool) fun e1253 => (bif e1253 then (Option.bind (idx more s1094.2.2) fun x1372 => (Option.bind (p_law10_do s1094.1 s1094.2.1 x1372) fun r1379 => (bif (!r1379.2.1) then (inrr (some false)) else some (.inl (r1379.2.2, r1379.1, (IntKind.i64.wrap (s1094.2.2 + 1))))))) else some (.inr (.inl (s1094.1, s1094.2.1)))))) ((GridGrid.mk e730.1.w e730.1.l), (Ref10Grid.mk e730.2.1.w e730.2.1.l), 0)) fun | .inl e1242 => (Option.bind ((bif (e473.1.w == e1242.2.w) then some ((e473.1.l.length : Int) == (e1242.2.l.length : Int)) else some false) : Option Bool) fun e1394 => (Option.bind (iter (σ := Bool × Int) (ρ := Bool) (fun s1574 => (Option.bind ((bif s1574.1 then some (decide (s1574.2 < (e473.1.l.length : Int))) else some false) : Option Bool) fun e1671 => (bif e1671 then (Option.bind (idx e1242.2.l s1574.2) fun x1734 => (Option.bind (p_grid_Grid_Row e730.2.2 s1574.2) fun r1744 => (Option.bind (p_law09_Is r1744 x1734) fun r1750 => some (.inl (r1750, (IntKind.i64.wrap (s1574.2 + 1))))))) else some (.inr s1574.1)))) (e1394, 0)) fun e1661 => (Option.bind ((Option.bind (p_law10_Is e730.2.2 e473.1) fun r1787 => (bif r1787.1 then (Option.bind (p_law10_Is e1242.1 e1242.2) fun r1792 => (bif r1792.1 then (Option.bind (p_grid_Grid_Same r1787.2 r1792.2) fun r1797 => some ((r1797 == e1661), r1792.2, r1787.2)) else some (false, r1792.2, r1787.2))) else some (false, e1242.1, r1787.2))) : Option (Bool × GridGrid × GridGrid)) fun e1784 => some e1784.1))) | .inr w => some w)))) | .inr w => some w)))))
end Go.Tw.X

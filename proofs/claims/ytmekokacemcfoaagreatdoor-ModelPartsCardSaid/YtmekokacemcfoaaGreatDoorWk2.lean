import Derived.Test.YtmekokacemcfoaaGreatDoorWk1
import Derived.Test.YtmekokacemcfoaaGreatDoorFw2
set_option maxHeartbeats 2000000
set_option linter.unusedVariables false
set_option linter.unusedSimpArgs false
set_option maxRecDepth 10000
namespace Go.Tw.X
open Go Go.Tw
variable {A0 A1 A2 A3 A4 A5 A6 A7 A8 : Option Addr} {C0 C1 C2 C3 C4 C5 C6 C7 C8 : Nat}
variable {N0 N1 N2 N3 N4 : Nat}
theorem c_row_Row_within {r_ : RowRow} {at_ : Int} {n_ : Int} {r : Int} (H : p_row_Row_within r_ at_ n_ = some r) : CT G 212 [.agg #[.slice A0 r_.cells.length C0, .bool r_.wrapped], .int .i64 at_, .int .i64 n_] [] [Im.sl tyRowCell A0 C0 r_.cells] (fun _ : Unit => .int .i64 r) (fun h => []) (fun h => []) := by
 delta p_row_Row_within at H
 refine CT.of Go.Proofs.Tryz.func212 (by kernel_rfl) rfl rfl rfl fun K => ?_
 refine Ts (Tr ?_)
 refine Lx fun g1 => ?_
 refine Lq 1 ?_
 refine Ln (Et (Ts (Ts ?_)))
 obtain ⟨e5, H6, H7⟩ := bnd H
 refine Tj0 [(15, .bool e5)] [1, 2, 3] [] [0] ?_ ?_
 ·refine Tr ?_
  refine Lq 3 ?_
  refine Lw 9 H6 (fun H8 => ?_) fun H8 => ?_
  ·refine Lq 6 ?_
   refine Ln ?_
   obtain rfl := sm H8
   exact Eg0 [0] 0
  refine Lq 2 ?_
  refine Lb 0 ?_
  refine Lq 3 ?_
  refine Ln ?_
  obtain rfl := sm H8
  exact Eg0 [0] 0
 refine Tb H7 (fun H10 => ?_) fun H10 => ?_
 ·refine Ts (Tr ?_)
  refine Lq 1 ?_
  refine Ln (Et (Tv (Er ?_)))
  obtain rfl := sm H10
  exact Eo1 () [] []
 refine Tk (Et (Ts (Tr ?_)))
 refine Lq 2 ?_
 refine Lb 0 ?_
 refine Lq 3 ?_
 obtain ⟨r11, h12, H13⟩ := bnd H10
 refine Lk [] [] (c_row_clip h12) fun ⟨⟩ => ?_
 refine Lq 1 ?_
 refine Ln (Et (Tv ?_))
 obtain rfl := sm H13
 exact Eo1 () [] []

theorem c_slices_Grow_row_Cell {n_ : Int} {r : (List RowCell)} (H : p_slices_Grow_row_Cell n_ = some r) : CT G 220 [.slice none 0 0, .int .i64 n_] [] [] (fun h : (Option Addr × Nat) => .slice h.1 r.length h.2) (fun h => [Ch.arr tyRowCell 123 h.1 h.2 r]) (fun h => []) := by
 delta p_slices_Grow_row_Cell at H
 refine CT.of Go.Proofs.Tryz.func220 (by kernel_rfl) rfl rfl rfl fun K => ?_
 refine Ts (Tr ?_)
 refine Lq 1 ?_
 refine Ln (Et (Ts (Ts (Tr ?_))))
 refine Lq 2 ?_
 refine Ln (Et ?_)
 refine Tb H (fun H2 => ?_) fun H2 => ?_
 ·cases H2
 refine Tk (Et (Ts (Ts (Tr ?_))))
 refine Lq 8 ?_
 refine Ln (Et (Ts (Tr ?_)))
 refine Lq 2 ?_
 refine Ln (Et ?_)
 obtain ⟨e29, H30, H31⟩ := bnd H2
 refine Tjh (η := (Option Addr × Nat)) (fun h => (fun a26 c27 => [(0, .slice a26 e29.length c27)]) h.1 h.2) [] (fun h => (fun a26 c27 => [Ch.arr tyRowCell 123 a26 c27 e29]) h.1 h.2) [] (fun _ => []) ?_ ?_
 ·refine Tb H30 (fun H32 => ?_) fun H32 => ?_
  ·refine Tr ?_
   refine Lq 3 ?_
   refine Ly (Yl.snil rfl rfl rfl rfl rfl rfl rfl) ?_
   refine Lq 1 ?_
   obtain ⟨_, h33, H34⟩ := bnd H32
   refine La [] [] (Ac.gz (ty := tyRowCell) (RowCell.mk 0 0 0) () h33 (fun _ _ f hf => by cases hf) rfl rfl rfl rfl rfl rfl rfl rfl rfl rfl) ?_
   rintro ⟨a35, c36⟩
   refine Lq 2 ?_
   obtain ⟨_, h38, H39⟩ := bnd H34
   refine La [0] [] (Ac.rso h38 rfl rfl rfl rfl rfl rfl rfl) fun _ => ?_
   refine Lq 1 ?_
   refine Ln ?_
   obtain rfl := sm H39
   exact Eg (a35, c36) trivial [0] [] 0
  refine Tk ?_
  refine E.nil0 tyRowCell 123 ?_
  obtain rfl := sm H32
  exact Eg (none, 0) trivial [0] [] 0
 rintro ⟨a26, c27⟩
 refine Ts (Tr ?_)
 refine Lq 2 ?_
 refine Ln (Et (Tv ?_))
 obtain rfl := sm H31
 exact Eo1 (a26, c27) [0] []

theorem c_slices_Concat_row_Cell {slices : List (List RowCell)} {r : (List RowCell)} (H : p_slices_Concat_row_Cell slices = some r) : CT G 213 [.slice A0 slices.length C0] [] [Im.sl (Ty.slice tyRowCell) A0 C0 slices] (fun h : (Option Addr × Nat) => .slice h.1 r.length h.2) (fun h => [Ch.arr tyRowCell 123 h.1 h.2 r]) (fun h => []) := by
 delta p_slices_Concat_row_Cell at H
 refine CT.of Go.Proofs.Tryz.func213 (by kernel_rfl) rfl rfl rfl fun K => ?_
 refine Ts (Tr ?_)
 refine Lq 1 ?_
 refine Ln (Et (Ts (Tr ?_)))
 refine Lq 1 ?_
 refine Ln (Et (Ts (Ts (Tr ?_))))
 refine Lq 3 ?_
 refine Ln (Et ?_)
 obtain ⟨e81, H82, H83⟩ := bnd H
 refine Tj0 [(3, .int .i64 e81)] [0] [] [] ?_ ?_
 ·refine Tl ?_
  refine Tq (η := Unit) (fun s55 h => [(3, .int .i64 s55.2), (11, .int .i64 s55.1)]) [0, 9, 10] (fun _ _ => []) [] (fun _ _ => []) () [] [] H82 ?_
  rintro k_ s55 ⟨⟩ z85 H84 hag86 hbr87
  refine Ts (Tr ?_)
  refine Lq 1 ?_
  refine Ln (Et (Ts ?_))
  refine Tb H84 (fun H89 => ?_) fun H89 => ?_
  ·refine Tk (Et (Ts (Tl (Ts (Tr ?_)))))
   obtain ⟨x101, h102, H103⟩ := bnd H89
   refine L.addr 0 rfl (idx_lt h102) fun b104 o105 e106 => ?_
   subst e106
   refine Ly (Yl.ia h102 rfl rfl rfl rfl rfl rfl) ?_
   refine L.el 0 rfl (idx_some h102).2 ?_
   rintro ⟨a107, c108⟩
   refine Lc 0 0 ?_
   refine Lq 1 ?_
   refine Ln (Et (Ts (Tr ?_)))
   refine Lq 5 ?_
   refine Ln (Et (Ts (Tr ?_)))
   refine Lq 2 ?_
   refine Ln (Et ?_)
   refine Tb H103 (fun H111 => ?_) fun H111 => ?_
   ·cases H111
   refine Tk (Eb (Et (Tr ?_)))
   refine Lq 2 ?_
   refine Ln ?_
   obtain rfl := sm H111
   exact Eg (_, ()) (hag86 _ rfl) [] [] 2
  refine Tx (Ex (Ex (Eh ?_)))
  obtain rfl := sm H89
  have hb := hbr87 _ rfl
  subst e81
  exact Eg0 [] 0
 refine Ts (Tr ?_)
 refine Lq 1 ?_
 obtain ⟨r112, h113, H114⟩ := bnd H83
 refine Lk [] [] (c_slices_Grow_row_Cell h113) fun ⟨a115, c116⟩ => ?_
 refine Lq 1 ?_
 refine Ln (Et (Ts (Ts (Tr ?_))))
 refine Lq 3 ?_
 refine Ln (Et ?_)
 obtain ⟨e234, H235, H236⟩ := bnd H114
 refine Tjh (η := (Option Addr × Nat)) (fun h => (fun a231 c232 => [(6, .slice a231 e234.length c232)]) h.1 h.2) [] (fun h => (fun a231 c232 => [Ch.arr tyRowCell 123 a231 c232 e234]) h.1 h.2) [] (fun _ => []) ?_ ?_
 ·refine Tl ?_
  refine Tq (η := (Option Addr × Nat)) (fun s197 h => (fun a194 c195 => [(6, .slice a194 s197.2.length c195), (27, .int .i64 s197.1)]) h.1 h.2) [25, 26] (fun s197 h => (fun a194 c195 => [Ch.arr tyRowCell 123 a194 c195 s197.2]) h.1 h.2) [] (fun _ _ => []) (a115, c116) [0] [] H235 ?_
  rintro k_ s197 ⟨a194, c195⟩ z238 H237 hag239 hbr240
  refine Ts (Tr ?_)
  refine Lq 1 ?_
  refine Ln (Et (Ts ?_))
  refine Tb H237 (fun H242 => ?_) fun H242 => ?_
  ·refine Tk (Et (Ts (Tl (Ts (Tr ?_)))))
   obtain ⟨x258, h259, H260⟩ := bnd H242
   refine L.addr 0 rfl (idx_lt h259) fun b261 o262 e263 => ?_
   subst e263
   refine Ly (Yl.ia h259 rfl rfl rfl rfl rfl rfl) ?_
   refine L.el 0 rfl (idx_some h259).2 ?_
   rintro ⟨a264, c265⟩
   refine Lc 0 0 ?_
   refine Lq 1 ?_
   refine Ln (Et (Tr ?_))
   refine Lq 2 ?_
   obtain ⟨_, h268, H269⟩ := bnd H260
   refine La [0] [1] (Ac.ap (ty := tyRowCell) h268 rfl rfl rfl rfl rfl rfl rfl) ?_
   rintro ⟨a270, c271⟩
   refine Lq 1 ?_
   refine Ln (Eb (Et (Tr ?_)))
   refine Lq 2 ?_
   refine Ln ?_
   obtain rfl := sm H269
   exact Eg (_, (a270, c271)) (hag239 _ rfl) [0] [] 2
  refine Tx (Ex (Ex (Eh ?_)))
  obtain rfl := sm H242
  have hb := hbr240 _ rfl
  subst e234
  exact Eg (a194, c195) trivial [0] [] 0
 rintro ⟨a231, c232⟩
 refine Ts (Tr ?_)
 refine Lq 2 ?_
 refine Ln (Et (Tv ?_))
 obtain rfl := sm H236
 exact Eo1 (a231, c232) [0] []

theorem c_row_Row_Insert {r_ : RowRow} {at_ : Int} {n_ : Int} {style : Int} {r : RowRow} (H : p_row_Row_Insert r_ at_ n_ style = some r) : CT G 193 [.agg #[.slice A0 r_.cells.length C0, .bool r_.wrapped], .int .i64 at_, .int .i64 n_, .int .i64 style] [] [Im.sl tyRowCell A0 C0 r_.cells] (fun h : (Option Addr × Nat) => .agg #[.slice h.1 r.cells.length h.2, .bool r.wrapped]) (fun h => []) (fun h => [Im.sl tyRowCell h.1 h.2 r.cells]) := by
 delta p_row_Row_Insert at H
 refine CT.of Go.Proofs.Tryz.func193 (by kernel_rfl) rfl rfl rfl fun K => ?_
 refine Ts (Tr ?_)
 refine Lx fun g1 => ?_
 refine Ll fun g2 => ?_
 refine Ln (Et (Ts (Tr ?_)))
 refine Lb 1 ?_
 refine Lq 2 ?_
 obtain ⟨r3, h4, H5⟩ := bnd H
 refine Lk [] [0] (c_row_Row_within h4) fun ⟨⟩ => ?_
 refine Lq 1 ?_
 refine Ln (Et (Ts (Ts (Tr ?_))))
 refine Lq 2 ?_
 refine Ln (Et ?_)
 refine Tb H5 (fun H17 => ?_) fun H17 => ?_
 ·refine Ts (Tr ?_)
  refine Lb 1 ?_
  obtain ⟨r18, h19, H20⟩ := bnd H17
  refine Lk [] [0] (c_row_Row_cells h19) fun ⟨a21, c22⟩ => ?_
  obtain ⟨r24, h25, H26⟩ := bnd H20
  refine Lk [0] [] (c_row_mend h25) fun ⟨⟩ => ?_
  refine Lt 0 ?_
  refine Ln (Et (Tv (Er ?_)))
  obtain rfl := sm H26
  exact Eo (a21, c22) [] [0] (.cell 0 rfl rfl rfl .nil)
 refine Tk (Et (Ts ?_))
 refine Td [] [0, 0] mo ?_
 refine Dq 0 ?_
 refine Db 1 1 ?_
 refine Dq 2 ?_
 obtain ⟨_, h106, H107⟩ := bnd H17
 refine D.rsl 0 3 h106 rfl rfl rfl rfl rfl rfl rfl rfl rfl rfl rfl rfl rfl rfl ?_
 intro a108 c109
 refine Dq 4 ?_
 refine Dq 5 ?_
 refine Dq 7 ?_
 refine Db 8 1 ?_
 refine Dq 9 ?_
 obtain ⟨_, h111, H112⟩ := bnd H107
 refine D.rsl 1 10 h111 rfl rfl rfl rfl rfl rfl rfl rfl rfl rfl rfl rfl rfl rfl ?_
 intro a113 c114
 obtain ⟨r116, h117, H118⟩ := bnd H112
 refine Dk [] [] (c_row_blanks h117) fun ⟨a119, c120⟩ => ?_
 refine D.frz 0 rfl ?_
 refine Da [] [2, 0, 1] rfl rfl (Ac.bs (ty := (Ty.slice tyRowCell)) (xs := [(cut r_.cells 0 at_), r116, (cut r_.cells at_ (r_.cells.length : Int))]) (.cons (a108, c109) [0] rfl (.cons (a119, c120) [1] rfl (.cons (a113, c114) [2] rfl .nil))) rfl rfl rfl rfl rfl rfl rfl) fun g123 => ?_
 refine D.frz 0 rfl ?_
 obtain ⟨r126, h127, H128⟩ := bnd H118
 refine Dk [] [0] (c_slices_Concat_row_Cell h127) fun ⟨a129, c130⟩ => ?_
 refine Dq 13 ?_
 refine Dn ?_
 refine Et (Ts (Tr ?_))
 refine Lq 2 ?_
 refine Lb 1 ?_
 refine Lq 1 ?_
 obtain ⟨_, h132, H133⟩ := bnd H128
 refine La [2] [] (Ac.rso h132 rfl rfl rfl rfl rfl rfl rfl) fun _ => ?_
 obtain ⟨r137, h138, H139⟩ := bnd H133
 refine Lk [0] [] (c_row_mend h138) fun ⟨⟩ => ?_
 refine Lt 0 ?_
 refine Ln (Et (Tv ?_))
 obtain rfl := sm H139
 exact Eo (a129, c130) [] [0] (.cell 0 rfl rfl rfl .nil)

theorem c_row_Row_Delete {r_ : RowRow} {at_ : Int} {n_ : Int} {style : Int} {r : RowRow} (H : p_row_Row_Delete r_ at_ n_ style = some r) : CT G 194 [.agg #[.slice A0 r_.cells.length C0, .bool r_.wrapped], .int .i64 at_, .int .i64 n_, .int .i64 style] [] [Im.sl tyRowCell A0 C0 r_.cells] (fun h : (Option Addr × Nat) => .agg #[.slice h.1 r.cells.length h.2, .bool r.wrapped]) (fun h => []) (fun h => [Im.sl tyRowCell h.1 h.2 r.cells]) := by
 delta p_row_Row_Delete at H
 refine CT.of Go.Proofs.Tryz.func194 (by kernel_rfl) rfl rfl rfl fun K => ?_
 refine Ts (Tr ?_)
 refine Lx fun g1 => ?_
 refine Ll fun g2 => ?_
 refine Ln (Et (Ts (Tr ?_)))
 refine Lb 1 ?_
 refine Lq 2 ?_
 obtain ⟨r3, h4, H5⟩ := bnd H
 refine Lk [] [0] (c_row_Row_within h4) fun ⟨⟩ => ?_
 refine Lq 1 ?_
 refine Ln (Et (Ts (Ts (Tr ?_))))
 refine Lq 2 ?_
 refine Ln (Et ?_)
 refine Tb H5 (fun H17 => ?_) fun H17 => ?_
 ·refine Ts (Tr ?_)
  refine Lb 1 ?_
  obtain ⟨r18, h19, H20⟩ := bnd H17
  refine Lk [] [0] (c_row_Row_cells h19) fun ⟨a21, c22⟩ => ?_
  obtain ⟨r24, h25, H26⟩ := bnd H20
  refine Lk [0] [] (c_row_mend h25) fun ⟨⟩ => ?_
  refine Lt 0 ?_
  refine Ln (Et (Tv (Er ?_)))
  obtain rfl := sm H26
  exact Eo (a21, c22) [] [0] (.cell 0 rfl rfl rfl .nil)
 refine Tk (Et (Ts ?_))
 refine Td [16] [0, 0] mo ?_
 refine Dq 0 ?_
 refine Db 1 1 ?_
 refine Dq 2 ?_
 obtain ⟨_, h118, H119⟩ := bnd H17
 refine D.rsl 0 3 h118 rfl rfl rfl rfl rfl rfl rfl rfl rfl rfl rfl rfl rfl rfl ?_
 intro a120 c121
 refine Dq 4 ?_
 refine Db 5 1 ?_
 refine Dq 6 ?_
 refine Dq 7 ?_
 refine Dq 8 ?_
 obtain ⟨_, h123, H124⟩ := bnd H119
 refine D.rsl 1 9 h123 rfl rfl rfl rfl rfl rfl rfl rfl rfl rfl rfl rfl rfl rfl ?_
 intro a125 c126
 refine Dq 10 ?_
 refine Dq 11 ?_
 obtain ⟨r128, h129, H130⟩ := bnd H124
 refine Dk [] [] (c_row_blanks h129) fun ⟨a131, c132⟩ => ?_
 refine D.frz 0 rfl ?_
 refine Da [] [2, 1, 0] rfl rfl (Ac.bs (ty := (Ty.slice tyRowCell)) (xs := [(cut r_.cells 0 at_), (cut r_.cells (IntKind.i64.wrap (at_ + r3)) (r_.cells.length : Int)), r128]) (.cons (a120, c121) [0] rfl (.cons (a125, c126) [1] rfl (.cons (a131, c132) [2] rfl .nil))) rfl rfl rfl rfl rfl rfl rfl) fun g135 => ?_
 refine D.frz 0 rfl ?_
 obtain ⟨r138, h139, H140⟩ := bnd H130
 refine Dk [] [0] (c_slices_Concat_row_Cell h139) fun ⟨a141, c142⟩ => ?_
 obtain ⟨r144, h145, H146⟩ := bnd H140
 refine Dk [0] [] (c_row_mend h145) fun ⟨⟩ => ?_
 refine Dt 0 ?_
 refine Dn ?_
 refine Et (Tv ?_)
 obtain rfl := sm H146
 exact Eo (a141, c142) [] [0] (.cell 0 rfl rfl rfl .nil)

theorem c_screen_Screen_cells_1 {r_ : RowRow} {x1 : Int} {x2 : ScreenScreen} {x3 : Int} {r : RowRow} (H : p_screen_Screen_cells_1 r_ x1 x2 x3 = some r) : CT G 192 [.agg #[.slice A0 r_.cells.length C0, .bool r_.wrapped], .pointer (some ⟨N0, 0, none⟩), .pointer (some ⟨N1, 0, none⟩), .pointer (some ⟨N4, 0, none⟩)] [Ch.box N0 5 [.int .u8 x1], Ch.box N1 35 [.pointer (some ⟨N2, 0, none⟩)], Ch.box N2 132 [.pointer (some ⟨N3, 0, none⟩), .int .i64 x2.spot.x, .int .i64 x2.spot.y, .int .i64 x2.spot.style.fore, .int .i64 x2.spot.style.back, .bool x2.spot.style.bold, .bool x2.spot.style.under, .bool x2.spot.style.inverse, .int .i64 x2.saved.x, .int .i64 x2.saved.y, .int .i64 x2.saved.style.fore, .int .i64 x2.saved.style.back, .bool x2.saved.style.bold, .bool x2.saved.style.under, .bool x2.saved.style.inverse, .bool x2.waiting, .int .i64 x2.top, .int .i64 x2.bottom, .bool x2.wraps, .string x2.title], Ch.box N3 181 [.int .i64 x2.g.w, .slice A1 x2.g.l.length C1], Ch.arr tyRowRow 99 A1 C1 x2.g.l, Ch.box N4 3 [.int .i64 x3]] [Im.sl tyRowCell A0 C0 r_.cells] (fun h : (Option Addr × Nat) => .agg #[.slice h.1 r.cells.length h.2, .bool r.wrapped]) (fun h => [Ch.box N0 5 [.int .u8 x1], Ch.box N1 35 [.pointer (some ⟨N2, 0, none⟩)], Ch.box N2 132 [.pointer (some ⟨N3, 0, none⟩), .int .i64 x2.spot.x, .int .i64 x2.spot.y, .int .i64 x2.spot.style.fore, .int .i64 x2.spot.style.back, .bool x2.spot.style.bold, .bool x2.spot.style.under, .bool x2.spot.style.inverse, .int .i64 x2.saved.x, .int .i64 x2.saved.y, .int .i64 x2.saved.style.fore, .int .i64 x2.saved.style.back, .bool x2.saved.style.bold, .bool x2.saved.style.under, .bool x2.saved.style.inverse, .bool x2.waiting, .int .i64 x2.top, .int .i64 x2.bottom, .bool x2.wraps, .string x2.title], Ch.box N3 181 [.int .i64 x2.g.w, .slice A1 x2.g.l.length C1], Ch.arr tyRowRow 99 A1 C1 x2.g.l, Ch.box N4 3 [.int .i64 x3]]) (fun h => [Im.sl tyRowCell h.1 h.2 r.cells]) := by
 delta p_screen_Screen_cells_1 at H
 refine CT.of Go.Proofs.Tryz.func192 (by kernel_rfl) rfl rfl rfl fun K => ?_
 refine Ts (Tr ?_)
 refine Lx fun g1 => ?_
 refine Ll fun g2 => ?_
 refine Ln (Et (Ts (Ts (Tr ?_))))
 refine Lb 2 ?_
 refine Ln (Et (Tl (Ts (Tr ?_))))
 refine Lq 2 ?_
 refine Ln (Et ?_)
 refine Tb H (fun H77 => ?_) fun H77 => ?_
 ·refine Ts ?_
  refine Td [9, 10] [0, 0, 0, 0, 0, 0, 0, 0] mo ?_
  refine Db 0 1 ?_
  refine Db 1 3 ?_
  refine Dq 2 ?_
  refine Dq 3 ?_
  refine Dq 4 ?_
  refine Db 5 4 ?_
  refine Db 6 7 ?_
  refine Db 7 3 ?_
  obtain ⟨r105, h106, H107⟩ := bnd H77
  refine D.one rfl rfl rfl (Dp.br (Ac.call (c_screen_Screen_num h106) rfl rfl rfl rfl) (Bw.bx 4 rfl (Bw.bx 5 rfl (Bw.ch 6 rfl (Bw.nil)))) rfl rfl rfl rfl ?_)
  intro _
  obtain ⟨r108, h109, H110⟩ := bnd H107
  refine Dkl [] [0] (c_row_Row_Insert h109) fun ⟨a111, c112⟩ => ?_
  refine Dt 0 ?_
  refine Dn ?_
  refine Et (Tv (Ev (Er ?_)))
  obtain rfl := sm H110
  exact Eo (a111, c112) [2, 2, 2, 2, 2, 2] [0] (.cell 0 rfl rfl rfl .nil)
 refine Ts (Tr ?_)
 refine Lq 2 ?_
 refine Ln (Et ?_)
 refine Tb H77 (fun H114 => ?_) fun H114 => ?_
 ·refine Ts ?_
  refine Td [9, 10] [0, 0, 0, 0, 0, 0, 0, 0] mo ?_
  refine Db 0 1 ?_
  refine Db 1 3 ?_
  refine Dq 2 ?_
  refine Dq 3 ?_
  refine Dq 4 ?_
  refine Db 5 4 ?_
  refine Db 6 7 ?_
  refine Db 7 3 ?_
  obtain ⟨r142, h143, H144⟩ := bnd H114
  refine D.one rfl rfl rfl (Dp.br (Ac.call (c_screen_Screen_num h143) rfl rfl rfl rfl) (Bw.bx 4 rfl (Bw.bx 5 rfl (Bw.ch 6 rfl (Bw.nil)))) rfl rfl rfl rfl ?_)
  intro _
  obtain ⟨r145, h146, H147⟩ := bnd H144
  refine Dkl [] [0] (c_row_Row_Delete h146) fun ⟨a148, c149⟩ => ?_
  refine Dt 0 ?_
  refine Dn ?_
  refine Et (Tv (Ev (Er ?_)))
  obtain rfl := sm H147
  exact Eo (a148, c149) [2, 2, 2, 2, 2, 2] [0] (.cell 0 rfl rfl rfl .nil)
 refine Tk (Eb (Et (Ts ?_)))
 refine Td [16] [0, 0, 0, 0, 0, 0, 0, 0] mo ?_
 refine Db 0 1 ?_
 refine Db 1 3 ?_
 refine Dq 2 ?_
 refine Dq 3 ?_
 refine Dq 4 ?_
 refine Db 5 4 ?_
 refine Db 6 3 ?_
 refine Dq 7 ?_
 refine Dq 8 ?_
 refine Dq 9 ?_
 refine Db 10 4 ?_
 refine Db 11 7 ?_
 refine Dq 12 ?_
 refine Db 13 3 ?_
 obtain ⟨r178, h179, H180⟩ := bnd H114
 refine D.one rfl rfl rfl (Dp.br (Ac.call (c_screen_Screen_num h179) rfl rfl rfl rfl) (Bw.bx 4 rfl (Bw.bx 5 rfl (Bw.ch 6 rfl (Bw.nil)))) rfl rfl rfl rfl ?_)
 intro _
 obtain ⟨r181, h182, H183⟩ := bnd H180
 refine Dk [] [0] (c_row_Row_Erase h182) fun ⟨a184, c185⟩ => ?_
 refine Dt 0 ?_
 refine Dn ?_
 refine Et (Tv ?_)
 obtain rfl := sm H183
 exact Eo (a184, c185) [2, 2, 2, 2, 2, 2] [0] (.cell 0 rfl rfl rfl .nil)

theorem c_screen_Screen_edit_Screen_cells_1 {s_ : ScreenScreen} {f_0 : Int} {f_2 : Int} {r : ScreenScreen} (H : p_screen_Screen_edit_Screen_cells_1 s_ f_0 f_2 = some r) : CT G 147 [.pointer (some ⟨N0, 0, none⟩), .func (.func 192) #[] #[.pointer (some ⟨N2, 0, none⟩), .pointer (some ⟨N3, 0, none⟩), .pointer (some ⟨N4, 0, none⟩)]] [Ch.box N0 132 [.pointer (some ⟨N1, 0, none⟩), .int .i64 s_.spot.x, .int .i64 s_.spot.y, .int .i64 s_.spot.style.fore, .int .i64 s_.spot.style.back, .bool s_.spot.style.bold, .bool s_.spot.style.under, .bool s_.spot.style.inverse, .int .i64 s_.saved.x, .int .i64 s_.saved.y, .int .i64 s_.saved.style.fore, .int .i64 s_.saved.style.back, .bool s_.saved.style.bold, .bool s_.saved.style.under, .bool s_.saved.style.inverse, .bool s_.waiting, .int .i64 s_.top, .int .i64 s_.bottom, .bool s_.wraps, .string s_.title], Ch.box N1 181 [.int .i64 s_.g.w, .slice A0 s_.g.l.length C0], Ch.arr tyRowRow 99 A0 C0 s_.g.l, Ch.box N2 5 [.int .u8 f_0], Ch.box N3 35 [.pointer (some ⟨N0, 0, none⟩)], Ch.box N4 3 [.int .i64 f_2]] [] (fun _ : Unit => .tuple #[]) (fun h => [Ch.box N0 132 [.pointer (some ⟨N1, 0, none⟩), .int .i64 r.spot.x, .int .i64 r.spot.y, .int .i64 r.spot.style.fore, .int .i64 r.spot.style.back, .bool r.spot.style.bold, .bool r.spot.style.under, .bool r.spot.style.inverse, .int .i64 r.saved.x, .int .i64 r.saved.y, .int .i64 r.saved.style.fore, .int .i64 r.saved.style.back, .bool r.saved.style.bold, .bool r.saved.style.under, .bool r.saved.style.inverse, .bool r.waiting, .int .i64 r.top, .int .i64 r.bottom, .bool r.wraps, .string r.title], Ch.box N1 181 [.int .i64 r.g.w, .slice A0 r.g.l.length C0], Ch.arr tyRowRow 99 A0 C0 r.g.l, Ch.box N2 5 [.int .u8 f_0], Ch.box N3 35 [.pointer (some ⟨N0, 0, none⟩)], Ch.box N4 3 [.int .i64 f_2]]) (fun h => []) := by
 delta p_screen_Screen_edit_Screen_cells_1 at H
 refine CT.of Go.Proofs.Tryz.func147 (by kernel_rfl) rfl rfl rfl fun K => ?_
 refine Td [21] [0, 0, 0, 0, 0, 0] mo ?_
 refine Dq 0 ?_
 refine Dq 1 ?_
 refine Dq 2 ?_
 refine Db 3 0 ?_
 refine Dq 4 ?_
 refine Dq 5 ?_
 refine Dq 6 ?_
 refine Dq 7 ?_
 refine Db 8 0 ?_
 refine Dq 9 ?_
 refine Dq 10 ?_
 refine Dq 11 ?_
 refine Dq 12 ?_
 refine Db 13 0 ?_
 refine Dq 14 ?_
 refine Dq 15 ?_
 refine Dq 16 ?_
 refine Dq 17 ?_
 refine Db 18 0 ?_
 obtain ⟨r17, h18, H19⟩ := bnd H
 refine D.one rfl rfl rfl (Dp.ab [1, 1] [] [2, 0, 0, 0, 0, 0] (Ac.call (c_grid_Grid_Row h18) rfl rfl rfl rfl) rfl rfl rfl rfl rfl rfl (fun _ => rfl) ?_)
 rintro ⟨a20, c21⟩
 obtain ⟨r23, h24, H25⟩ := bnd H19
 refine D.one rfl rfl rfl (Dp.ab [3, 3, 0, 0, 0, 0] [0] [2, 2, 2, 0, 0, 0] (Ac.call (c_screen_Screen_cells_1 h24) rfl rfl rfl rfl) rfl rfl rfl rfl rfl rfl (fun _ => rfl) ?_)
 rintro ⟨a26, c27⟩
 obtain ⟨r29, h30, H31⟩ := bnd H25
 refine Dkl [1, 1] [0] (c_grid_Grid_Set h30) fun ⟨⟩ => ?_
 refine Dn ?_
 refine E.off ?_
 obtain rfl := sm H31
 exact Eo () [2, 0, 0, 0, 0, 0] [] .nil

theorem c_screen_Screen_cells {s_ : ScreenScreen} {b : Int} {n_ : Int} {r : ScreenScreen} (H : p_screen_Screen_cells s_ b n_ = some r) : CT G 159 [.pointer (some ⟨N0, 0, none⟩), .int .u8 b, .int .i64 n_] [Ch.box N0 132 [.pointer (some ⟨N1, 0, none⟩), .int .i64 s_.spot.x, .int .i64 s_.spot.y, .int .i64 s_.spot.style.fore, .int .i64 s_.spot.style.back, .bool s_.spot.style.bold, .bool s_.spot.style.under, .bool s_.spot.style.inverse, .int .i64 s_.saved.x, .int .i64 s_.saved.y, .int .i64 s_.saved.style.fore, .int .i64 s_.saved.style.back, .bool s_.saved.style.bold, .bool s_.saved.style.under, .bool s_.saved.style.inverse, .bool s_.waiting, .int .i64 s_.top, .int .i64 s_.bottom, .bool s_.wraps, .string s_.title], Ch.box N1 181 [.int .i64 s_.g.w, .slice A0 s_.g.l.length C0], Ch.arr tyRowRow 99 A0 C0 s_.g.l] [] (fun _ : Unit => .tuple #[]) (fun h => [Ch.box N0 132 [.pointer (some ⟨N1, 0, none⟩), .int .i64 r.spot.x, .int .i64 r.spot.y, .int .i64 r.spot.style.fore, .int .i64 r.spot.style.back, .bool r.spot.style.bold, .bool r.spot.style.under, .bool r.spot.style.inverse, .int .i64 r.saved.x, .int .i64 r.saved.y, .int .i64 r.saved.style.fore, .int .i64 r.saved.style.back, .bool r.saved.style.bold, .bool r.saved.style.under, .bool r.saved.style.inverse, .bool r.waiting, .int .i64 r.top, .int .i64 r.bottom, .bool r.wraps, .string r.title], Ch.box N1 181 [.int .i64 r.g.w, .slice A0 r.g.l.length C0], Ch.arr tyRowRow 99 A0 C0 r.g.l]) (fun h => []) := by
 delta p_screen_Screen_cells at H
 refine CT.of Go.Proofs.Tryz.func159 (by kernel_rfl) rfl rfl rfl fun K => ?_
 refine Ts (Tr ?_)
 refine Lx fun g1 => ?_
 refine Lx fun g2 => ?_
 refine Lx fun g3 => ?_
 refine Ln (Et (Ts (Tr ?_)))
 refine Lb 2 ?_
 refine Lq 1 ?_
 obtain ⟨r4, h5, H6⟩ := bnd H
 refine Lk [3, 3, 3, 1, 1, 0] [] (c_screen_Screen_edit_Screen_cells_1 h5) fun ⟨⟩ => ?_
 refine Ln (Et (Tr ?_))
 refine Lb 4 ?_
 refine Lq 2 ?_
 refine Lt 0 ?_
 refine Ln (E.off ?_)
 obtain rfl := sm H6
 exact Eo () [0, 0, 0] [] .nil

theorem c_screen_Screen_shift {s_ : ScreenScreen} {b : Int} {n_ : Int} {r : ScreenScreen} (H : p_screen_Screen_shift s_ b n_ = some r) : CT G 160 [.pointer (some ⟨N0, 0, none⟩), .int .u8 b, .int .i64 n_] [Ch.box N0 132 [.pointer (some ⟨N1, 0, none⟩), .int .i64 s_.spot.x, .int .i64 s_.spot.y, .int .i64 s_.spot.style.fore, .int .i64 s_.spot.style.back, .bool s_.spot.style.bold, .bool s_.spot.style.under, .bool s_.spot.style.inverse, .int .i64 s_.saved.x, .int .i64 s_.saved.y, .int .i64 s_.saved.style.fore, .int .i64 s_.saved.style.back, .bool s_.saved.style.bold, .bool s_.saved.style.under, .bool s_.saved.style.inverse, .bool s_.waiting, .int .i64 s_.top, .int .i64 s_.bottom, .bool s_.wraps, .string s_.title], Ch.box N1 181 [.int .i64 s_.g.w, .slice A0 s_.g.l.length C0], Ch.arr tyRowRow 99 A0 C0 s_.g.l] [] (fun _ : Unit => .tuple #[]) (fun h => [Ch.box N0 132 [.pointer (some ⟨N1, 0, none⟩), .int .i64 r.spot.x, .int .i64 r.spot.y, .int .i64 r.spot.style.fore, .int .i64 r.spot.style.back, .bool r.spot.style.bold, .bool r.spot.style.under, .bool r.spot.style.inverse, .int .i64 r.saved.x, .int .i64 r.saved.y, .int .i64 r.saved.style.fore, .int .i64 r.saved.style.back, .bool r.saved.style.bold, .bool r.saved.style.under, .bool r.saved.style.inverse, .bool r.waiting, .int .i64 r.top, .int .i64 r.bottom, .bool r.wraps, .string r.title], Ch.box N1 181 [.int .i64 r.g.w, .slice A0 r.g.l.length C0], Ch.arr tyRowRow 99 A0 C0 r.g.l]) (fun h => []) := by
 delta p_screen_Screen_shift at H
 refine CT.of Go.Proofs.Tryz.func160 (by kernel_rfl) rfl rfl rfl fun K => ?_
 refine Ts (Ts ?_)
 obtain ⟨e6, H7, H8⟩ := bnd H
 refine Tj0 [(27, .bool e6)] [0, 1, 2] [] [0, 1, 2] ?_ ?_
 ·refine Td [] [0, 0, 0] mo ?_
  refine Dq 0 ?_
  refine Dq 1 ?_
  refine Dq 2 ?_
  refine Dq 3 ?_
  refine Db 4 0 ?_
  refine Dq 5 ?_
  refine Dq 6 ?_
  refine Dq 7 ?_
  refine Db 8 0 ?_
  refine Dq 9 ?_
  refine Dq 10 ?_
  refine D.cs 16 H7 rfl (fun hc H10 => ?_) (fun hc H10 => ?_)
  ·refine Ds 11 ?_
   refine Ds 12 ?_
   refine Ds 13 ?_
   refine Ds 14 ?_
   refine Ds 15 ?_
   refine Ds 16 ?_
   refine Ds 17 ?_
   refine Ds 18 ?_
   refine Ds 19 ?_
   refine Ds 20 ?_
   refine Dq 21 ?_
   refine Dn ?_
   obtain rfl := sm H10
   exact Eg0 [0, 0, 0] 0
  refine Dq 11 ?_
  refine Dq 12 ?_
  refine Dq 13 ?_
  refine Dq 14 ?_
  refine Db 15 0 ?_
  refine Dq 16 ?_
  refine Dq 17 ?_
  refine Dq 18 ?_
  refine Db 19 0 ?_
  refine Dq 20 ?_
  refine Dq 21 ?_
  refine Dn ?_
  obtain rfl := sm H10
  exact Eg0 [0, 0, 0] 0
 refine Tb H8 (fun H12 => ?_) fun H12 => ?_
 ·refine Tv (Er ?_)
  obtain rfl := sm H12
  exact Eo () [0, 0, 0] [] .nil
 refine Tk (Et (Ts (Ts (Tr ?_))))
 refine Lq 2 ?_
 refine Ln (Et ?_)
 obtain ⟨e97, H98, H99⟩ := bnd H12
 refine Tj0 [] [0] [Ch.arr tyRowRow 99 A0 C0 e97.l, Ch.box N1 181 [.int .i64 e97.w, .slice A0 e97.l.length C0]] [0] ?_ ?_
 ·refine Tb H98 (fun H100 => ?_) fun H100 => ?_
  ·refine Td [16] [0, 0, 0] mo ?_
   refine Dq 0 ?_
   refine Dq 1 ?_
   refine Dq 2 ?_
   refine Db 3 0 ?_
   refine Dq 4 ?_
   refine Dq 5 ?_
   refine Dq 6 ?_
   refine Dq 7 ?_
   refine Db 8 0 ?_
   refine Dq 9 ?_
   refine Dq 10 ?_
   refine Dq 11 ?_
   refine Db 12 0 ?_
   refine Dq 13 ?_
   refine Dq 14 ?_
   obtain ⟨r111, h112, H113⟩ := bnd H100
   refine D.one rfl rfl rfl (Dp.br (Ac.call (c_screen_Screen_num h112) rfl rfl rfl rfl) (Bw.bx 0 rfl (Bw.bx 1 rfl (Bw.ch 2 rfl (Bw.nil)))) rfl rfl rfl rfl ?_)
   intro _
   obtain ⟨r114, h115, H116⟩ := bnd H113
   refine Dkl [1, 1] [] (c_grid_Grid_Down h115) fun ⟨a117, c118⟩ => ?_
   refine Dn ?_
   obtain rfl := sm H116
   exact Eg0 [2, 1, 1] 0
  refine Td [16] [0, 0, 0] mo ?_
  refine Dq 0 ?_
  refine Dq 1 ?_
  refine Dq 2 ?_
  refine Db 3 0 ?_
  refine Dq 4 ?_
  refine Dq 5 ?_
  refine Dq 6 ?_
  refine Dq 7 ?_
  refine Db 8 0 ?_
  refine Dq 9 ?_
  refine Dq 10 ?_
  refine Dq 11 ?_
  refine Db 12 0 ?_
  refine Dq 13 ?_
  refine Dq 14 ?_
  obtain ⟨r131, h132, H133⟩ := bnd H100
  refine D.one rfl rfl rfl (Dp.br (Ac.call (c_screen_Screen_num h132) rfl rfl rfl rfl) (Bw.bx 0 rfl (Bw.bx 1 rfl (Bw.ch 2 rfl (Bw.nil)))) rfl rfl rfl rfl ?_)
  intro _
  obtain ⟨r134, h135, H136⟩ := bnd H133
  refine Dkl [1, 1] [] (c_grid_Grid_Up h135) fun ⟨a137, c138⟩ => ?_
  refine Dn ?_
  obtain rfl := sm H136
  exact Eg0 [2, 1, 1] 0
 refine Tr ?_
 refine Lq 5 ?_
 refine Lb 2 ?_
 obtain ⟨r141, h142, H143⟩ := bnd H99
 refine Lk [2, 1, 0] [] (c_screen_Screen_move h142) fun ⟨⟩ => ?_
 refine Ln (E.off ?_)
 obtain rfl := sm H143
 exact Eo () [0, 0, 0] [] .nil

theorem c_style_skip {l : List Int} {r : Int} (H : p_style_skip l = some r) : CT G 199 [.slice A0 l.length C0] [] [Im.sl (Ty.int .i64) A0 C0 l] (fun _ : Unit => .int .i64 r) (fun h => []) (fun h => []) := by
 delta p_style_skip at H
 refine CT.of Go.Proofs.Tryz.func199 (by kernel_rfl) rfl rfl rfl fun K => ?_
 refine Ts (Tr ?_)
 refine Lq 1 ?_
 refine Ln (Et (Ts (Tl (Ts ?_))))
 obtain ⟨e76, H77, H78⟩ := bnd H
 refine Tj0 [(3, .bool e76)] [0] [] [] ?_ ?_
 ·refine Tr ?_
  refine Lq 4 ?_
  refine Lw 7 H77 (fun H79 => ?_) fun H79 => ?_
  ·refine Lq 1 ?_
   obtain ⟨x80, h81, H82⟩ := bnd H79
   refine L.addr 0 rfl (idx_lt h81) fun b83 o84 e85 => ?_
   subst e85
   refine Ly (Yl.ia h81 rfl rfl rfl rfl rfl rfl) ?_
   refine L.el 0 rfl (idx_some h81).2 ?_
   rintro _
   refine Lc 0 0 ?_
   refine Lq 3 ?_
   refine Ln ?_
   obtain rfl := sm H82
   exact Eg0 [] 1
  refine Lq 6 ?_
  refine Ln ?_
  obtain rfl := sm H79
  exact Eg0 [] 0
 refine Tb H78 (fun H87 => ?_) fun H87 => ?_
 ·refine Ts (Tr ?_)
  refine Lq 4 ?_
  refine Ln (Et (Tv (Ev (Er ?_))))
  obtain rfl := sm H87
  exact Eo1 () [] []
 refine Ts ?_
 obtain ⟨e105, H106, H107⟩ := bnd H87
 refine Tj0 [(16, .bool e105)] [0] [] [] ?_ ?_
 ·refine Tr ?_
  refine Lq 4 ?_
  refine Lw 20 H106 (fun H108 => ?_) fun H108 => ?_
  ·refine Lq 1 ?_
   obtain ⟨x109, h110, H111⟩ := bnd H108
   refine L.addr 0 rfl (idx_lt h110) fun b112 o113 e114 => ?_
   subst e114
   refine Ly (Yl.ia h110 rfl rfl rfl rfl rfl rfl) ?_
   refine L.el 0 rfl (idx_some h110).2 ?_
   rintro _
   refine Lc 0 0 ?_
   refine Lq 3 ?_
   refine Ln ?_
   obtain rfl := sm H111
   exact Eg0 [] 1
  refine Lq 6 ?_
  refine Ln ?_
  obtain rfl := sm H108
  exact Eg0 [] 0
 refine Tb H107 (fun H116 => ?_) fun H116 => ?_
 ·refine Ts (Tr ?_)
  refine Lq 4 ?_
  refine Ln (Et (Tv (Ev (Er ?_))))
  obtain rfl := sm H116
  exact Eo1 () [] []
 refine Tk (Eb (Et (Ts (Tr ?_))))
 refine Lq 1 ?_
 refine Ln (Et (Tv ?_))
 obtain rfl := sm H116
 exact Eo1 () [] []

theorem c_style_Style_one {s_ : StyleStyle} {n_ : Int} {r : StyleStyle} (H : p_style_Style_one s_ n_ = some r) : CT G 200 [.agg #[.int .i64 s_.fore, .int .i64 s_.back, .bool s_.bold, .bool s_.under, .bool s_.inverse], .int .i64 n_] [] [] (fun _ : Unit => .agg #[.int .i64 r.fore, .int .i64 r.back, .bool r.bold, .bool r.under, .bool r.inverse]) (fun h => []) (fun h => []) := by
 delta p_style_Style_one at H
 refine CT.of Go.Proofs.Tryz.func200 (by kernel_rfl) rfl rfl rfl fun K => ?_
 refine Ts (Tr ?_)
 refine Lx fun g1 => ?_
 refine Ll fun g2 => ?_
 refine Ln (Et (Ts ?_))
 obtain ⟨y91, H92, H93⟩ := bnd H
 refine Tj (η := StyleStyle × Unit) (fun h => y91 = .inl h.1) (fun _ => []) [2, 4] (fun h => (fun e90 => [Ch.box g1 128 [.int .i64 e90.fore, .int .i64 e90.back, .bool e90.bold, .bool e90.under, .bool e90.inverse]]) h.1) [0] (fun _ => []) ?_ ?_
 ·refine Tl (Ts (Tr ?_))
  refine Lq 3 ?_
  refine Ln (Et ?_)
  refine Tb H92 (fun H94 => ?_) fun H94 => ?_
  ·refine Ts (Tr ?_)
   refine Lq 1 ?_
   refine Lt 0 ?_
   refine Ln (Et (Tv (Ev ?_)))
   obtain ⟨w95, hz, H96⟩ := inrs_some H94
   subst y91
   obtain rfl := (sm H93).symm
   refine Er ?_
   obtain rfl := sm H96
   exact Eo () [] [] (.cell 0 rfl rfl rfl .nil)
  refine Ts ?_
  obtain ⟨e100, H101, H102⟩ := bnd H94
  refine Tj0 [(9, .bool e100)] [1, 2, 4] [] [0, 1] ?_ ?_
  ·refine Tr ?_
   refine Lq 3 ?_
   refine Lw 12 H101 (fun H103 => ?_) fun H103 => ?_
   ·refine Lq 4 ?_
    refine Ln ?_
    obtain rfl := sm H103
    exact Eg0 [0, 0] 0
   refine Lq 4 ?_
   refine Ln ?_
   obtain rfl := sm H103
   exact Eg0 [0, 0] 0
  refine Tb H102 (fun H104 => ?_) fun H104 => ?_
  ·refine Tr ?_
   refine Lq 3 ?_
   refine Lt 1 ?_
   refine Ln (Eb ?_)
   obtain rfl := sm H104
   exact Eg (_, ()) rfl [0, 0] [] 0
  refine Ts ?_
  obtain ⟨e108, H109, H110⟩ := bnd H104
  refine Tj0 [(19, .bool e108)] [1, 2, 4] [] [0, 1] ?_ ?_
  ·refine Tr ?_
   refine Lq 3 ?_
   refine Lw 22 H109 (fun H111 => ?_) fun H111 => ?_
   ·refine Lq 4 ?_
    refine Ln ?_
    obtain rfl := sm H111
    exact Eg0 [0, 0] 0
   refine Lq 4 ?_
   refine Ln ?_
   obtain rfl := sm H111
   exact Eg0 [0, 0] 0
  refine Tb H110 (fun H112 => ?_) fun H112 => ?_
  ·refine Tr ?_
   refine Lq 3 ?_
   refine Lt 1 ?_
   refine Ln (Eb ?_)
   obtain rfl := sm H112
   exact Eg (_, ()) rfl [0, 0] [] 0
  refine Ts ?_
  obtain ⟨e116, H117, H118⟩ := bnd H112
  refine Tj0 [(29, .bool e116)] [1, 2, 4] [] [0, 1] ?_ ?_
  ·refine Tr ?_
   refine Lq 3 ?_
   refine Lw 32 H117 (fun H119 => ?_) fun H119 => ?_
   ·refine Lq 4 ?_
    refine Ln ?_
    obtain rfl := sm H119
    exact Eg0 [0, 0] 0
   refine Lq 4 ?_
   refine Ln ?_
   obtain rfl := sm H119
   exact Eg0 [0, 0] 0
  refine Tb H118 (fun H120 => ?_) fun H120 => ?_
  ·refine Tr ?_
   refine Lq 3 ?_
   refine Lt 1 ?_
   refine Ln (Eb ?_)
   obtain rfl := sm H120
   exact Eg (_, ()) rfl [0, 0] [] 0
  refine Ts ?_
  obtain ⟨e124, H125, H126⟩ := bnd H120
  refine Tj0 [(39, .bool e124)] [1, 2, 4] [] [0, 1] ?_ ?_
  ·refine Tr ?_
   refine Lq 3 ?_
   refine Lw 42 H125 (fun H127 => ?_) fun H127 => ?_
   ·refine Lq 4 ?_
    refine Ln ?_
    obtain rfl := sm H127
    exact Eg0 [0, 0] 0
   refine Lq 4 ?_
   refine Ln ?_
   obtain rfl := sm H127
   exact Eg0 [0, 0] 0
  refine Tb H126 (fun H128 => ?_) fun H128 => ?_
  ·refine Tr ?_
   refine Lq 4 ?_
   refine Lt 1 ?_
   refine Ln (Eb ?_)
   obtain rfl := sm H128
   exact Eg (_, ()) rfl [0, 0] [] 0
  refine Ts (Tr ?_)
  refine Lq 3 ?_
  refine Ln (Et ?_)
  refine Tb H128 (fun H129 => ?_) fun H129 => ?_
  ·refine Tr ?_
   refine Lq 1 ?_
   refine Lt 1 ?_
   refine Ln (Eb ?_)
   obtain rfl := sm H129
   exact Eg (_, ()) rfl [0, 0] [] 0
  refine Ts ?_
  obtain ⟨e133, H134, H135⟩ := bnd H129
  refine Tj0 [(54, .bool e133)] [1, 2, 4] [] [0, 1] ?_ ?_
  ·refine Tr ?_
   refine Lq 3 ?_
   refine Lw 57 H134 (fun H136 => ?_) fun H136 => ?_
   ·refine Lq 4 ?_
    refine Ln ?_
    obtain rfl := sm H136
    exact Eg0 [0, 0] 0
   refine Lq 4 ?_
   refine Ln ?_
   obtain rfl := sm H136
   exact Eg0 [0, 0] 0
  refine Tb H135 (fun H137 => ?_) fun H137 => ?_
  ·refine Tr ?_
   refine Lq 4 ?_
   refine Lt 1 ?_
   refine Ln (Eb ?_)
   obtain rfl := sm H137
   exact Eg (_, ()) rfl [0, 0] [] 0
  refine Ts (Tr ?_)
  refine Lq 3 ?_
  refine Ln (Et ?_)
  refine Tb H137 (fun H138 => ?_) fun H138 => ?_
  ·refine Tr ?_
   refine Lq 1 ?_
   refine Lt 1 ?_
   refine Ln (Eb ?_)
   obtain rfl := sm H138
   exact Eg (_, ()) rfl [0, 0] [] 0
  refine Tk (Eb ?_)
  obtain rfl := sm H138
  exact Eg (_, ()) rfl [1, 0] [] 0
 rintro ⟨e90, ⟨⟩⟩ hy
 subst hy
 refine Ts (Tr ?_)
 refine Lb 0 ?_
 refine Lt 1 ?_
 refine Ln (Et (Tv ?_))
 obtain rfl := sm H93
 exact Eo () [] [] (.cell 0 rfl rfl rfl .nil)

theorem c_style_Style_Set {s_ : StyleStyle} {nums : List Int} {r : StyleStyle} (H : p_style_Style_Set s_ nums = some r) : CT G 163 [.agg #[.int .i64 s_.fore, .int .i64 s_.back, .bool s_.bold, .bool s_.under, .bool s_.inverse], .slice A0 nums.length C0] [] [Im.sl (Ty.int .i64) A0 C0 nums] (fun _ : Unit => .agg #[.int .i64 r.fore, .int .i64 r.back, .bool r.bold, .bool r.under, .bool r.inverse]) (fun h => []) (fun h => []) := by
 delta p_style_Style_Set at H
 refine CT.of Go.Proofs.Tryz.func163 (by kernel_rfl) rfl rfl rfl fun K => ?_
 refine Ts (Tr ?_)
 refine Lx fun g1 => ?_
 refine Ll fun g2 => ?_
 refine Ln (Et (Ts (Ts (Tr ?_))))
 refine Lq 3 ?_
 refine Ln (Et ?_)
 refine Tb H (fun H4 => ?_) fun H4 => ?_
 ·refine Ts (Tr ?_)
  refine Lq 1 ?_
  refine Lt 0 ?_
  refine Ln (Et (Tv (Er ?_)))
  obtain rfl := sm H4
  exact Eo () [] [] (.cell 0 rfl rfl rfl .nil)
 refine Tk (Et (Ts (Ts (Tr ?_))))
 refine Lq 1 ?_
 refine Ln (Et ?_)
 obtain ⟨e448, H449, H450⟩ := bnd H4
 refine Tj0 [] [2, 4] [Ch.box g1 128 [.int .i64 e448.fore, .int .i64 e448.back, .bool e448.bold, .bool e448.under, .bool e448.inverse]] [0] ?_ ?_
 ·refine Tl ?_
  refine Tq (η := Unit) (fun s301 h => [(5, .int .i64 s301.2)]) [1, 2, 4] (fun s301 h => [Ch.box g1 128 [.int .i64 s301.1.fore, .int .i64 s301.1.back, .bool s301.1.bold, .bool s301.1.under, .bool s301.1.inverse]]) [0] (fun _ _ => []) () [1, 0] [] H449 ?_
  rintro k_ s301 ⟨⟩ z452 H451 hag453 hbr454
  refine Ts (Ts (Tr ?_))
  refine Lq 4 ?_
  refine Ln (Et ?_)
  refine Tb H451 (fun H456 => ?_) fun H456 => ?_
  ·refine Tk (Et (Ts ?_))
   obtain ⟨e551, H552, H553⟩ := bnd H456
   refine Tj0 [(5, .int .i64 e551.1)] [1, 2, 4] [Ch.box g1 128 [.int .i64 e551.2.fore, .int .i64 e551.2.back, .bool e551.2.bold, .bool e551.2.under, .bool e551.2.inverse]] [1] ?_ ?_
   ·refine Tl (Ts (Ts (Tr ?_)))
    refine Lq 2 ?_
    obtain ⟨x554, h555, H556⟩ := bnd H552
    refine L.addr 0 rfl (idx_lt h555) fun b557 o558 e559 => ?_
    subst e559
    refine Ly (Yl.ia h555 rfl rfl rfl rfl rfl rfl) ?_
    refine L.el 0 rfl (idx_some h555).2 ?_
    rintro _
    refine Lc 0 0 ?_
    refine Lq 1 ?_
    refine Ln (Et (Ts ?_))
    obtain ⟨e564, H565, H566⟩ := bnd H556
    refine Tj0 [(26, .bool e564)] [1, 2, 4, 5] [] [0, 1] ?_ ?_
    ·refine Tr ?_
     refine Lq 3 ?_
     refine Lw 23 H565 (fun H567 => ?_) fun H567 => ?_
     ·refine Lq 3 ?_
      refine Ln ?_
      obtain rfl := sm H567
      exact Eg0 [0, 0] 0
     refine Lq 3 ?_
     refine Ln ?_
     obtain rfl := sm H567
     exact Eg0 [0, 0] 0
    refine Tb H566 (fun H577 => ?_) fun H577 => ?_
    ·refine Ts (Tr ?_)
     refine Lq 4 ?_
     obtain ⟨_, h578, H579⟩ := bnd H577
     refine L.rs 1 h578 rfl rfl rfl rfl rfl rfl rfl rfl rfl rfl rfl rfl ?_
     intro a580 c581
     obtain ⟨r583, h584, H585⟩ := bnd H579
     refine Lk [] [0] (c_style_skip h584) fun ⟨⟩ => ?_
     refine Lq 2 ?_
     refine Ln (Et (Tx (Ex (Eh ?_))))
     obtain rfl := sm H585
     exact Eg0 [0, 0] 2
    refine Tk (Et ?_)
    refine Td [6] [0, 0] mo ?_
    refine Db 0 0 ?_
    refine Dq 1 ?_
    refine Dq 2 ?_
    obtain ⟨x593, h594, H595⟩ := bnd H577
    refine Dy 3 (Yl.ia h594 rfl rfl rfl rfl rfl rfl) ?_
    refine D.el 1 rfl (idx_some h594).2 ?_
    rintro _
    refine Dy 4 (Yl.ldc 0 0 rfl rfl rfl rfl) ?_
    obtain ⟨r597, h598, H599⟩ := bnd H595
    refine Dk [] [] (c_style_Style_one h598) fun ⟨⟩ => ?_
    refine Dt 0 ?_
    refine Dn ?_
    refine Eb ?_
    obtain rfl := sm H599
    exact Eg0 [0, 0] 2
   refine Tr ?_
   refine Lq 3 ?_
   refine Ln ?_
   obtain rfl := sm H553
   exact Eg (_, ()) (hag453 _ rfl) [0, 0] [] 0
  refine Tx (Ex (Ex (Eh ?_)))
  obtain rfl := sm H456
  have hb := hbr454 _ rfl
  subst e448
  exact Eg0 [0, 0] 0
 refine Ts (Tr ?_)
 refine Lb 0 ?_
 refine Lt 1 ?_
 refine Ln (Et (Tv ?_))
 obtain rfl := sm H450
 exact Eo () [] [] (.cell 0 rfl rfl rfl .nil)

theorem c_screen_Screen_region {s_ : ScreenScreen} {a : SeqAction} {r : ScreenScreen} (H : p_screen_Screen_region s_ a = some r) : CT G 164 [.pointer (some ⟨N0, 0, none⟩), .agg (bx143 a A1 C1).toArray] [Ch.box N0 132 [.pointer (some ⟨N1, 0, none⟩), .int .i64 s_.spot.x, .int .i64 s_.spot.y, .int .i64 s_.spot.style.fore, .int .i64 s_.spot.style.back, .bool s_.spot.style.bold, .bool s_.spot.style.under, .bool s_.spot.style.inverse, .int .i64 s_.saved.x, .int .i64 s_.saved.y, .int .i64 s_.saved.style.fore, .int .i64 s_.saved.style.back, .bool s_.saved.style.bold, .bool s_.saved.style.under, .bool s_.saved.style.inverse, .bool s_.waiting, .int .i64 s_.top, .int .i64 s_.bottom, .bool s_.wraps, .string s_.title], Ch.box N1 181 [.int .i64 s_.g.w, .slice A0 s_.g.l.length C0], Ch.arr tyRowRow 99 A0 C0 s_.g.l] [Im.sl (Ty.int .i64) A1 C1 a.nums] (fun _ : Unit => .tuple #[]) (fun h => [Ch.box N0 132 [.pointer (some ⟨N1, 0, none⟩), .int .i64 r.spot.x, .int .i64 r.spot.y, .int .i64 r.spot.style.fore, .int .i64 r.spot.style.back, .bool r.spot.style.bold, .bool r.spot.style.under, .bool r.spot.style.inverse, .int .i64 r.saved.x, .int .i64 r.saved.y, .int .i64 r.saved.style.fore, .int .i64 r.saved.style.back, .bool r.saved.style.bold, .bool r.saved.style.under, .bool r.saved.style.inverse, .bool r.waiting, .int .i64 r.top, .int .i64 r.bottom, .bool r.wraps, .string r.title], Ch.box N1 181 [.int .i64 r.g.w, .slice A0 r.g.l.length C0], Ch.arr tyRowRow 99 A0 C0 r.g.l]) (fun h => []) := by
 delta p_screen_Screen_region at H
 refine CT.of Go.Proofs.Tryz.func164 (by kernel_rfl) rfl rfl rfl fun K => ?_
 refine Ts (Tr ?_)
 refine Lx fun g1 => ?_
 refine Ln (Et (Ts (Tr ?_)))
 refine Lq 3 ?_
 refine Lb 1 ?_
 obtain ⟨r2, h3, H4⟩ := bnd H
 refine Lk [2, 2] [] (c_grid_Grid_Size h3) fun ⟨⟩ => ?_
 refine Lq 5 ?_
 refine Ln (Et (Ts ?_))
 refine Td [9] [0, 0, 0, 0] mo ?_
 refine Db 0 2 ?_
 refine Dq 2 ?_
 refine Db 5 2 ?_
 refine Dq 6 ?_
 refine Dq 8 ?_
 obtain ⟨r41, h42, H43⟩ := bnd H4
 refine Dk [] [0] (c_screen_at h42) fun ⟨⟩ => ?_
 obtain ⟨r44, h45, H46⟩ := bnd H43
 refine Dk [] [] (c_screen_clip h45) fun ⟨⟩ => ?_
 refine Dq 4 ?_
 obtain ⟨r47, h48, H49⟩ := bnd H46
 refine Dk [] [0] (c_screen_at h48) fun ⟨⟩ => ?_
 obtain ⟨r50, h51, H52⟩ := bnd H49
 refine Dkl [] [] (c_screen_clip h51) fun ⟨⟩ => ?_
 refine Dq 10 ?_
 refine Dq 11 ?_
 refine Dq 12 ?_
 refine Dn ?_
 refine Et (Ts (Tr ?_))
 refine Lq 3 ?_
 refine Ln (Et ?_)
 refine Tb H52 (fun H53 => ?_) fun H53 => ?_
 ·refine Ts (Tr ?_)
  refine Lq 6 ?_
  refine Lt 3 ?_
  refine Lq 2 ?_
  refine Lt 0 ?_
  refine Ln (Et (Tr ?_))
  refine Lq 1 ?_
  obtain ⟨r54, h55, H56⟩ := bnd H53
  refine Lk [0, 0, 0] [] (c_screen_Screen_move h55) fun ⟨⟩ => ?_
  refine Ln (E.off ?_)
  obtain rfl := sm H56
  exact Eo () [0, 0, 0] [] .nil
 refine Tk (E.off ?_)
 obtain rfl := sm H53
 exact Eo () [3, 0, 0] [] .nil

theorem c_screen_Screen_order {s_ : ScreenScreen} {a : SeqAction} {r : (List RowRow) × ScreenScreen} (H : p_screen_Screen_order s_ a = some r) : CT G 111 [.pointer (some ⟨N0, 0, none⟩), .agg (bx143 a A1 C1).toArray] [Ch.box N0 132 [.pointer (some ⟨N1, 0, none⟩), .int .i64 s_.spot.x, .int .i64 s_.spot.y, .int .i64 s_.spot.style.fore, .int .i64 s_.spot.style.back, .bool s_.spot.style.bold, .bool s_.spot.style.under, .bool s_.spot.style.inverse, .int .i64 s_.saved.x, .int .i64 s_.saved.y, .int .i64 s_.saved.style.fore, .int .i64 s_.saved.style.back, .bool s_.saved.style.bold, .bool s_.saved.style.under, .bool s_.saved.style.inverse, .bool s_.waiting, .int .i64 s_.top, .int .i64 s_.bottom, .bool s_.wraps, .string s_.title], Ch.box N1 181 [.int .i64 s_.g.w, .slice A0 s_.g.l.length C0], Ch.arr tyRowRow 99 A0 C0 s_.g.l] [Im.sl (Ty.int .i64) A1 C1 a.nums] (fun h : (Option Addr × Nat) => .slice h.1 r.1.length h.2) (fun h => [Ch.arr tyRowRow 99 h.1 h.2 r.1, Ch.box N0 132 [.pointer (some ⟨N1, 0, none⟩), .int .i64 r.2.spot.x, .int .i64 r.2.spot.y, .int .i64 r.2.spot.style.fore, .int .i64 r.2.spot.style.back, .bool r.2.spot.style.bold, .bool r.2.spot.style.under, .bool r.2.spot.style.inverse, .int .i64 r.2.saved.x, .int .i64 r.2.saved.y, .int .i64 r.2.saved.style.fore, .int .i64 r.2.saved.style.back, .bool r.2.saved.style.bold, .bool r.2.saved.style.under, .bool r.2.saved.style.inverse, .bool r.2.waiting, .int .i64 r.2.top, .int .i64 r.2.bottom, .bool r.2.wraps, .string r.2.title], Ch.box N1 181 [.int .i64 r.2.g.w, .slice A0 r.2.g.l.length C0], Ch.arr tyRowRow 99 A0 C0 r.2.g.l]) (fun h => []) := by
 delta p_screen_Screen_order at H
 refine CT.of Go.Proofs.Tryz.func111 (by kernel_rfl) rfl rfl rfl fun K => ?_
 refine Ts (Tr ?_)
 refine Lx fun g1 => ?_
 refine Lq 1 ?_
 refine Ln (Et (Ts (Tr ?_)))
 refine Lb 0 ?_
 obtain ⟨r2, h3, H4⟩ := bnd H
 refine Lk [] [0] (c_screen_at h3) fun ⟨⟩ => ?_
 refine Lq 1 ?_
 refine Ln (Et (Ts (Ts (Tr ?_))))
 refine Lq 1 ?_
 refine Lb 0 ?_
 refine Ln (Et ?_)
 obtain ⟨y311, H312, H313⟩ := bnd H4
 refine Tj (η := (ScreenScreen × GridGrid) × Unit) (fun h => y311 = .inl h.1) (fun _ => []) [0, 3] (fun h => (fun e310 => [Ch.arr tyRowRow 99 A0 C0 e310.2.l, Ch.box N0 132 [.pointer (some ⟨N1, 0, none⟩), .int .i64 e310.1.spot.x, .int .i64 e310.1.spot.y, .int .i64 e310.1.spot.style.fore, .int .i64 e310.1.spot.style.back, .bool e310.1.spot.style.bold, .bool e310.1.spot.style.under, .bool e310.1.spot.style.inverse, .int .i64 e310.1.saved.x, .int .i64 e310.1.saved.y, .int .i64 e310.1.saved.style.fore, .int .i64 e310.1.saved.style.back, .bool e310.1.saved.style.bold, .bool e310.1.saved.style.under, .bool e310.1.saved.style.inverse, .bool e310.1.waiting, .int .i64 e310.1.top, .int .i64 e310.1.bottom, .bool e310.1.wraps, .string e310.1.title], Ch.box N1 181 [.int .i64 e310.2.w, .slice A0 e310.2.l.length C0]]) h.1) [0] (fun _ => []) ?_ ?_
 ·refine Tl (Ts (Ts (Tr ?_)))
  refine Lq 2 ?_
  refine Ln (Et ?_)
  obtain ⟨e317, H318, H319⟩ := bnd H312
  refine Tj0 [(10, .bool e317)] [0, 3, 5, 9] [] [0, 1, 2, 3] ?_ ?_
  ·refine Tb H318 (fun H320 => ?_) fun H320 => ?_
   ·refine Tk ?_
    obtain rfl := sm H320
    exact Eg0 [0, 0, 0, 0] 0
   refine Tr ?_
   refine Lq 2 ?_
   refine Ln ?_
   obtain rfl := sm H320
   exact Eg0 [0, 0, 0, 0] 0
  refine Tb H319 (fun H321 => ?_) fun H321 => ?_
  ·refine Tr ?_
   refine Lq 3 ?_
   obtain ⟨r322, h323, H324⟩ := bnd H321
   refine Lk [1, 1, 1] [] (c_screen_Screen_climb h323) fun ⟨⟩ => ?_
   refine Ln (Eb ?_)
   obtain rfl := sm H324
   exact Eg (_, ()) rfl [2, 0, 0, 0] [] 0
  refine Ts (Ts (Tr ?_))
  refine Lq 2 ?_
  refine Ln (Et ?_)
  obtain ⟨e329, H330, H331⟩ := bnd H321
  refine Tj0 [(17, .bool e329)] [0, 3, 5, 9] [] [0, 1, 2, 3] ?_ ?_
  ·refine Tb H330 (fun H332 => ?_) fun H332 => ?_
   ·refine Tk ?_
    obtain rfl := sm H332
    exact Eg0 [0, 0, 0, 0] 0
   refine Tr ?_
   refine Lq 2 ?_
   refine Ln ?_
   obtain rfl := sm H332
   exact Eg0 [0, 0, 0, 0] 0
  refine Tb H331 (fun H333 => ?_) fun H333 => ?_
  ·refine Tr ?_
   refine Lq 2 ?_
   obtain ⟨r334, h335, H336⟩ := bnd H333
   refine Lk [1, 1, 1] [] (c_screen_Screen_climb h335) fun ⟨⟩ => ?_
   refine Ln (Eb ?_)
   obtain rfl := sm H336
   exact Eg (_, ()) rfl [2, 0, 0, 0] [] 0
  refine Ts (Tr ?_)
  refine Lq 2 ?_
  refine Ln (Et ?_)
  refine Tb H333 (fun H338 => ?_) fun H338 => ?_
  ·refine Td [13] [0, 0, 0, 0] mo ?_
   refine Dq 0 ?_
   refine Dq 1 ?_
   refine Dq 2 ?_
   refine Dq 3 ?_
   refine Dq 4 ?_
   refine Db 5 1 ?_
   refine Dq 6 ?_
   refine Dq 7 ?_
   refine Dq 8 ?_
   refine Dq 9 ?_
   refine Dq 10 ?_
   refine Dq 11 ?_
   refine Db 12 1 ?_
   obtain ⟨r343, h344, H345⟩ := bnd H338
   refine Dkl [1, 1, 1] [] (c_screen_Screen_move h344) fun ⟨⟩ => ?_
   refine Dn ?_
   refine Eb ?_
   obtain rfl := sm H345
   exact Eg (_, ()) rfl [2, 0, 0, 0] [] 0
  refine Ts (Tr ?_)
  refine Lq 2 ?_
  refine Ln (Et ?_)
  refine Tb H338 (fun H347 => ?_) fun H347 => ?_
  ·refine Td [13] [0, 0, 0, 0] mo ?_
   refine Dq 0 ?_
   refine Dq 1 ?_
   refine Dq 2 ?_
   refine Dq 3 ?_
   refine Dq 4 ?_
   refine Db 5 1 ?_
   refine Dq 6 ?_
   refine Dq 7 ?_
   refine Dq 8 ?_
   refine Dq 9 ?_
   refine Dq 10 ?_
   refine Dq 11 ?_
   refine Db 12 1 ?_
   obtain ⟨r352, h353, H354⟩ := bnd H347
   refine Dkl [1, 1, 1] [] (c_screen_Screen_move h353) fun ⟨⟩ => ?_
   refine Dn ?_
   refine Eb ?_
   obtain rfl := sm H354
   exact Eg (_, ()) rfl [2, 0, 0, 0] [] 0
  refine Ts (Tr ?_)
  refine Lq 2 ?_
  refine Ln (Et ?_)
  refine Tb H347 (fun H356 => ?_) fun H356 => ?_
  ·refine Tr ?_
   refine Lq 7 ?_
   refine Lb 1 ?_
   obtain ⟨r357, h358, H359⟩ := bnd H356
   refine Lk [1, 1, 1] [] (c_screen_Screen_move h358) fun ⟨⟩ => ?_
   refine Ln (Eb ?_)
   obtain rfl := sm H359
   exact Eg (_, ()) rfl [2, 0, 0, 0] [] 0
  refine Ts (Tr ?_)
  refine Lq 2 ?_
  refine Ln (Et ?_)
  refine Tb H356 (fun H361 => ?_) fun H361 => ?_
  ·refine Tr ?_
   refine Lq 5 ?_
   refine Lb 1 ?_
   refine Lq 2 ?_
   obtain ⟨r362, h363, H364⟩ := bnd H361
   refine Lk [1, 1, 1] [] (c_screen_Screen_move h363) fun ⟨⟩ => ?_
   refine Ln (Eb ?_)
   obtain rfl := sm H364
   exact Eg (_, ()) rfl [2, 0, 0, 0] [] 0
  refine Ts (Ts (Tr ?_))
  refine Lq 2 ?_
  refine Ln (Et ?_)
  obtain ⟨e369, H370, H371⟩ := bnd H361
  refine Tj0 [(77, .bool e369)] [0, 3, 5, 9] [] [0, 1, 2, 3] ?_ ?_
  ·refine Tb H370 (fun H372 => ?_) fun H372 => ?_
   ·refine Tk ?_
    obtain rfl := sm H372
    exact Eg0 [0, 0, 0, 0] 0
   refine Tr ?_
   refine Lq 2 ?_
   refine Ln ?_
   obtain rfl := sm H372
   exact Eg0 [0, 0, 0, 0] 0
  refine Tb H371 (fun H373 => ?_) fun H373 => ?_
  ·refine Tr ?_
   refine Lq 1 ?_
   refine Lb 0 ?_
   obtain ⟨r374, h375, H376⟩ := bnd H373
   refine Lk [] [0] (c_screen_at h375) fun ⟨⟩ => ?_
   refine Lq 3 ?_
   obtain ⟨r377, h378, H379⟩ := bnd H376
   refine Lk [1, 1, 1] [] (c_screen_Screen_move h378) fun ⟨⟩ => ?_
   refine Ln (Eb ?_)
   obtain rfl := sm H379
   exact Eg (_, ()) rfl [2, 0, 0, 0] [] 0
  refine Ts (Tr ?_)
  refine Lq 2 ?_
  refine Ln (Et ?_)
  refine Tb H373 (fun H381 => ?_) fun H381 => ?_
  ·refine Tr ?_
   refine Lq 1 ?_
   refine Lb 0 ?_
   obtain ⟨r382, h383, H384⟩ := bnd H381
   refine Lk [] [0] (c_screen_at h383) fun ⟨⟩ => ?_
   obtain ⟨r385, h386, H387⟩ := bnd H384
   refine Lk [1, 1, 1] [] (c_screen_Screen_wipe h386) fun ⟨⟩ => ?_
   refine Ln (Eb ?_)
   obtain rfl := sm H387
   exact Eg (_, ()) rfl [2, 0, 0, 0] [] 0
  refine Ts (Tr ?_)
  refine Lq 2 ?_
  refine Ln (Et ?_)
  refine Tb H381 (fun H389 => ?_) fun H389 => ?_
  ·refine Tr ?_
   refine Lq 1 ?_
   refine Lb 0 ?_
   obtain ⟨r390, h391, H392⟩ := bnd H389
   refine Lk [] [0] (c_screen_at h391) fun ⟨⟩ => ?_
   obtain ⟨r393, h394, H395⟩ := bnd H392
   refine Lk [1, 1, 1] [] (c_screen_Screen_part h394) fun ⟨⟩ => ?_
   refine Ln (Eb ?_)
   obtain rfl := sm H395
   exact Eg (_, ()) rfl [2, 0, 0, 0] [] 0
  refine Ts (Ts (Tr ?_))
  refine Lq 2 ?_
  refine Ln (Et ?_)
  obtain ⟨e402, H403, H404⟩ := bnd H389
  refine Tj0 [(99, .bool e402)] [0, 3, 5, 9] [] [0, 1, 2, 3] ?_ ?_
  ·refine Tb H403 (fun H405 => ?_) fun H405 => ?_
   ·refine Tk ?_
    obtain rfl := sm H405
    exact Eg0 [0, 0, 0, 0] 0
   refine Ts (Tr ?_)
   refine Lq 2 ?_
   refine Ln (Et ?_)
   refine Tb H405 (fun H406 => ?_) fun H406 => ?_
   ·refine Tk ?_
    obtain rfl := sm H406
    exact Eg0 [0, 0, 0, 0] 0
   refine Tr ?_
   refine Lq 2 ?_
   refine Ln ?_
   obtain rfl := sm H406
   exact Eg0 [0, 0, 0, 0] 0
  refine Tb H404 (fun H407 => ?_) fun H407 => ?_
  ·refine Tr ?_
   refine Lq 2 ?_
   refine Lb 0 ?_
   refine Lq 1 ?_
   obtain ⟨r408, h409, H410⟩ := bnd H407
   refine Lk [1, 1, 1] [] (c_screen_Screen_cells h409) fun ⟨⟩ => ?_
   refine Ln (Eb ?_)
   obtain rfl := sm H410
   exact Eg (_, ()) rfl [2, 0, 0, 0] [] 0
  refine Ts (Ts (Tr ?_))
  refine Lq 2 ?_
  refine Ln (Et ?_)
  obtain ⟨e415, H416, H417⟩ := bnd H407
  refine Tj0 [(108, .bool e415)] [0, 3, 5, 9] [] [0, 1, 2, 3] ?_ ?_
  ·refine Tb H416 (fun H418 => ?_) fun H418 => ?_
   ·refine Tk ?_
    obtain rfl := sm H418
    exact Eg0 [0, 0, 0, 0] 0
   refine Tr ?_
   refine Lq 2 ?_
   refine Ln ?_
   obtain rfl := sm H418
   exact Eg0 [0, 0, 0, 0] 0
  refine Tb H417 (fun H419 => ?_) fun H419 => ?_
  ·refine Tr ?_
   refine Lq 2 ?_
   refine Lb 0 ?_
   refine Lq 1 ?_
   obtain ⟨r420, h421, H422⟩ := bnd H419
   refine Lk [1, 1, 1] [] (c_screen_Screen_shift h421) fun ⟨⟩ => ?_
   refine Ln (Eb ?_)
   obtain rfl := sm H422
   exact Eg (_, ()) rfl [2, 0, 0, 0] [] 0
  refine Ts (Tr ?_)
  refine Lq 2 ?_
  refine Ln (Et ?_)
  refine Tb H419 (fun H424 => ?_) fun H424 => ?_
  ·refine Ts (Tr ?_)
   refine Lq 3 ?_
   refine Lt 1 ?_
   refine Ln (Et (Ts (Tr ?_)))
   refine Lq 2 ?_
   obtain ⟨r425, h426, H427⟩ := bnd H424
   refine Lk [0, 1, 1] [] (c_screen_Screen_up h426) fun ⟨a428, c429⟩ => ?_
   refine Lq 1 ?_
   refine Ln (Et (Tv (Ev ?_)))
   obtain ⟨w432, hz, H433⟩ := inrs_some H427
   subst y311
   obtain rfl := (sm H313).symm
   refine Er ?_
   obtain rfl := sm H433
   exact Eo1 (a428, c429) [0, 0, 0, 0] []
  refine Ts (Tr ?_)
  refine Lq 2 ?_
  refine Ln (Et ?_)
  refine Tb H424 (fun H434 => ?_) fun H434 => ?_
  ·refine Ts (Tr ?_)
   refine Lq 3 ?_
   refine Lt 1 ?_
   refine Ln (Et ?_)
   refine Td [15] [0, 0, 0, 0] mo ?_
   refine Dq 0 ?_
   refine Dq 1 ?_
   refine Dq 2 ?_
   refine Db 3 0 ?_
   refine Dq 4 ?_
   refine Dq 5 ?_
   refine Dq 6 ?_
   refine Db 7 0 ?_
   refine Dq 8 ?_
   refine Dq 9 ?_
   refine Dq 10 ?_
   refine Db 11 0 ?_
   refine Dq 12 ?_
   refine Dq 13 ?_
   obtain ⟨r445, h446, H447⟩ := bnd H434
   refine D.one rfl rfl rfl (Dp.br (Ac.call (c_screen_Screen_num h446) rfl rfl rfl rfl) (Bw.bx 0 rfl (Bw.bx 2 rfl (Bw.ch 3 rfl (Bw.nil)))) rfl rfl rfl rfl ?_)
   intro _
   obtain ⟨r448, h449, H450⟩ := bnd H447
   refine Dkl [2, 2] [] (c_grid_Grid_Down h449) fun ⟨a451, c452⟩ => ?_
   refine Dn ?_
   refine Eb ?_
   obtain rfl := sm H450
   exact Eg (_, ()) rfl [2, 2, 1, 1] [] 0
  refine Ts (Tr ?_)
  refine Lq 2 ?_
  refine Ln (Et ?_)
  refine Tb H434 (fun H455 => ?_) fun H455 => ?_
  ·refine Td [8, 12] [0, 0, 0, 0] mo ?_
   refine Dq 0 ?_
   refine Dq 1 ?_
   refine Dq 2 ?_
   refine Dq 3 ?_
   refine Dq 4 ?_
   refine Db 5 1 ?_
   refine Dq 6 ?_
   refine Db 7 0 ?_
   obtain ⟨r459, h460, H461⟩ := bnd H455
   refine Dkl [] [0] (c_style_Style_Set h460) fun ⟨⟩ => ?_
   refine Dq 9 ?_
   refine Dq 10 ?_
   refine Dq 11 ?_
   refine Dt 1 ?_
   refine Dn ?_
   refine Eb ?_
   obtain rfl := sm H461
   exact Eg (_, ()) rfl [3, 0, 1, 0] [] 0
  refine Ts (Tr ?_)
  refine Lq 2 ?_
  refine Ln (Et ?_)
  refine Tb H455 (fun H462 => ?_) fun H462 => ?_
  ·refine Tr ?_
   refine Lq 1 ?_
   refine Lb 0 ?_
   obtain ⟨r463, h464, H465⟩ := bnd H462
   refine Lk [1, 1, 1] [0] (c_screen_Screen_region h464) fun ⟨⟩ => ?_
   refine Ln (Eb ?_)
   obtain rfl := sm H465
   exact Eg (_, ()) rfl [2, 0, 0, 0] [] 0
  refine Tk (Eb ?_)
  obtain rfl := sm H462
  exact Eg (_, ()) rfl [3, 1, 1, 0] [] 0
 rintro ⟨e310, ⟨⟩⟩ hy
 subst hy
 refine Ts (Ts ?_)
 obtain ⟨e470, H471, H472⟩ := bnd H313
 refine Tj0 [(171, .bool e470)] [0] [] [1, 2, 3, 0] ?_ ?_
 ·refine Tr ?_
  refine Lq 1 ?_
  refine Lb 3 ?_
  refine Lq 2 ?_
  refine Lw 167 H471 (fun H473 => ?_) fun H473 => ?_
  ·refine Lq 4 ?_
   refine Ln ?_
   obtain rfl := sm H473
   exact Eg0 [1, 1, 1, 0] 0
  refine Lq 1 ?_
  refine Lb 3 ?_
  refine Lq 2 ?_
  refine Ln ?_
  obtain rfl := sm H473
  exact Eg0 [1, 1, 1, 0] 0
 obtain ⟨e477, H478, H479⟩ := bnd H472
 refine Tj0 [] [] [Ch.box N0 132 [.pointer (some ⟨N1, 0, none⟩), .int .i64 e477.spot.x, .int .i64 e477.spot.y, .int .i64 e477.spot.style.fore, .int .i64 e477.spot.style.back, .bool e477.spot.style.bold, .bool e477.spot.style.under, .bool e477.spot.style.inverse, .int .i64 e477.saved.x, .int .i64 e477.saved.y, .int .i64 e477.saved.style.fore, .int .i64 e477.saved.style.back, .bool e477.saved.style.bold, .bool e477.saved.style.under, .bool e477.saved.style.inverse, .bool e477.waiting, .int .i64 e477.top, .int .i64 e477.bottom, .bool e477.wraps, .string e477.title]] [1, 2, 3] ?_ ?_
 ·refine Tb H478 (fun H480 => ?_) fun H480 => ?_
  ·refine Tr ?_
   refine Lq 4 ?_
   refine Lt 0 ?_
   refine Ln ?_
   obtain rfl := sm H480
   exact Eg0 [0, 0, 0, 0] 0
  refine Tk ?_
  obtain rfl := sm H480
  exact Eg0 [0, 0, 0, 0] 0
 refine Ts (Tr ?_)
 refine Lq 1 ?_
 refine Ln (Et (Tv ?_))
 refine E.nil0 tyRowRow 99 ?_
 obtain rfl := sm H479
 exact Eo1 (none, 0) [0, 0, 0, 1] []

theorem c_screen_Screen_Do {s_ : ScreenScreen} {a : SeqAction} {r : (List RowRow) × ScreenScreen} (H : p_screen_Screen_Do s_ a = some r) : CT G 66 [.pointer (some ⟨N0, 0, none⟩), .agg (bx143 a A1 C1).toArray] [Ch.box N0 132 [.pointer (some ⟨N1, 0, none⟩), .int .i64 s_.spot.x, .int .i64 s_.spot.y, .int .i64 s_.spot.style.fore, .int .i64 s_.spot.style.back, .bool s_.spot.style.bold, .bool s_.spot.style.under, .bool s_.spot.style.inverse, .int .i64 s_.saved.x, .int .i64 s_.saved.y, .int .i64 s_.saved.style.fore, .int .i64 s_.saved.style.back, .bool s_.saved.style.bold, .bool s_.saved.style.under, .bool s_.saved.style.inverse, .bool s_.waiting, .int .i64 s_.top, .int .i64 s_.bottom, .bool s_.wraps, .string s_.title], Ch.box N1 181 [.int .i64 s_.g.w, .slice A0 s_.g.l.length C0], Ch.arr tyRowRow 99 A0 C0 s_.g.l] [Im.sl (Ty.int .i64) A1 C1 a.nums, Im.sl tyWideSpan (some ⟨0, 0, none⟩) 13 t_wide_nones, Im.sl tyWideSpan (some ⟨1, 0, none⟩) 14 t_wide_twos] (fun h : (Option Addr × Nat) × Nat × (Option Addr × Nat) => .slice h.1.1 r.1.length h.1.2) (fun h => [Ch.arr tyRowRow 99 h.1.1 h.1.2 r.1, Ch.box N0 132 [.pointer (some ⟨h.2.1, 0, none⟩), .int .i64 r.2.spot.x, .int .i64 r.2.spot.y, .int .i64 r.2.spot.style.fore, .int .i64 r.2.spot.style.back, .bool r.2.spot.style.bold, .bool r.2.spot.style.under, .bool r.2.spot.style.inverse, .int .i64 r.2.saved.x, .int .i64 r.2.saved.y, .int .i64 r.2.saved.style.fore, .int .i64 r.2.saved.style.back, .bool r.2.saved.style.bold, .bool r.2.saved.style.under, .bool r.2.saved.style.inverse, .bool r.2.waiting, .int .i64 r.2.top, .int .i64 r.2.bottom, .bool r.2.wraps, .string r.2.title], Ch.box h.2.1 181 [.int .i64 r.2.g.w, .slice h.2.2.1 r.2.g.l.length h.2.2.2], Ch.arr tyRowRow 99 h.2.2.1 h.2.2.2 r.2.g.l]) (fun h => []) := by
 delta p_screen_Screen_Do at H
 refine CT.of Go.Proofs.Tryz.func66 (by kernel_rfl) rfl rfl rfl fun K => ?_
 refine Ts (Tr ?_)
 refine Lx fun g1 => ?_
 refine Lq 1 ?_
 refine Ln (Et (Ts (Ts (Tr ?_))))
 refine Lq 1 ?_
 refine Lb 0 ?_
 refine Ln (Et ?_)
 obtain ⟨y134, H135, H136⟩ := bnd H
 refine Tj (η := ScreenScreen × Unit) (fun h => y134 = .inl h.1) (fun _ => []) [] (fun h => (fun e133 => [Ch.box N0 132 [.pointer (some ⟨N1, 0, none⟩), .int .i64 e133.spot.x, .int .i64 e133.spot.y, .int .i64 e133.spot.style.fore, .int .i64 e133.spot.style.back, .bool e133.spot.style.bold, .bool e133.spot.style.under, .bool e133.spot.style.inverse, .int .i64 e133.saved.x, .int .i64 e133.saved.y, .int .i64 e133.saved.style.fore, .int .i64 e133.saved.style.back, .bool e133.saved.style.bold, .bool e133.saved.style.under, .bool e133.saved.style.inverse, .bool e133.waiting, .int .i64 e133.top, .int .i64 e133.bottom, .bool e133.wraps, .string e133.title]]) h.1) [0, 2, 3] (fun _ => []) ?_ ?_
 ·refine Tl (Ts (Tr ?_))
  refine Lq 2 ?_
  refine Ln (Et ?_)
  refine Tb H135 (fun H137 => ?_) fun H137 => ?_
  ·refine Ts (Tr ?_)
   refine Lq 2 ?_
   refine Lb 0 ?_
   obtain ⟨r138, h139, H140⟩ := bnd H137
   refine Lk [1, 1, 1] [1, 2] (c_screen_Screen_print h139) fun ⟨a141, c142⟩ => ?_
   refine Lq 1 ?_
   refine Ln (Et (Tv (Ev ?_)))
   obtain ⟨w145, hz, H146⟩ := inrs_some H140
   subst y134
   obtain rfl := (sm H136).symm
   refine Er ?_
   obtain rfl := sm H146
   exact Eo1 ((a141, c142), N1, (A0, C0)) [0, 0, 0, 0] []
  refine Ts (Tr ?_)
  refine Lq 2 ?_
  refine Ln (Et ?_)
  refine Tb H137 (fun H147 => ?_) fun H147 => ?_
  ·refine Ts (Tr ?_)
   refine Lq 2 ?_
   refine Lb 0 ?_
   obtain ⟨r148, h149, H150⟩ := bnd H147
   refine Lk [1, 1, 1] [] (c_screen_Screen_control h149) fun ⟨a151, c152⟩ => ?_
   refine Lq 1 ?_
   refine Ln (Et (Tv (Ev ?_)))
   obtain ⟨w155, hz, H156⟩ := inrs_some H150
   subst y134
   obtain rfl := (sm H136).symm
   refine Er ?_
   obtain rfl := sm H156
   exact Eo1 ((a151, c152), N1, (A0, C0)) [0, 0, 0, 0] []
  refine Ts (Tr ?_)
  refine Lq 2 ?_
  refine Ln (Et ?_)
  refine Tb H147 (fun H157 => ?_) fun H157 => ?_
  ·refine Ts (Tr ?_)
   refine Lq 2 ?_
   refine Lb 0 ?_
   obtain ⟨r158, h159, H160⟩ := bnd H157
   refine Lk [1, 1, 1] [] (c_screen_Screen_escape h159) fun ⟨⟨a161, c162⟩, g163, ⟨a164, c165⟩⟩ => ?_
   refine Lq 1 ?_
   refine Ln (Et (Tv (Ev ?_)))
   obtain ⟨w168, hz, H169⟩ := inrs_some H160
   subst y134
   obtain rfl := (sm H136).symm
   refine Er ?_
   obtain rfl := sm H169
   exact Eo1 ((a161, c162), g163, (a164, c165)) [0, 0, 0, 0] []
  refine Ts (Tr ?_)
  refine Lq 2 ?_
  refine Ln (Et ?_)
  refine Tb H157 (fun H170 => ?_) fun H170 => ?_
  ·refine Tr ?_
   refine Lq 2 ?_
   refine Lb 0 ?_
   refine Lq 2 ?_
   refine Lt 1 ?_
   refine Ln (Eb ?_)
   obtain rfl := sm H170
   exact Eg (_, ()) rfl [0, 0, 0, 0] [] 0
  refine Ts (Tr ?_)
  refine Lq 2 ?_
  refine Ln (Et ?_)
  refine Tb H170 (fun H171 => ?_) fun H171 => ?_
  ·refine Ts (Ts (Tr ?_))
   refine Lq 1 ?_
   refine Lb 0 ?_
   refine Lq 1 ?_
   refine Ln (Et ?_)
   refine Tb H171 (fun H180 => ?_) fun H180 => ?_
   ·refine Ts (Tr ?_)
    refine Lq 1 ?_
    refine Lb 0 ?_
    obtain ⟨r181, h182, H183⟩ := bnd H180
    refine Lk [1, 1, 1] [0] (c_screen_Screen_order h182) fun ⟨a184, c185⟩ => ?_
    refine Lq 1 ?_
    refine Ln (Et (Tv (Er (Ev ?_))))
    obtain ⟨w188, hz, H189⟩ := inrs_some H183
    subst y134
    obtain rfl := (sm H136).symm
    refine Er ?_
    obtain rfl := sm H189
    exact Eo1 ((a184, c185), N1, (A0, C0)) [0, 0, 0, 0] []
   refine Tk (Et (Ts ?_))
   obtain ⟨e201, H202, H203⟩ := bnd H180
   refine Tj0 [(52, .bool e201)] [0, 3] [] [0, 1, 2, 3] ?_ ?_
   ·refine Tr ?_
    refine Lb 0 ?_
    obtain ⟨r204, h205, H206⟩ := bnd H202
    refine Lk [] [0] (c_screen_at h205) fun ⟨⟩ => ?_
    refine Lq 2 ?_
    refine Lw 43 H206 (fun H207 => ?_) fun H207 => ?_
    ·refine Lq 1 ?_
     refine Lb 0 ?_
     refine Lq 2 ?_
     refine Lw 47 H207 (fun H208 => ?_) fun H208 => ?_
     ·refine Lq 5 ?_
      refine Ln ?_
      obtain rfl := sm H208
      exact Eg0 [0, 0, 0, 0] 0
     refine Lq 1 ?_
     refine Lb 0 ?_
     refine Lq 3 ?_
     refine Ln ?_
     obtain rfl := sm H208
     exact Eg0 [0, 0, 0, 0] 0
    refine Lq 9 ?_
    refine Ln ?_
    obtain rfl := sm H207
    exact Eg0 [0, 0, 0, 0] 0
   refine Tb H203 (fun H209 => ?_) fun H209 => ?_
   ·refine Tr ?_
    refine Lq 2 ?_
    refine Lb 0 ?_
    refine Lq 3 ?_
    refine Lt 1 ?_
    refine Ln (Eb ?_)
    obtain rfl := sm H209
    exact Eg (_, ()) rfl [0, 0, 0, 0] [] 0
   refine Tk (Eb ?_)
   obtain rfl := sm H209
   exact Eg (_, ()) rfl [1, 0, 0, 0] [] 0
  refine Tk (Eb ?_)
  obtain rfl := sm H171
  exact Eg (_, ()) rfl [1, 0, 0, 0] [] 0
 rintro ⟨e133, ⟨⟩⟩ hy
 subst hy
 refine Ts (Tr ?_)
 refine Lq 1 ?_
 refine Ln (Et (Tv ?_))
 refine E.nil0 tyRowRow 99 ?_
 obtain rfl := sm H136
 exact Eo1 ((none, 0), N1, (A0, C0)) [0, 0, 1, 1] []

end Go.Tw.X

set_option maxHeartbeats 2000000
set_option linter.unusedVariables false
set_option linter.unusedSimpArgs false
set_option maxRecDepth 10000
namespace Go.Tw.X
open Go Go.Tw
variable {A0 A1 A2 A3 A4 A5 A6 A7 A8 : Option Addr} {C0 C1 C2 C3 C4 C5 C6 C7 C8 : Nat}
variable {N0 N1 N2 N3 N4 : Nat}
theorem c_model_Model_off_1 {σ η : Type} {Y : σ → (List RowRow) → Option (σ × Bool)} {y0 : σ} {x1 : ModelModel} {x2 : ByteArray} (g_1 : Nat) (g_1_0 : Nat) (g_1_1 : Nat) (a_1_2 : Option Addr) (c_1_2 : Nat) (a_1_3 : Option Addr) (c_1_3 : Nat) (a_1_4 : Option Addr) (c_1_4 : Nat) (g_1_5 : Nat) (a_1_6 : Option Addr) (c_1_6 : Nat) (a_1_7 : Option Addr) (c_1_7 : Nat) (g_1_8 : Nat) (g_1_9 : Nat) (a_1_10 : Option Addr) (c_1_10 : Nat) (g_2 : Nat) {yl : Nat} {C : σ → η → Ch} (hY : ∀ s (h : η) (x : (List RowRow)) (t : (Option Addr × Nat)) z, Y s x = some z → YT G yl [.slice t.1 x.length t.2] [C s h, Ch.box g_1_0 37 [.pointer (some ⟨g_1_1, 0, none⟩), .pointer (some ⟨g_1_5, 0, none⟩), .pointer (some ⟨g_1_8, 0, none⟩), .int .i64 x1.k]] [Im.sl tyRowRow t.1 t.2 x] (fun _ : η => .bool z.2) (fun h2 => [C z.1 h2, Ch.box g_1_0 37 [.pointer (some ⟨g_1_1, 0, none⟩), .pointer (some ⟨g_1_5, 0, none⟩), .pointer (some ⟨g_1_8, 0, none⟩), .int .i64 x1.k]]) (fun _ => [])) (h0 : η) {r : σ × ModelModel} (H : p_model_Model_off_1 Y y0 x1 x2 = some r) : CT G 64 [.func (.yield yl) #[] #[], .pointer (some ⟨g_1, 0, none⟩), .pointer (some ⟨g_2, 0, none⟩)] [C y0 h0, Ch.box g_1 25 [.pointer (some ⟨g_1_0, 0, none⟩)], Ch.box g_1_0 37 [.pointer (some ⟨g_1_1, 0, none⟩), .pointer (some ⟨g_1_5, 0, none⟩), .pointer (some ⟨g_1_8, 0, none⟩), .int .i64 x1.k], Ch.box g_1_5 85 [.int .i64 x1.parser.state, .bool x1.parser.order.private_, .bool x1.parser.order.wrong, .bool x1.parser.order.any, .bool x1.parser.order.some, .int .i64 x1.parser.order.n, .slice a_1_6 x1.parser.order.nums.length c_1_6, .string x1.parser.text, .int .u8 x1.parser.runes.lead, .int .i32 x1.parser.runes.rune, .int .i64 x1.parser.runes.need, .slice none 0 0], Ch.opt (x1.parser.state == (3 : Int)) (Ty.int .i64) 3 a_1_6 c_1_6 x1.parser.order.nums, Ch.box g_1_8 132 [.pointer (some ⟨g_1_9, 0, none⟩), .int .i64 x1.screen.spot.x, .int .i64 x1.screen.spot.y, .int .i64 x1.screen.spot.style.fore, .int .i64 x1.screen.spot.style.back, .bool x1.screen.spot.style.bold, .bool x1.screen.spot.style.under, .bool x1.screen.spot.style.inverse, .int .i64 x1.screen.saved.x, .int .i64 x1.screen.saved.y, .int .i64 x1.screen.saved.style.fore, .int .i64 x1.screen.saved.style.back, .bool x1.screen.saved.style.bold, .bool x1.screen.saved.style.under, .bool x1.screen.saved.style.inverse, .bool x1.screen.waiting, .int .i64 x1.screen.top, .int .i64 x1.screen.bottom, .bool x1.screen.wraps, .string x1.screen.title], Ch.box g_1_9 181 [.int .i64 x1.screen.g.w, .slice a_1_10 x1.screen.g.l.length c_1_10], Ch.arr tyRowRow 99 a_1_10 c_1_10 x1.screen.g.l, Ch.box g_2 9 [.string x2]] [Im.sl tyWideSpan (some ⟨0, 0, none⟩) 13 t_wide_nones, Im.sl tyWideSpan (some ⟨1, 0, none⟩) 14 t_wide_twos, Im.sl tyGlyphLead (some ⟨3, 0, none⟩) 8 t_glyph_leads] (fun h : η × (Option Addr × Nat) × (Option Addr × Nat) × Nat × (Option Addr × Nat) => .tuple #[]) (fun h => [C r.1 h.1, Ch.box g_1 25 [.pointer (some ⟨g_1_0, 0, none⟩)], Ch.box g_1_0 37 [.pointer (some ⟨g_1_1, 0, none⟩), .pointer (some ⟨g_1_5, 0, none⟩), .pointer (some ⟨g_1_8, 0, none⟩), .int .i64 r.2.k], Ch.box g_1_5 85 [.int .i64 r.2.parser.state, .bool r.2.parser.order.private_, .bool r.2.parser.order.wrong, .bool r.2.parser.order.any, .bool r.2.parser.order.some, .int .i64 r.2.parser.order.n, .slice h.2.1.1 r.2.parser.order.nums.length h.2.1.2, .string r.2.parser.text, .int .u8 r.2.parser.runes.lead, .int .i32 r.2.parser.runes.rune, .int .i64 r.2.parser.runes.need, .slice none 0 0], Ch.opt (r.2.parser.state == (3 : Int)) (Ty.int .i64) 3 h.2.1.1 h.2.1.2 r.2.parser.order.nums, Ch.box g_1_8 132 [.pointer (some ⟨h.2.2.2.1, 0, none⟩), .int .i64 r.2.screen.spot.x, .int .i64 r.2.screen.spot.y, .int .i64 r.2.screen.spot.style.fore, .int .i64 r.2.screen.spot.style.back, .bool r.2.screen.spot.style.bold, .bool r.2.screen.spot.style.under, .bool r.2.screen.spot.style.inverse, .int .i64 r.2.screen.saved.x, .int .i64 r.2.screen.saved.y, .int .i64 r.2.screen.saved.style.fore, .int .i64 r.2.screen.saved.style.back, .bool r.2.screen.saved.style.bold, .bool r.2.screen.saved.style.under, .bool r.2.screen.saved.style.inverse, .bool r.2.screen.waiting, .int .i64 r.2.screen.top, .int .i64 r.2.screen.bottom, .bool r.2.screen.wraps, .string r.2.screen.title], Ch.box h.2.2.2.1 181 [.int .i64 r.2.screen.g.w, .slice h.2.2.2.2.1 r.2.screen.g.l.length h.2.2.2.2.2], Ch.arr tyRowRow 99 h.2.2.2.2.1 h.2.2.2.2.2 r.2.screen.g.l, Ch.box g_2 9 [.string x2]]) (fun h => []) := by
  delta p_model_Model_off_1 at H
  refine CT.of Go.Proofs.Tryz.func64 (by kernel_rfl) rfl rfl rfl fun K => ?_
  refine Ts ?_
  refine Td [] [0, 0, 0, 2, 2, 2, 2] mo ?_
  refine Db 0 1 ?_
  refine Dq 1 ?_
  refine Dq 2 ?_
  refine Db 3 2 ?_
  refine Db 4 6 ?_
  refine Dq 7 ?_
  obtain ⟨r34, h35, H36⟩ := bnd H
  refine Dk [0, 0] [2] (c_seq_Parser_Feed h35) fun ⟨⟨a37, c38⟩, ⟨a39, c40⟩, ⟨a41, c42⟩⟩ => ?_
  refine Dq 6 ?_
  refine Dn ?_
  refine Et ?_
  obtain ⟨y414, H415, H416⟩ := bnd H36
  refine T.joinE (η := (ScreenScreen × σ) × (Nat × (Option Addr × Nat) × η)) (fun h => y414 = .inl h.1) (fun h => (fun e413 => (fun g407 a408 c409 h412 => []) h.2.1 h.2.2.1.1 h.2.2.1.2 h.2.2.2) h.1) (fun h => (fun e413 => (fun g407 a408 c409 h412 => [Ch.arr tyRowRow 99 a408 c409 e413.1.g.l, C e413.2 h412, Ch.box g_1_8 132 [.pointer (some ⟨g407, 0, none⟩), .int .i64 e413.1.spot.x, .int .i64 e413.1.spot.y, .int .i64 e413.1.spot.style.fore, .int .i64 e413.1.spot.style.back, .bool e413.1.spot.style.bold, .bool e413.1.spot.style.under, .bool e413.1.spot.style.inverse, .int .i64 e413.1.saved.x, .int .i64 e413.1.saved.y, .int .i64 e413.1.saved.style.fore, .int .i64 e413.1.saved.style.back, .bool e413.1.saved.style.bold, .bool e413.1.saved.style.under, .bool e413.1.saved.style.inverse, .bool e413.1.waiting, .int .i64 e413.1.top, .int .i64 e413.1.bottom, .bool e413.1.wraps, .string e413.1.title], Ch.box g407 181 [.int .i64 e413.1.g.w, .slice a408 e413.1.g.l.length c409], Ch.box g_1 25 [.pointer (some ⟨g_1_0, 0, none⟩)], Ch.box g_1_0 37 [.pointer (some ⟨g_1_1, 0, none⟩), .pointer (some ⟨g_1_5, 0, none⟩), .pointer (some ⟨g_1_8, 0, none⟩), .int .i64 x1.k], Ch.box g_2 9 [.string x2], Ch.box g_1_5 85 [.int .i64 r34.2.state, .bool r34.2.order.private_, .bool r34.2.order.wrong, .bool r34.2.order.any, .bool r34.2.order.some, .int .i64 r34.2.order.n, .slice a39 r34.2.order.nums.length c40, .string r34.2.text, .int .u8 r34.2.runes.lead, .int .i32 r34.2.runes.rune, .int .i64 r34.2.runes.need, .slice none 0 0], Ch.opt (r34.2.state == (3 : Int)) (Ty.int .i64) 3 a39 c40 r34.2.order.nums]) h.2.1 h.2.2.1.1 h.2.2.1.2 h.2.2.2) h.1) (fun h => (fun e413 => (fun g407 a408 c409 h412 => [Im.sl tyWideSpan (some ⟨0, 0, none⟩) 13 t_wide_nones, Im.sl tyWideSpan (some ⟨1, 0, none⟩) 14 t_wide_twos, Im.sl tyGlyphLead (some ⟨3, 0, none⟩) 8 t_glyph_leads]) h.2.1 h.2.2.1.1 h.2.2.1.2 h.2.2.2) h.1) ?_ ?_
  ·refine Tl ?_
   refine Tq (η := Nat × (Option Addr × Nat) × η) (fun s293 h => (fun g286 a287 c288 h292 => [(14, .int .i64 s293.2.1)]) h.1 h.2.1.1 h.2.1.2 h.2.2) [0, 1, 12, 13] (fun s293 h => (fun g286 a287 c288 h292 => [Ch.arr tyRowRow 99 a287 c288 s293.1.g.l, C s293.2.2 h292, Ch.box g_1_8 132 [.pointer (some ⟨g286, 0, none⟩), .int .i64 s293.1.spot.x, .int .i64 s293.1.spot.y, .int .i64 s293.1.spot.style.fore, .int .i64 s293.1.spot.style.back, .bool s293.1.spot.style.bold, .bool s293.1.spot.style.under, .bool s293.1.spot.style.inverse, .int .i64 s293.1.saved.x, .int .i64 s293.1.saved.y, .int .i64 s293.1.saved.style.fore, .int .i64 s293.1.saved.style.back, .bool s293.1.saved.style.bold, .bool s293.1.saved.style.under, .bool s293.1.saved.style.inverse, .bool s293.1.waiting, .int .i64 s293.1.top, .int .i64 s293.1.bottom, .bool s293.1.wraps, .string s293.1.title], Ch.box g286 181 [.int .i64 s293.1.g.w, .slice a287 s293.1.g.l.length c288]]) h.1 h.2.1.1 h.2.1.2 h.2.2) [1, 2, 6, 8, 7, 9] (fun _ _ => []) (g_1_9, (a_1_10, c_1_10), h0) [5, 0, 2, 2, 0, 0, 0, 1, 0, 0] [] H415 ?_
   rintro k_ s293 ⟨g286, ⟨a287, c288⟩, h292⟩ z418 H417 hag419 hbr420
   refine Ts (Tr ?_)
   refine Lq 1 ?_
   refine Ln (Et (Ts ?_))
   refine Tb H417 (fun H422 => ?_) fun H422 => ?_
   ·refine Tk (Et (Ts (Tl (Ts (Tr ?_)))))
    obtain ⟨x478, h479, H480⟩ := bnd H422
    refine L.addro 8 rfl (idx_lt h479) fun b481 e482 => ?_
    subst e482
    refine Ly (Yl.ia h479 rfl rfl rfl rfl rfl rfl) ?_
    refine La [8] [] (Ac.lo s293.2.1.toNat 0 (v := (fun h : (Option Addr × Nat) => (fun a483 c484 => .agg (bx143 x478 a483 c484).toArray) h.1 h.2)) (idx_some h479).2 rfl rfl rfl (fun _ => rfl)) ?_
    rintro ⟨a483, c484⟩
    refine Ll fun g486 => ?_
    refine Lt 0 ?_
    refine Ln (Et (Ts ?_))
    refine Td [] [0, 0, 1, 3, 3, 3, 3, 3] mo ?_
    refine Db 0 3 ?_
    refine Dq 1 ?_
    refine Dq 2 ?_
    refine Db 3 4 ?_
    refine Db 4 0 ?_
    obtain ⟨r517, h518, H519⟩ := bnd H480
    refine Dk [1, 1, 0] [0, 1, 2] (c_screen_Screen_Do h518) fun ⟨⟨a520, c521⟩, g522, ⟨a523, c524⟩⟩ => ?_
    refine Dq 6 ?_
    refine Dn ?_
    refine Et (Ts (Tr ?_))
    refine Lq 2 ?_
    refine L.frz 8 rfl ?_
    obtain ⟨z528, h529, H530⟩ := bnd H519
    refine L.yd [2, 3] [0] (hY _ _ _ (a520, c521) _ h529) rfl rfl rfl rfl rfl rfl rfl rfl ?_
    intro h531
    refine Lq 1 ?_
    refine Ln (Et ?_)
    refine Tb H530 (fun H532 => ?_) fun H532 => ?_
    ·refine Tv (Ev (Er (Er (Ev ?_))))
     obtain ⟨w533, hz, H534⟩ := inrr_some H532
     subst z418
     have hb := hbr420 _ rfl
     subst y414
     obtain rfl := (sm H416).symm
     refine Er ?_
     obtain rfl := sm H534
     exact Eo (h531, (a39, c40), (none, 0), g522, (a523, c524)) [0, 3, 0, 3, 3, 3, 3, 3, 2] [] .nil
    refine Tk (Eb (Et (Tr ?_)))
    refine Lq 2 ?_
    refine Ln ?_
    obtain rfl := sm H532
    exact Eg (_, (g522, (a523, c524), h531)) (hag419 _ rfl) [10, 0, 7, 7, 3, 0, 2, 2, 1, 1] [] 2
   refine Tx (Ex (Ex (Eh ?_)))
   obtain rfl := sm H422
   have hb := hbr420 _ rfl
   subst y414
   exact Egx (_, (g286, (a287, c288), h292)) rfl [0, 0, 0, 0, 0, 0, 0, 0, 1] [0, 1, 2]
  rintro ⟨e413, ⟨g407, ⟨a408, c409⟩, h412⟩⟩ hy
  subst hy
  refine E.off ?_
  obtain rfl := sm H416
  exact Eo (h412, (a39, c40), (none, 0), g407, (a408, c409)) [1, 3, 3, 4, 4, 1, 1, 0, 0] [] .nil

theorem c_model_Model_Do {m_ : ModelModel} {e : ModelEvent} {r : Int × ModelModel} (H : p_model_Model_Do m_ e = some r) : CT G 11 [.pointer (some ⟨N0, 0, none⟩), .agg #[.int .i64 e.kind, .string e.text, .int .i64 e.w, .int .i64 e.h]] [Ch.box N0 37 [.pointer (some ⟨N1, 0, none⟩), .pointer (some ⟨N2, 0, none⟩), .pointer (some ⟨N3, 0, none⟩), .int .i64 m_.k], Ch.box N1 93 [.slice A0 m_.book.l.length C0, .slice A1 m_.book.chains.length C1, .slice A2 m_.book.begun.length C2], Ch.arr (Ty.slice tyRowGlyph) 38 A0 C0 m_.book.l, Ch.arr (Ty.int .i64) 3 A1 C1 m_.book.chains, Ch.arr tyRowGlyph 77 A2 C2 m_.book.begun, Ch.box N2 85 [.int .i64 m_.parser.state, .bool m_.parser.order.private_, .bool m_.parser.order.wrong, .bool m_.parser.order.any, .bool m_.parser.order.some, .int .i64 m_.parser.order.n, .slice A3 m_.parser.order.nums.length C3, .string m_.parser.text, .int .u8 m_.parser.runes.lead, .int .i32 m_.parser.runes.rune, .int .i64 m_.parser.runes.need, .slice none 0 0], Ch.opt (m_.parser.state == (3 : Int)) (Ty.int .i64) 3 A3 C3 m_.parser.order.nums, Ch.box N3 132 [.pointer (some ⟨N4, 0, none⟩), .int .i64 m_.screen.spot.x, .int .i64 m_.screen.spot.y, .int .i64 m_.screen.spot.style.fore, .int .i64 m_.screen.spot.style.back, .bool m_.screen.spot.style.bold, .bool m_.screen.spot.style.under, .bool m_.screen.spot.style.inverse, .int .i64 m_.screen.saved.x, .int .i64 m_.screen.saved.y, .int .i64 m_.screen.saved.style.fore, .int .i64 m_.screen.saved.style.back, .bool m_.screen.saved.style.bold, .bool m_.screen.saved.style.under, .bool m_.screen.saved.style.inverse, .bool m_.screen.waiting, .int .i64 m_.screen.top, .int .i64 m_.screen.bottom, .bool m_.screen.wraps, .string m_.screen.title], Ch.box N4 181 [.int .i64 m_.screen.g.w, .slice A5 m_.screen.g.l.length C5], Ch.arr tyRowRow 99 A5 C5 m_.screen.g.l] [Im.sl tyWideSpan (some ⟨0, 0, none⟩) 13 t_wide_nones, Im.sl tyWideSpan (some ⟨1, 0, none⟩) 14 t_wide_twos, Im.sl (Ty.int .u32) (some ⟨2, 0, none⟩) 16 t_sum_half, Im.sl tyGlyphLead (some ⟨3, 0, none⟩) 8 t_glyph_leads] (fun h : (Option Addr × Nat) × (Option Addr × Nat) × (Option Addr × Nat) × (Option Addr × Nat) × (Option Addr × Nat) × Nat × (Option Addr × Nat) => .int .i64 r.1) (fun h => [Ch.box N0 37 [.pointer (some ⟨N1, 0, none⟩), .pointer (some ⟨N2, 0, none⟩), .pointer (some ⟨N3, 0, none⟩), .int .i64 r.2.k], Ch.box N1 93 [.slice h.1.1 r.2.book.l.length h.1.2, .slice h.2.1.1 r.2.book.chains.length h.2.1.2, .slice h.2.2.1.1 r.2.book.begun.length h.2.2.1.2], Ch.arr (Ty.slice tyRowGlyph) 38 h.1.1 h.1.2 r.2.book.l, Ch.arr (Ty.int .i64) 3 h.2.1.1 h.2.1.2 r.2.book.chains, Ch.arr tyRowGlyph 77 h.2.2.1.1 h.2.2.1.2 r.2.book.begun, Ch.box N2 85 [.int .i64 r.2.parser.state, .bool r.2.parser.order.private_, .bool r.2.parser.order.wrong, .bool r.2.parser.order.any, .bool r.2.parser.order.some, .int .i64 r.2.parser.order.n, .slice h.2.2.2.1.1 r.2.parser.order.nums.length h.2.2.2.1.2, .string r.2.parser.text, .int .u8 r.2.parser.runes.lead, .int .i32 r.2.parser.runes.rune, .int .i64 r.2.parser.runes.need, .slice none 0 0], Ch.opt (r.2.parser.state == (3 : Int)) (Ty.int .i64) 3 h.2.2.2.1.1 h.2.2.2.1.2 r.2.parser.order.nums, Ch.box N3 132 [.pointer (some ⟨h.2.2.2.2.2.1, 0, none⟩), .int .i64 r.2.screen.spot.x, .int .i64 r.2.screen.spot.y, .int .i64 r.2.screen.spot.style.fore, .int .i64 r.2.screen.spot.style.back, .bool r.2.screen.spot.style.bold, .bool r.2.screen.spot.style.under, .bool r.2.screen.spot.style.inverse, .int .i64 r.2.screen.saved.x, .int .i64 r.2.screen.saved.y, .int .i64 r.2.screen.saved.style.fore, .int .i64 r.2.screen.saved.style.back, .bool r.2.screen.saved.style.bold, .bool r.2.screen.saved.style.under, .bool r.2.screen.saved.style.inverse, .bool r.2.screen.waiting, .int .i64 r.2.screen.top, .int .i64 r.2.screen.bottom, .bool r.2.screen.wraps, .string r.2.screen.title], Ch.box h.2.2.2.2.2.1 181 [.int .i64 r.2.screen.g.w, .slice h.2.2.2.2.2.2.1 r.2.screen.g.l.length h.2.2.2.2.2.2.2], Ch.arr tyRowRow 99 h.2.2.2.2.2.2.1 h.2.2.2.2.2.2.2 r.2.screen.g.l]) (fun h => []) := by
 delta p_model_Model_Do at H
 refine CT.of Go.Proofs.Tryz.func11 (by kernel_rfl) rfl rfl rfl fun K => ?_
 refine T.dfs0 ?_
 refine Ts (Tr ?_)
 refine Lx fun g1 => ?_
 refine Lx fun g2 => ?_
 refine Lq 1 ?_
 refine Ln (Et (Ts (Ts (Tr ?_))))
 refine Lb 0 ?_
 obtain ⟨r3, h4, H5⟩ := bnd H
 refine Lk [] [] (c_model_Event_Check h4) fun ⟨⟩ => ?_
 refine Lq 1 ?_
 refine Ln (Et (Ts (Tr ?_)))
 refine Lq 2 ?_
 refine Ln (Et ?_)
 refine Tb H5 (fun H7 => ?_) fun H7 => ?_
 ·refine Ts (Tr ?_)
  refine Lq 2 ?_
  refine Ln (Et (Tv (Er ?_)))
  obtain rfl := sm H7
  exact E.retd ((A0, C0), (A1, C1), (A2, C2), (A3, C3), (none, 0), N4, (A5, C5)) 2 [2, 2, 2, 2, 2, 2, 2, 2, 2, 2] [] rfl (.tmp rfl .nil) rfl rfl rfl
 refine Tk (Et (Ts (Ts (Tr ?_))))
 refine Lq 1 ?_
 refine Lb 0 ?_
 refine Lq 1 ?_
 refine Ln (Et ?_)
 obtain ⟨e314, H315, H316⟩ := bnd H7
 refine T.joinD (η := Unit × ((Option Addr × Nat) × (Option Addr × Nat) × (Option Addr × Nat) × (Option Addr × Nat) × Nat × (Option Addr × Nat) × List Nat)) (fun h => True) (fun h => (fun a297 c298 a300 c301 a303 c304 a306 c307 g309 a310 c311 ds313 => ds313) h.2.1.1 h.2.1.2 h.2.2.1.1 h.2.2.1.2 h.2.2.2.1.1 h.2.2.2.1.2 h.2.2.2.2.1.1 h.2.2.2.2.1.2 h.2.2.2.2.2.1 h.2.2.2.2.2.2.1.1 h.2.2.2.2.2.2.1.2 h.2.2.2.2.2.2.2) (fun h => (fun a297 c298 a300 c301 a303 c304 a306 c307 g309 a310 c311 ds313 => [(2, .pointer (some ⟨g1, 0, none⟩))]) h.2.1.1 h.2.1.2 h.2.2.1.1 h.2.2.1.2 h.2.2.2.1.1 h.2.2.2.1.2 h.2.2.2.2.1.1 h.2.2.2.2.1.2 h.2.2.2.2.2.1 h.2.2.2.2.2.2.1.1 h.2.2.2.2.2.2.1.2 h.2.2.2.2.2.2.2) (fun h => (fun a297 c298 a300 c301 a303 c304 a306 c307 g309 a310 c311 ds313 => [Ch.arr (Ty.slice tyRowGlyph) 38 a297 c298 e314.book.l, Ch.arr (Ty.int .i64) 3 a300 c301 e314.book.chains, Ch.arr tyRowGlyph 77 a303 c304 e314.book.begun, Ch.opt (e314.parser.state == (3 : Int)) (Ty.int .i64) 3 a306 c307 e314.parser.order.nums, Ch.arr tyRowRow 99 a310 c311 e314.screen.g.l, Ch.box g2 29 [.int .i64 e.kind, .string e.text, .int .i64 e.w, .int .i64 e.h], Ch.box g1 25 [.pointer (some ⟨N0, 0, none⟩)], Ch.dfs ds313, Ch.box N0 37 [.pointer (some ⟨N1, 0, none⟩), .pointer (some ⟨N2, 0, none⟩), .pointer (some ⟨N3, 0, none⟩), .int .i64 e314.k], Ch.box N1 93 [.slice a297 e314.book.l.length c298, .slice a300 e314.book.chains.length c301, .slice a303 e314.book.begun.length c304], Ch.box N2 85 [.int .i64 e314.parser.state, .bool e314.parser.order.private_, .bool e314.parser.order.wrong, .bool e314.parser.order.any, .bool e314.parser.order.some, .int .i64 e314.parser.order.n, .slice a306 e314.parser.order.nums.length c307, .string e314.parser.text, .int .u8 e314.parser.runes.lead, .int .i32 e314.parser.runes.rune, .int .i64 e314.parser.runes.need, .slice none 0 0], Ch.box N3 132 [.pointer (some ⟨g309, 0, none⟩), .int .i64 e314.screen.spot.x, .int .i64 e314.screen.spot.y, .int .i64 e314.screen.spot.style.fore, .int .i64 e314.screen.spot.style.back, .bool e314.screen.spot.style.bold, .bool e314.screen.spot.style.under, .bool e314.screen.spot.style.inverse, .int .i64 e314.screen.saved.x, .int .i64 e314.screen.saved.y, .int .i64 e314.screen.saved.style.fore, .int .i64 e314.screen.saved.style.back, .bool e314.screen.saved.style.bold, .bool e314.screen.saved.style.under, .bool e314.screen.saved.style.inverse, .bool e314.screen.waiting, .int .i64 e314.screen.top, .int .i64 e314.screen.bottom, .bool e314.screen.wraps, .string e314.screen.title], Ch.box g309 181 [.int .i64 e314.screen.g.w, .slice a310 e314.screen.g.l.length c311]]) h.2.1.1 h.2.1.2 h.2.2.1.1 h.2.2.1.2 h.2.2.2.1.1 h.2.2.2.1.2 h.2.2.2.2.1.1 h.2.2.2.2.1.2 h.2.2.2.2.2.1 h.2.2.2.2.2.2.1.1 h.2.2.2.2.2.2.1.2 h.2.2.2.2.2.2.2) (fun h => (fun a297 c298 a300 c301 a303 c304 a306 c307 g309 a310 c311 ds313 => [Im.sl tyWideSpan (some ⟨0, 0, none⟩) 13 t_wide_nones, Im.sl tyWideSpan (some ⟨1, 0, none⟩) 14 t_wide_twos, Im.sl (Ty.int .u32) (some ⟨2, 0, none⟩) 16 t_sum_half, Im.sl tyGlyphLead (some ⟨3, 0, none⟩) 8 t_glyph_leads]) h.2.1.1 h.2.1.2 h.2.2.1.1 h.2.2.1.2 h.2.2.2.1.1 h.2.2.2.1.2 h.2.2.2.2.1.1 h.2.2.2.2.1.2 h.2.2.2.2.2.1 h.2.2.2.2.2.2.1.1 h.2.2.2.2.2.2.1.2 h.2.2.2.2.2.2.2) ?_ ?_
 ·refine Tb H315 (fun H317 => ?_) fun H317 => ?_
  ·refine Td [] [0, 0, 0, 0, 4, 4] mo ?_
   refine Db 0 1 ?_
   refine Dq 1 ?_
   refine Dq 2 ?_
   refine Db 3 3 ?_
   refine Db 4 1 ?_
   refine Dq 5 ?_
   refine Dq 6 ?_
   refine Db 7 3 ?_
   refine Dq 8 ?_
   refine Db 9 0 ?_
   refine Dq 10 ?_
   refine Db 11 0 ?_
   obtain ⟨r340, h341, H342⟩ := bnd H317
   refine Dk [4, 4, 4] [] (c_screen_Screen_Resize h341) fun ⟨⟨a343, c344⟩, ⟨a345, c346⟩⟩ => ?_
   refine D.frz 0 rfl ?_
   obtain ⟨r350, h351, H352⟩ := bnd H342
   refine Dk [3, 3, 3, 3] [0, 3] (c_book_Book_Add h351) fun ⟨⟨a353, c354⟩, ⟨a355, c356⟩, ⟨a357, c358⟩⟩ => ?_
   refine Dn ?_
   obtain rfl := sm H352
   exact E.giveD ((), ((a353, c354), (a355, c356), (a357, c358), (A3, C3), N4, (a345, c346), [])) [7, 7, 7, 5, 8, 0, 0, 0, 0, 1, 0, 0, 0] [1, 2, 3, 4] trivial rfl ⟨rfl, trivial⟩ rfl rfl
  refine Ts (Tr ?_)
  refine Lb 1 ?_
  refine Lq 1 ?_
  refine Lb 0 ?_
  obtain ⟨r362, h363, H364⟩ := bnd H317
  refine Lk [3, 3, 3, 3, 3, 3, 3, 3, 3, 3] [0, 1, 3] (c_model_Model_off h363) fun ⟨g365, g366⟩ => ?_
  refine Ln (Et (Tl ?_))
  obtain ⟨r433, h434, H435⟩ := bnd H364
  refine T.rf4 (σ := BookBook) (η := (Option Addr × Nat) × (Option Addr × Nat) × (Option Addr × Nat)) (X := (List RowRow)) (θ := (Option Addr × Nat)) (τ := ((Option Addr × Nat) × (Option Addr × Nat) × (Option Addr × Nat)) × (Option Addr × Nat) × (Option Addr × Nat) × Nat × (Option Addr × Nat)) (s1 := r433.1) (hx := fun x => x.1) (fun x t => [.slice t.1 x.length t.2]) (fun x t => [Im.sl tyRowRow t.1 t.2 x]) (fun _ => none) _ [Ch.box N0 37 [.pointer (some ⟨N1, 0, none⟩), .pointer (some ⟨N2, 0, none⟩), .pointer (some ⟨N3, 0, none⟩), .int .i64 m_.k]] (fun s417 h => (fun a385 c386 a388 c389 a391 c392 => [Ch.arr (Ty.slice tyRowGlyph) 38 a385 c386 s417.l, Ch.arr (Ty.int .i64) 3 a388 c389 s417.chains, Ch.arr tyRowGlyph 77 a391 c392 s417.begun, Ch.box N1 93 [.slice a385 s417.l.length c386, .slice a388 s417.chains.length c389, .slice a391 s417.begun.length c392], Ch.box g2 29 [.int .i64 e.kind, .string e.text, .int .i64 e.w, .int .i64 e.h], Ch.box g1 25 [.pointer (some ⟨N0, 0, none⟩)]]) h.1.1 h.1.2 h.2.1.1 h.2.1.2 h.2.2.1 h.2.2.2) (fun s417 h => (fun a385 c386 a388 c389 a391 c392 => [Im.sl tyWideSpan (some ⟨0, 0, none⟩) 13 t_wide_nones, Im.sl tyWideSpan (some ⟨1, 0, none⟩) 14 t_wide_twos, Im.sl (Ty.int .u32) (some ⟨2, 0, none⟩) 16 t_sum_half, Im.sl tyGlyphLead (some ⟨3, 0, none⟩) 8 t_glyph_leads]) h.1.1 h.1.2 h.2.1.1 h.2.1.2 h.2.2.1 h.2.2.2) 14 [4, 4, 4, 3, 8, 8, 0, 1, 1, 1, 1, 1, 1, 0] [0, 1, 2, 3] [0, 1, 3] rfl rfl (fun _ _ => rfl) rfl (fun yl C hY => (c_model_Model_off_1 g365 N0 N1 A0 C0 A1 C1 A2 C2 N2 A3 C3 none 0 N3 N4 A5 C5 g366 hY ((A0, C0), (A1, C1), (A2, C2)) h434 : _)) (fun _ _ _ _ => rfl) rfl rfl rfl rfl rfl ?_ rfl ?_
  ·rintro yl K2 s417 ⟨⟨a385, c386⟩, ⟨a388, c389⟩, ⟨a391, c392⟩⟩ x369 ⟨a367, c368⟩ z418 H419
   refine Tr ?_
   refine Lq 1 ?_
   refine Ln ?_
   refine E.begin fun K3 => ?_
   refine Tl (Tr ?_)
   refine Lb 5 ?_
   refine Lq 2 ?_
   refine Lb 6 ?_
   refine Lq 1 ?_
   obtain ⟨r421, h422, H423⟩ := bnd H419
   refine Lk [3, 0, 0, 0] [0, 3] (c_book_Book_Add h422) fun ⟨⟨a424, c425⟩, ⟨a426, c427⟩, ⟨a428, c429⟩⟩ => ?_
   refine Ln (Eb ?_)
   obtain rfl := sm H423
   exact E.on ((a424, c425), (a426, c427), (a428, c429)) [1, 1, 1, 0, 0, 0, 0] [1, 2, 3, 4] rfl rfl rfl rfl
  rintro ⟨h436, ⟨a437, c438⟩, ⟨a439, c440⟩, g441, ⟨a442, c443⟩⟩ D445
  refine Eb ?_
  obtain rfl := sm H435
  exact E.giveD ((), ((h436.1.1, h436.1.2), (h436.2.1.1, h436.2.1.2), (h436.2.2.1, h436.2.2.2), (a437, c438), g441, (a442, c443), (D445 :: []))) [1, 1, 1, 7, 9, 2, 2, 0, 2, 0, 1, 1, 1] [0, 1, 2, 3] trivial rfl ⟨rfl, trivial⟩ rfl rfl
 rintro ⟨_, ⟨⟨a297, c298⟩, ⟨a300, c301⟩, ⟨a303, c304⟩, ⟨a306, c307⟩, g309, ⟨a310, c311⟩, ds313⟩⟩ _
 refine Ts (Tr ?_)
 refine Lb 6 ?_
 refine Lq 2 ?_
 refine Lb 8 ?_
 refine Lq 3 ?_
 refine Lt 8 ?_
 refine Ln (Et (Ts (Tr ?_)))
 refine Lq 1 ?_
 refine Ln (Et (Tv ?_))
 obtain rfl := sm H316
 exact E.retd ((a297, c298), (a300, c301), (a303, c304), (a306, c307), (none, 0), g309, (a310, c311)) 8 [0, 7, 0, 0, 0, 4, 0, 3, 3, 0] [] rfl (.tmp rfl .nil) rfl rfl rfl

theorem c_model_Run {w : Int} {h_ : Int} {l : List ModelEvent} {r : ModelModel} (H : p_model_Run w h_ l = some r) : CT G 10 [.int .i64 w, .int .i64 h_, .slice A0 l.length C0] [] [Im.sl tyModelEvent A0 C0 l, Im.sl tyWideSpan (some ⟨0, 0, none⟩) 13 t_wide_nones, Im.sl tyWideSpan (some ⟨1, 0, none⟩) 14 t_wide_twos, Im.sl (Ty.int .u32) (some ⟨2, 0, none⟩) 16 t_sum_half, Im.sl tyGlyphLead (some ⟨3, 0, none⟩) 8 t_glyph_leads] (fun h : Nat × Nat × (Option Addr × Nat) × (Option Addr × Nat) × (Option Addr × Nat) × Nat × (Option Addr × Nat) × (Option Addr × Nat) × Nat × Nat × (Option Addr × Nat) => .pointer (some ⟨h.1, 0, none⟩)) (fun h => [Ch.box h.1 37 [.pointer (some ⟨h.2.1, 0, none⟩), .pointer (some ⟨h.2.2.2.2.2.1, 0, none⟩), .pointer (some ⟨h.2.2.2.2.2.2.2.2.1, 0, none⟩), .int .i64 r.k], Ch.box h.2.1 93 [.slice h.2.2.1.1 r.book.l.length h.2.2.1.2, .slice h.2.2.2.1.1 r.book.chains.length h.2.2.2.1.2, .slice h.2.2.2.2.1.1 r.book.begun.length h.2.2.2.2.1.2], Ch.arr (Ty.slice tyRowGlyph) 38 h.2.2.1.1 h.2.2.1.2 r.book.l, Ch.arr (Ty.int .i64) 3 h.2.2.2.1.1 h.2.2.2.1.2 r.book.chains, Ch.arr tyRowGlyph 77 h.2.2.2.2.1.1 h.2.2.2.2.1.2 r.book.begun, Ch.box h.2.2.2.2.2.1 85 [.int .i64 r.parser.state, .bool r.parser.order.private_, .bool r.parser.order.wrong, .bool r.parser.order.any, .bool r.parser.order.some, .int .i64 r.parser.order.n, .slice h.2.2.2.2.2.2.1.1 r.parser.order.nums.length h.2.2.2.2.2.2.1.2, .string r.parser.text, .int .u8 r.parser.runes.lead, .int .i32 r.parser.runes.rune, .int .i64 r.parser.runes.need, .slice none 0 0], Ch.opt (r.parser.state == (3 : Int)) (Ty.int .i64) 3 h.2.2.2.2.2.2.1.1 h.2.2.2.2.2.2.1.2 r.parser.order.nums, Ch.box h.2.2.2.2.2.2.2.2.1 132 [.pointer (some ⟨h.2.2.2.2.2.2.2.2.2.1, 0, none⟩), .int .i64 r.screen.spot.x, .int .i64 r.screen.spot.y, .int .i64 r.screen.spot.style.fore, .int .i64 r.screen.spot.style.back, .bool r.screen.spot.style.bold, .bool r.screen.spot.style.under, .bool r.screen.spot.style.inverse, .int .i64 r.screen.saved.x, .int .i64 r.screen.saved.y, .int .i64 r.screen.saved.style.fore, .int .i64 r.screen.saved.style.back, .bool r.screen.saved.style.bold, .bool r.screen.saved.style.under, .bool r.screen.saved.style.inverse, .bool r.screen.waiting, .int .i64 r.screen.top, .int .i64 r.screen.bottom, .bool r.screen.wraps, .string r.screen.title], Ch.box h.2.2.2.2.2.2.2.2.2.1 181 [.int .i64 r.screen.g.w, .slice h.2.2.2.2.2.2.2.2.2.2.1 r.screen.g.l.length h.2.2.2.2.2.2.2.2.2.2.2], Ch.arr tyRowRow 99 h.2.2.2.2.2.2.2.2.2.2.1 h.2.2.2.2.2.2.2.2.2.2.2 r.screen.g.l]) (fun h => []) := by
 delta p_model_Run at H
 refine CT.of Go.Proofs.Tryz.func10 (by kernel_rfl) rfl rfl rfl fun K => ?_
 refine Ts (Tr ?_)
 refine Lq 1 ?_
 refine Ln (Et (Ts (Tr ?_)))
 refine Lq 2 ?_
 obtain ⟨r1, h2, H3⟩ := bnd H
 refine Lk [] [] (c_model_New h2) fun ⟨g4, g5, ⟨a6, c7⟩, ⟨a8, c9⟩, ⟨a10, c11⟩, g12, ⟨a13, c14⟩, ⟨a15, c16⟩, g17, g18, ⟨a19, c20⟩⟩ => ?_
 refine Lq 1 ?_
 refine Ln (Et (Ts (Ts (Tr ?_))))
 refine Lq 3 ?_
 refine Ln (Et ?_)
 obtain ⟨e278, H279, H280⟩ := bnd H3
 refine Tjh (η := (Option Addr × Nat) × (Option Addr × Nat) × (Option Addr × Nat) × (Option Addr × Nat) × Nat × (Option Addr × Nat)) (fun _ => []) [7] (fun h => (fun a262 c263 a265 c266 a268 c269 a271 c272 g274 a275 c276 => [Ch.arr (Ty.slice tyRowGlyph) 38 a262 c263 e278.book.l, Ch.arr (Ty.int .i64) 3 a265 c266 e278.book.chains, Ch.arr tyRowGlyph 77 a268 c269 e278.book.begun, Ch.opt (e278.parser.state == (3 : Int)) (Ty.int .i64) 3 a271 c272 e278.parser.order.nums, Ch.arr tyRowRow 99 a275 c276 e278.screen.g.l, Ch.box g4 37 [.pointer (some ⟨g5, 0, none⟩), .pointer (some ⟨g12, 0, none⟩), .pointer (some ⟨g17, 0, none⟩), .int .i64 e278.k], Ch.box g5 93 [.slice a262 e278.book.l.length c263, .slice a265 e278.book.chains.length c266, .slice a268 e278.book.begun.length c269], Ch.box g12 85 [.int .i64 e278.parser.state, .bool e278.parser.order.private_, .bool e278.parser.order.wrong, .bool e278.parser.order.any, .bool e278.parser.order.some, .int .i64 e278.parser.order.n, .slice a271 e278.parser.order.nums.length c272, .string e278.parser.text, .int .u8 e278.parser.runes.lead, .int .i32 e278.parser.runes.rune, .int .i64 e278.parser.runes.need, .slice none 0 0], Ch.box g17 132 [.pointer (some ⟨g274, 0, none⟩), .int .i64 e278.screen.spot.x, .int .i64 e278.screen.spot.y, .int .i64 e278.screen.spot.style.fore, .int .i64 e278.screen.spot.style.back, .bool e278.screen.spot.style.bold, .bool e278.screen.spot.style.under, .bool e278.screen.spot.style.inverse, .int .i64 e278.screen.saved.x, .int .i64 e278.screen.saved.y, .int .i64 e278.screen.saved.style.fore, .int .i64 e278.screen.saved.style.back, .bool e278.screen.saved.style.bold, .bool e278.screen.saved.style.under, .bool e278.screen.saved.style.inverse, .bool e278.screen.waiting, .int .i64 e278.screen.top, .int .i64 e278.screen.bottom, .bool e278.screen.wraps, .string e278.screen.title], Ch.box g274 181 [.int .i64 e278.screen.g.w, .slice a275 e278.screen.g.l.length c276]]) h.1.1 h.1.2 h.2.1.1 h.2.1.2 h.2.2.1.1 h.2.2.1.2 h.2.2.2.1.1 h.2.2.2.1.2 h.2.2.2.2.1 h.2.2.2.2.2.1 h.2.2.2.2.2.2) [] (fun _ => []) ?_ ?_
 ·refine Tl ?_
  refine Tq (η := (Option Addr × Nat) × (Option Addr × Nat) × (Option Addr × Nat) × (Option Addr × Nat) × Nat × (Option Addr × Nat)) (fun s200 h => (fun a183 c184 a186 c187 a189 c190 a192 c193 g195 a196 c197 => [(15, .int .i64 s200.2)]) h.1.1 h.1.2 h.2.1.1 h.2.1.2 h.2.2.1.1 h.2.2.1.2 h.2.2.2.1.1 h.2.2.2.1.2 h.2.2.2.2.1 h.2.2.2.2.2.1 h.2.2.2.2.2.2) [7, 13, 14] (fun s200 h => (fun a183 c184 a186 c187 a189 c190 a192 c193 g195 a196 c197 => [Ch.arr (Ty.slice tyRowGlyph) 38 a183 c184 s200.1.book.l, Ch.arr (Ty.int .i64) 3 a186 c187 s200.1.book.chains, Ch.arr tyRowGlyph 77 a189 c190 s200.1.book.begun, Ch.opt (s200.1.parser.state == (3 : Int)) (Ty.int .i64) 3 a192 c193 s200.1.parser.order.nums, Ch.arr tyRowRow 99 a196 c197 s200.1.screen.g.l, Ch.box g4 37 [.pointer (some ⟨g5, 0, none⟩), .pointer (some ⟨g12, 0, none⟩), .pointer (some ⟨g17, 0, none⟩), .int .i64 s200.1.k], Ch.box g5 93 [.slice a183 s200.1.book.l.length c184, .slice a186 s200.1.book.chains.length c187, .slice a189 s200.1.book.begun.length c190], Ch.box g12 85 [.int .i64 s200.1.parser.state, .bool s200.1.parser.order.private_, .bool s200.1.parser.order.wrong, .bool s200.1.parser.order.any, .bool s200.1.parser.order.some, .int .i64 s200.1.parser.order.n, .slice a192 s200.1.parser.order.nums.length c193, .string s200.1.parser.text, .int .u8 s200.1.parser.runes.lead, .int .i32 s200.1.parser.runes.rune, .int .i64 s200.1.parser.runes.need, .slice none 0 0], Ch.box g17 132 [.pointer (some ⟨g195, 0, none⟩), .int .i64 s200.1.screen.spot.x, .int .i64 s200.1.screen.spot.y, .int .i64 s200.1.screen.spot.style.fore, .int .i64 s200.1.screen.spot.style.back, .bool s200.1.screen.spot.style.bold, .bool s200.1.screen.spot.style.under, .bool s200.1.screen.spot.style.inverse, .int .i64 s200.1.screen.saved.x, .int .i64 s200.1.screen.saved.y, .int .i64 s200.1.screen.saved.style.fore, .int .i64 s200.1.screen.saved.style.back, .bool s200.1.screen.saved.style.bold, .bool s200.1.screen.saved.style.under, .bool s200.1.screen.saved.style.inverse, .bool s200.1.screen.waiting, .int .i64 s200.1.screen.top, .int .i64 s200.1.screen.bottom, .bool s200.1.screen.wraps, .string s200.1.screen.title], Ch.box g195 181 [.int .i64 s200.1.screen.g.w, .slice a196 s200.1.screen.g.l.length c197]]) h.1.1 h.1.2 h.2.1.1 h.2.1.2 h.2.2.1.1 h.2.2.1.2 h.2.2.2.1.1 h.2.2.2.1.2 h.2.2.2.2.1 h.2.2.2.2.2.1 h.2.2.2.2.2.2) [] (fun _ _ => []) ((a6, c7), (a8, c9), (a10, c11), (a13, c14), g18, (a19, c20)) [2, 2, 2, 3, 5, 0, 0, 0, 0, 0] [] H279 ?_
  rintro k_ s200 ⟨⟨a183, c184⟩, ⟨a186, c187⟩, ⟨a189, c190⟩, ⟨a192, c193⟩, g195, ⟨a196, c197⟩⟩ z282 H281 hag283 hbr284
  refine Ts (Tr ?_)
  refine Lq 1 ?_
  refine Ln (Et (Ts ?_))
  refine Tb H281 (fun H286 => ?_) fun H286 => ?_
  ·refine Tk (Et (Ts (Tl (Ts (Tr ?_)))))
   obtain ⟨x316, h317, H318⟩ := bnd H286
   refine L.addr 0 rfl (idx_lt h317) fun b319 o320 e321 => ?_
   subst e321
   refine Ly (Yl.ia h317 rfl rfl rfl rfl rfl rfl) ?_
   refine L.el 0 rfl (idx_some h317).2 ?_
   rintro _
   refine Lc 0 0 ?_
   refine Ll fun g323 => ?_
   refine Lt 0 ?_
   refine Ln (Et (Tr ?_))
   refine Lq 1 ?_
   refine Lb 0 ?_
   obtain ⟨r324, h325, H326⟩ := bnd H318
   refine Lk [6, 6, 1, 1, 1, 3, 1, 2, 2, 1] [2, 3, 4, 5] (c_model_Model_Do h325) fun ⟨⟨a327, c328⟩, ⟨a329, c330⟩, ⟨a331, c332⟩, ⟨a333, c334⟩, ⟨a335, c336⟩, g337, ⟨a338, c339⟩⟩ => ?_
   refine Ln (Eb (Et (Tr ?_)))
   refine Lq 2 ?_
   refine Ln ?_
   obtain rfl := sm H326
   exact Eg (_, ((a327, c328), (a329, c330), (a331, c332), (a333, c334), g337, (a338, c339))) (hag283 _ rfl) [2, 2, 2, 3, 5, 0, 0, 0, 0, 0] [] 1
  refine Tx (Ex (Ex (Eh ?_)))
  obtain rfl := sm H286
  have hb := hbr284 _ rfl
  subst e278
  exact Eg ((a183, c184), (a186, c187), (a189, c190), (a192, c193), g195, (a196, c197)) trivial [0, 0, 0, 0, 0, 0, 0, 0, 0, 0] [] 0
 rintro ⟨⟨a262, c263⟩, ⟨a265, c266⟩, ⟨a268, c269⟩, ⟨a271, c272⟩, g274, ⟨a275, c276⟩⟩
 refine Ts (Tr ?_)
 refine Lq 2 ?_
 refine Ln (Et (Tv ?_))
 obtain rfl := sm H280
 exact Eo1 (g4, g5, (a262, c263), (a265, c266), (a268, c269), g12, (a271, c272), (none, 0), g17, g274, (a275, c276)) [5, 5, 0, 0, 0, 2, 0, 1, 1, 0] []

theorem c_grid_each_v2 {l : List RowRow} {r : (List RowRow)} (H : p_grid_each_v2 l = some r) : CT G 165 [.slice A0 l.length C0] [Ch.arr tyRowRow 99 A0 C0 l] [] (fun h : Nat => .func (.func 201) #[] #[.pointer (some ⟨h, 0, none⟩)]) (fun h => [Ch.box h 41 [.slice A0 r.length C0], Ch.arr tyRowRow 99 A0 C0 r]) (fun h => []) := by
 delta p_grid_each_v2 at H
 refine CT.of Go.Proofs.Tryz.func165 (by kernel_rfl) rfl rfl rfl fun K => ?_
 refine Ts (Tr ?_)
 refine Lx fun g1 => ?_
 refine Lq 1 ?_
 refine Ln (Et (Ts (Tr ?_)))
 refine Lq 2 ?_
 refine Ln (Et (Tv ?_))
 obtain rfl := sm H
 exact Eo1 g1 [0, 0] []

theorem c_grid_each_1_v2 {σ η : Type} {Y : σ → RowRow → Option (σ × Bool)} {y0 : σ} {x1 : List RowRow} {yl : Nat} {C : σ → η → Ch} (hY : ∀ s (h : η) (x : RowRow) (t : (Option Addr × Nat)) z, Y s x = some z → YT G yl [.agg #[.slice t.1 x.cells.length t.2, .bool x.wrapped]] [C s h] [Im.sl tyRowCell t.1 t.2 x.cells] (fun _ : η => .bool z.2) (fun h2 => [C z.1 h2]) (fun _ => [])) (h0 : η) (g_1 : Nat) (a_1_0 : Option Addr) (c_1_0 : Nat) {r : σ} (H : p_grid_each_1_v2 Y y0 x1 = some r) : CT G 201 [.func (.yield yl) #[] #[], .pointer (some ⟨g_1, 0, none⟩)] [C y0 h0, Ch.box g_1 41 [.slice a_1_0 x1.length c_1_0], Ch.arr tyRowRow 99 a_1_0 c_1_0 x1] [] (fun h : η => .tuple #[]) (fun h => [C r h, Ch.box g_1 41 [.slice a_1_0 x1.length c_1_0], Ch.arr tyRowRow 99 a_1_0 c_1_0 x1]) (fun h => []) := by
  delta p_grid_each_1_v2 at H
  refine CT.of Go.Proofs.Tryz.func201 (by kernel_rfl) rfl rfl rfl fun K => ?_
  refine Ts (Tr ?_)
  refine Lb 1 ?_
  refine Lq 2 ?_
  refine Ln (Et ?_)
  obtain ⟨y140, H141, H142⟩ := bnd H
  refine T.joinE (η := σ × (η)) (fun h => y140 = .inl h.1) (fun h => (fun e139 => (fun h138 => []) h.2) h.1) (fun h => (fun e139 => (fun h138 => [C e139 h138, Ch.box g_1 41 [.slice a_1_0 x1.length c_1_0], Ch.arr tyRowRow 99 a_1_0 c_1_0 x1]) h.2) h.1) (fun h => (fun e139 => (fun h138 => []) h.2) h.1) ?_ ?_
  ·refine Tl ?_
   refine Tq (η := η) (fun s94 h => (fun h93 => [(7, .int .i64 s94.1)]) h) [0, 5, 6] (fun s94 h => (fun h93 => [C s94.2 h93]) h) [1, 2] (fun _ _ => []) h0 [0, 0, 0] [] H141 ?_
   rintro k_ s94 h93 z144 H143 hag145 hbr146
   refine Ts (Tr ?_)
   refine Lq 1 ?_
   refine Ln (Et (Ts ?_))
   refine Tb H143 (fun H148 => ?_) fun H148 => ?_
   ·refine Tk (Et (Ts (Tl (Ts (Tr ?_)))))
    obtain ⟨x169, h170, H171⟩ := bnd H148
    refine L.addro 2 rfl (idx_lt h170) fun b172 e173 => ?_
    subst e173
    refine Ly (Yl.ia h170 rfl rfl rfl rfl rfl rfl) ?_
    refine La [2] [] (Ac.lo s94.1.toNat 0 (v := (fun h : (Option Addr × Nat) => (fun a174 c175 => .agg #[.slice a174 x169.cells.length c175, .bool x169.wrapped]) h.1 h.2)) (idx_some h170).2 rfl rfl rfl (fun _ => rfl)) ?_
    rintro ⟨a174, c175⟩
    refine Ll fun g177 => ?_
    refine Lt 0 ?_
    refine Ln (Et (Ts (Tr ?_)))
    refine Lq 1 ?_
    refine Lb 0 ?_
    obtain ⟨r178, h179, H180⟩ := bnd H171
    refine Lk [] [0] (c_grid_own h179) fun ⟨a181, c182⟩ => ?_
    obtain ⟨z184, h185, H186⟩ := bnd H180
    refine L.yd [2] [0] (hY _ _ _ (a181, c182) _ h185) rfl rfl rfl rfl rfl rfl rfl rfl ?_
    intro h187
    refine Lq 1 ?_
    refine Ln (Et ?_)
    refine Tb H186 (fun H188 => ?_) fun H188 => ?_
    ·refine Tv (Ev (Er (Er (Ev ?_))))
     obtain ⟨w189, hz, H190⟩ := inrr_some H188
     subst z144
     have hb := hbr146 _ rfl
     subst y140
     obtain rfl := (sm H142).symm
     refine Er ?_
     obtain rfl := sm H190
     exact Eo h187 [0, 2, 1] [] .nil
    refine Tk (Eb (Et (Tr ?_)))
    refine Lq 2 ?_
    refine Ln ?_
    obtain rfl := sm H188
    exact Eg (_, h187) (hag145 _ rfl) [0, 2, 1] [] 2
   refine Tx (Ex (Ex (Eh ?_)))
   obtain rfl := sm H148
   have hb := hbr146 _ rfl
   subst y140
   exact Egx (_, h93) rfl [0, 0, 0] []
  rintro ⟨e139, h138⟩ hy
  subst hy
  refine E.off ?_
  obtain rfl := sm H142
  exact Eo h138 [0, 0, 0] [] .nil

theorem c_grid_copies_v2 {l : List RowRow} {r : (List RowRow) × (List RowRow)} (H : p_grid_copies_v2 l = some r) : CT G 113 [.slice A0 l.length C0] [Ch.arr tyRowRow 99 A0 C0 l] [] (fun h : (Option Addr × Nat) => .slice h.1 r.1.length h.2) (fun h => [Ch.arr tyRowRow 99 h.1 h.2 r.1, Ch.arr tyRowRow 99 A0 C0 r.2]) (fun h => []) := by
 delta p_grid_copies_v2 at H
 refine CT.of Go.Proofs.Tryz.func113 (by kernel_rfl) rfl rfl rfl fun K => ?_
 refine T.dfs0 ?_
 refine Ts (Tr ?_)
 refine Lq 1 ?_
 refine Ln (Et (Ts (Tr ?_)))
 refine Ll fun g1 => ?_
 refine Ln (Et (Ts (Ts (Tr ?_))))
 refine Lq 1 ?_
 obtain ⟨r2, h3, H4⟩ := bnd H
 refine Lk [2] [] (c_grid_each_v2 h3) fun g5 => ?_
 refine Ln (Et (Tl ?_))
 refine T.nil0 tyRowRow 99 ?_
 obtain ⟨r54, h55, H56⟩ := bnd H4
 refine T.rf2 (σ := (List RowRow)) (η := (Option Addr × Nat)) (X := RowRow) (θ := (Option Addr × Nat)) (τ := (Option Addr × Nat)) (s1 := r54) (hx := fun x => x) (fun x t => [.agg #[.slice t.1 x.cells.length t.2, .bool x.wrapped]]) (fun x t => [Im.sl tyRowCell t.1 t.2 x.cells]) (fun _ => none) (fun s40 h => (fun a23 c24 => [Ch.arr tyRowRow 99 a23 c24 s40, Ch.box g1 41 [.slice a23 s40.length c24]]) h.1 h.2) (fun s40 h => (fun a23 c24 => []) h.1 h.2) 4 [0, 2, 0, 0] [] [] rfl rfl (fun _ _ => rfl) rfl (fun yl C hY => (c_grid_each_1_v2 hY (none, 0) g5 A0 C0 h55 : _)) (fun _ _ _ _ => rfl) rfl rfl rfl rfl rfl ?_ rfl ?_
 ·rintro yl K2 s40 ⟨a23, c24⟩ x9 ⟨a7, c8⟩ z41 H42
  refine Tr ?_
  refine Ll fun g44 => ?_
  refine Lt 0 ?_
  refine Ln ?_
  refine E.begin fun K3 => ?_
  refine Tl (Tr ?_)
  refine Lb 2 ?_
  refine Lb 0 ?_
  refine La [] [0] (Ac.bs (ty := tyRowRow) (xs := [x9]) (.cons (a7, c8) [0] rfl .nil) rfl rfl rfl rfl rfl rfl rfl) fun g45 => ?_
  refine L.frz 0 rfl ?_
  obtain ⟨_, h48, H49⟩ := bnd H42
  refine La [1] [0] (Ac.ap (ty := tyRowRow) h48 rfl rfl rfl rfl rfl rfl rfl) ?_
  rintro ⟨a50, c51⟩
  refine Lt 2 ?_
  refine Ln (Eb ?_)
  obtain rfl := sm H49
  exact E.on (a50, c51) [1, 0] [] rfl rfl rfl rfl
 rintro h57 D59
 refine Eb (Et (Ts (Tr ?_)))
 refine Lb 2 ?_
 refine Lq 1 ?_
 refine Ln (Et (Tv ?_))
 obtain rfl := sm H56
 exact E.retd (h57.1, h57.2) 0 [0, 2] [] rfl (.tmp rfl .nil) rfl rfl rfl

theorem c_grid_Grid_Clone {g : GridGrid} {r : GridGrid × GridGrid} (H : p_grid_Grid_Clone g = some r) : CT G 99 [.pointer (some ⟨N0, 0, none⟩)] [Ch.box N0 181 [.int .i64 g.w, .slice A0 g.l.length C0], Ch.arr tyRowRow 99 A0 C0 g.l] [] (fun h : Nat × (Option Addr × Nat) => .pointer (some ⟨h.1, 0, none⟩)) (fun h => [Ch.box h.1 181 [.int .i64 r.1.w, .slice h.2.1 r.1.l.length h.2.2], Ch.arr tyRowRow 99 h.2.1 h.2.2 r.1.l, Ch.box N0 181 [.int .i64 r.2.w, .slice A0 r.2.l.length C0], Ch.arr tyRowRow 99 A0 C0 r.2.l]) (fun h => []) := by
 delta p_grid_Grid_Clone at H
 refine CT.of Go.Proofs.Tryz.func99 (by kernel_rfl) rfl rfl rfl fun K => ?_
 refine Ts (Tr ?_)
 refine Lq 1 ?_
 refine Ln (Et (Ts ?_))
 refine Td [] [0] mo ?_
 refine Dq 0 ?_
 refine Dq 1 ?_
 refine Dq 2 ?_
 refine Db 3 0 ?_
 refine Dq 4 ?_
 refine Dq 5 ?_
 refine Dq 6 ?_
 refine Db 7 0 ?_
 obtain ⟨r31, h32, H33⟩ := bnd H
 refine Dk [0] [] (c_grid_copies_v2 h32) fun ⟨a34, c35⟩ => ?_
 obtain ⟨_, h38, H39⟩ := bnd H33
 refine Dq 9 ?_
 refine Da [] [] rfl rfl (Ac.box rfl rfl) fun g40 => ?_
 refine Dq 11 ?_
 refine Dn ?_
 refine E.bx 0 (cs' := [.int .i64 g.w, .slice A0 r31.2.length C0]) (by rw [(chk_some h38)]) rfl ?_
 refine Et (Tv ?_)
 obtain rfl := sm H39
 exact Eo1 (g40, (a34, c35)) [1, 1, 0, 0] []

theorem c_screen_Screen_Clone {s_ : ScreenScreen} {r : ScreenScreen × ScreenScreen} (H : p_screen_Screen_Clone s_ = some r) : CT G 55 [.pointer (some ⟨N0, 0, none⟩)] [Ch.box N0 132 [.pointer (some ⟨N1, 0, none⟩), .int .i64 s_.spot.x, .int .i64 s_.spot.y, .int .i64 s_.spot.style.fore, .int .i64 s_.spot.style.back, .bool s_.spot.style.bold, .bool s_.spot.style.under, .bool s_.spot.style.inverse, .int .i64 s_.saved.x, .int .i64 s_.saved.y, .int .i64 s_.saved.style.fore, .int .i64 s_.saved.style.back, .bool s_.saved.style.bold, .bool s_.saved.style.under, .bool s_.saved.style.inverse, .bool s_.waiting, .int .i64 s_.top, .int .i64 s_.bottom, .bool s_.wraps, .string s_.title], Ch.box N1 181 [.int .i64 s_.g.w, .slice A0 s_.g.l.length C0], Ch.arr tyRowRow 99 A0 C0 s_.g.l] [] (fun h : Nat × Nat × (Option Addr × Nat) => .pointer (some ⟨h.1, 0, none⟩)) (fun h => [Ch.box h.1 132 [.pointer (some ⟨h.2.1, 0, none⟩), .int .i64 r.1.spot.x, .int .i64 r.1.spot.y, .int .i64 r.1.spot.style.fore, .int .i64 r.1.spot.style.back, .bool r.1.spot.style.bold, .bool r.1.spot.style.under, .bool r.1.spot.style.inverse, .int .i64 r.1.saved.x, .int .i64 r.1.saved.y, .int .i64 r.1.saved.style.fore, .int .i64 r.1.saved.style.back, .bool r.1.saved.style.bold, .bool r.1.saved.style.under, .bool r.1.saved.style.inverse, .bool r.1.waiting, .int .i64 r.1.top, .int .i64 r.1.bottom, .bool r.1.wraps, .string r.1.title], Ch.box h.2.1 181 [.int .i64 r.1.g.w, .slice h.2.2.1 r.1.g.l.length h.2.2.2], Ch.arr tyRowRow 99 h.2.2.1 h.2.2.2 r.1.g.l, Ch.box N0 132 [.pointer (some ⟨N1, 0, none⟩), .int .i64 r.2.spot.x, .int .i64 r.2.spot.y, .int .i64 r.2.spot.style.fore, .int .i64 r.2.spot.style.back, .bool r.2.spot.style.bold, .bool r.2.spot.style.under, .bool r.2.spot.style.inverse, .int .i64 r.2.saved.x, .int .i64 r.2.saved.y, .int .i64 r.2.saved.style.fore, .int .i64 r.2.saved.style.back, .bool r.2.saved.style.bold, .bool r.2.saved.style.under, .bool r.2.saved.style.inverse, .bool r.2.waiting, .int .i64 r.2.top, .int .i64 r.2.bottom, .bool r.2.wraps, .string r.2.title], Ch.box N1 181 [.int .i64 r.2.g.w, .slice A0 r.2.g.l.length C0], Ch.arr tyRowRow 99 A0 C0 r.2.g.l]) (fun h => []) := by
 delta p_screen_Screen_Clone at H
 refine CT.of Go.Proofs.Tryz.func55 (by kernel_rfl) rfl rfl rfl fun K => ?_
 refine Ts (Tr ?_)
 refine Lq 1 ?_
 refine Ln (Et (Ts (Tr ?_)))
 refine Lq 2 ?_
 refine Lb 0 ?_
 refine Ll fun g1 => ?_
 refine Lt 0 ?_
 refine Ln (Et (Ts (Tr ?_)))
 refine Lq 3 ?_
 refine Lb 1 ?_
 obtain ⟨r2, h3, H4⟩ := bnd H
 refine Lk [2, 2] [] (c_grid_Grid_Clone h3) fun ⟨g5, ⟨a6, c7⟩⟩ => ?_
 refine Lq 1 ?_
 refine Lt 4 ?_
 refine Ln (Et (Ts (Tr ?_)))
 refine Lq 1 ?_
 refine Ln (Et (Tv ?_))
 obtain rfl := sm H4
 exact Eo1 (g1, g5, (a6, c7)) [0, 0, 0, 2, 0, 0] []

theorem c_model_Model_Screen {m_ : ModelModel} {r : ScreenScreen × ModelModel} (H : p_model_Model_Screen m_ = some r) : CT G 25 [.pointer (some ⟨N0, 0, none⟩)] [Ch.box N0 37 [.pointer (some ⟨N1, 0, none⟩), .pointer (some ⟨N2, 0, none⟩), .pointer (some ⟨N3, 0, none⟩), .int .i64 m_.k], Ch.box N1 93 [.slice A0 m_.book.l.length C0, .slice A1 m_.book.chains.length C1, .slice A2 m_.book.begun.length C2], Ch.arr (Ty.slice tyRowGlyph) 38 A0 C0 m_.book.l, Ch.arr (Ty.int .i64) 3 A1 C1 m_.book.chains, Ch.arr tyRowGlyph 77 A2 C2 m_.book.begun, Ch.box N2 85 [.int .i64 m_.parser.state, .bool m_.parser.order.private_, .bool m_.parser.order.wrong, .bool m_.parser.order.any, .bool m_.parser.order.some, .int .i64 m_.parser.order.n, .slice A3 m_.parser.order.nums.length C3, .string m_.parser.text, .int .u8 m_.parser.runes.lead, .int .i32 m_.parser.runes.rune, .int .i64 m_.parser.runes.need, .slice none 0 0], Ch.opt (m_.parser.state == (3 : Int)) (Ty.int .i64) 3 A3 C3 m_.parser.order.nums, Ch.box N3 132 [.pointer (some ⟨N4, 0, none⟩), .int .i64 m_.screen.spot.x, .int .i64 m_.screen.spot.y, .int .i64 m_.screen.spot.style.fore, .int .i64 m_.screen.spot.style.back, .bool m_.screen.spot.style.bold, .bool m_.screen.spot.style.under, .bool m_.screen.spot.style.inverse, .int .i64 m_.screen.saved.x, .int .i64 m_.screen.saved.y, .int .i64 m_.screen.saved.style.fore, .int .i64 m_.screen.saved.style.back, .bool m_.screen.saved.style.bold, .bool m_.screen.saved.style.under, .bool m_.screen.saved.style.inverse, .bool m_.screen.waiting, .int .i64 m_.screen.top, .int .i64 m_.screen.bottom, .bool m_.screen.wraps, .string m_.screen.title], Ch.box N4 181 [.int .i64 m_.screen.g.w, .slice A5 m_.screen.g.l.length C5], Ch.arr tyRowRow 99 A5 C5 m_.screen.g.l] [] (fun h : Nat × Nat × (Option Addr × Nat) × (Option Addr × Nat) => .pointer (some ⟨h.1, 0, none⟩)) (fun h => [Ch.box h.1 132 [.pointer (some ⟨h.2.1, 0, none⟩), .int .i64 r.1.spot.x, .int .i64 r.1.spot.y, .int .i64 r.1.spot.style.fore, .int .i64 r.1.spot.style.back, .bool r.1.spot.style.bold, .bool r.1.spot.style.under, .bool r.1.spot.style.inverse, .int .i64 r.1.saved.x, .int .i64 r.1.saved.y, .int .i64 r.1.saved.style.fore, .int .i64 r.1.saved.style.back, .bool r.1.saved.style.bold, .bool r.1.saved.style.under, .bool r.1.saved.style.inverse, .bool r.1.waiting, .int .i64 r.1.top, .int .i64 r.1.bottom, .bool r.1.wraps, .string r.1.title], Ch.box h.2.1 181 [.int .i64 r.1.g.w, .slice h.2.2.1.1 r.1.g.l.length h.2.2.1.2], Ch.arr tyRowRow 99 h.2.2.1.1 h.2.2.1.2 r.1.g.l, Ch.box N0 37 [.pointer (some ⟨N1, 0, none⟩), .pointer (some ⟨N2, 0, none⟩), .pointer (some ⟨N3, 0, none⟩), .int .i64 r.2.k], Ch.box N1 93 [.slice A0 r.2.book.l.length C0, .slice A1 r.2.book.chains.length C1, .slice A2 r.2.book.begun.length C2], Ch.arr (Ty.slice tyRowGlyph) 38 A0 C0 r.2.book.l, Ch.arr (Ty.int .i64) 3 A1 C1 r.2.book.chains, Ch.arr tyRowGlyph 77 A2 C2 r.2.book.begun, Ch.box N2 85 [.int .i64 r.2.parser.state, .bool r.2.parser.order.private_, .bool r.2.parser.order.wrong, .bool r.2.parser.order.any, .bool r.2.parser.order.some, .int .i64 r.2.parser.order.n, .slice A3 r.2.parser.order.nums.length C3, .string r.2.parser.text, .int .u8 r.2.parser.runes.lead, .int .i32 r.2.parser.runes.rune, .int .i64 r.2.parser.runes.need, .slice none 0 0], Ch.opt (r.2.parser.state == (3 : Int)) (Ty.int .i64) 3 A3 C3 r.2.parser.order.nums, Ch.box N3 132 [.pointer (some ⟨N4, 0, none⟩), .int .i64 r.2.screen.spot.x, .int .i64 r.2.screen.spot.y, .int .i64 r.2.screen.spot.style.fore, .int .i64 r.2.screen.spot.style.back, .bool r.2.screen.spot.style.bold, .bool r.2.screen.spot.style.under, .bool r.2.screen.spot.style.inverse, .int .i64 r.2.screen.saved.x, .int .i64 r.2.screen.saved.y, .int .i64 r.2.screen.saved.style.fore, .int .i64 r.2.screen.saved.style.back, .bool r.2.screen.saved.style.bold, .bool r.2.screen.saved.style.under, .bool r.2.screen.saved.style.inverse, .bool r.2.screen.waiting, .int .i64 r.2.screen.top, .int .i64 r.2.screen.bottom, .bool r.2.screen.wraps, .string r.2.screen.title], Ch.box N4 181 [.int .i64 r.2.screen.g.w, .slice A5 r.2.screen.g.l.length C5], Ch.arr tyRowRow 99 A5 C5 r.2.screen.g.l]) (fun h => []) := by
 delta p_model_Model_Screen at H
 refine CT.of Go.Proofs.Tryz.func25 (by kernel_rfl) rfl rfl rfl fun K => ?_
 refine Ts (Tr ?_)
 refine Lq 1 ?_
 refine Ln (Et (Ts (Tr ?_)))
 refine Lq 3 ?_
 refine Lb 0 ?_
 obtain ⟨r1, h2, H3⟩ := bnd H
 refine Lk [7, 7, 7] [] (c_screen_Screen_Clone h2) fun ⟨g4, g5, ⟨a6, c7⟩⟩ => ?_
 refine Lq 1 ?_
 refine Ln (Et (Tv ?_))
 obtain rfl := sm H3
 exact Eo1 (g4, g5, (a6, c7), (none, 0)) [0, 0, 0, 3, 3, 3, 3, 3, 3, 3, 0, 0, 0] []

theorem c_book_Book_Line {b : BookBook} {i : Int} {r : (List RowGlyph) × Bool} (H : p_book_Book_Line b i = some r) : CT G 13 [.pointer (some ⟨N0, 0, none⟩), .int .i64 i] [Ch.box N0 93 [.slice A0 b.l.length C0, .slice A1 b.chains.length C1, .slice A2 b.begun.length C2], Ch.arr (Ty.slice tyRowGlyph) 38 A0 C0 b.l, Ch.arr (Ty.int .i64) 3 A1 C1 b.chains, Ch.arr tyRowGlyph 77 A2 C2 b.begun] [] (fun h : (Option Addr × Nat) => .tuple #[.slice h.1 r.1.length h.2, .bool r.2]) (fun h => [Ch.arr tyRowGlyph 77 h.1 h.2 r.1, Ch.box N0 93 [.slice A0 b.l.length C0, .slice A1 b.chains.length C1, .slice A2 b.begun.length C2], Ch.arr (Ty.slice tyRowGlyph) 38 A0 C0 b.l, Ch.arr (Ty.int .i64) 3 A1 C1 b.chains, Ch.arr tyRowGlyph 77 A2 C2 b.begun]) (fun h => []) := by
 delta p_book_Book_Line at H
 refine CT.of Go.Proofs.Tryz.func13 (by kernel_rfl) rfl rfl rfl fun K => ?_
 refine Ts (Tr ?_)
 refine Lq 2 ?_
 refine Ln (Et (Ts (Ts ?_)))
 obtain ⟨e4, H5, H6⟩ := bnd H
 refine Tj0 [(16, .bool e4)] [0, 1] [] [0, 1, 2, 3] ?_ ?_
 ·refine Tr ?_
  refine Lq 3 ?_
  refine Lw 8 H5 (fun H7 => ?_) fun H7 => ?_
  ·refine Lq 8 ?_
   refine Ln ?_
   obtain rfl := sm H7
   exact Eg0 [0, 0, 0, 0] 0
  refine Lq 4 ?_
  refine Lb 0 ?_
  refine Lq 3 ?_
  refine Ln ?_
  obtain rfl := sm H7
  exact Eg0 [0, 0, 0, 0] 0
 refine Tb H6 (fun H9 => ?_) fun H9 => ?_
 ·refine Ts (Tr ?_)
  refine Lq 2 ?_
  refine Ln (Et (Tv (Er ?_)))
  refine E.nil0 tyRowGlyph 77 ?_
  obtain rfl := sm H9
  exact Eo (none, 0) [0, 0, 0, 0, 0] [] (.tmp rfl (.tmp rfl .nil))
 refine Tk (Et (Ts (Tr ?_)))
 refine Lq 3 ?_
 refine Lb 0 ?_
 refine Lq 1 ?_
 obtain ⟨x11, h12, H13⟩ := bnd H9
 refine L.addro 1 rfl (idx_lt h12) fun b14 e15 => ?_
 subst e15
 refine Ly (Yl.ia h12 rfl rfl rfl rfl rfl rfl) ?_
 refine La [1] [] (Ac.lo i.toNat 0 (v := (fun h : (Option Addr × Nat) => (fun a16 c17 => .slice a16 x11.length c17) h.1 h.2)) (idx_some h12).2 rfl rfl rfl (fun _ => rfl)) ?_
 rintro ⟨a16, c17⟩
 obtain ⟨r19, h20, H21⟩ := bnd H13
 refine Lk [] [0] (c_slices_Clone_row_Glyph a16 c17 h20) fun ⟨a22, c23⟩ => ?_
 refine Lq 2 ?_
 refine Ln (Et (Tv ?_))
 obtain rfl := sm H21
 exact Eo (a22, c23) [0, 1, 0, 0, 0] [] (.tmp rfl (.tmp rfl .nil))

theorem c_screen_Screen_Grid {s_ : ScreenScreen} {r : GridGrid × ScreenScreen} (H : p_screen_Screen_Grid s_ = some r) : CT G 67 [.pointer (some ⟨N0, 0, none⟩)] [Ch.box N0 132 [.pointer (some ⟨N1, 0, none⟩), .int .i64 s_.spot.x, .int .i64 s_.spot.y, .int .i64 s_.spot.style.fore, .int .i64 s_.spot.style.back, .bool s_.spot.style.bold, .bool s_.spot.style.under, .bool s_.spot.style.inverse, .int .i64 s_.saved.x, .int .i64 s_.saved.y, .int .i64 s_.saved.style.fore, .int .i64 s_.saved.style.back, .bool s_.saved.style.bold, .bool s_.saved.style.under, .bool s_.saved.style.inverse, .bool s_.waiting, .int .i64 s_.top, .int .i64 s_.bottom, .bool s_.wraps, .string s_.title], Ch.box N1 181 [.int .i64 s_.g.w, .slice A0 s_.g.l.length C0], Ch.arr tyRowRow 99 A0 C0 s_.g.l] [] (fun h : Nat × (Option Addr × Nat) => .pointer (some ⟨h.1, 0, none⟩)) (fun h => [Ch.box h.1 181 [.int .i64 r.1.w, .slice h.2.1 r.1.l.length h.2.2], Ch.arr tyRowRow 99 h.2.1 h.2.2 r.1.l, Ch.box N0 132 [.pointer (some ⟨N1, 0, none⟩), .int .i64 r.2.spot.x, .int .i64 r.2.spot.y, .int .i64 r.2.spot.style.fore, .int .i64 r.2.spot.style.back, .bool r.2.spot.style.bold, .bool r.2.spot.style.under, .bool r.2.spot.style.inverse, .int .i64 r.2.saved.x, .int .i64 r.2.saved.y, .int .i64 r.2.saved.style.fore, .int .i64 r.2.saved.style.back, .bool r.2.saved.style.bold, .bool r.2.saved.style.under, .bool r.2.saved.style.inverse, .bool r.2.waiting, .int .i64 r.2.top, .int .i64 r.2.bottom, .bool r.2.wraps, .string r.2.title], Ch.box N1 181 [.int .i64 r.2.g.w, .slice A0 r.2.g.l.length C0], Ch.arr tyRowRow 99 A0 C0 r.2.g.l]) (fun h => []) := by
 delta p_screen_Screen_Grid at H
 refine CT.of Go.Proofs.Tryz.func67 (by kernel_rfl) rfl rfl rfl fun K => ?_
 refine Ts (Tr ?_)
 refine Lq 1 ?_
 refine Ln (Et (Ts (Tr ?_)))
 refine Lq 3 ?_
 refine Lb 0 ?_
 obtain ⟨r1, h2, H3⟩ := bnd H
 refine Lk [1, 1] [] (c_grid_Grid_Clone h2) fun ⟨g4, ⟨a5, c6⟩⟩ => ?_
 refine Lq 1 ?_
 refine Ln (Et (Tv ?_))
 obtain rfl := sm H3
 exact Eo1 (g4, (a5, c6)) [0, 0, 2, 0, 0] []

theorem c_screen_Screen_Title {s_ : ScreenScreen} {r : ByteArray} (H : p_screen_Screen_Title s_ = some r) : CT G 68 [.pointer (some ⟨N0, 0, none⟩)] [Ch.box N0 132 [.pointer (some ⟨N1, 0, none⟩), .int .i64 s_.spot.x, .int .i64 s_.spot.y, .int .i64 s_.spot.style.fore, .int .i64 s_.spot.style.back, .bool s_.spot.style.bold, .bool s_.spot.style.under, .bool s_.spot.style.inverse, .int .i64 s_.saved.x, .int .i64 s_.saved.y, .int .i64 s_.saved.style.fore, .int .i64 s_.saved.style.back, .bool s_.saved.style.bold, .bool s_.saved.style.under, .bool s_.saved.style.inverse, .bool s_.waiting, .int .i64 s_.top, .int .i64 s_.bottom, .bool s_.wraps, .string s_.title], Ch.box N1 181 [.int .i64 s_.g.w, .slice A0 s_.g.l.length C0], Ch.arr tyRowRow 99 A0 C0 s_.g.l] [] (fun _ : Unit => .string r) (fun h => [Ch.box N0 132 [.pointer (some ⟨N1, 0, none⟩), .int .i64 s_.spot.x, .int .i64 s_.spot.y, .int .i64 s_.spot.style.fore, .int .i64 s_.spot.style.back, .bool s_.spot.style.bold, .bool s_.spot.style.under, .bool s_.spot.style.inverse, .int .i64 s_.saved.x, .int .i64 s_.saved.y, .int .i64 s_.saved.style.fore, .int .i64 s_.saved.style.back, .bool s_.saved.style.bold, .bool s_.saved.style.under, .bool s_.saved.style.inverse, .bool s_.waiting, .int .i64 s_.top, .int .i64 s_.bottom, .bool s_.wraps, .string s_.title], Ch.box N1 181 [.int .i64 s_.g.w, .slice A0 s_.g.l.length C0], Ch.arr tyRowRow 99 A0 C0 s_.g.l]) (fun h => []) := by
 delta p_screen_Screen_Title at H
 refine CT.of Go.Proofs.Tryz.func68 (by kernel_rfl) rfl rfl rfl fun K => ?_
 refine Ts (Tr ?_)
 refine Lq 1 ?_
 refine Ln (Et (Ts (Tr ?_)))
 refine Lq 3 ?_
 refine Lb 0 ?_
 refine Lq 1 ?_
 refine Ln (Et (Tv ?_))
 obtain rfl := sm H
 exact Eo1 () [0, 0, 0] []

theorem c_grid_Grid_Rows {g : GridGrid} {r : (List RowRow) × GridGrid} (H : p_grid_Grid_Rows g = some r) : CT G 69 [.pointer (some ⟨N0, 0, none⟩)] [Ch.box N0 181 [.int .i64 g.w, .slice A0 g.l.length C0], Ch.arr tyRowRow 99 A0 C0 g.l] [] (fun h : (Option Addr × Nat) => .slice h.1 r.1.length h.2) (fun h => [Ch.arr tyRowRow 99 h.1 h.2 r.1, Ch.box N0 181 [.int .i64 r.2.w, .slice A0 r.2.l.length C0], Ch.arr tyRowRow 99 A0 C0 r.2.l]) (fun h => []) := by
 delta p_grid_Grid_Rows at H
 refine CT.of Go.Proofs.Tryz.func69 (by kernel_rfl) rfl rfl rfl fun K => ?_
 refine Ts (Tr ?_)
 refine Lq 1 ?_
 refine Ln (Et (Ts (Tr ?_)))
 refine Lq 3 ?_
 refine Lb 0 ?_
 obtain ⟨r1, h2, H3⟩ := bnd H
 refine Lk [1] [] (c_grid_copies_v2 h2) fun ⟨a4, c5⟩ => ?_
 obtain ⟨_, h8, H9⟩ := bnd H3
 refine L.bx 2 (cs' := [.int .i64 g.w, .slice A0 r1.2.length C0]) (by rw [chk_some h8]) rfl ?_
 refine Lq 1 ?_
 refine Ln (Et (Tv ?_))
 obtain rfl := sm H9
 exact Eo1 (a4, c5) [1, 0, 0] []

end Go.Tw.X

set_option maxHeartbeats 2000000
set_option linter.unusedVariables false
set_option linter.unusedSimpArgs false
set_option maxRecDepth 10000
namespace Go.Tw.X
open Go Go.Tw
variable {A0 A1 A2 A3 A4 A5 A6 A7 A8 : Option Addr} {C0 C1 C2 C3 C4 C5 C6 C7 C8 : Nat}
variable {N0 N1 N2 N3 N4 : Nat}
theorem c_book_Book_Len {b : BookBook} {r : Int} (H : p_book_Book_Len b = some r) : CT G 12 [.pointer (some ⟨N0, 0, none⟩)] [Ch.box N0 93 [.slice A0 b.l.length C0, .slice A1 b.chains.length C1, .slice A2 b.begun.length C2], Ch.arr (Ty.slice tyRowGlyph) 38 A0 C0 b.l, Ch.arr (Ty.int .i64) 3 A1 C1 b.chains, Ch.arr tyRowGlyph 77 A2 C2 b.begun] [] (fun _ : Unit => .int .i64 r) (fun h => [Ch.box N0 93 [.slice A0 b.l.length C0, .slice A1 b.chains.length C1, .slice A2 b.begun.length C2], Ch.arr (Ty.slice tyRowGlyph) 38 A0 C0 b.l, Ch.arr (Ty.int .i64) 3 A1 C1 b.chains, Ch.arr tyRowGlyph 77 A2 C2 b.begun]) (fun h => []) := by
 delta p_book_Book_Len at H
 refine CT.of Go.Proofs.Tryz.func12 (by kernel_rfl) rfl rfl rfl fun K => ?_
 refine Ts (Tr ?_)
 refine Lq 1 ?_
 refine Ln (Et (Ts (Tr ?_)))
 refine Lq 3 ?_
 refine Lb 0 ?_
 refine Lq 2 ?_
 refine Ln (Et (Tv ?_))
 obtain rfl := sm H
 exact Eo1 () [0, 0, 0, 0] []

theorem c_book_Book_Chain {b : BookBook} {n_ : Int} {r : Int} (H : p_book_Book_Chain b n_ = some r) : CT G 70 [.pointer (some ⟨N0, 0, none⟩), .int .i64 n_] [Ch.box N0 93 [.slice A0 b.l.length C0, .slice A1 b.chains.length C1, .slice A2 b.begun.length C2], Ch.arr (Ty.slice tyRowGlyph) 38 A0 C0 b.l, Ch.arr (Ty.int .i64) 3 A1 C1 b.chains, Ch.arr tyRowGlyph 77 A2 C2 b.begun] [] (fun _ : Unit => .int .i64 r) (fun h => [Ch.box N0 93 [.slice A0 b.l.length C0, .slice A1 b.chains.length C1, .slice A2 b.begun.length C2], Ch.arr (Ty.slice tyRowGlyph) 38 A0 C0 b.l, Ch.arr (Ty.int .i64) 3 A1 C1 b.chains, Ch.arr tyRowGlyph 77 A2 C2 b.begun]) (fun h => []) := by
 delta p_book_Book_Chain at H
 refine CT.of Go.Proofs.Tryz.func70 (by kernel_rfl) rfl rfl rfl fun K => ?_
 refine Ts (Tr ?_)
 refine Lq 1 ?_
 refine Ln (Et (Ts ?_))
 refine Td [] [0, 0, 0, 0] mo ?_
 refine Dq 0 ?_
 refine Dq 1 ?_
 refine Dq 2 ?_
 refine Db 3 0 ?_
 refine Dq 4 ?_
 refine Dq 5 ?_
 refine Dq 6 ?_
 refine Dq 7 ?_
 refine Db 8 0 ?_
 refine Dq 9 ?_
 refine Dq 10 ?_
 refine Dq 11 ?_
 obtain ⟨x16, h17, H18⟩ := bnd H
 refine D.addro 2 rfl (idx_lt h17) fun b19 e20 => ?_
 subst e20
 refine Dy 12 (Yl.ia h17 rfl rfl rfl rfl rfl rfl) ?_
 refine Dy 13 (Yl.lo (v := .int .i64 x16) 2 ((imax 0 (imin n_ (b.l.length : Int))).toNat) 0 (idx_some h17).2 rfl rfl rfl rfl (fun _ => rfl)) ?_
 refine Dq 14 ?_
 refine Dn ?_
 refine Et (Tv ?_)
 obtain rfl := sm H18
 exact Eo1 () [0, 0, 0, 0] []

theorem c_slices_Clone_row_Glyph_l {s_ : List RowGlyph} (a_0 : Option Addr) (c_0 : Nat) {r : List RowGlyph} (H : p_slices_Clone_row_Glyph s_ = some r) : CT G 31 [.slice a_0 s_.length c_0] [Ch.arr tyRowGlyph 77 a_0 c_0 s_] [] (fun h : (Option Addr × Nat) => .slice h.1 r.length h.2) (fun h => [Ch.arr tyRowGlyph 77 h.1 h.2 r, Ch.arr tyRowGlyph 77 a_0 c_0 s_]) (fun h => []) := by
  delta p_slices_Clone_row_Glyph at H
  refine CT.of Go.Proofs.Tryz.func31 (by kernel_rfl) rfl rfl rfl fun K => ?_
  obtain ⟨_, h0, H⟩ := bnd H
  have hr := Option.some.inj H
  refine T.seq (T.region (L.q 1 rfl (L.nil (E.then (T.seq (T.seq (T.region ?_)))))))
  refine L.cap 0 rfl fun hle => ?_
  have hv := vw_all (ty := tyRowGlyph) (a0 := a_0) hle
  rw [← cut_all s_] at h0 hr
  refine L.sl 0 (k' := (cut s_ 0 (s_.length : Int)).length) (by rw [cut_all]) rfl ?_
  refine L.q 1 rfl ?_
  refine L.nilv 0 hv rfl rfl rfl rfl rfl rfl rfl rfl rfl (fun hx => ?_) ?_
  · refine L.nil (E.then (T.cond rfl (fun _ => ?_) (fun h => nomatch h)))
    refine T.seq (T.region (L.q 1 rfl (L.nil (E.then (T.ret (E.then_ret ?_))))))
    rw [hx] at hr
    subst r
    refine E.nil0 tyRowGlyph 77 ?_
    exact E.ret (none, 0) [0, 0] [] (.tmp rfl .nil) rfl rfl rfl
  · refine L.nil (E.then (T.cond rfl (fun h => nomatch h) (fun _ => ?_)))
    refine T.skip (E.then (T.seq (T.region ?_)))
    refine L.a [] [] (Ac.bs (ty := tyRowGlyph) (xs := []) .nil rfl rfl rfl rfl rfl rfl rfl) rfl rfl rfl rfl rfl ?_
    intro g1
    refine L.q 1 rfl ?_
    refine L.a [0, 0] [] (Ac.apv (ty := tyRowGlyph) hv h0 rfl rfl rfl rfl rfl rfl rfl) rfl rfl rfl rfl rfl ?_
    rintro ⟨a1, c1⟩
    refine L.q 1 rfl ?_
    refine L.nil (E.then (T.ret ?_))
    subst r
    exact E.ret (a1, c1) [0, 0] [] (.tmp rfl .nil) rfl rfl rfl

theorem c_book_Book_Begun {b : BookBook} {r : (List RowGlyph)} (H : p_book_Book_Begun b = some r) : CT G 71 [.pointer (some ⟨N0, 0, none⟩)] [Ch.box N0 93 [.slice A0 b.l.length C0, .slice A1 b.chains.length C1, .slice A2 b.begun.length C2], Ch.arr (Ty.slice tyRowGlyph) 38 A0 C0 b.l, Ch.arr (Ty.int .i64) 3 A1 C1 b.chains, Ch.arr tyRowGlyph 77 A2 C2 b.begun] [] (fun h : (Option Addr × Nat) => .slice h.1 r.length h.2) (fun h => [Ch.arr tyRowGlyph 77 h.1 h.2 r, Ch.box N0 93 [.slice A0 b.l.length C0, .slice A1 b.chains.length C1, .slice A2 b.begun.length C2], Ch.arr (Ty.slice tyRowGlyph) 38 A0 C0 b.l, Ch.arr (Ty.int .i64) 3 A1 C1 b.chains, Ch.arr tyRowGlyph 77 A2 C2 b.begun]) (fun h => []) := by
 delta p_book_Book_Begun at H
 refine CT.of Go.Proofs.Tryz.func71 (by kernel_rfl) rfl rfl rfl fun K => ?_
 refine Ts (Tr ?_)
 refine Lq 1 ?_
 refine Ln (Et (Ts (Tr ?_)))
 refine Lq 3 ?_
 refine Lb 0 ?_
 obtain ⟨r1, h2, H3⟩ := bnd H
 refine Lk [3] [] (c_slices_Clone_row_Glyph_l A2 C2 h2) fun ⟨a4, c5⟩ => ?_
 refine Lq 1 ?_
 refine Ln (Et (Tv ?_))
 obtain rfl := sm H3
 exact Eo1 (a4, c5) [0, 1, 1, 1, 0] []

theorem c_screen_Screen_Cursor {s_ : ScreenScreen} {r : Int × Int} (H : p_screen_Screen_Cursor s_ = some r) : CT G 72 [.pointer (some ⟨N0, 0, none⟩)] [Ch.box N0 132 [.pointer (some ⟨N1, 0, none⟩), .int .i64 s_.spot.x, .int .i64 s_.spot.y, .int .i64 s_.spot.style.fore, .int .i64 s_.spot.style.back, .bool s_.spot.style.bold, .bool s_.spot.style.under, .bool s_.spot.style.inverse, .int .i64 s_.saved.x, .int .i64 s_.saved.y, .int .i64 s_.saved.style.fore, .int .i64 s_.saved.style.back, .bool s_.saved.style.bold, .bool s_.saved.style.under, .bool s_.saved.style.inverse, .bool s_.waiting, .int .i64 s_.top, .int .i64 s_.bottom, .bool s_.wraps, .string s_.title], Ch.box N1 181 [.int .i64 s_.g.w, .slice A0 s_.g.l.length C0], Ch.arr tyRowRow 99 A0 C0 s_.g.l] [] (fun _ : Unit => .tuple #[.int .i64 r.1, .int .i64 r.2]) (fun h => [Ch.box N0 132 [.pointer (some ⟨N1, 0, none⟩), .int .i64 s_.spot.x, .int .i64 s_.spot.y, .int .i64 s_.spot.style.fore, .int .i64 s_.spot.style.back, .bool s_.spot.style.bold, .bool s_.spot.style.under, .bool s_.spot.style.inverse, .int .i64 s_.saved.x, .int .i64 s_.saved.y, .int .i64 s_.saved.style.fore, .int .i64 s_.saved.style.back, .bool s_.saved.style.bold, .bool s_.saved.style.under, .bool s_.saved.style.inverse, .bool s_.waiting, .int .i64 s_.top, .int .i64 s_.bottom, .bool s_.wraps, .string s_.title], Ch.box N1 181 [.int .i64 s_.g.w, .slice A0 s_.g.l.length C0], Ch.arr tyRowRow 99 A0 C0 s_.g.l]) (fun h => []) := by
 delta p_screen_Screen_Cursor at H
 refine CT.of Go.Proofs.Tryz.func72 (by kernel_rfl) rfl rfl rfl fun K => ?_
 refine Ts (Tr ?_)
 refine Lq 2 ?_
 refine Ln (Et (Ts ?_))
 refine Td [] [0, 0, 0] mo ?_
 refine Dq 0 ?_
 refine Dq 1 ?_
 refine Dq 2 ?_
 refine Dq 3 ?_
 refine Db 4 0 ?_
 refine Dq 5 ?_
 refine Dq 6 ?_
 refine Dq 7 ?_
 refine Dq 8 ?_
 refine Db 9 0 ?_
 refine Dq 10 ?_
 refine Dq 11 ?_
 refine Dn ?_
 refine Et (Tv ?_)
 obtain rfl := sm H
 exact Eo () [0, 0, 0] [] (.tmp rfl (.tmp rfl .nil))

theorem c_snap_Of {k : Int} {s_ : ScreenScreen} {b : BookBook} {r : SnapSnap × ScreenScreen} (H : p_snap_Of k s_ b = some r) : CT G 32 [.int .i64 k, .pointer (some ⟨N0, 0, none⟩), .pointer (some ⟨N2, 0, none⟩)] [Ch.box N0 132 [.pointer (some ⟨N1, 0, none⟩), .int .i64 s_.spot.x, .int .i64 s_.spot.y, .int .i64 s_.spot.style.fore, .int .i64 s_.spot.style.back, .bool s_.spot.style.bold, .bool s_.spot.style.under, .bool s_.spot.style.inverse, .int .i64 s_.saved.x, .int .i64 s_.saved.y, .int .i64 s_.saved.style.fore, .int .i64 s_.saved.style.back, .bool s_.saved.style.bold, .bool s_.saved.style.under, .bool s_.saved.style.inverse, .bool s_.waiting, .int .i64 s_.top, .int .i64 s_.bottom, .bool s_.wraps, .string s_.title], Ch.box N1 181 [.int .i64 s_.g.w, .slice A0 s_.g.l.length C0], Ch.arr tyRowRow 99 A0 C0 s_.g.l, Ch.box N2 93 [.slice A1 b.l.length C1, .slice A2 b.chains.length C2, .slice A3 b.begun.length C3], Ch.arr (Ty.slice tyRowGlyph) 38 A1 C1 b.l, Ch.arr (Ty.int .i64) 3 A2 C2 b.chains, Ch.arr tyRowGlyph 77 A3 C3 b.begun] [] (fun h : (Option Addr × Nat) × (Option Addr × Nat) => .agg (bx43 r.1 h.1.1 h.1.2 h.2.1 h.2.2).toArray) (fun h => [Ch.box N0 132 [.pointer (some ⟨N1, 0, none⟩), .int .i64 r.2.spot.x, .int .i64 r.2.spot.y, .int .i64 r.2.spot.style.fore, .int .i64 r.2.spot.style.back, .bool r.2.spot.style.bold, .bool r.2.spot.style.under, .bool r.2.spot.style.inverse, .int .i64 r.2.saved.x, .int .i64 r.2.saved.y, .int .i64 r.2.saved.style.fore, .int .i64 r.2.saved.style.back, .bool r.2.saved.style.bold, .bool r.2.saved.style.under, .bool r.2.saved.style.inverse, .bool r.2.waiting, .int .i64 r.2.top, .int .i64 r.2.bottom, .bool r.2.wraps, .string r.2.title], Ch.box N1 181 [.int .i64 r.2.g.w, .slice A0 r.2.g.l.length C0], Ch.arr tyRowRow 99 A0 C0 r.2.g.l, Ch.box N2 93 [.slice A1 b.l.length C1, .slice A2 b.chains.length C2, .slice A3 b.begun.length C3], Ch.arr (Ty.slice tyRowGlyph) 38 A1 C1 b.l, Ch.arr (Ty.int .i64) 3 A2 C2 b.chains, Ch.arr tyRowGlyph 77 A3 C3 b.begun]) (fun h => [Im.sl tyRowRow h.1.1 h.1.2 r.1.rows, Im.sl tyRowGlyph h.2.1 h.2.2 r.1.begun]) := by
 delta p_snap_Of at H
 refine CT.of Go.Proofs.Tryz.func32 (by kernel_rfl) rfl rfl rfl fun K => ?_
 refine Ts (Tr ?_)
 refine Ll fun g1 => ?_
 refine Ln (Et (Ts (Tr ?_)))
 refine Lq 1 ?_
 obtain ⟨r2, h3, H4⟩ := bnd H
 refine Lk [1, 1, 1] [] (c_screen_Screen_Grid h3) fun ⟨g5, ⟨a6, c7⟩⟩ => ?_
 refine Lq 1 ?_
 refine Ln (Et (Ts (Tr ?_)))
 refine Lq 2 ?_
 obtain ⟨r10, h11, H12⟩ := bnd H4
 refine Lk [2, 2, 2] [] (c_screen_Screen_Title h11) fun ⟨⟩ => ?_
 refine Lq 1 ?_
 obtain ⟨r13, h14, H15⟩ := bnd H12
 refine Lk [3, 3] [] (c_grid_Grid_Rows h14) fun ⟨a16, c17⟩ => ?_
 refine Lq 1 ?_
 obtain ⟨r20, h21, H22⟩ := bnd H15
 refine Lk [7, 7, 7, 7] [] (c_book_Book_Len h21) fun ⟨⟩ => ?_
 refine Lq 2 ?_
 obtain ⟨r23, h24, H25⟩ := bnd H22
 refine Lk [0, 0, 0, 0] [] (c_book_Book_Len h24) fun ⟨⟩ => ?_
 obtain ⟨r26, h27, H28⟩ := bnd H25
 refine Lk [0, 0, 0, 0] [] (c_book_Book_Chain h27) fun ⟨⟩ => ?_
 refine Lq 1 ?_
 obtain ⟨r29, h30, H31⟩ := bnd H28
 refine Lk [0, 0, 0, 0] [] (c_book_Book_Begun h30) fun ⟨a32, c33⟩ => ?_
 refine Lq 1 ?_
 refine Ll fun g35 => ?_
 refine Lt 0 ?_
 refine Ln (Et (Ts (Tr ?_)))
 refine Lq 1 ?_
 obtain ⟨r36, h37, H38⟩ := bnd H31
 refine Lk [7, 7] [] (c_grid_Grid_Size h37) fun ⟨⟩ => ?_
 refine Lq 4 ?_
 refine Lt 2 ?_
 refine Lq 1 ?_
 refine Lt 0 ?_
 refine Ln (Et (Ts (Tr ?_)))
 refine Lq 1 ?_
 obtain ⟨r39, h40, H41⟩ := bnd H38
 refine Lk [9, 9, 9] [] (c_screen_Screen_Cursor h40) fun ⟨⟩ => ?_
 refine Lq 4 ?_
 refine Lt 3 ?_
 refine Lq 1 ?_
 refine Lt 0 ?_
 refine Ln (Et (Ts (Tr ?_)))
 refine Lb 0 ?_
 refine Lt 12 ?_
 refine Ln (Et (Tv ?_))
 refine E.frz 12 rfl ?_
 refine E.frz 7 rfl ?_
 obtain rfl := sm H41
 exact Eo ((a16, c17), (a32, c33)) [2, 2, 2, 4, 4, 4, 4] [1, 0] (.cell 0 rfl rfl rfl .nil)

theorem c_model_Model_Snap {m_ : ModelModel} {r : SnapSnap × ModelModel} (H : p_model_Model_Snap m_ = some r) : CT G 14 [.pointer (some ⟨N0, 0, none⟩)] [Ch.box N0 37 [.pointer (some ⟨N1, 0, none⟩), .pointer (some ⟨N2, 0, none⟩), .pointer (some ⟨N3, 0, none⟩), .int .i64 m_.k], Ch.box N1 93 [.slice A0 m_.book.l.length C0, .slice A1 m_.book.chains.length C1, .slice A2 m_.book.begun.length C2], Ch.arr (Ty.slice tyRowGlyph) 38 A0 C0 m_.book.l, Ch.arr (Ty.int .i64) 3 A1 C1 m_.book.chains, Ch.arr tyRowGlyph 77 A2 C2 m_.book.begun, Ch.box N2 85 [.int .i64 m_.parser.state, .bool m_.parser.order.private_, .bool m_.parser.order.wrong, .bool m_.parser.order.any, .bool m_.parser.order.some, .int .i64 m_.parser.order.n, .slice A3 m_.parser.order.nums.length C3, .string m_.parser.text, .int .u8 m_.parser.runes.lead, .int .i32 m_.parser.runes.rune, .int .i64 m_.parser.runes.need, .slice none 0 0], Ch.opt (m_.parser.state == (3 : Int)) (Ty.int .i64) 3 A3 C3 m_.parser.order.nums, Ch.box N3 132 [.pointer (some ⟨N4, 0, none⟩), .int .i64 m_.screen.spot.x, .int .i64 m_.screen.spot.y, .int .i64 m_.screen.spot.style.fore, .int .i64 m_.screen.spot.style.back, .bool m_.screen.spot.style.bold, .bool m_.screen.spot.style.under, .bool m_.screen.spot.style.inverse, .int .i64 m_.screen.saved.x, .int .i64 m_.screen.saved.y, .int .i64 m_.screen.saved.style.fore, .int .i64 m_.screen.saved.style.back, .bool m_.screen.saved.style.bold, .bool m_.screen.saved.style.under, .bool m_.screen.saved.style.inverse, .bool m_.screen.waiting, .int .i64 m_.screen.top, .int .i64 m_.screen.bottom, .bool m_.screen.wraps, .string m_.screen.title], Ch.box N4 181 [.int .i64 m_.screen.g.w, .slice A5 m_.screen.g.l.length C5], Ch.arr tyRowRow 99 A5 C5 m_.screen.g.l] [] (fun h : (Option Addr × Nat) × (Option Addr × Nat) × (Option Addr × Nat) => .agg (bx43 r.1 h.1.1 h.1.2 h.2.1.1 h.2.1.2).toArray) (fun h => [Ch.box N0 37 [.pointer (some ⟨N1, 0, none⟩), .pointer (some ⟨N2, 0, none⟩), .pointer (some ⟨N3, 0, none⟩), .int .i64 r.2.k], Ch.box N1 93 [.slice A0 r.2.book.l.length C0, .slice A1 r.2.book.chains.length C1, .slice A2 r.2.book.begun.length C2], Ch.arr (Ty.slice tyRowGlyph) 38 A0 C0 r.2.book.l, Ch.arr (Ty.int .i64) 3 A1 C1 r.2.book.chains, Ch.arr tyRowGlyph 77 A2 C2 r.2.book.begun, Ch.box N2 85 [.int .i64 r.2.parser.state, .bool r.2.parser.order.private_, .bool r.2.parser.order.wrong, .bool r.2.parser.order.any, .bool r.2.parser.order.some, .int .i64 r.2.parser.order.n, .slice A3 r.2.parser.order.nums.length C3, .string r.2.parser.text, .int .u8 r.2.parser.runes.lead, .int .i32 r.2.parser.runes.rune, .int .i64 r.2.parser.runes.need, .slice none 0 0], Ch.opt (r.2.parser.state == (3 : Int)) (Ty.int .i64) 3 A3 C3 r.2.parser.order.nums, Ch.box N3 132 [.pointer (some ⟨N4, 0, none⟩), .int .i64 r.2.screen.spot.x, .int .i64 r.2.screen.spot.y, .int .i64 r.2.screen.spot.style.fore, .int .i64 r.2.screen.spot.style.back, .bool r.2.screen.spot.style.bold, .bool r.2.screen.spot.style.under, .bool r.2.screen.spot.style.inverse, .int .i64 r.2.screen.saved.x, .int .i64 r.2.screen.saved.y, .int .i64 r.2.screen.saved.style.fore, .int .i64 r.2.screen.saved.style.back, .bool r.2.screen.saved.style.bold, .bool r.2.screen.saved.style.under, .bool r.2.screen.saved.style.inverse, .bool r.2.screen.waiting, .int .i64 r.2.screen.top, .int .i64 r.2.screen.bottom, .bool r.2.screen.wraps, .string r.2.screen.title], Ch.box N4 181 [.int .i64 r.2.screen.g.w, .slice A5 r.2.screen.g.l.length C5], Ch.arr tyRowRow 99 A5 C5 r.2.screen.g.l]) (fun h => [Im.sl tyRowRow h.1.1 h.1.2 r.1.rows, Im.sl tyRowGlyph h.2.1.1 h.2.1.2 r.1.begun]) := by
 delta p_model_Model_Snap at H
 refine CT.of Go.Proofs.Tryz.func14 (by kernel_rfl) rfl rfl rfl fun K => ?_
 refine Ts (Tr ?_)
 refine Ll fun g1 => ?_
 refine Ln (Et (Ts ?_))
 refine Td [14] [0, 0, 4, 4] mo ?_
 refine Dq 0 ?_
 refine Dq 1 ?_
 refine Dq 2 ?_
 refine Db 3 1 ?_
 refine Dq 4 ?_
 refine Dq 5 ?_
 refine Dq 6 ?_
 refine Dq 7 ?_
 refine Db 8 1 ?_
 refine Dq 9 ?_
 refine Dq 10 ?_
 refine Dq 11 ?_
 refine Db 12 1 ?_
 obtain ⟨r32, h33, H34⟩ := bnd H
 refine Dk [4, 4, 4, 0, 0, 0, 0] [] (c_snap_Of h33) fun ⟨⟨a35, c36⟩, ⟨a37, c38⟩⟩ => ?_
 refine Dt 0 ?_
 refine Dn ?_
 refine Et (Tv ?_)
 obtain rfl := sm H34
 exact Eo ((a35, c36), (a37, c38), (none, 0)) [1, 6, 6, 6, 6, 1, 1, 1, 1, 1] [0, 1] (.cell 0 rfl rfl rfl .nil)

theorem c_model_Model_K {m_ : ModelModel} {r : Int} (H : p_model_Model_K m_ = some r) : CT G 22 [.pointer (some ⟨N0, 0, none⟩)] [Ch.box N0 37 [.pointer (some ⟨N1, 0, none⟩), .pointer (some ⟨N2, 0, none⟩), .pointer (some ⟨N3, 0, none⟩), .int .i64 m_.k], Ch.box N1 93 [.slice A0 m_.book.l.length C0, .slice A1 m_.book.chains.length C1, .slice A2 m_.book.begun.length C2], Ch.arr (Ty.slice tyRowGlyph) 38 A0 C0 m_.book.l, Ch.arr (Ty.int .i64) 3 A1 C1 m_.book.chains, Ch.arr tyRowGlyph 77 A2 C2 m_.book.begun, Ch.box N2 85 [.int .i64 m_.parser.state, .bool m_.parser.order.private_, .bool m_.parser.order.wrong, .bool m_.parser.order.any, .bool m_.parser.order.some, .int .i64 m_.parser.order.n, .slice A3 m_.parser.order.nums.length C3, .string m_.parser.text, .int .u8 m_.parser.runes.lead, .int .i32 m_.parser.runes.rune, .int .i64 m_.parser.runes.need, .slice none 0 0], Ch.opt (m_.parser.state == (3 : Int)) (Ty.int .i64) 3 A3 C3 m_.parser.order.nums, Ch.box N3 132 [.pointer (some ⟨N4, 0, none⟩), .int .i64 m_.screen.spot.x, .int .i64 m_.screen.spot.y, .int .i64 m_.screen.spot.style.fore, .int .i64 m_.screen.spot.style.back, .bool m_.screen.spot.style.bold, .bool m_.screen.spot.style.under, .bool m_.screen.spot.style.inverse, .int .i64 m_.screen.saved.x, .int .i64 m_.screen.saved.y, .int .i64 m_.screen.saved.style.fore, .int .i64 m_.screen.saved.style.back, .bool m_.screen.saved.style.bold, .bool m_.screen.saved.style.under, .bool m_.screen.saved.style.inverse, .bool m_.screen.waiting, .int .i64 m_.screen.top, .int .i64 m_.screen.bottom, .bool m_.screen.wraps, .string m_.screen.title], Ch.box N4 181 [.int .i64 m_.screen.g.w, .slice A5 m_.screen.g.l.length C5], Ch.arr tyRowRow 99 A5 C5 m_.screen.g.l] [] (fun _ : Unit => .int .i64 r) (fun h => [Ch.box N0 37 [.pointer (some ⟨N1, 0, none⟩), .pointer (some ⟨N2, 0, none⟩), .pointer (some ⟨N3, 0, none⟩), .int .i64 m_.k], Ch.box N1 93 [.slice A0 m_.book.l.length C0, .slice A1 m_.book.chains.length C1, .slice A2 m_.book.begun.length C2], Ch.arr (Ty.slice tyRowGlyph) 38 A0 C0 m_.book.l, Ch.arr (Ty.int .i64) 3 A1 C1 m_.book.chains, Ch.arr tyRowGlyph 77 A2 C2 m_.book.begun, Ch.box N2 85 [.int .i64 m_.parser.state, .bool m_.parser.order.private_, .bool m_.parser.order.wrong, .bool m_.parser.order.any, .bool m_.parser.order.some, .int .i64 m_.parser.order.n, .slice A3 m_.parser.order.nums.length C3, .string m_.parser.text, .int .u8 m_.parser.runes.lead, .int .i32 m_.parser.runes.rune, .int .i64 m_.parser.runes.need, .slice none 0 0], Ch.opt (m_.parser.state == (3 : Int)) (Ty.int .i64) 3 A3 C3 m_.parser.order.nums, Ch.box N3 132 [.pointer (some ⟨N4, 0, none⟩), .int .i64 m_.screen.spot.x, .int .i64 m_.screen.spot.y, .int .i64 m_.screen.spot.style.fore, .int .i64 m_.screen.spot.style.back, .bool m_.screen.spot.style.bold, .bool m_.screen.spot.style.under, .bool m_.screen.spot.style.inverse, .int .i64 m_.screen.saved.x, .int .i64 m_.screen.saved.y, .int .i64 m_.screen.saved.style.fore, .int .i64 m_.screen.saved.style.back, .bool m_.screen.saved.style.bold, .bool m_.screen.saved.style.under, .bool m_.screen.saved.style.inverse, .bool m_.screen.waiting, .int .i64 m_.screen.top, .int .i64 m_.screen.bottom, .bool m_.screen.wraps, .string m_.screen.title], Ch.box N4 181 [.int .i64 m_.screen.g.w, .slice A5 m_.screen.g.l.length C5], Ch.arr tyRowRow 99 A5 C5 m_.screen.g.l]) (fun h => []) := by
 delta p_model_Model_K at H
 refine CT.of Go.Proofs.Tryz.func22 (by kernel_rfl) rfl rfl rfl fun K => ?_
 refine Ts (Tr ?_)
 refine Lq 1 ?_
 refine Ln (Et (Ts (Tr ?_)))
 refine Lq 3 ?_
 refine Lb 0 ?_
 refine Lq 1 ?_
 refine Ln (Et (Tv ?_))
 obtain rfl := sm H
 exact Eo1 () [0, 0, 0, 0, 0, 0, 0, 0, 0, 0] []

theorem c_law18_awake {r : Bool} (H : p_law18_awake = some r) : CT G 7 [] [] [Im.sl tyWideSpan (some ⟨0, 0, none⟩) 13 t_wide_nones, Im.sl tyWideSpan (some ⟨1, 0, none⟩) 14 t_wide_twos, Im.sl (Ty.int .u32) (some ⟨2, 0, none⟩) 16 t_sum_half, Im.sl tyGlyphLead (some ⟨3, 0, none⟩) 8 t_glyph_leads] (fun _ : Unit => .bool r) (fun h => []) (fun h => []) := by
 delta p_law18_awake at H
 refine CT.of Go.Proofs.Tryz.func7 (by kernel_rfl) rfl rfl rfl fun K => ?_
 refine Ts (Tr ?_)
 refine Lq 1 ?_
 refine Ln (Et (Ts (Tr ?_)))
 refine Lq 3 ?_
 refine La [] [] (Ac.bs (ty := tyModelEvent) (xs := [(ModelEvent.mk 0 (ByteArray.mk #[97, 13, 10, 98]) 0 0), (ModelEvent.mk 1 (ByteArray.mk #[]) 0 0), (ModelEvent.mk 1 (ByteArray.mk #[]) 4 2)]) (.cons () [] rfl (.cons () [] rfl (.cons () [] rfl .nil))) rfl rfl rfl rfl rfl rfl rfl) fun g1 => ?_
 refine L.frz 0 rfl ?_
 obtain ⟨r4, h5, H6⟩ := bnd H
 refine Lk [] [0, 1, 2, 3, 4] (c_model_Run h5) fun ⟨g7, g8, ⟨a9, c10⟩, ⟨a11, c12⟩, ⟨a13, c14⟩, g15, ⟨a16, c17⟩, ⟨a18, c19⟩, g20, g21, ⟨a22, c23⟩⟩ => ?_
 refine Lq 1 ?_
 refine Ln (Et (Ts (Ts (Tr ?_))))
 refine Lq 1 ?_
 refine Ly (Yl.pn rfl rfl rfl rfl rfl rfl) ?_
 refine Lq 2 ?_
 obtain ⟨r44, h45, H46⟩ := bnd H6
 refine Lk [0, 0, 0, 0, 0, 0, 0, 0, 0, 0] [] (c_model_Model_Screen h45) fun ⟨g47, g48, ⟨a49, c50⟩, ⟨a51, c52⟩⟩ => ?_
 refine Ly (Yl.pn rfl rfl rfl rfl rfl rfl) ?_
 refine Lq 1 ?_
 refine Ln (Et ?_)
 refine T.cond rfl (fun h => nomatch h) (fun _ => ?_)
 refine Tk (Et (Ts (Tr ?_)))
 refine Lq 3 ?_
 refine Lb 3 ?_
 obtain ⟨r59, h60, H61⟩ := bnd H46
 refine Lk [4, 4, 4, 4] [] (c_book_Book_Line h60) fun ⟨a62, c63⟩ => ?_
 refine Lq 5 ?_
 refine Ln (Et (Ts (Tr ?_)))
 refine Lq 1 ?_
 obtain ⟨r65, h66, H67⟩ := bnd H61
 refine Lk [8, 1, 1, 1, 1, 4, 4, 4, 4, 4] [] (c_model_Model_Snap h66) fun ⟨⟨a68, c69⟩, ⟨a70, c71⟩, ⟨a72, c73⟩⟩ => ?_
 refine Ll fun g81 => ?_
 refine Lt 0 ?_
 refine Ln (Et (Ts ?_))
 obtain ⟨e119, H120, H121⟩ := bnd H67
 refine Tj0 [(0, .bool e119)] [] [] [0, 1, 2, 6, 8, 9, 12, 13, 3, 4, 5, 7, 10, 14] ?_ ?_
 ·refine Tr ?_
  refine Lq 1 ?_
  obtain ⟨r122, h123, H124⟩ := bnd H120
  refine Lk [1, 1, 1, 1, 1, 1, 1, 1, 1, 1] [] (c_model_Model_K h123) fun ⟨⟩ => ?_
  refine Lq 2 ?_
  refine Lw 30 H124 (fun H125 => ?_) fun H125 => ?_
  ·refine Lq 3 ?_
   refine Lb 0 ?_
   obtain ⟨r126, h127, H128⟩ := bnd H125
   refine Lk [1, 1, 1, 1] [] (c_book_Book_Len h127) fun ⟨⟩ => ?_
   refine Lq 3 ?_
   refine Lw 38 H128 (fun H129 => ?_) fun H129 => ?_
   ·refine Lq 3 ?_
    refine Lw 41 H129 (fun H130 => ?_) fun H130 => ?_
    ·refine Lq 5 ?_
     refine Lw 46 H130 (fun H131 => ?_) fun H131 => ?_
     ·refine Lq 1 ?_
      obtain ⟨x132, h133, H134⟩ := bnd H131
      refine L.addro 11 rfl (idx_lt h133) fun b135 e136 => ?_
      subst e136
      refine Ly (Yl.ia h133 rfl rfl rfl rfl rfl rfl) ?_
      refine Lq 1 ?_
      refine Ly (Yl.lo (v := .int .i32 x132.rune) 11 ((0 : Int).toNat) 0 (idx_some h133).2 rfl rfl rfl rfl (fun _ => rfl)) ?_
      refine Lq 3 ?_
      refine Lw 53 H134 (fun H137 => ?_) fun H137 => ?_
      ·refine Lq 1 ?_
       refine Lb 10 ?_
       refine Lq 3 ?_
       refine Lw 58 H137 (fun H138 => ?_) fun H138 => ?_
       ·refine Lq 1 ?_
        refine Lb 10 ?_
        refine Lq 3 ?_
        refine Lw 63 H138 (fun H139 => ?_) fun H139 => ?_
        ·refine Lq 1 ?_
         refine Lb 10 ?_
         refine Lq 4 ?_
         refine Ln ?_
         obtain rfl := sm H139
         exact Eg0 [10, 4, 0, 3, 4, 4, 6, 6, 0, 0, 0, 0, 0, 1] 0
        refine Lq 6 ?_
        refine Ln ?_
        obtain rfl := sm H139
        exact Eg0 [10, 4, 0, 3, 4, 4, 6, 6, 0, 0, 0, 0, 0, 1] 0
       refine Lq 11 ?_
       refine Ln ?_
       obtain rfl := sm H138
       exact Eg0 [10, 4, 0, 3, 4, 4, 6, 6, 0, 0, 0, 0, 0, 1] 0
      refine Lq 16 ?_
      refine Ln ?_
      obtain rfl := sm H137
      exact Eg0 [10, 4, 0, 3, 4, 4, 6, 6, 0, 0, 0, 0, 0, 1] 0
     refine Lq 23 ?_
     refine Ln ?_
     obtain rfl := sm H131
     exact Eg0 [10, 4, 0, 3, 4, 4, 6, 6, 0, 0, 0, 0, 0, 1] 0
    refine Lq 28 ?_
    refine Ln ?_
    obtain rfl := sm H130
    exact Eg0 [10, 4, 0, 3, 4, 4, 6, 6, 0, 0, 0, 0, 0, 1] 0
   refine Lq 31 ?_
   refine Ln ?_
   obtain rfl := sm H129
   exact Eg0 [10, 4, 0, 3, 4, 4, 6, 6, 0, 0, 0, 0, 0, 1] 0
  refine Lq 39 ?_
  refine Ln ?_
  obtain rfl := sm H125
  exact Eg0 [10, 0, 0, 3, 4, 4, 6, 6, 0, 0, 0, 0, 0, 1] 0
 refine Tv ?_
 obtain rfl := sm H121
 exact Eo1 () [] []

theorem c_law01_Cut {s_ : ByteArray} {n_ : Int} {r : ByteArray} (H : p_law01_Cut s_ n_ = some r) : CT G 8 [.string s_, .int .i64 n_] [] [] (fun _ : Unit => .string r) (fun h => []) (fun h => []) := by
 delta p_law01_Cut at H
 refine CT.of Go.Proofs.Tryz.func8 (by kernel_rfl) rfl rfl rfl fun K => ?_
 refine Ts (Tr ?_)
 refine Lq 1 ?_
 refine Ln (Et (Ts (Ts (Tr ?_))))
 refine Lq 4 ?_
 refine Ln (Et ?_)
 refine Tb H (fun H4 => ?_) fun H4 => ?_
 ·refine Ts (Tr ?_)
  refine Lq 2 ?_
  obtain ⟨_, h5, H6⟩ := bnd H4
  refine Ly (Yl.sc h5 rfl rfl rfl rfl rfl rfl) ?_
  refine Lq 1 ?_
  refine Ln (Et (Tv (Er ?_)))
  obtain rfl := sm H6
  exact Eo1 () [] []
 refine Tk (Et (Ts (Tr ?_)))
 refine Lq 2 ?_
 refine Ln (Et (Tv ?_))
 obtain rfl := sm H4
 exact Eo1 () [] []

theorem c_slices_Equal_row_Cell {s1_ : List RowCell} {s2_ : List RowCell} {r : Bool} (H : p_slices_Equal_row_Cell s1_ s2_ = some r) : CT G 73 [.slice A0 s1_.length C0, .slice A1 s2_.length C1] [] [Im.sl tyRowCell A0 C0 s1_, Im.sl tyRowCell A1 C1 s2_] (fun _ : Unit => .bool r) (fun h => []) (fun h => []) := by
 delta p_slices_Equal_row_Cell at H
 refine CT.of Go.Proofs.Tryz.func73 (by kernel_rfl) rfl rfl rfl fun K => ?_
 refine Ts (Tr ?_)
 refine Lq 1 ?_
 refine Ln (Et (Ts (Ts (Tr ?_))))
 refine Lq 5 ?_
 refine Ln (Et ?_)
 refine Tb H (fun H2 => ?_) fun H2 => ?_
 ·refine Ts (Tr ?_)
  refine Lq 1 ?_
  refine Ln (Et (Tv (Er ?_)))
  obtain rfl := sm H2
  exact Eo1 () [] []
 refine Tk (Et (Ts (Ts (Tr ?_))))
 refine Lq 3 ?_
 refine Ln (Et ?_)
 obtain ⟨y356, H357, H358⟩ := bnd H2
 refine Tj (η := Unit × Unit) (fun h => y356 = .inl h.1) (fun _ => []) [] (fun _ => []) [] (fun _ => []) ?_ ?_
 ·refine Tl ?_
  refine Tq (η := Unit) (fun s238 h => [(13, .int .i64 s238)]) [0, 1, 12] (fun _ _ => []) [] (fun _ _ => []) () [] [] H357 ?_
  rintro k_ s238 ⟨⟩ z360 H359 hag361 hbr362
  refine Ts (Tr ?_)
  refine Lq 1 ?_
  refine Ln (Et (Ts ?_))
  refine Tb H359 (fun H364 => ?_) fun H364 => ?_
  ·refine Tk (Et (Ts (Tl (Ts (Tr ?_)))))
   refine Lq 2 ?_
   refine Ln (Et (Ts ?_))
   refine Td [] [] mo ?_
   refine Dq 0 ?_
   refine Dq 1 ?_
   obtain ⟨x464, h465, H466⟩ := bnd H364
   refine D.addr 0 rfl (idx_lt h465) fun b467 o468 e469 => ?_
   subst e469
   refine Dy 2 (Yl.ia h465 rfl rfl rfl rfl rfl rfl) ?_
   refine D.el 0 rfl (idx_some h465).2 ?_
   rintro _
   refine Dy 3 (Yl.ldc 0 0 rfl rfl rfl rfl) ?_
   refine Dq 4 ?_
   refine Dq 5 ?_
   obtain ⟨x471, h472, H473⟩ := bnd H466
   refine D.addr 2 rfl (idx_lt h472) fun b474 o475 e476 => ?_
   subst e476
   refine Dy 6 (Yl.ia h472 rfl rfl rfl rfl rfl rfl) ?_
   refine D.el 2 rfl (idx_some h472).2 ?_
   rintro _
   refine Dy 7 (Yl.ldc 0 0 rfl rfl rfl rfl) ?_
   refine Dq 8 ?_
   refine Dn ?_
   refine Et ?_
   refine Tb H473 (fun H478 => ?_) fun H478 => ?_
   ·refine Ts (Tr ?_)
    refine Lq 1 ?_
    refine Ln (Et (Tv (Ev (Er (Er (Ev ?_))))))
    obtain ⟨w479, hz, H480⟩ := inrr_some H478
    subst z360
    have hb := hbr362 _ rfl
    subst y356
    obtain rfl := (sm H358).symm
    refine Er ?_
    obtain rfl := sm H480
    exact Eo1 () [] []
   refine Tk (Eb (Et (Tr ?_)))
   refine Lq 2 ?_
   refine Ln ?_
   obtain rfl := sm H478
   exact Eg (_, ()) (hag361 _ rfl) [] [] 2
  refine Tx (Ex (Ex (Eh ?_)))
  obtain rfl := sm H364
  have hb := hbr362 _ rfl
  subst y356
  exact Eg (_, ()) rfl [] [] 0
 rintro ⟨e355, ⟨⟩⟩ hy
 subst hy
 refine Ts (Tr ?_)
 refine Lq 1 ?_
 refine Ln (Et (Tv ?_))
 obtain rfl := sm H358
 exact Eo1 () [] []

theorem c_row_Row_Same {r_ : RowRow} {q : RowRow} {r : Bool} (H : p_row_Row_Same r_ q = some r) : CT G 34 [.agg #[.slice A0 r_.cells.length C0, .bool r_.wrapped], .agg #[.slice A1 q.cells.length C1, .bool q.wrapped]] [] [Im.sl tyRowCell A0 C0 r_.cells, Im.sl tyRowCell A1 C1 q.cells] (fun _ : Unit => .bool r) (fun h => []) (fun h => []) := by
 delta p_row_Row_Same at H
 refine CT.of Go.Proofs.Tryz.func34 (by kernel_rfl) rfl rfl rfl fun K => ?_
 refine Ts (Tr ?_)
 refine Lx fun g1 => ?_
 refine Lx fun g2 => ?_
 refine Lq 1 ?_
 refine Ln (Et (Ts ?_))
 obtain ⟨e12, H13, H14⟩ := bnd H
 refine Tj0 [(4, .bool e12)] [] [] [0, 1] ?_ ?_
 ·refine Tr ?_
  refine Lq 1 ?_
  refine Lb 1 ?_
  refine Lq 1 ?_
  refine Lb 0 ?_
  refine Lq 2 ?_
  refine Lw 10 H13 (fun H15 => ?_) fun H15 => ?_
  ·refine Lq 1 ?_
   refine Lb 1 ?_
   refine Lq 1 ?_
   refine Lb 0 ?_
   obtain ⟨r16, h17, H18⟩ := bnd H15
   refine Lk [] [0, 1] (c_slices_Equal_row_Cell h17) fun ⟨⟩ => ?_
   refine Lq 2 ?_
   refine Ln ?_
   obtain rfl := sm H18
   exact Eg0 [0, 0] 0
  refine Lq 7 ?_
  refine Ln ?_
  obtain rfl := sm H15
  exact Eg0 [0, 0] 0
 refine Tv ?_
 obtain rfl := sm H14
 exact Eo1 () [] []

theorem c_slices_EqualFunc_row_Row_Row_Same {s1_ : List RowRow} {s2_ : List RowRow} {r : Bool} (H : p_slices_EqualFunc_row_Row_Row_Same s1_ s2_ = some r) : CT G 33 [.slice A0 s1_.length C0, .slice A1 s2_.length C1, .func (.func 34) #[] #[]] [] [Im.sl tyRowRow A0 C0 s1_, Im.sl tyRowRow A1 C1 s2_] (fun _ : Unit => .bool r) (fun h => []) (fun h => []) := by
 delta p_slices_EqualFunc_row_Row_Row_Same at H
 refine CT.of Go.Proofs.Tryz.func33 (by kernel_rfl) rfl rfl rfl fun K => ?_
 refine Ts (Tr ?_)
 refine Lq 1 ?_
 refine Ln (Et (Ts (Ts (Tr ?_))))
 refine Lq 5 ?_
 refine Ln (Et ?_)
 refine Tb H (fun H2 => ?_) fun H2 => ?_
 ·refine Ts (Tr ?_)
  refine Lq 1 ?_
  refine Ln (Et (Tv (Er ?_)))
  obtain rfl := sm H2
  exact Eo1 () [] []
 refine Tk (Et (Ts (Ts (Tr ?_))))
 refine Lq 3 ?_
 refine Ln (Et ?_)
 obtain ⟨y170, H171, H172⟩ := bnd H2
 refine Tj (η := Unit × Unit) (fun h => y170 = .inl h.1) (fun _ => []) [] (fun _ => []) [] (fun _ => []) ?_ ?_
 ·refine Tl ?_
  refine Tq (η := Unit) (fun s114 h => [(17, .int .i64 s114)]) [1, 2, 15, 16] (fun _ _ => []) [] (fun _ _ => []) () [] [] H171 ?_
  rintro k_ s114 ⟨⟩ z174 H173 hag175 hbr176
  refine Ts (Tr ?_)
  refine Lq 1 ?_
  refine Ln (Et (Ts ?_))
  refine Tb H173 (fun H178 => ?_) fun H178 => ?_
  ·refine Tk (Et (Ts (Tl (Ts (Tr ?_)))))
   refine Lq 1 ?_
   obtain ⟨x205, h206, H207⟩ := bnd H178
   refine L.addr 0 rfl (idx_lt h206) fun b208 o209 e210 => ?_
   subst e210
   refine Ly (Yl.ia h206 rfl rfl rfl rfl rfl rfl) ?_
   refine L.el 0 rfl (idx_some h206).2 ?_
   rintro ⟨a211, c212⟩
   refine Lc 0 0 ?_
   refine Ll fun g215 => ?_
   refine Lq 1 ?_
   refine Lt 0 ?_
   refine Ln (Et (Ts (Tr ?_)))
   refine Lq 2 ?_
   obtain ⟨x216, h217, H218⟩ := bnd H207
   refine L.addr 3 rfl (idx_lt h217) fun b219 o220 e221 => ?_
   subst e221
   refine Ly (Yl.ia h217 rfl rfl rfl rfl rfl rfl) ?_
   refine L.el 3 rfl (idx_some h217).2 ?_
   rintro ⟨a222, c223⟩
   refine Lc 0 0 ?_
   refine Ll fun g226 => ?_
   refine Lt 0 ?_
   refine Ln (Et (Ts (Tr ?_)))
   refine Lq 1 ?_
   refine Lb 1 ?_
   refine Lb 0 ?_
   obtain ⟨r227, h228, H229⟩ := bnd H218
   refine Lk [] [3, 1] (c_row_Row_Same h228) fun ⟨⟩ => ?_
   refine Lq 1 ?_
   refine Ln (Et ?_)
   refine Tb H229 (fun H230 => ?_) fun H230 => ?_
   ·refine Ts (Tr ?_)
    refine Lq 1 ?_
    refine Ln (Et (Tv (Ev (Er (Er (Ev ?_))))))
    obtain ⟨w231, hz, H232⟩ := inrr_some H230
    subst z174
    have hb := hbr176 _ rfl
    subst y170
    obtain rfl := (sm H172).symm
    refine Er ?_
    obtain rfl := sm H232
    exact Eo1 () [] []
   refine Tk (Eb (Et (Tr ?_)))
   refine Lq 2 ?_
   refine Ln ?_
   obtain rfl := sm H230
   exact Eg (_, ()) (hag175 _ rfl) [] [] 4
  refine Tx (Ex (Ex (Eh ?_)))
  obtain rfl := sm H178
  have hb := hbr176 _ rfl
  subst y170
  exact Eg (_, ()) rfl [] [] 0
 rintro ⟨e169, ⟨⟩⟩ hy
 subst hy
 refine Ts (Tr ?_)
 refine Lq 1 ?_
 refine Ln (Et (Tv ?_))
 obtain rfl := sm H172
 exact Eo1 () [] []

theorem c_slices_Equal_row_Glyph {s1_ : List RowGlyph} {s2_ : List RowGlyph} {r : Bool} (H : p_slices_Equal_row_Glyph s1_ s2_ = some r) : CT G 35 [.slice A0 s1_.length C0, .slice A1 s2_.length C1] [] [Im.sl tyRowGlyph A0 C0 s1_, Im.sl tyRowGlyph A1 C1 s2_] (fun _ : Unit => .bool r) (fun h => []) (fun h => []) := by
 delta p_slices_Equal_row_Glyph at H
 refine CT.of Go.Proofs.Tryz.func35 (by kernel_rfl) rfl rfl rfl fun K => ?_
 refine Ts (Tr ?_)
 refine Lq 1 ?_
 refine Ln (Et (Ts (Ts (Tr ?_))))
 refine Lq 5 ?_
 refine Ln (Et ?_)
 refine Tb H (fun H2 => ?_) fun H2 => ?_
 ·refine Ts (Tr ?_)
  refine Lq 1 ?_
  refine Ln (Et (Tv (Er ?_)))
  obtain rfl := sm H2
  exact Eo1 () [] []
 refine Tk (Et (Ts (Ts (Tr ?_))))
 refine Lq 3 ?_
 refine Ln (Et ?_)
 obtain ⟨y356, H357, H358⟩ := bnd H2
 refine Tj (η := Unit × Unit) (fun h => y356 = .inl h.1) (fun _ => []) [] (fun _ => []) [] (fun _ => []) ?_ ?_
 ·refine Tl ?_
  refine Tq (η := Unit) (fun s238 h => [(13, .int .i64 s238)]) [0, 1, 12] (fun _ _ => []) [] (fun _ _ => []) () [] [] H357 ?_
  rintro k_ s238 ⟨⟩ z360 H359 hag361 hbr362
  refine Ts (Tr ?_)
  refine Lq 1 ?_
  refine Ln (Et (Ts ?_))
  refine Tb H359 (fun H364 => ?_) fun H364 => ?_
  ·refine Tk (Et (Ts (Tl (Ts (Tr ?_)))))
   refine Lq 2 ?_
   refine Ln (Et (Ts ?_))
   refine Td [] [] mo ?_
   refine Dq 0 ?_
   refine Dq 1 ?_
   obtain ⟨x464, h465, H466⟩ := bnd H364
   refine D.addr 0 rfl (idx_lt h465) fun b467 o468 e469 => ?_
   subst e469
   refine Dy 2 (Yl.ia h465 rfl rfl rfl rfl rfl rfl) ?_
   refine D.el 0 rfl (idx_some h465).2 ?_
   rintro _
   refine Dy 3 (Yl.ldc 0 0 rfl rfl rfl rfl) ?_
   refine Dq 4 ?_
   refine Dq 5 ?_
   obtain ⟨x471, h472, H473⟩ := bnd H466
   refine D.addr 2 rfl (idx_lt h472) fun b474 o475 e476 => ?_
   subst e476
   refine Dy 6 (Yl.ia h472 rfl rfl rfl rfl rfl rfl) ?_
   refine D.el 2 rfl (idx_some h472).2 ?_
   rintro _
   refine Dy 7 (Yl.ldc 0 0 rfl rfl rfl rfl) ?_
   refine Dq 8 ?_
   refine Dn ?_
   refine Et ?_
   refine Tb H473 (fun H478 => ?_) fun H478 => ?_
   ·refine Ts (Tr ?_)
    refine Lq 1 ?_
    refine Ln (Et (Tv (Ev (Er (Er (Ev ?_))))))
    obtain ⟨w479, hz, H480⟩ := inrr_some H478
    subst z360
    have hb := hbr362 _ rfl
    subst y356
    obtain rfl := (sm H358).symm
    refine Er ?_
    obtain rfl := sm H480
    exact Eo1 () [] []
   refine Tk (Eb (Et (Tr ?_)))
   refine Lq 2 ?_
   refine Ln ?_
   obtain rfl := sm H478
   exact Eg (_, ()) (hag361 _ rfl) [] [] 2
  refine Tx (Ex (Ex (Eh ?_)))
  obtain rfl := sm H364
  have hb := hbr362 _ rfl
  subst y356
  exact Eg (_, ()) rfl [] [] 0
 rintro ⟨e355, ⟨⟩⟩ hy
 subst hy
 refine Ts (Tr ?_)
 refine Lq 1 ?_
 refine Ln (Et (Tv ?_))
 obtain rfl := sm H358
 exact Eo1 () [] []

theorem c_snap_Snap_Same {s_ : SnapSnap} {t_ : SnapSnap} {r : Bool} (H : p_snap_Snap_Same s_ t_ = some r) : CT G 15 [.agg (bx43 s_ A0 C0 A1 C1).toArray, .agg (bx43 t_ A2 C2 A3 C3).toArray] [] [Im.sl tyRowRow A0 C0 s_.rows, Im.sl tyRowGlyph A1 C1 s_.begun, Im.sl tyRowRow A2 C2 t_.rows, Im.sl tyRowGlyph A3 C3 t_.begun] (fun _ : Unit => .bool r) (fun h => []) (fun h => []) := by
 delta p_snap_Snap_Same at H
 refine CT.of Go.Proofs.Tryz.func15 (by kernel_rfl) rfl rfl rfl fun K => ?_
 refine Ts (Tr ?_)
 refine Lx fun g1 => ?_
 refine Lx fun g2 => ?_
 refine Lq 1 ?_
 refine Ln (Et (Ts ?_))
 obtain ⟨e34, H35, H36⟩ := bnd H
 refine Tj0 [(4, .bool e34)] [] [] [0, 1] ?_ ?_
 ·refine Tra ?_
  refine Lq 1 ?_
  refine Lb 1 ?_
  refine Lq 1 ?_
  refine Lb 0 ?_
  refine Lq 2 ?_
  refine Lw 10 H35 (fun H37 => ?_) fun H37 => ?_
  ·refine Lq 1 ?_
   refine Lb 1 ?_
   refine Lq 1 ?_
   refine Lb 0 ?_
   refine Lq 3 ?_
   refine Lw 17 H37 (fun H38 => ?_) fun H38 => ?_
   ·refine Lq 1 ?_
    refine Lb 1 ?_
    refine Lq 1 ?_
    refine Lb 0 ?_
    refine Lq 3 ?_
    refine Lw 24 H38 (fun H39 => ?_) fun H39 => ?_
    ·refine Lq 1 ?_
     refine Lb 1 ?_
     refine Lq 1 ?_
     refine Lb 0 ?_
     refine Lq 3 ?_
     refine Lw 31 H39 (fun H40 => ?_) fun H40 => ?_
     ·refine Lq 1 ?_
      refine Lb 1 ?_
      refine Lq 1 ?_
      refine Lb 0 ?_
      refine Lq 3 ?_
      refine Lw 38 H40 (fun H41 => ?_) fun H41 => ?_
      ·refine Lq 1 ?_
       refine Lb 1 ?_
       refine Lq 1 ?_
       refine Lb 0 ?_
       refine Lq 3 ?_
       refine Lw 45 H41 (fun H42 => ?_) fun H42 => ?_
       ·refine Lq 1 ?_
        refine Lb 1 ?_
        refine Lq 1 ?_
        refine Lb 0 ?_
        refine Lq 3 ?_
        refine Lw 52 H42 (fun H43 => ?_) fun H43 => ?_
        ·refine Lq 1 ?_
         refine Lb 1 ?_
         refine Lq 1 ?_
         refine Lb 0 ?_
         refine Lq 3 ?_
         refine Lw 59 H43 (fun H44 => ?_) fun H44 => ?_
         ·refine Lq 1 ?_
          refine Lb 1 ?_
          refine Lq 1 ?_
          refine Lb 0 ?_
          obtain ⟨r45, h46, H47⟩ := bnd H44
          refine Lk [] [0, 2] (c_slices_EqualFunc_row_Row_Row_Same h46) fun ⟨⟩ => ?_
          refine Lq 2 ?_
          refine Lw 66 H47 (fun H48 => ?_) fun H48 => ?_
          ·refine Lq 1 ?_
           refine Lb 1 ?_
           refine Lq 1 ?_
           refine Lb 0 ?_
           obtain ⟨r49, h50, H51⟩ := bnd H48
           refine Lk [] [1, 3] (c_slices_Equal_row_Glyph h50) fun ⟨⟩ => ?_
           refine Lq 2 ?_
           refine Ln ?_
           obtain rfl := sm H51
           exact Eg0 [0, 0] 0
          refine Lq 7 ?_
          refine Ln ?_
          obtain rfl := sm H48
          exact Eg0 [0, 0] 0
         refine Lq 14 ?_
         refine Ln ?_
         obtain rfl := sm H44
         exact Eg0 [0, 0] 0
        refine Lq 21 ?_
        refine Ln ?_
        obtain rfl := sm H43
        exact Eg0 [0, 0] 0
       refine Lq 28 ?_
       refine Ln ?_
       obtain rfl := sm H42
       exact Eg0 [0, 0] 0
      refine Lq 35 ?_
      refine Ln ?_
      obtain rfl := sm H41
      exact Eg0 [0, 0] 0
     refine Lq 42 ?_
     refine Ln ?_
     obtain rfl := sm H40
     exact Eg0 [0, 0] 0
    refine Lq 49 ?_
    refine Ln ?_
    obtain rfl := sm H39
    exact Eg0 [0, 0] 0
   refine Lq 56 ?_
   refine Ln ?_
   obtain rfl := sm H38
   exact Eg0 [0, 0] 0
  refine Lq 63 ?_
  refine Ln ?_
  obtain rfl := sm H37
  exact Eg0 [0, 0] 0
 refine Tv ?_
 obtain rfl := sm H36
 exact Eo1 () [] []

theorem c_law18_ModelParts {text : ByteArray} {cuts : List Int} {r : Bool} (H : p_law18_ModelParts text cuts = some r) : CT G 3 [.string text, .slice A0 cuts.length C0] [] [Im.sl (Ty.int .i64) A0 C0 cuts, Im.sl tyWideSpan (some ⟨0, 0, none⟩) 13 t_wide_nones, Im.sl tyWideSpan (some ⟨1, 0, none⟩) 14 t_wide_twos, Im.sl (Ty.int .u32) (some ⟨2, 0, none⟩) 16 t_sum_half, Im.sl tyGlyphLead (some ⟨3, 0, none⟩) 8 t_glyph_leads] (fun _ : Unit => .bool r) (fun h => []) (fun h => []) := by
 delta p_law18_ModelParts at H
 refine CT.of Go.Proofs.Tryz.func3 (by kernel_rfl) rfl rfl rfl fun K => ?_
 refine Ts (Tr ?_)
 refine Lq 1 ?_
 refine Ln (Et (Ts (Ts (Tr ?_))))
 obtain ⟨r1, h2, H3⟩ := bnd H
 refine Lk [] [1, 2, 3, 4] (c_law18_awake h2) fun ⟨⟩ => ?_
 refine Lq 1 ?_
 refine Ln (Et ?_)
 refine Tb H3 (fun H5 => ?_) fun H5 => ?_
 ·refine Ts (Tr ?_)
  refine Lq 1 ?_
  refine Ln (Et (Tv (Er ?_)))
  obtain rfl := sm H5
  exact Eo1 () [] []
 refine Tk (Et (Ts (Tr ?_)))
 refine Lq 1 ?_
 obtain ⟨r6, h7, H8⟩ := bnd H5
 refine Lk [] [] (c_law01_Cut h7) fun ⟨⟩ => ?_
 refine Lq 1 ?_
 refine Ln (Et (Ts (Tr ?_)))
 obtain ⟨r9, h10, H11⟩ := bnd H8
 refine Lk [] [] (c_model_New h10) fun ⟨g12, g13, ⟨a14, c15⟩, ⟨a16, c17⟩, ⟨a18, c19⟩, g20, ⟨a21, c22⟩, ⟨a23, c24⟩, g25, g26, ⟨a27, c28⟩⟩ => ?_
 refine Lq 2 ?_
 refine La [] [] (Ac.bs (ty := tyModelEvent) (xs := [(ModelEvent.mk 0 r6 0 0)]) (.cons () [] rfl .nil) rfl rfl rfl rfl rfl rfl rfl) fun g34 => ?_
 refine L.frz 0 rfl ?_
 obtain ⟨r37, h38, H39⟩ := bnd H11
 refine Lk [] [0, 2, 3, 4, 5] (c_model_Run h38) fun ⟨g40, g41, ⟨a42, c43⟩, ⟨a44, c45⟩, ⟨a46, c47⟩, g48, ⟨a49, c50⟩, ⟨a51, c52⟩, g53, g54, ⟨a55, c56⟩⟩ => ?_
 refine Lq 2 ?_
 refine Ln (Et (Ts (Ts (Tr ?_))))
 refine Lq 1 ?_
 refine Ly (Yl.pn rfl rfl rfl rfl rfl rfl) ?_
 refine Lq 2 ?_
 refine Ly (Yl.pn rfl rfl rfl rfl rfl rfl) ?_
 refine Lq 1 ?_
 refine Ln (Et ?_)
 refine T.cond rfl (fun h => nomatch h) (fun _ => ?_)
 refine Tk (Et (Ts (Tr ?_)))
 refine Lq 2 ?_
 refine Ln (Et (Ts (Tr ?_)))
 refine Lq 1 ?_
 refine Ln (Et (Ts (Ts (Tr ?_))))
 refine Lq 1 ?_
 refine Ln (Et ?_)
 obtain ⟨y2402, H2403, H2404⟩ := bnd H39
 refine Tj (η := ModelModel × ((Option Addr × Nat) × (Option Addr × Nat) × (Option Addr × Nat) × (Option Addr × Nat) × Nat × (Option Addr × Nat))) (fun h => y2402 = .inl h.1) (fun _ => []) [5, 6] (fun h => (fun e2401 => (fun a2385 c2386 a2388 c2389 a2391 c2392 a2394 c2395 g2397 a2398 c2399 => [Ch.arr (Ty.slice tyRowGlyph) 38 a2385 c2386 e2401.book.l, Ch.arr (Ty.int .i64) 3 a2388 c2389 e2401.book.chains, Ch.arr tyRowGlyph 77 a2391 c2392 e2401.book.begun, Ch.opt (e2401.parser.state == (3 : Int)) (Ty.int .i64) 3 a2394 c2395 e2401.parser.order.nums, Ch.arr tyRowRow 99 a2398 c2399 e2401.screen.g.l, Ch.box g12 37 [.pointer (some ⟨g13, 0, none⟩), .pointer (some ⟨g20, 0, none⟩), .pointer (some ⟨g25, 0, none⟩), .int .i64 e2401.k], Ch.box g13 93 [.slice a2385 e2401.book.l.length c2386, .slice a2388 e2401.book.chains.length c2389, .slice a2391 e2401.book.begun.length c2392], Ch.box g20 85 [.int .i64 e2401.parser.state, .bool e2401.parser.order.private_, .bool e2401.parser.order.wrong, .bool e2401.parser.order.any, .bool e2401.parser.order.some, .int .i64 e2401.parser.order.n, .slice a2394 e2401.parser.order.nums.length c2395, .string e2401.parser.text, .int .u8 e2401.parser.runes.lead, .int .i32 e2401.parser.runes.rune, .int .i64 e2401.parser.runes.need, .slice none 0 0], Ch.box g25 132 [.pointer (some ⟨g2397, 0, none⟩), .int .i64 e2401.screen.spot.x, .int .i64 e2401.screen.spot.y, .int .i64 e2401.screen.spot.style.fore, .int .i64 e2401.screen.spot.style.back, .bool e2401.screen.spot.style.bold, .bool e2401.screen.spot.style.under, .bool e2401.screen.spot.style.inverse, .int .i64 e2401.screen.saved.x, .int .i64 e2401.screen.saved.y, .int .i64 e2401.screen.saved.style.fore, .int .i64 e2401.screen.saved.style.back, .bool e2401.screen.saved.style.bold, .bool e2401.screen.saved.style.under, .bool e2401.screen.saved.style.inverse, .bool e2401.screen.waiting, .int .i64 e2401.screen.top, .int .i64 e2401.screen.bottom, .bool e2401.screen.wraps, .string e2401.screen.title], Ch.box g2397 181 [.int .i64 e2401.screen.g.w, .slice a2398 e2401.screen.g.l.length c2399]]) h.2.1.1 h.2.1.2 h.2.2.1.1 h.2.2.1.2 h.2.2.2.1.1 h.2.2.2.1.2 h.2.2.2.2.1.1 h.2.2.2.2.1.2 h.2.2.2.2.2.1 h.2.2.2.2.2.2.1 h.2.2.2.2.2.2.2) h.1) [0, 1, 5, 7, 8, 2, 3, 4, 6, 9] (fun _ => []) ?_ ?_
 ·refine Tl ?_
  refine T.nil0 (Ty.int .i64) 3 ?_
  refine Tq (η := (Option Addr × Nat) × (Option Addr × Nat) × (Option Addr × Nat) × (Option Addr × Nat) × Nat × (Option Addr × Nat) × (Option Addr × Nat)) (fun s1609 h => (fun a1587 c1588 a1590 c1591 a1593 c1594 a1596 c1597 g1599 a1600 c1601 a1605 c1606 => [(7, .string s1609.2.1), (8, .slice a1605 s1609.2.2.1.length c1606), (9, .int .i64 s1609.2.2.2)]) h.1.1 h.1.2 h.2.1.1 h.2.1.2 h.2.2.1.1 h.2.2.1.2 h.2.2.2.1.1 h.2.2.2.1.2 h.2.2.2.2.1 h.2.2.2.2.2.1.1 h.2.2.2.2.2.1.2 h.2.2.2.2.2.2.1 h.2.2.2.2.2.2.2) [1, 5, 6] (fun s1609 h => (fun a1587 c1588 a1590 c1591 a1593 c1594 a1596 c1597 g1599 a1600 c1601 a1605 c1606 => [Ch.arr (Ty.slice tyRowGlyph) 38 a1587 c1588 s1609.1.book.l, Ch.arr (Ty.int .i64) 3 a1590 c1591 s1609.1.book.chains, Ch.arr tyRowGlyph 77 a1593 c1594 s1609.1.book.begun, Ch.opt (s1609.1.parser.state == (3 : Int)) (Ty.int .i64) 3 a1596 c1597 s1609.1.parser.order.nums, Ch.arr tyRowRow 99 a1600 c1601 s1609.1.screen.g.l, Ch.arr (Ty.int .i64) 3 a1605 c1606 s1609.2.2.1, Ch.box g12 37 [.pointer (some ⟨g13, 0, none⟩), .pointer (some ⟨g20, 0, none⟩), .pointer (some ⟨g25, 0, none⟩), .int .i64 s1609.1.k], Ch.box g13 93 [.slice a1587 s1609.1.book.l.length c1588, .slice a1590 s1609.1.book.chains.length c1591, .slice a1593 s1609.1.book.begun.length c1594], Ch.box g20 85 [.int .i64 s1609.1.parser.state, .bool s1609.1.parser.order.private_, .bool s1609.1.parser.order.wrong, .bool s1609.1.parser.order.any, .bool s1609.1.parser.order.some, .int .i64 s1609.1.parser.order.n, .slice a1596 s1609.1.parser.order.nums.length c1597, .string s1609.1.parser.text, .int .u8 s1609.1.parser.runes.lead, .int .i32 s1609.1.parser.runes.rune, .int .i64 s1609.1.parser.runes.need, .slice none 0 0], Ch.box g25 132 [.pointer (some ⟨g1599, 0, none⟩), .int .i64 s1609.1.screen.spot.x, .int .i64 s1609.1.screen.spot.y, .int .i64 s1609.1.screen.spot.style.fore, .int .i64 s1609.1.screen.spot.style.back, .bool s1609.1.screen.spot.style.bold, .bool s1609.1.screen.spot.style.under, .bool s1609.1.screen.spot.style.inverse, .int .i64 s1609.1.screen.saved.x, .int .i64 s1609.1.screen.saved.y, .int .i64 s1609.1.screen.saved.style.fore, .int .i64 s1609.1.screen.saved.style.back, .bool s1609.1.screen.saved.style.bold, .bool s1609.1.screen.saved.style.under, .bool s1609.1.screen.saved.style.inverse, .bool s1609.1.screen.waiting, .int .i64 s1609.1.screen.top, .int .i64 s1609.1.screen.bottom, .bool s1609.1.screen.wraps, .string s1609.1.screen.title], Ch.box g1599 181 [.int .i64 s1609.1.screen.g.w, .slice a1600 s1609.1.screen.g.l.length c1601]]) h.1.1 h.1.2 h.2.1.1 h.2.1.2 h.2.2.1.1 h.2.2.1.2 h.2.2.2.1.1 h.2.2.2.1.2 h.2.2.2.2.1 h.2.2.2.2.2.1.1 h.2.2.2.2.2.1.2 h.2.2.2.2.2.2.1 h.2.2.2.2.2.2.2) [1, 2, 6, 8, 9, 3, 4, 5, 7, 10] (fun _ _ => []) ((a14, c15), (a16, c17), (a18, c19), (a21, c22), g26, (a27, c28), (none, 0)) [13, 13, 13, 14, 16, 0, 10, 10, 10, 10, 10, 0, 0, 3, 4, 4, 0, 0, 0, 0, 0] [] H2403 ?_
  rintro k_ s1609 ⟨⟨a1587, c1588⟩, ⟨a1590, c1591⟩, ⟨a1593, c1594⟩, ⟨a1596, c1597⟩, g1599, ⟨a1600, c1601⟩, ⟨a1605, c1606⟩⟩ z2406 H2405 hag2407 hbr2408
  refine Ts (Ts (Tr ?_))
  refine Lq 2 ?_
  refine Ln (Et ?_)
  refine Tb H2405 (fun H2410 => ?_) fun H2410 => ?_
  ·refine Tk (Et (Ts (Tl (Ts (Tr ?_)))))
   refine Lq 3 ?_
   refine Ln (Et (Ts (Ts (Tr ?_))))
   refine Lq 4 ?_
   refine Ln (Et ?_)
   obtain ⟨e2814, H2815, H2816⟩ := bnd H2410
   refine Tj0 [(10, .int .i64 e2814)] [1, 5, 6, 7, 8, 9] [] [6, 7, 8, 9, 10, 11, 12, 13, 14, 15, 0, 1, 2, 3, 4, 5, 16, 17, 18, 19, 20] ?_ ?_
   ·refine Tb H2815 (fun H2817 => ?_) fun H2817 => ?_
    ·refine Tr ?_
     refine Lq 3 ?_
     obtain ⟨x2818, h2819, H2820⟩ := bnd H2817
     refine L.addr 1 rfl (idx_lt h2819) fun b2821 o2822 e2823 => ?_
     subst e2823
     refine Ly (Yl.ia h2819 rfl rfl rfl rfl rfl rfl) ?_
     refine L.el 1 rfl (idx_some h2819).2 ?_
     rintro _
     refine Lc 0 0 ?_
     refine Lq 4 ?_
     refine Ln ?_
     obtain rfl := sm H2820
     exact Eg0 [6, 6, 6, 6, 6, 6, 6, 6, 6, 6, 0, 0, 0, 0, 0, 0, 0, 0, 0, 0, 0] 1
    refine Tk ?_
    obtain rfl := sm H2817
    exact Eg0 [6, 6, 6, 6, 6, 6, 6, 6, 6, 6, 0, 0, 0, 0, 0, 0, 0, 0, 0, 0, 0] 0
   refine Ts (Tr ?_)
   refine Lq 3 ?_
   obtain ⟨_, h2825, H2826⟩ := bnd H2816
   refine Ly (Yl.sc h2825 rfl rfl rfl rfl rfl rfl) ?_
   refine Lq 1 ?_
   obtain ⟨r2827, h2828, H2829⟩ := bnd H2826
   refine Lk [0, 0, 8, 8, 8, 0, 7, 0, 0, 5] [2, 3, 4, 5] (c_model_Model_Do h2828) fun ⟨⟨a2830, c2831⟩, ⟨a2832, c2833⟩, ⟨a2834, c2835⟩, ⟨a2836, c2837⟩, ⟨a2838, c2839⟩, g2840, ⟨a2841, c2842⟩⟩ => ?_
   refine Ln (Et (Ts (Tr ?_)))
   refine Lq 2 ?_
   obtain ⟨_, h2848, H2849⟩ := bnd H2829
   refine Ly (Yl.sc h2848 rfl rfl rfl rfl rfl rfl) ?_
   refine Lq 1 ?_
   refine Ln (Et (Ts (Tr ?_)))
   refine Lq 3 ?_
   refine Lb 0 ?_
   obtain ⟨r2850, h2851, H2852⟩ := bnd H2849
   refine Lk [1, 1, 1, 1] [] (c_book_Book_Len h2851) fun ⟨⟩ => ?_
   refine Lq 1 ?_
   refine Ln (Et ?_)
   obtain ⟨y3099, H3100, H3101⟩ := bnd H2852
   refine T.joinE (η := (List Int) × ((Option Addr × Nat))) (fun h => y3099 = .inl h.1) (fun h => (fun e3098 => (fun a3095 c3096 => [(1, .slice A0 cuts.length C0), (5, .pointer (some ⟨g12, 0, none⟩)), (6, .pointer (some ⟨g40, 0, none⟩)), (7, .string (scut s1609.2.1 e2814 (s1609.2.1.size : Int))), (8, .slice a3095 e3098.length c3096), (9, .int .i64 s1609.2.2.2)]) h.2.1 h.2.2) h.1) (fun h => (fun e3098 => (fun a3095 c3096 => [Ch.arr (Ty.int .i64) 3 a3095 c3096 e3098, Ch.box g13 93 [.slice a2830 r2827.2.book.l.length c2831, .slice a2832 r2827.2.book.chains.length c2833, .slice a2834 r2827.2.book.begun.length c2835], Ch.box g12 37 [.pointer (some ⟨g13, 0, none⟩), .pointer (some ⟨g20, 0, none⟩), .pointer (some ⟨g25, 0, none⟩), .int .i64 r2827.2.k], Ch.box g20 85 [.int .i64 r2827.2.parser.state, .bool r2827.2.parser.order.private_, .bool r2827.2.parser.order.wrong, .bool r2827.2.parser.order.any, .bool r2827.2.parser.order.some, .int .i64 r2827.2.parser.order.n, .slice a2836 r2827.2.parser.order.nums.length c2837, .string r2827.2.parser.text, .int .u8 r2827.2.parser.runes.lead, .int .i32 r2827.2.parser.runes.rune, .int .i64 r2827.2.parser.runes.need, .slice none 0 0], Ch.box g25 132 [.pointer (some ⟨g2840, 0, none⟩), .int .i64 r2827.2.screen.spot.x, .int .i64 r2827.2.screen.spot.y, .int .i64 r2827.2.screen.spot.style.fore, .int .i64 r2827.2.screen.spot.style.back, .bool r2827.2.screen.spot.style.bold, .bool r2827.2.screen.spot.style.under, .bool r2827.2.screen.spot.style.inverse, .int .i64 r2827.2.screen.saved.x, .int .i64 r2827.2.screen.saved.y, .int .i64 r2827.2.screen.saved.style.fore, .int .i64 r2827.2.screen.saved.style.back, .bool r2827.2.screen.saved.style.bold, .bool r2827.2.screen.saved.style.under, .bool r2827.2.screen.saved.style.inverse, .bool r2827.2.screen.waiting, .int .i64 r2827.2.screen.top, .int .i64 r2827.2.screen.bottom, .bool r2827.2.screen.wraps, .string r2827.2.screen.title], Ch.box g2840 181 [.int .i64 r2827.2.screen.g.w, .slice a2841 r2827.2.screen.g.l.length c2842], Ch.box g40 37 [.pointer (some ⟨g41, 0, none⟩), .pointer (some ⟨g48, 0, none⟩), .pointer (some ⟨g53, 0, none⟩), .int .i64 r37.k], Ch.box g41 93 [.slice a42 r37.book.l.length c43, .slice a44 r37.book.chains.length c45, .slice a46 r37.book.begun.length c47], Ch.box g48 85 [.int .i64 r37.parser.state, .bool r37.parser.order.private_, .bool r37.parser.order.wrong, .bool r37.parser.order.any, .bool r37.parser.order.some, .int .i64 r37.parser.order.n, .slice a49 r37.parser.order.nums.length c50, .string r37.parser.text, .int .u8 r37.parser.runes.lead, .int .i32 r37.parser.runes.rune, .int .i64 r37.parser.runes.need, .slice none 0 0], Ch.box g53 132 [.pointer (some ⟨g54, 0, none⟩), .int .i64 r37.screen.spot.x, .int .i64 r37.screen.spot.y, .int .i64 r37.screen.spot.style.fore, .int .i64 r37.screen.spot.style.back, .bool r37.screen.spot.style.bold, .bool r37.screen.spot.style.under, .bool r37.screen.spot.style.inverse, .int .i64 r37.screen.saved.x, .int .i64 r37.screen.saved.y, .int .i64 r37.screen.saved.style.fore, .int .i64 r37.screen.saved.style.back, .bool r37.screen.saved.style.bold, .bool r37.screen.saved.style.under, .bool r37.screen.saved.style.inverse, .bool r37.screen.waiting, .int .i64 r37.screen.top, .int .i64 r37.screen.bottom, .bool r37.screen.wraps, .string r37.screen.title], Ch.box g54 181 [.int .i64 r37.screen.g.w, .slice a55 r37.screen.g.l.length c56], Ch.arr (Ty.slice tyRowGlyph) 38 a2830 c2831 r2827.2.book.l, Ch.arr (Ty.int .i64) 3 a2832 c2833 r2827.2.book.chains, Ch.arr tyRowGlyph 77 a2834 c2835 r2827.2.book.begun, Ch.opt (r2827.2.parser.state == (3 : Int)) (Ty.int .i64) 3 a2836 c2837 r2827.2.parser.order.nums, Ch.arr tyRowRow 99 a2841 c2842 r2827.2.screen.g.l, Ch.arr (Ty.slice tyRowGlyph) 38 a42 c43 r37.book.l, Ch.arr (Ty.int .i64) 3 a44 c45 r37.book.chains, Ch.arr tyRowGlyph 77 a46 c47 r37.book.begun, Ch.opt (r37.parser.state == (3 : Int)) (Ty.int .i64) 3 a49 c50 r37.parser.order.nums, Ch.arr tyRowRow 99 a55 c56 r37.screen.g.l]) h.2.1 h.2.2) h.1) (fun h => (fun e3098 => (fun a3095 c3096 => [Im.sl tyModelEvent (some ⟨g34, 0, none⟩) 1 [(ModelEvent.mk 0 r6 0 0)], Im.sl (Ty.int .i64) A0 C0 cuts, Im.sl tyWideSpan (some ⟨0, 0, none⟩) 13 t_wide_nones, Im.sl tyWideSpan (some ⟨1, 0, none⟩) 14 t_wide_twos, Im.sl (Ty.int .u32) (some ⟨2, 0, none⟩) 16 t_sum_half, Im.sl tyGlyphLead (some ⟨3, 0, none⟩) 8 t_glyph_leads]) h.2.1 h.2.2) h.1) ?_ ?_
   ·refine Tl ?_
    refine Tq (η := (Option Addr × Nat)) (fun s3018 h => (fun a3015 c3016 => [(8, .slice a3015 s3018.2.length c3016), (64, .int .i64 s3018.1)]) h.1 h.2) [1, 5, 6, 7, 9, 63] (fun s3018 h => (fun a3015 c3016 => [Ch.arr (Ty.int .i64) 3 a3015 c3016 s3018.2]) h.1 h.2) [0, 4, 5, 7, 8, 10, 11, 12, 13, 14, 1, 2, 3, 6, 9, 16, 17, 18, 19, 20] (fun _ _ => []) (a1605, c1606) [15, 0, 3, 3, 4, 4, 5, 5, 5, 5, 5, 0, 0, 0, 0, 0, 0, 0, 0, 0, 0] [] H3100 ?_
    rintro k_ s3018 ⟨a3015, c3016⟩ z3103 H3102 hag3104 hbr3105
    refine Ts (Tr ?_)
    refine Lq 1 ?_
    refine Ln (Et (Ts ?_))
    refine Tb H3102 (fun H3107 => ?_) fun H3107 => ?_
    ·refine Tk (Et (Ts ?_))
     obtain ⟨y3155, H3156, H3157⟩ := bnd H3107
     refine Tj (η := (List Int) × ((Option Addr × Nat))) (fun h => y3155 = .inl h.1) (fun h => (fun e3154 => (fun a3151 c3152 => [(8, .slice a3151 e3154.length c3152)]) h.2.1 h.2.2) h.1) [1, 5, 6, 7, 9, 63, 64] (fun h => (fun e3154 => (fun a3151 c3152 => [Ch.arr (Ty.int .i64) 3 a3151 c3152 e3154]) h.2.1 h.2.2) h.1) [1, 2, 3, 4, 5, 6, 7, 8, 9, 10, 11, 12, 13, 14, 15, 16, 17, 18, 19, 20] (fun _ => []) ?_ ?_
     ·refine Tl (Ts (Tr ?_))
      refine Lq 2 ?_
      refine Ln (Et (Ts (Tr ?_)))
      refine Lq 3 ?_
      refine Lb 2 ?_
      refine Lq 1 ?_
      obtain ⟨r3158, h3159, H3160⟩ := bnd H3156
      refine Lk [1, 10, 10, 10] [] (c_book_Book_Line h3159) fun ⟨a3161, c3162⟩ => ?_
      refine Lq 5 ?_
      refine Ln (Et (Ts (Tr ?_)))
      refine Lq 4 ?_
      refine Ln (Et ?_)
      refine Tb H3160 (fun H3164 => ?_) fun H3164 => ?_
      ·refine Ts (Tr ?_)
       refine Lq 2 ?_
       obtain ⟨x3165, h3166, H3167⟩ := bnd H3164
       refine L.addro 5 rfl (idx_lt h3166) fun b3168 e3169 => ?_
       subst e3169
       refine Ly (Yl.ia h3166 rfl rfl rfl rfl rfl rfl) ?_
       refine Ly (Yl.lo (v := .int .i64 x3165) 5 s3018.1.toNat 0 (idx_some h3166).2 rfl rfl rfl rfl (fun _ => rfl)) ?_
       refine Lq 3 ?_
       refine Ln (Et ?_)
       refine Tb H3167 (fun H3170 => ?_) fun H3170 => ?_
       ·refine Ts (Tr ?_)
        refine Lq 1 ?_
        refine Ln (Et (Tv (Ev ?_)))
        obtain ⟨w3171, hz, H3172⟩ := inrs_some H3170
        subst y3155
        obtain rfl := (sm H3157).symm
        refine Er (Er (Ev ?_))
        obtain ⟨w3173, hz, H3174⟩ := inrr_some H3172
        subst z3103
        have hb := hbr3105 _ rfl
        subst y3099
        obtain rfl := (sm H3101).symm
        refine Er (Ev (Er (Er (Ev ?_))))
        obtain ⟨w3175, hz, H3176⟩ := inrr_some H3174
        subst z2406
        have hb := hbr2408 _ rfl
        subst y2402
        obtain rfl := (sm H2404).symm
        refine Er ?_
        obtain rfl := sm H3176
        exact Eo1 () [] []
       refine Tk (Eb ?_)
       obtain rfl := sm H3170
       exact Eg (_, ((some ⟨b3168, 0, none⟩), c3016)) rfl [5, 1, 4, 4, 4, 4, 4, 4, 4, 4, 4, 1, 1, 1, 1, 1, 1, 1, 1, 1, 1] [] 0
      refine Tr ?_
      refine Lq 3 ?_
      refine La [] [] (Ac.bs (ty := (Ty.int .i64)) (xs := [(r3158.1.length : Int)]) (.cons () [] rfl .nil) rfl rfl rfl rfl rfl rfl rfl) fun g3177 => ?_
      refine L.frz 0 rfl ?_
      obtain ⟨_, h3180, H3181⟩ := bnd H3164
      refine La [5] [0] (Ac.ap (ty := (Ty.int .i64)) h3180 rfl rfl rfl rfl rfl rfl rfl) ?_
      rintro ⟨a3182, c3183⟩
      refine Lq 1 ?_
      refine Ln (Eb ?_)
      obtain rfl := sm H3181
      exact Eg (_, (a3182, c3183)) rfl [0, 1, 4, 4, 4, 4, 4, 4, 4, 4, 4, 1, 1, 1, 1, 1, 1, 1, 1, 1, 1] [] 1
     rintro ⟨e3154, ⟨a3151, c3152⟩⟩ hy
     subst hy
     refine Tr ?_
     refine Lq 2 ?_
     refine Ln ?_
     obtain rfl := sm H3157
     exact Eg (_, (a3151, c3152)) (hag3104 _ rfl) [0, 0, 0, 0, 0, 0, 0, 0, 0, 0, 0, 0, 0, 0, 0, 0, 0, 0, 0, 0, 0] [] 0
    refine Tx (Ex (Ex (Eh ?_)))
    obtain rfl := sm H3107
    have hb := hbr3105 _ rfl
    subst y3099
    exact Egx (_, (a3015, c3016)) rfl [0, 0, 0, 0, 0, 0, 0, 0, 0, 0, 0, 0, 0, 0, 0, 0, 0, 0, 0, 0, 0] [0, 1, 2, 3, 4, 5]
   rintro ⟨e3098, ⟨a3095, c3096⟩⟩ hy
   subst hy
   refine Eb (Et (Tr ?_))
   refine Lq 3 ?_
   refine Ln ?_
   obtain rfl := sm H3101
   exact Eg (_, ((a2830, c2831), (a2832, c2833), (a2834, c2835), (a2836, c2837), g2840, (a2841, c2842), (a3095, c3096))) (hag2407 _ rfl) [11, 11, 11, 11, 11, 0, 1, 0, 0, 0, 0, 0, 0, 0, 0, 0, 0, 0, 0, 0, 0] [] 0
  refine Tx (Ex (Ex (Eh ?_)))
  obtain rfl := sm H2410
  have hb := hbr2408 _ rfl
  subst y2402
  exact Eg (_, ((a1587, c1588), (a1590, c1591), (a1593, c1594), (a1596, c1597), g1599, (a1600, c1601))) rfl [0, 0, 0, 0, 0, 1, 1, 1, 1, 1, 1, 1, 1, 1, 1, 1, 1, 1, 1, 1] [] 0
 rintro ⟨e2401, ⟨⟨a2385, c2386⟩, ⟨a2388, c2389⟩, ⟨a2391, c2392⟩, ⟨a2394, c2395⟩, g2397, ⟨a2398, c2399⟩⟩⟩ hy
 subst hy
 refine Ts (Tr ?_)
 refine Lq 1 ?_
 obtain ⟨r3185, h3186, H3187⟩ := bnd H2404
 refine Lk [5, 5, 0, 0, 0, 2, 0, 1, 1, 0] [] (c_model_Model_Snap h3186) fun ⟨⟨a3188, c3189⟩, ⟨a3190, c3191⟩, ⟨a3192, c3193⟩⟩ => ?_
 refine Lq 1 ?_
 obtain ⟨r3201, h3202, H3203⟩ := bnd H3187
 refine Lk [10, 10, 13, 13, 13, 10, 12, 10, 10, 10] [] (c_model_Model_Snap h3202) fun ⟨⟨a3204, c3205⟩, ⟨a3206, c3207⟩, ⟨a3208, c3209⟩⟩ => ?_
 refine Ll fun g3217 => ?_
 refine Ll fun g3218 => ?_
 refine Lt 1 ?_
 refine Lt 1 ?_
 refine Ln (Et (Ts (Tr ?_)))
 refine Lq 1 ?_
 refine Lt 1 ?_
 refine Lq 1 ?_
 refine Lt 1 ?_
 refine Ln (Et (Ts ?_))
 obtain ⟨e3228, H3229, H3230⟩ := bnd H3203
 refine Tj0 [(4, .bool e3228)] [] [] [0, 1, 2, 3, 7, 9, 10, 12, 13, 17, 19, 20, 4, 5, 6, 8, 11, 14, 15, 16, 18, 21] ?_ ?_
 ·refine Tr ?_
  refine Lb 1 ?_
  refine Lb 0 ?_
  obtain ⟨r3231, h3232, H3233⟩ := bnd H3229
  refine Lk [] [2, 3, 0, 1] (c_snap_Snap_Same h3232) fun ⟨⟩ => ?_
  refine Lq 1 ?_
  refine Lw 102 H3233 (fun H3234 => ?_) fun H3234 => ?_
  ·refine Lq 1 ?_
   refine Lb 1 ?_
   refine Lq 1 ?_
   refine Lb 0 ?_
   refine Lq 3 ?_
   refine Ln ?_
   obtain rfl := sm H3234
   exact Eg0 [0, 0, 0, 0, 3, 4, 4, 5, 5, 8, 9, 9, 0, 0, 0, 0, 0, 0, 0, 0, 0, 0] 0
  refine Lq 7 ?_
  refine Ln ?_
  obtain rfl := sm H3234
  exact Eg0 [0, 0, 0, 0, 3, 4, 4, 5, 5, 8, 9, 9, 0, 0, 0, 0, 0, 0, 0, 0, 0, 0] 0
 refine Tv ?_
 obtain rfl := sm H3230
 exact Eo1 () [] []

end Go.Tw.X

set_option maxHeartbeats 2000000
set_option linter.unusedVariables false
set_option linter.unusedSimpArgs false
set_option maxRecDepth 10000
namespace Go.Tw.X
open Go Go.Tw
theorem opn9 : Opn Go.Proofs.Tryz.prog 9 Ty.str (fun s : ByteArray => s.size ≤ maxLen) := Opn.str (by kernel_rfl)
theorem opn3 : Opn Go.Proofs.Tryz.prog 3 (Ty.int .i64) (inK .i64) := Opn.int (by kernel_rfl)
theorem opn22 : Opn Go.Proofs.Tryz.prog 22 (Ty.slice (Ty.int .i64)) (fun xs : List Int => ∀ x ∈ xs, (inK .i64) x) := Opn.slice (by kernel_rfl) opn3 (by kernel_rfl) (by decide)
end Go.Tw.X

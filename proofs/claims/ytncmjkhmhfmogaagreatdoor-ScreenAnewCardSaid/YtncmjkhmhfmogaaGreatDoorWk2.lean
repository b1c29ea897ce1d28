import Derived.Test.YtncmjkhmhfmogaaGreatDoorWk1
import Derived.Test.YtncmjkhmhfmogaaGreatDoorFw2
set_option maxHeartbeats 2000000
set_option linter.unusedVariables false
set_option linter.unusedSimpArgs false
set_option maxRecDepth 10000
namespace Go.Tw.X
open Go Go.Tw
variable {A0 A1 A2 : Option Addr} {C0 C1 C2 : Nat}
variable {N0 N1 N2 N3 N4 : Nat}
theorem c_ref09_Resize {r_ : Ref09Row} {w : Int} {r : Ref09Row} (H : p_ref09_Resize r_ w = some r) : CT G 125 [.agg #[.slice A0 r_.l.length C0, .bool r_.wrapped], .int .i64 w] [] [Im.sl tyRef09Cell A0 C0 r_.l] (fun h : (Option Addr × Nat) => .agg #[.slice h.1 r.l.length h.2, .bool r.wrapped]) (fun h => []) (fun h => [Im.sl tyRef09Cell h.1 h.2 r.l]) := by
 delta p_ref09_Resize at H
 refine CT.of Go.Proofs.Tryz.func125 (by kernel_rfl) rfl rfl rfl fun K => ?_
 refine Ts (Tr ?_)
 refine Lx fun g1 => ?_
 refine Ll fun g2 => ?_
 refine Ln (Et (Ts (Tr ?_)))
 refine Lq 1 ?_
 obtain ⟨r3, h4, H5⟩ := bnd H
 refine Lk [] [] (c_ref09_near h4) fun ⟨⟩ => ?_
 refine Lq 1 ?_
 refine Ln (Et (Ts (Ts (Tr ?_))))
 refine Lq 2 ?_
 refine Lb 1 ?_
 refine Lq 2 ?_
 refine Ln (Et ?_)
 refine Tb H5 (fun H7 => ?_) fun H7 => ?_
 ·refine Ts (Tr ?_)
  refine Lb 1 ?_
  refine Lt 0 ?_
  refine Ln (Et (Tv (Er ?_)))
  obtain rfl := sm H7
  exact Eo (A0, C0) [] [0] (.cell 0 rfl rfl rfl .nil)
 refine Tk (Et (Ts (Tr ?_)))
 refine La [] [] (Ac.bs (ty := tyRef09Cell) (xs := []) .nil rfl rfl rfl rfl rfl rfl rfl) fun g8 => ?_
 refine Lq 1 ?_
 refine Lb 2 ?_
 refine Lq 2 ?_
 refine Lb 2 ?_
 refine Lq 2 ?_
 obtain ⟨_, h10, H11⟩ := bnd H7
 refine L.rs 0 h10 rfl rfl rfl rfl rfl rfl rfl rfl rfl rfl rfl rfl ?_
 intro a12 c13
 obtain ⟨_, h15, H16⟩ := bnd H11
 refine La [0] [0] (Ac.ap (ty := tyRef09Cell) h15 rfl rfl rfl rfl rfl rfl rfl) ?_
 rintro ⟨a17, c18⟩
 refine Lq 1 ?_
 refine Ln (Et (Ts (Tr ?_)))
 refine Lq 5 ?_
 obtain ⟨r20, h21, H22⟩ := bnd H16
 refine Lk [] [] (c_ref09_Blank h21) fun ⟨a23, c24⟩ => ?_
 refine Lq 1 ?_
 obtain ⟨_, h26, H27⟩ := bnd H22
 refine La [0] [0] (Ac.ap (ty := tyRef09Cell) h26 rfl rfl rfl rfl rfl rfl rfl) ?_
 rintro ⟨a28, c29⟩
 refine L.frz 0 rfl ?_
 obtain ⟨r32, h33, H34⟩ := bnd H27
 refine Lk [] [0] (c_ref09_mend h33) fun ⟨a35, c36⟩ => ?_
 refine Lt 0 ?_
 refine Ln (Et (Tv ?_))
 obtain rfl := sm H34
 exact Eo (a35, c36) [] [0] (.cell 0 rfl rfl rfl .nil)

theorem c_ref10_Set {g : Ref10Grid} {y : Int} {r_ : Ref09Row} {r : Ref10Grid × Bool} (H : p_ref10_Set g y r_ = some r) : CT G 121 [.agg #[.int .i64 g.w, .slice A0 g.l.length C0], .int .i64 y, .agg #[.slice A1 r_.l.length C1, .bool r_.wrapped]] [] [Im.sl tyRef09Row A0 C0 g.l, Im.sl tyRef09Cell A1 C1 r_.l] (fun h : (Option Addr × Nat) => .tuple #[.agg #[.int .i64 r.1.w, .slice h.1 r.1.l.length h.2], .bool r.2]) (fun h => []) (fun h => [Im.sl tyRef09Row h.1 h.2 r.1.l]) := by
 delta p_ref10_Set at H
 refine CT.of Go.Proofs.Tryz.func121 (by kernel_rfl) rfl rfl rfl fun K => ?_
 refine Ts (Tr ?_)
 refine Lx fun g1 => ?_
 refine Lx fun g2 => ?_
 refine Ll fun g3 => ?_
 refine Lq 1 ?_
 refine Ln (Et (Ts (Ts ?_)))
 obtain ⟨e7, H8, H9⟩ := bnd H
 refine Tj0 [(17, .bool e7)] [1, 3, 5, 6] [] [0, 1, 2] ?_ ?_
 ·refine Tr ?_
  refine Lq 3 ?_
  refine Lw 11 H8 (fun H10 => ?_) fun H10 => ?_
  ·refine Lq 6 ?_
   refine Ln ?_
   obtain rfl := sm H10
   exact Eg0 [0, 0, 0] 0
  refine Lq 2 ?_
  refine Lb 2 ?_
  refine Lq 3 ?_
  refine Ln ?_
  obtain rfl := sm H10
  exact Eg0 [0, 0, 0] 0
 refine Tb H9 (fun H12 => ?_) fun H12 => ?_
 ·refine Ts (Tr ?_)
  refine Lb 2 ?_
  refine Lt 0 ?_
  refine Lq 1 ?_
  refine Ln (Et (Tv (Er ?_)))
  obtain rfl := sm H12
  exact Eo (A0, C0) [] [0] (.cell 0 rfl rfl rfl (.tmp rfl .nil))
 refine Tk (Et (Ts (Tr ?_)))
 refine La [] [] (Ac.bs (ty := tyRef09Row) (xs := []) .nil rfl rfl rfl rfl rfl rfl rfl) fun g13 => ?_
 refine Lq 1 ?_
 refine Lb 3 ?_
 obtain ⟨_, h15, H16⟩ := bnd H12
 refine La [0] [0] (Ac.ap (ty := tyRef09Row) h15 rfl rfl rfl rfl rfl rfl rfl) ?_
 rintro ⟨a17, c18⟩
 refine Lq 1 ?_
 refine Ln (Et (Ts (Tr ?_)))
 refine Lq 2 ?_
 refine Lb 2 ?_
 refine Lq 1 ?_
 refine Lb 3 ?_
 obtain ⟨r20, h21, H22⟩ := bnd H16
 refine Lk [] [1] (c_ref09_Resize h21) fun ⟨a23, c24⟩ => ?_
 obtain ⟨x26, h27, H28⟩ := bnd H22
 refine L.addro 0 rfl (idx_lt h27) fun b29 e30 => ?_
 subst e30
 refine Ly (Yl.ia h27 rfl rfl rfl rfl rfl rfl) ?_
 refine La [0] [0] (Ac.se 0 r20 (idx_some h27).2 rfl rfl rfl rfl rfl rfl (fun _ => ⟨(a23, c24), rfl, [1], rfl⟩)) fun _ => ?_
 refine L.sl 8 (k' := ((([] : List Ref09Row) ++ g.l).set y.toNat r20).length) (List.length_set ..) rfl ?_
 refine Ln (Et (Ts (Tr ?_)))
 refine Lq 1 ?_
 refine Lb 3 ?_
 refine Lq 2 ?_
 refine Lt 1 ?_
 refine Lq 1 ?_
 refine Ln (Et (Tv ?_))
 refine E.frz 1 rfl ?_
 obtain rfl := sm H28
 exact Eo ((some ⟨b29, 0, none⟩), c18) [] [0] (.cell 0 rfl rfl rfl (.tmp rfl .nil))

theorem c_ref11_set {s_ : Ref11Screen} {r_ : Ref09Row} {r : Ref11Screen} (H : p_ref11_set s_ r_ = some r) : CT G 81 [.agg (bx31 s_ A0 C0).toArray, .agg #[.slice A1 r_.l.length C1, .bool r_.wrapped]] [] [Im.sl tyRef09Row A0 C0 s_.g.l, Im.sl tyRef09Cell A1 C1 r_.l] (fun h : (Option Addr × Nat) => .agg (bx31 r h.1 h.2).toArray) (fun h => []) (fun h => [Im.sl tyRef09Row h.1 h.2 r.g.l]) := by
 delta p_ref11_set at H
 refine CT.of Go.Proofs.Tryz.func81 (by kernel_rfl) rfl rfl rfl fun K => ?_
 refine Ts (Tr ?_)
 refine Lx fun g1 => ?_
 refine Lx fun g2 => ?_
 refine Ll fun g3 => ?_
 refine Ln (Et (Ts (Tr ?_)))
 refine Lq 1 ?_
 refine Lb 2 ?_
 refine Lq 1 ?_
 refine Lb 2 ?_
 refine Lb 1 ?_
 obtain ⟨r4, h5, H6⟩ := bnd H
 refine Lk [] [0, 1] (c_ref10_Set h5) fun ⟨a7, c8⟩ => ?_
 refine Lq 4 ?_
 refine Lt 2 ?_
 refine Ln (Et (Ts (Tr ?_)))
 refine Lb 0 ?_
 refine Lt 1 ?_
 refine Ln (Et (Tv ?_))
 obtain rfl := sm H6
 exact Eo (a7, c8) [] [0] (.cell 0 rfl rfl rfl .nil)

theorem c_ref10_Move {g : Ref10Grid} {up : Bool} {top : Int} {bottom : Int} {n_ : Int} {style : Int} {r : Ref10Grid × (List Ref09Row)} (H : p_ref10_Move g up top bottom n_ style = some r) : CT G 39 [.agg #[.int .i64 g.w, .slice A0 g.l.length C0], .bool up, .int .i64 top, .int .i64 bottom, .int .i64 n_, .int .i64 style] [] [Im.sl tyRef09Row A0 C0 g.l] (fun h : (Option Addr × Nat) × (Option Addr × Nat) => .tuple #[.agg #[.int .i64 r.1.w, .slice h.1.1 r.1.l.length h.1.2], .slice h.2.1 r.2.length h.2.2]) (fun h => [Ch.arr tyRef09Row 69 h.2.1 h.2.2 r.2]) (fun h => [Im.sl tyRef09Row h.1.1 h.1.2 r.1.l]) := by
 delta p_ref10_Move at H
 refine CT.of Go.Proofs.Tryz.func39 (by kernel_rfl) rfl rfl rfl fun K => ?_
 refine Ts (Tr ?_)
 refine Lx fun g1 => ?_
 refine Ll fun g2 => ?_
 refine Lq 1 ?_
 refine Ln (Et (Ts (Tr ?_)))
 refine Lq 1 ?_
 refine Lb 1 ?_
 refine Lq 3 ?_
 refine Ln (Et (Ts (Tr ?_)))
 refine Lq 5 ?_
 refine Ln (Et (Ts (Tr ?_)))
 refine Lq 5 ?_
 refine Ln (Et (Ts (Tr ?_)))
 refine La [] [] (Ac.bs (ty := tyRef09Row) (xs := []) .nil rfl rfl rfl rfl rfl rfl rfl) fun g3 => ?_
 refine Lq 1 ?_
 refine Ln (Et (Ts (Ts (Tr ?_))))
 refine Lq 3 ?_
 refine Ln (Et ?_)
 refine Tb H (fun H6 => ?_) fun H6 => ?_
 ·refine Ts (Tr ?_)
  refine Lb 2 ?_
  refine Lq 1 ?_
  refine Lt 1 ?_
  refine Lq 1 ?_
  refine Ln (Et (Tv (Er ?_)))
  obtain rfl := sm H6
  exact Eo ((A0, C0), ((some ⟨g3, 0, none⟩), 0)) [1] [0] (.cell 0 rfl rfl rfl (.tmp rfl .nil))
 refine Tk (Et (Ts (Tr ?_)))
 refine La [] [] (Ac.bs (ty := tyRef09Row) (xs := []) .nil rfl rfl rfl rfl rfl rfl rfl) fun g7 => ?_
 refine Lq 1 ?_
 refine Lb 3 ?_
 obtain ⟨_, h9, H10⟩ := bnd H6
 refine La [0] [0] (Ac.ap (ty := tyRef09Row) h9 rfl rfl rfl rfl rfl rfl rfl) ?_
 rintro ⟨a11, c12⟩
 refine Lq 1 ?_
 refine Ln (Et (Ts (Tr ?_)))
 refine Lq 1 ?_
 refine Lb 3 ?_
 refine Lq 1 ?_
 obtain ⟨r14, h15, H16⟩ := bnd H10
 refine Lk [] [] (c_ref09_Blank h15) fun ⟨a17, c18⟩ => ?_
 refine Ll fun g20 => ?_
 refine Lt 0 ?_
 refine Ln (Et (Ts (Ts (Tr ?_))))
 refine Lq 1 ?_
 refine Ln (Et ?_)
 obtain ⟨e2398, H2399, H2400⟩ := bnd H16
 refine Tjh (η := (Option Addr × Nat)) (fun h => (fun a2393 c2394 => [(15, .slice a2393 e2398.1.length c2394), (16, .slice a11 e2398.2.length c12)]) h.1 h.2) [6, 12] (fun h => (fun a2393 c2394 => [Ch.arr tyRef09Row 69 a2393 c2394 e2398.1, Ch.arr tyRef09Row 69 a11 c12 e2398.2]) h.1 h.2) [0, 3, 4] (fun _ => []) ?_ ?_
 ·refine Tl ?_
  refine Tq (η := (Option Addr × Nat)) (fun s1608 h => (fun a1602 c1603 => [(15, .slice a1602 s1608.1.length c1603), (16, .slice a11 s1608.2.1.length c12), (18, .int .i64 s1608.2.2)]) h.1 h.2) [1, 2, 3, 4, 6, 12, 17] (fun s1608 h => (fun a1602 c1603 => [Ch.arr tyRef09Row 69 a1602 c1603 s1608.1, Ch.arr tyRef09Row 69 a11 c12 s1608.2.1]) h.1 h.2) [0, 3, 4] (fun _ _ => []) ((some ⟨g3, 0, none⟩), 0) [2, 1, 0, 0, 0] [] H2399 ?_
  rintro k_ s1608 ⟨a1602, c1603⟩ z2402 H2401 hag2403 hbr2404
  refine Ts (Ts ?_)
  obtain ⟨e2408, H2409, H2410⟩ := bnd H2401
  refine Tj0 [(56, .bool e2408)] [1, 2, 3, 4, 6, 12, 15, 16, 17, 18] [] [2, 3, 4, 0, 1] ?_ ?_
  ·refine Tr ?_
   refine Lq 4 ?_
   refine Lw 50 H2409 (fun H2411 => ?_) fun H2411 => ?_
   ·refine Lq 6 ?_
    refine Ln ?_
    obtain rfl := sm H2411
    exact Eg0 [2, 2, 2, 0, 0] 0
   refine Lq 6 ?_
   refine Ln ?_
   obtain rfl := sm H2411
   exact Eg0 [2, 2, 2, 0, 0] 0
  refine Tb H2410 (fun H2413 => ?_) fun H2413 => ?_
  ·refine Tk (Et (Ts ?_))
   obtain ⟨e2930, H2931, H2932⟩ := bnd H2413
   refine Tjh (η := (Option Addr × Nat)) (fun h => (fun a2925 c2926 => [(15, .slice a2925 e2930.1.length c2926), (16, .slice a11 e2930.2.length c12)]) h.1 h.2) [1, 2, 3, 4, 6, 12, 17, 18] (fun h => (fun a2925 c2926 => [Ch.arr tyRef09Row 69 a2925 c2926 e2930.1, Ch.arr tyRef09Row 69 a11 c12 e2930.2]) h.1 h.2) [0, 1, 2] (fun _ => []) ?_ ?_
   ·refine Tl (Ts (Tr ?_))
    refine Lq 1 ?_
    refine Ln (Et ?_)
    refine Tb H2931 (fun H2933 => ?_) fun H2933 => ?_
    ·refine Ts (Tr ?_)
     refine Lq 3 ?_
     obtain ⟨x2934, h2935, H2936⟩ := bnd H2933
     refine L.addro 4 rfl (idx_lt h2935) fun b2937 e2938 => ?_
     subst e2938
     refine Ly (Yl.ia h2935 rfl rfl rfl rfl rfl rfl) ?_
     refine La [4] [] (Ac.lo ((imax 0 (imin top (IntKind.i64.wrap ((g.l.length : Int) - 1)))).toNat) 0 (v := (fun h : (Option Addr × Nat) => (fun a2939 c2940 => .agg #[.slice a2939 x2934.l.length c2940, .bool x2934.wrapped]) h.1 h.2)) (idx_some h2935).2 rfl rfl rfl (fun _ => rfl)) ?_
     rintro ⟨a2939, c2940⟩
     refine La [] [0] (Ac.bs (ty := tyRef09Row) (xs := [x2934]) (.cons (a2939, c2940) [0] rfl .nil) rfl rfl rfl rfl rfl rfl rfl) fun g2942 => ?_
     refine L.frz 0 rfl ?_
     obtain ⟨_, h2945, H2946⟩ := bnd H2936
     refine La [4] [0] (Ac.ap (ty := tyRef09Row) h2945 rfl rfl rfl rfl rfl rfl rfl) ?_
     rintro ⟨a2947, c2948⟩
     refine Lq 1 ?_
     refine Ln (Et (Ts (Ts (Tr ?_))))
     refine Lq 2 ?_
     refine Ln (Et ?_)
     obtain ⟨e3028, H3029, H3030⟩ := bnd H2946
     refine Tj0 [(16, .slice (some ⟨b2937, 0, none⟩) e3028.length c12)] [1, 2, 3, 4, 6, 12, 15, 17, 18] [Ch.arr tyRef09Row 69 (some ⟨b2937, 0, none⟩) c12 e3028] [2, 3, 4, 0] ?_ ?_
     ·refine Tl ?_
      refine Tq (η := Unit) (fun s3003 h => [(16, .slice (some ⟨b2937, 0, none⟩) s3003.1.length c12), (19, .int .i64 s3003.2)]) [1, 2, 3, 4, 6, 12, 15, 17, 18] (fun s3003 h => [Ch.arr tyRef09Row 69 (some ⟨b2937, 0, none⟩) c12 s3003.1]) [2, 3, 4, 0] (fun _ _ => []) () [1, 1, 1, 1, 0] [] H3029 ?_
      rintro k_ s3003 ⟨⟩ z3032 H3031 hag3033 hbr3034
      refine Ts (Ts (Tr ?_))
      refine Lq 3 ?_
      refine Ln (Et ?_)
      refine Tb H3031 (fun H3036 => ?_) fun H3036 => ?_
      ·refine Tk (Et (Ts (Tl (Tr ?_))))
       refine Lq 5 ?_
       obtain ⟨x3047, h3048, H3049⟩ := bnd H3036
       refine Ly (Yl.ia h3048 rfl rfl rfl rfl rfl rfl) ?_
       refine La [0] [] (Ac.lo ((IntKind.i64.wrap (s3003.2 + 1)).toNat) 0 (v := (fun h : (Option Addr × Nat) => (fun a3050 c3051 => .agg #[.slice a3050 x3047.l.length c3051, .bool x3047.wrapped]) h.1 h.2)) (idx_some h3048).2 rfl rfl rfl (fun _ => rfl)) ?_
       rintro ⟨a3050, c3051⟩
       obtain ⟨x3053, h3054, H3055⟩ := bnd H3049
       refine Ly (Yl.ia h3054 rfl rfl rfl rfl rfl rfl) ?_
       refine La [0] [0] (Ac.se 0 x3047 (idx_some h3054).2 rfl rfl rfl rfl rfl rfl (fun _ => ⟨(a3050, c3051), rfl, [1], rfl⟩)) fun _ => ?_
       refine L.sl 16 (k' := (s3003.1.set s3003.2.toNat x3047).length) (List.length_set ..) rfl ?_
       refine Ln (Eb (Et (Tr ?_)))
       refine Lq 3 ?_
       refine Ln ?_
       obtain rfl := sm H3055
       exact Eg (_, ()) (hag3033 _ rfl) [0, 0, 0, 0, 0] [] 1
      refine Tx (Ex (Ex (Eh ?_)))
      obtain rfl := sm H3036
      have hb := hbr3034 _ rfl
      subst e3028
      exact Eg0 [0, 0, 0, 0, 0] 0
     refine Tr ?_
     refine Lq 2 ?_
     refine Lb 1 ?_
     obtain ⟨x3057, h3058, H3059⟩ := bnd H3030
     refine Ly (Yl.ia h3058 rfl rfl rfl rfl rfl rfl) ?_
     refine La [0] [2] (Ac.se 0 r14 (idx_some h3058).2 rfl rfl rfl rfl rfl rfl (fun _ => ⟨(a17, c18), rfl, [1], rfl⟩)) fun _ => ?_
     refine L.sl 16 (k' := (e3028.set ((imax 0 (imin bottom (IntKind.i64.wrap ((g.l.length : Int) - 1)))).toNat) r14).length) (List.length_set ..) rfl ?_
     refine Ln (Eb ?_)
     obtain rfl := sm H3059
     exact Eg (a2947, c2948) trivial [4, 0, 0, 0, 0] [] 2
    refine Ts (Tr ?_)
    refine Lq 3 ?_
    obtain ⟨x3061, h3062, H3063⟩ := bnd H2933
    refine L.addro 4 rfl (idx_lt h3062) fun b3064 e3065 => ?_
    subst e3065
    refine Ly (Yl.ia h3062 rfl rfl rfl rfl rfl rfl) ?_
    refine La [4] [] (Ac.lo ((imax 0 (imin bottom (IntKind.i64.wrap ((g.l.length : Int) - 1)))).toNat) 0 (v := (fun h : (Option Addr × Nat) => (fun a3066 c3067 => .agg #[.slice a3066 x3061.l.length c3067, .bool x3061.wrapped]) h.1 h.2)) (idx_some h3062).2 rfl rfl rfl (fun _ => rfl)) ?_
    rintro ⟨a3066, c3067⟩
    refine La [] [0] (Ac.bs (ty := tyRef09Row) (xs := [x3061]) (.cons (a3066, c3067) [0] rfl .nil) rfl rfl rfl rfl rfl rfl rfl) fun g3069 => ?_
    refine L.frz 0 rfl ?_
    obtain ⟨_, h3072, H3073⟩ := bnd H3063
    refine La [4] [0] (Ac.ap (ty := tyRef09Row) h3072 rfl rfl rfl rfl rfl rfl rfl) ?_
    rintro ⟨a3074, c3075⟩
    refine Lq 1 ?_
    refine Ln (Et (Ts (Ts (Tr ?_))))
    refine Lq 2 ?_
    refine Ln (Et ?_)
    obtain ⟨e3155, H3156, H3157⟩ := bnd H3073
    refine Tj0 [(16, .slice (some ⟨b3064, 0, none⟩) e3155.length c12)] [1, 2, 3, 4, 6, 12, 15, 17, 18] [Ch.arr tyRef09Row 69 (some ⟨b3064, 0, none⟩) c12 e3155] [2, 3, 4, 0] ?_ ?_
    ·refine Tl ?_
     refine Tq (η := Unit) (fun s3130 h => [(16, .slice (some ⟨b3064, 0, none⟩) s3130.1.length c12), (20, .int .i64 s3130.2)]) [1, 2, 3, 4, 6, 12, 15, 17, 18] (fun s3130 h => [Ch.arr tyRef09Row 69 (some ⟨b3064, 0, none⟩) c12 s3130.1]) [2, 3, 4, 0] (fun _ _ => []) () [1, 1, 1, 1, 0] [] H3156 ?_
     rintro k_ s3130 ⟨⟩ z3159 H3158 hag3160 hbr3161
     refine Ts (Ts (Tr ?_))
     refine Lq 3 ?_
     refine Ln (Et ?_)
     refine Tb H3158 (fun H3163 => ?_) fun H3163 => ?_
     ·refine Tk (Et (Ts (Tl (Tr ?_))))
      refine Lq 5 ?_
      obtain ⟨x3174, h3175, H3176⟩ := bnd H3163
      refine Ly (Yl.ia h3175 rfl rfl rfl rfl rfl rfl) ?_
      refine La [0] [] (Ac.lo ((IntKind.i64.wrap (s3130.2 - 1)).toNat) 0 (v := (fun h : (Option Addr × Nat) => (fun a3177 c3178 => .agg #[.slice a3177 x3174.l.length c3178, .bool x3174.wrapped]) h.1 h.2)) (idx_some h3175).2 rfl rfl rfl (fun _ => rfl)) ?_
      rintro ⟨a3177, c3178⟩
      obtain ⟨x3180, h3181, H3182⟩ := bnd H3176
      refine Ly (Yl.ia h3181 rfl rfl rfl rfl rfl rfl) ?_
      refine La [0] [0] (Ac.se 0 x3174 (idx_some h3181).2 rfl rfl rfl rfl rfl rfl (fun _ => ⟨(a3177, c3178), rfl, [1], rfl⟩)) fun _ => ?_
      refine L.sl 16 (k' := (s3130.1.set s3130.2.toNat x3174).length) (List.length_set ..) rfl ?_
      refine Ln (Eb (Et (Tr ?_)))
      refine Lq 3 ?_
      refine Ln ?_
      obtain rfl := sm H3182
      exact Eg (_, ()) (hag3160 _ rfl) [0, 0, 0, 0, 0] [] 1
     refine Tx (Ex (Ex (Eh ?_)))
     obtain rfl := sm H3163
     have hb := hbr3161 _ rfl
     subst e3155
     exact Eg0 [0, 0, 0, 0, 0] 0
    refine Tr ?_
    refine Lq 2 ?_
    refine Lb 1 ?_
    obtain ⟨x3184, h3185, H3186⟩ := bnd H3157
    refine Ly (Yl.ia h3185 rfl rfl rfl rfl rfl rfl) ?_
    refine La [0] [2] (Ac.se 0 r14 (idx_some h3185).2 rfl rfl rfl rfl rfl rfl (fun _ => ⟨(a17, c18), rfl, [1], rfl⟩)) fun _ => ?_
    refine L.sl 16 (k' := (e3155.set ((imax 0 (imin top (IntKind.i64.wrap ((g.l.length : Int) - 1)))).toNat) r14).length) (List.length_set ..) rfl ?_
    refine Ln (Eb ?_)
    obtain rfl := sm H3186
    exact Eg (a3074, c3075) trivial [4, 0, 0, 0, 0] [] 2
   rintro ⟨a2925, c2926⟩
   refine Tr ?_
   refine Lq 3 ?_
   refine Ln ?_
   obtain rfl := sm H2932
   exact Eg (_, (a2925, c2926)) (hag2403 _ rfl) [0, 0, 0, 0, 0] [] 0
  refine Tx (Ex (Ex (Eh ?_)))
  obtain rfl := sm H2413
  have hb := hbr2404 _ rfl
  subst e2398
  exact Eg (a1602, c1603) trivial [3, 3, 0, 0, 0] [] 0
 rintro ⟨a2393, c2394⟩
 refine Ts (Tr ?_)
 refine Lq 1 ?_
 refine Lb 4 ?_
 refine Lq 3 ?_
 refine Lt 3 ?_
 refine Lq 1 ?_
 refine Ln (Et (Tv ?_))
 refine E.frz 2 rfl ?_
 obtain rfl := sm H2400
 exact Eo ((a11, c12), (a2393, c2394)) [1] [0] (.cell 0 rfl rfl rfl (.tmp rfl .nil))

theorem c_ref11_scroll {s_ : Ref11Screen} {n_ : Int} {r : Ref11Screen × (List Ref09Row)} (H : p_ref11_scroll s_ n_ = some r) : CT G 84 [.agg (bx31 s_ A0 C0).toArray, .int .i64 n_] [] [Im.sl tyRef09Row A0 C0 s_.g.l] (fun h : (Option Addr × Nat) × (Option Addr × Nat) => .tuple #[.agg (bx31 r.1 h.1.1 h.1.2).toArray, .slice h.2.1 r.2.length h.2.2]) (fun h => [Ch.arr tyRef09Row 69 h.2.1 h.2.2 r.2]) (fun h => [Im.sl tyRef09Row h.1.1 h.1.2 r.1.g.l]) := by
 delta p_ref11_scroll at H
 refine CT.of Go.Proofs.Tryz.func84 (by kernel_rfl) rfl rfl rfl fun K => ?_
 refine Ts (Tr ?_)
 refine Lx fun g1 => ?_
 refine Ll fun g2 => ?_
 refine Lq 1 ?_
 refine Ln (Et (Ts ?_))
 refine Td [15] [0, 0] mo ?_
 refine Dq 0 ?_
 refine Db 1 1 ?_
 refine Dq 2 ?_
 refine Db 3 1 ?_
 refine Dq 4 ?_
 refine Db 5 1 ?_
 refine Dq 6 ?_
 refine Dq 7 ?_
 refine Db 8 1 ?_
 refine DF.of rfl ?_
 obtain ⟨r42, h43, H44⟩ := bnd H
 refine DF.add _ (FSp.ac 9 [] (Ac.call (c_ref08_Num h43) rfl rfl rfl rfl) rfl rfl rfl rfl rfl) rfl ?_
 refine DF.add _ (FSp.ac 14 [] (Ac.alloc rfl rfl) rfl rfl rfl rfl rfl) rfl ?_
 refine DF.step 10 rfl rfl rfl rfl rfl ?_
 refine DFp.use 1 rfl rfl rfl ?_
 rintro ⟨⟩
 obtain ⟨r46, h47, H48⟩ := bnd H44
 refine DFp.a [] [0] (Ac.call (c_ref10_Move h47) rfl rfl rfl rfl) rfl rfl rfl rfl rfl rfl rfl rfl ?_
 rintro ⟨⟨a49, c50⟩, ⟨a51, c52⟩⟩
 refine DF.add _ (FSp.q 11 rfl rfl rfl rfl rfl) rfl ?_
 refine DF.add _ (FSp.dep 0 rfl rfl fun _ => FSp.q 12 rfl rfl rfl rfl rfl) rfl ?_
 refine DF.add _ (FSp.dep 1 rfl rfl fun _ => FSp.q 13 rfl rfl rfl rfl rfl) rfl ?_
 refine DF.step 15 rfl rfl rfl rfl rfl ?_
 refine DFp.use 1 rfl rfl rfl ?_
 intro _
 refine DFp.use 1 rfl rfl rfl ?_
 intro _
 refine DFp.use 1 rfl rfl rfl ?_
 intro g45
 refine DFp.alf [2] [] (Ac.stb rfl rfl rfl rfl rfl rfl) rfl (fo_cons (FSp.q 13 rfl rfl rfl rfl rfl) (fo_nil)) rfl rfl rfl rfl rfl rfl rfl rfl ?_
 intro _
 refine DF.add _ (FSp.dep 0 rfl rfl fun _ => FSp.q 16 rfl rfl rfl rfl rfl) rfl ?_
 refine DF.fin rfl rfl rfl rfl rfl ?_
 refine DFe.use ?_
 intro _
 refine DFe.use ?_
 intro _
 refine DFe.nil ?_
 refine Et (Ts (Tr ?_))
 refine Lb 0 ?_
 refine Lq 1 ?_
 refine Lt 2 ?_
 refine Ln (Et (Ts (Ts (Tr ?_))))
 refine Lq 1 ?_
 refine Lb 0 ?_
 refine Lq 1 ?_
 refine Ln (Et ?_)
 refine Tb H48 (fun H56 => ?_) fun H56 => ?_
 ·refine Ts (Tr ?_)
  refine Lb 0 ?_
  refine Lt 2 ?_
  refine Lq 1 ?_
  refine Ln (Et (Tv (Er ?_)))
  refine E.nil0 tyRef09Row 69 ?_
  obtain rfl := sm H56
  exact Eo ((a49, c50), (none, 0)) [0] [0] (.cell 1 rfl rfl rfl (.tmp rfl .nil))
 refine Tk (Et (Ts (Tr ?_)))
 refine Lb 0 ?_
 refine Lq 1 ?_
 refine Lt 2 ?_
 refine Lq 1 ?_
 refine Ln (Et (Tv ?_))
 obtain rfl := sm H56
 exact Eo ((a49, c50), (a51, c52)) [3] [0] (.cell 0 rfl rfl rfl (.tmp rfl .nil))

theorem c_ref11_place {s_ : Ref11Screen} {x_ : Int} {y : Int} {r : Ref11Screen} (H : p_ref11_place s_ x_ y = some r) : CT G 37 [.agg (bx31 s_ A0 C0).toArray, .int .i64 x_, .int .i64 y] [] [Im.sl tyRef09Row A0 C0 s_.g.l] (fun _ : Unit => .agg (bx31 r A0 C0).toArray) (fun h => []) (fun h => [Im.sl tyRef09Row A0 C0 r.g.l]) := by
 delta p_ref11_place at H
 refine CT.of Go.Proofs.Tryz.func37 (by kernel_rfl) rfl rfl rfl fun K => ?_
 refine Ts (Tr ?_)
 refine Lx fun g1 => ?_
 refine Ll fun g2 => ?_
 refine Ln (Et (Ts (Tr ?_)))
 refine Lq 3 ?_
 refine Lb 1 ?_
 refine Lq 4 ?_
 refine Lt 1 ?_
 refine Ln (Et (Ts (Tr ?_)))
 refine Lq 3 ?_
 refine Lb 0 ?_
 refine Lq 5 ?_
 refine Lt 0 ?_
 refine Ln (Et (Ts (Tr ?_)))
 refine Lq 1 ?_
 refine Lt 0 ?_
 refine Ln (Et (Ts (Tr ?_)))
 refine Lb 0 ?_
 refine Lt 1 ?_
 refine Ln (Et (Tv ?_))
 obtain rfl := sm H
 exact Eo () [] [0] (.cell 0 rfl rfl rfl .nil)

theorem c_ref11_line {s_ : Ref11Screen} {r : Ref11Screen × (List Ref09Row)} (H : p_ref11_line s_ = some r) : CT G 38 [.agg (bx31 s_ A0 C0).toArray] [] [Im.sl tyRef09Row A0 C0 s_.g.l] (fun h : (Option Addr × Nat) × (Option Addr × Nat) => .tuple #[.agg (bx31 r.1 h.1.1 h.1.2).toArray, .slice h.2.1 r.2.length h.2.2]) (fun h => [Ch.arr tyRef09Row 69 h.2.1 h.2.2 r.2]) (fun h => [Im.sl tyRef09Row h.1.1 h.1.2 r.1.g.l]) := by
 delta p_ref11_line at H
 refine CT.of Go.Proofs.Tryz.func38 (by kernel_rfl) rfl rfl rfl fun K => ?_
 refine Ts (Tr ?_)
 refine Lx fun g1 => ?_
 refine Ll fun g2 => ?_
 refine Lq 1 ?_
 refine Ln (Et (Ts (Tr ?_)))
 refine Lq 1 ?_
 refine Lt 1 ?_
 refine Ln (Et (Ts (Ts (Tr ?_))))
 refine Lq 1 ?_
 refine Lb 0 ?_
 refine Lq 1 ?_
 refine Lb 0 ?_
 refine Lq 1 ?_
 refine Ln (Et ?_)
 refine Tb H (fun H13 => ?_) fun H13 => ?_
 ·refine Ts (Tr ?_)
  refine Lb 0 ?_
  obtain ⟨r14, h15, H16⟩ := bnd H13
  refine Lk [] [0] (c_ref11_scroll h15) fun ⟨⟨a17, c18⟩, ⟨a19, c20⟩⟩ => ?_
  refine Lq 2 ?_
  refine Lt 2 ?_
  refine Lq 1 ?_
  refine Ln (Et (Tv (Er ?_)))
  obtain rfl := sm H16
  exact Eo ((a17, c18), (a19, c20)) [1] [0] (.cell 0 rfl rfl rfl (.tmp rfl .nil))
 refine Tk (Et (Ts (Tr ?_)))
 refine Lb 0 ?_
 refine Lq 1 ?_
 refine Lb 0 ?_
 refine Lq 1 ?_
 refine Lb 0 ?_
 refine Lq 1 ?_
 obtain ⟨r23, h24, H25⟩ := bnd H13
 refine Lk [] [0] (c_ref11_place h24) fun ⟨⟩ => ?_
 refine Lt 1 ?_
 refine Lq 1 ?_
 refine Ln (Et (Tv ?_))
 refine E.nil0 tyRef09Row 69 ?_
 obtain rfl := sm H25
 exact Eo ((A0, C0), (none, 0)) [0] [0] (.cell 1 rfl rfl rfl (.tmp rfl .nil))

theorem c_ref09_Fill {r_ : Ref09Row} {style : Int} {r : Ref09Row} (H : p_ref09_Fill r_ style = some r) : CT G 82 [.agg #[.slice A0 r_.l.length C0, .bool r_.wrapped], .int .i64 style] [] [Im.sl tyRef09Cell A0 C0 r_.l] (fun h : (Option Addr × Nat) => .agg #[.slice h.1 r.l.length h.2, .bool r.wrapped]) (fun h => []) (fun h => [Im.sl tyRef09Cell h.1 h.2 r.l]) := by
 delta p_ref09_Fill at H
 refine CT.of Go.Proofs.Tryz.func82 (by kernel_rfl) rfl rfl rfl fun K => ?_
 refine Ts (Tr ?_)
 refine Lx fun g1 => ?_
 refine Ll fun g2 => ?_
 refine Ln (Et (Ts (Tr ?_)))
 refine La [] [] (Ac.bs (ty := tyRef09Cell) (xs := []) .nil rfl rfl rfl rfl rfl rfl rfl) fun g3 => ?_
 refine Lq 1 ?_
 refine Lb 2 ?_
 obtain ⟨_, h5, H6⟩ := bnd H
 refine La [0] [0] (Ac.ap (ty := tyRef09Cell) h5 rfl rfl rfl rfl rfl rfl rfl) ?_
 rintro ⟨a7, c8⟩
 refine Lq 1 ?_
 refine Ln (Et (Ts (Ts (Tr ?_))))
 refine Lq 3 ?_
 refine Ln (Et ?_)
 obtain ⟨e26, H27, H28⟩ := bnd H6
 refine Tj0 [(5, .slice a7 e26.length c8)] [4] [Ch.arr tyRef09Cell 109 a7 c8 e26] [1, 2] ?_ ?_
 ·refine Tb H27 (fun H29 => ?_) fun H29 => ?_
  ·refine Tr ?_
   refine Lq 6 ?_
   obtain ⟨x30, h31, H32⟩ := bnd H29
   refine L.addro 0 rfl (idx_lt h31) fun b33 e34 => ?_
   subst e34
   refine Ly (Yl.ia h31 rfl rfl rfl rfl rfl rfl) ?_
   refine La [0] [] (Ac.se 0 (Ref09Cell.mk 32 style 3) (idx_some h31).2 rfl rfl rfl rfl rfl rfl (fun _ => ⟨(), rfl, [], rfl⟩)) fun _ => ?_
   refine L.sl 5 (k' := ((([] : List Ref09Cell) ++ r_.l).set ((IntKind.i64.wrap (((([] : List Ref09Cell) ++ r_.l).length : Int) - 1)).toNat) (Ref09Cell.mk 32 style 3)).length) (List.length_set ..) rfl ?_
   refine Ln ?_
   obtain rfl := sm H32
   exact Eg0 [0, 0, 0] 0
  refine Tk ?_
  obtain rfl := sm H29
  exact Eg0 [0, 0, 0] 0
 refine Ts (Tr ?_)
 refine Lq 1 ?_
 refine L.frz 0 rfl ?_
 obtain ⟨r37, h38, H39⟩ := bnd H28
 refine Lk [] [0] (c_ref09_mend h38) fun ⟨a40, c41⟩ => ?_
 refine Ll fun g43 => ?_
 refine Lt 0 ?_
 refine Ln (Et (Ts (Tr ?_)))
 refine Lq 1 ?_
 refine Lt 0 ?_
 refine Ln (Et (Ts (Tr ?_)))
 refine Lb 0 ?_
 refine Lt 1 ?_
 refine Ln (Et (Tv ?_))
 obtain rfl := sm H39
 exact Eo (a40, c41) [] [0] (.cell 0 rfl rfl rfl .nil)

theorem c_ref09_Put {r_ : Ref09Row} {at_ : Int} {x_ : Int} {style : Int} {r : Ref09Row} (H : p_ref09_Put r_ at_ x_ style = some r) : CT G 83 [.agg #[.slice A0 r_.l.length C0, .bool r_.wrapped], .int .i64 at_, .int .i64 x_, .int .i64 style] [] [Im.sl tyRef09Cell A0 C0 r_.l] (fun h : (Option Addr × Nat) => .agg #[.slice h.1 r.l.length h.2, .bool r.wrapped]) (fun h => []) (fun h => [Im.sl tyRef09Cell h.1 h.2 r.l]) := by
 delta p_ref09_Put at H
 refine CT.of Go.Proofs.Tryz.func83 (by kernel_rfl) rfl rfl rfl fun K => ?_
 refine Ts (Tr ?_)
 refine Lx fun g1 => ?_
 refine Ll fun g2 => ?_
 refine Ln (Et (Ts (Tr ?_)))
 refine Lq 1 ?_
 obtain ⟨r3, h4, H5⟩ := bnd H
 refine Lk [] [] (c_ref06_Of h4) fun ⟨⟩ => ?_
 refine Lq 1 ?_
 refine Ln (Et (Ts (Ts ?_)))
 obtain ⟨e11, H12, H13⟩ := bnd H5
 refine Tj0 [(27, .bool e11)] [1, 2, 3, 4, 8, 9] [] [0, 1] ?_ ?_
 ·refine Tr ?_
  refine Lq 3 ?_
  refine Lw 15 H12 (fun H14 => ?_) fun H14 => ?_
  ·refine Lq 12 ?_
   refine Ln ?_
   obtain rfl := sm H14
   exact Eg0 [0, 0] 0
  refine Lq 4 ?_
  refine Lw 19 H14 (fun H15 => ?_) fun H15 => ?_
  ·refine Lq 8 ?_
   refine Ln ?_
   obtain rfl := sm H15
   exact Eg0 [0, 0] 0
  refine Lq 2 ?_
  refine Lb 1 ?_
  refine Lq 5 ?_
  refine Ln ?_
  obtain rfl := sm H15
  exact Eg0 [0, 0] 0
 refine Tb H13 (fun H23 => ?_) fun H23 => ?_
 ·refine Ts (Tr ?_)
  refine Lq 1 ?_
  refine Lb 1 ?_
  obtain ⟨r24, h25, H26⟩ := bnd H23
  refine Lk [] [0] (c_ref09_mend h25) fun ⟨a27, c28⟩ => ?_
  refine Lt 0 ?_
  refine Ln (Et (Tv (Er ?_)))
  obtain rfl := sm H26
  exact Eo (a27, c28) [] [0] (.cell 0 rfl rfl rfl .nil)
 refine Tk (Et (Ts (Tr ?_)))
 refine La [] [] (Ac.bs (ty := tyRef09Cell) (xs := []) .nil rfl rfl rfl rfl rfl rfl rfl) fun g30 => ?_
 refine Lq 1 ?_
 refine Lb 2 ?_
 obtain ⟨_, h32, H33⟩ := bnd H23
 refine La [0] [0] (Ac.ap (ty := tyRef09Cell) h32 rfl rfl rfl rfl rfl rfl rfl) ?_
 rintro ⟨a34, c35⟩
 refine Lq 1 ?_
 refine Ln (Et (Ts (Tr ?_)))
 refine Lq 5 ?_
 obtain ⟨x37, h38, H39⟩ := bnd H33
 refine L.addro 0 rfl (idx_lt h38) fun b40 e41 => ?_
 subst e41
 refine Ly (Yl.ia h38 rfl rfl rfl rfl rfl rfl) ?_
 refine La [0] [] (Ac.se 0 (Ref09Cell.mk x_ style 0) (idx_some h38).2 rfl rfl rfl rfl rfl rfl (fun _ => ⟨(), rfl, [], rfl⟩)) fun _ => ?_
 refine L.sl 10 (k' := ((([] : List Ref09Cell) ++ r_.l).set at_.toNat (Ref09Cell.mk x_ style 0)).length) (List.length_set ..) rfl ?_
 refine Ln (Et (Ts (Ts (Tr ?_))))
 refine Lq 2 ?_
 refine Ln (Et ?_)
 obtain ⟨e111, H112, H113⟩ := bnd H39
 refine Tj0 [(10, .slice (some ⟨b40, 0, none⟩) e111.length c35)] [8] [Ch.arr tyRef09Cell 109 (some ⟨b40, 0, none⟩) c35 e111] [1, 2] ?_ ?_
 ·refine Tb H112 (fun H114 => ?_) fun H114 => ?_
  ·refine Ts (Tr ?_)
   refine Lq 5 ?_
   obtain ⟨x115, h116, H117⟩ := bnd H114
   refine Ly (Yl.ia h116 rfl rfl rfl rfl rfl rfl) ?_
   refine La [0] [] (Ac.se 0 (Ref09Cell.mk x_ style 1) (idx_some h116).2 rfl rfl rfl rfl rfl rfl (fun _ => ⟨(), rfl, [], rfl⟩)) fun _ => ?_
   refine L.sl 10 (k' := (((([] : List Ref09Cell) ++ r_.l).set at_.toNat (Ref09Cell.mk x_ style 0)).set at_.toNat (Ref09Cell.mk x_ style 1)).length) (List.length_set ..) rfl ?_
   refine Ln (Et (Ts (Tr ?_)))
   refine Lq 6 ?_
   obtain ⟨x119, h120, H121⟩ := bnd H117
   refine Ly (Yl.ia h120 rfl rfl rfl rfl rfl rfl) ?_
   refine La [0] [] (Ac.se 0 (Ref09Cell.mk x_ style 2) (idx_some h120).2 rfl rfl rfl rfl rfl rfl (fun _ => ⟨(), rfl, [], rfl⟩)) fun _ => ?_
   refine L.sl 10 (k' := ((((([] : List Ref09Cell) ++ r_.l).set at_.toNat (Ref09Cell.mk x_ style 0)).set at_.toNat (Ref09Cell.mk x_ style 1)).set ((IntKind.i64.wrap (at_ + 1)).toNat) (Ref09Cell.mk x_ style 2)).length) (List.length_set ..) rfl ?_
   refine Ln (Et (Ts ?_))
   obtain ⟨e132, H133, H134⟩ := bnd H121
   refine Tj0 [(66, .bool e132)] [1, 8, 10] [] [1, 2, 0] ?_ ?_
   ·refine Tr ?_
    refine Lq 3 ?_
    refine Lw 58 H133 (fun H135 => ?_) fun H135 => ?_
    ·refine Lq 3 ?_
     obtain ⟨x136, h137, H138⟩ := bnd H135
     refine Ly (Yl.ia h137 rfl rfl rfl rfl rfl rfl) ?_
     refine Lq 1 ?_
     refine Ly (Yl.lo (v := .int .i64 x136.part) 0 ((IntKind.i64.wrap (at_ - 1)).toNat) 2 (idx_some h137).2 rfl rfl rfl rfl (fun _ => rfl)) ?_
     refine Lq 2 ?_
     refine Ln ?_
     obtain rfl := sm H138
     exact Eg0 [1, 1, 0] 0
    refine Lq 8 ?_
    refine Ln ?_
    obtain rfl := sm H135
    exact Eg0 [1, 1, 0] 0
   refine Tb H134 (fun H139 => ?_) fun H139 => ?_
   ·refine Tr ?_
    refine Lq 6 ?_
    obtain ⟨x140, h141, H142⟩ := bnd H139
    refine Ly (Yl.ia h141 rfl rfl rfl rfl rfl rfl) ?_
    refine Lq 1 ?_
    refine Ly (Yl.lo (v := .int .i64 x140.style) 2 ((IntKind.i64.wrap (at_ - 1)).toNat) 1 (idx_some h141).2 rfl rfl rfl rfl (fun _ => rfl)) ?_
    refine Lq 1 ?_
    obtain ⟨x143, h144, H145⟩ := bnd H142
    refine Ly (Yl.ia h144 rfl rfl rfl rfl rfl rfl) ?_
    refine La [2] [] (Ac.se 0 (Ref09Cell.mk 32 x140.style 0) (idx_some h144).2 rfl rfl rfl rfl rfl rfl (fun _ => ⟨(), rfl, [], rfl⟩)) fun _ => ?_
    refine L.sl 10 (k' := (((((([] : List Ref09Cell) ++ r_.l).set at_.toNat (Ref09Cell.mk x_ style 0)).set at_.toNat (Ref09Cell.mk x_ style 1)).set ((IntKind.i64.wrap (at_ + 1)).toNat) (Ref09Cell.mk x_ style 2)).set ((IntKind.i64.wrap (at_ - 1)).toNat) (Ref09Cell.mk 32 x140.style 0)).length) (List.length_set ..) rfl ?_
    refine Ln ?_
    obtain rfl := sm H145
    exact Eg0 [0, 0, 0] 0
   refine Tk ?_
   obtain rfl := sm H139
   exact Eg0 [2, 0, 0] 0
  refine Tk ?_
  obtain rfl := sm H114
  exact Eg0 [0, 0, 0] 0
 refine Ts (Tr ?_)
 refine Lq 1 ?_
 refine L.frz 0 rfl ?_
 obtain ⟨r148, h149, H150⟩ := bnd H113
 refine Lk [] [0] (c_ref09_mend h149) fun ⟨a151, c152⟩ => ?_
 refine Lt 0 ?_
 refine Ln (Et (Tv ?_))
 obtain rfl := sm H150
 exact Eo (a151, c152) [] [0] (.cell 0 rfl rfl rfl .nil)

theorem c_ref11_show {s_ : Ref11Screen} {r_ : Int} {r : Ref11Screen × (List Ref09Row)} (H : p_ref11_show s_ r_ = some r) : CT G 36 [.agg (bx31 s_ A0 C0).toArray, .int .i64 r_] [] [Im.sl tyRef09Row A0 C0 s_.g.l] (fun h : (Option Addr × Nat) × (Option Addr × Nat) => .tuple #[.agg (bx31 r.1 h.1.1 h.1.2).toArray, .slice h.2.1 r.2.length h.2.2]) (fun h => [Ch.arr tyRef09Row 69 h.2.1 h.2.2 r.2]) (fun h => [Im.sl tyRef09Row h.1.1 h.1.2 r.1.g.l]) := by
 delta p_ref11_show at H
 refine CT.of Go.Proofs.Tryz.func36 (by kernel_rfl) rfl rfl rfl fun K => ?_
 refine Ts (Tr ?_)
 refine Lx fun g1 => ?_
 refine Ll fun g2 => ?_
 refine Lq 1 ?_
 refine Ln (Et (Ts (Tr ?_)))
 refine Lq 1 ?_
 obtain ⟨r3, h4, H5⟩ := bnd H
 refine Lk [] [] (c_ref06_Of h4) fun ⟨⟩ => ?_
 refine Lq 1 ?_
 refine Ln (Et (Ts (Ts ?_)))
 obtain ⟨e9, H10, H11⟩ := bnd H5
 refine Tj0 [(24, .bool e9)] [1, 2, 4, 6] [] [0, 1] ?_ ?_
 ·refine Tr ?_
  refine Lq 3 ?_
  refine Lw 18 H10 (fun H12 => ?_) fun H12 => ?_
  ·refine Lq 6 ?_
   refine Ln ?_
   obtain rfl := sm H12
   exact Eg0 [0, 0] 0
  refine Lq 3 ?_
  refine Lb 1 ?_
  refine Lq 2 ?_
  refine Ln ?_
  obtain rfl := sm H12
  exact Eg0 [0, 0] 0
 refine Tb H11 (fun H14 => ?_) fun H14 => ?_
 ·refine Ts (Tr ?_)
  refine Lb 1 ?_
  refine Lt 0 ?_
  refine Lq 1 ?_
  refine Ln (Et (Tv (Er ?_)))
  refine E.nil0 tyRef09Row 69 ?_
  obtain rfl := sm H14
  exact Eo ((A0, C0), (none, 0)) [0] [0] (.cell 1 rfl rfl rfl (.tmp rfl .nil))
 refine Tk (Et (Ts (Tr ?_)))
 refine Lq 1 ?_
 refine Lb 1 ?_
 obtain ⟨r16, h17, H18⟩ := bnd H14
 refine Lk [] [] (c_ref08_Num h17) fun ⟨⟩ => ?_
 refine Lq 1 ?_
 refine Ln (Et (Ts (Tr ?_)))
 refine La [] [] (Ac.bs (ty := tyRef09Row) (xs := []) .nil rfl rfl rfl rfl rfl rfl rfl) fun g19 => ?_
 refine Lq 1 ?_
 refine Ln (Et (Ts (Ts ?_)))
 obtain ⟨e24, H25, H26⟩ := bnd H18
 refine Tj0 [(35, .bool e24)] [1, 2, 4, 6, 7, 8] [] [1, 2, 0] ?_ ?_
 ·refine Tr ?_
  refine Lq 1 ?_
  refine Lb 2 ?_
  refine Lq 1 ?_
  refine Lw 32 H25 (fun H27 => ?_) fun H27 => ?_
  ·refine Lq 1 ?_
   refine Lb 2 ?_
   refine Lq 1 ?_
   refine Ln ?_
   obtain rfl := sm H27
   exact Eg0 [1, 1, 0] 0
  refine Lq 3 ?_
  refine Ln ?_
  obtain rfl := sm H27
  exact Eg0 [1, 1, 0] 0
 obtain ⟨e104, H105, H106⟩ := bnd H26
 refine Tjh (η := (Option Addr × Nat) × (Option Addr × Nat)) (fun h => (fun a97 c98 a101 c102 => [(8, .slice a97 e104.1.length c98)]) h.1.1 h.1.2 h.2.1 h.2.2) [1, 2, 4, 6, 7] (fun h => (fun a97 c98 a101 c102 => [Ch.arr tyRef09Row 69 a97 c98 e104.1, Ch.box g1 31 (bx31 e104.2 a101 c102)]) h.1.1 h.1.2 h.2.1 h.2.2) [0] (fun h => (fun a97 c98 a101 c102 => [Im.sl tyRef09Row a101 c102 e104.2.g.l]) h.1.1 h.1.2 h.2.1 h.2.2) ?_ ?_
 ·refine Tb H105 (fun H107 => ?_) fun H107 => ?_
  ·refine Ts (Tr ?_)
   refine Lq 2 ?_
   refine Lb 1 ?_
   refine Lq 1 ?_
   refine Lb 1 ?_
   obtain ⟨x108, h109, H110⟩ := bnd H107
   refine L.addr 0 rfl (idx_lt h109) fun b111 o112 e113 => ?_
   subst e113
   refine Ly (Yl.ia h109 rfl rfl rfl rfl rfl rfl) ?_
   refine L.el 0 rfl (idx_some h109).2 ?_
   rintro ⟨a114, c115⟩
   refine Lc 0 0 ?_
   refine Ll fun g118 => ?_
   refine Lt 0 ?_
   refine Ln (Et (Ts (Tr ?_)))
   refine Lq 1 ?_
   refine Lt 0 ?_
   refine Ln (Et (Ts (Tr ?_)))
   refine Lb 2 ?_
   refine Lb 0 ?_
   obtain ⟨r119, h120, H121⟩ := bnd H110
   refine Lk [] [2, 1] (c_ref11_set h120) fun ⟨a122, c123⟩ => ?_
   refine Lt 2 ?_
   refine Ln (Et (Ts (Tr ?_)))
   refine Lq 1 ?_
   refine Lt 0 ?_
   refine Ln (Et (Ts (Tr ?_)))
   refine Lb 0 ?_
   obtain ⟨r125, h126, H127⟩ := bnd H121
   refine Lk [] [0] (c_ref11_line h126) fun ⟨⟨a128, c129⟩, ⟨a130, c131⟩⟩ => ?_
   refine Lq 3 ?_
   refine Ll fun g134 => ?_
   refine Lt 0 ?_
   refine Lq 1 ?_
   refine Ln (Et (Ts (Tr ?_)))
   refine Lb 0 ?_
   refine Lt 2 ?_
   refine Ln (Et (Tr ?_))
   refine Lq 2 ?_
   refine L.frz 2 rfl ?_
   obtain ⟨_, h136, H137⟩ := bnd H127
   refine La [4] [0] (Ac.ap (ty := tyRef09Row) h136 rfl rfl rfl rfl rfl rfl rfl) ?_
   rintro ⟨a138, c139⟩
   refine Lq 1 ?_
   refine Ln ?_
   obtain rfl := sm H137
   exact Eg ((a138, c139), (a128, c129)) trivial [0, 0, 2] [1] 5
  refine Tk ?_
  obtain rfl := sm H107
  exact Eg (((some ⟨g19, 0, none⟩), 0), (A0, C0)) trivial [2, 1, 0] [0] 0
 rintro ⟨⟨a97, c98⟩, ⟨a101, c102⟩⟩
 refine Ts (Ts ?_)
 obtain ⟨e144, H145, H146⟩ := bnd H106
 refine Tj0 [(67, .bool e144)] [1, 2, 4, 6, 7, 8] [] [1, 2, 0] ?_ ?_
 ·refine Tr ?_
  refine Lq 3 ?_
  refine Lw 59 H145 (fun H147 => ?_) fun H147 => ?_
  ·refine Lq 1 ?_
   refine Lb 1 ?_
   refine Lq 2 ?_
   refine Lb 1 ?_
   refine Lq 3 ?_
   refine Ln ?_
   obtain rfl := sm H147
   exact Eg0 [1, 1, 0] 0
  refine Lq 8 ?_
  refine Ln ?_
  obtain rfl := sm H147
  exact Eg0 [1, 1, 0] 0
 obtain ⟨e368, H369, H370⟩ := bnd H146
 refine Tjh (η := (Option Addr × Nat) × (Option Addr × Nat)) (fun h => (fun a361 c362 a365 c366 => [(8, .slice a361 e368.1.length c362)]) h.1.1 h.1.2 h.2.1 h.2.2) [1, 2, 4, 6, 7] (fun h => (fun a361 c362 a365 c366 => [Ch.arr tyRef09Row 69 a361 c362 e368.1, Ch.box g1 31 (bx31 e368.2 a365 c366)]) h.1.1 h.1.2 h.2.1 h.2.2) [1] (fun h => (fun a361 c362 a365 c366 => [Im.sl tyRef09Row a365 c366 e368.2.g.l]) h.1.1 h.1.2 h.2.1 h.2.2) ?_ ?_
 ·refine Tb H369 (fun H371 => ?_) fun H371 => ?_
  ·refine Ts (Tr ?_)
   refine Lq 1 ?_
   refine Lb 0 ?_
   refine Ln (Et ?_)
   refine Tb H371 (fun H372 => ?_) fun H372 => ?_
   ·refine Ts ?_
    refine Td [11] [0, 0, 0] mo ?_
    refine Db 0 0 ?_
    refine Dq 1 ?_
    refine Dq 2 ?_
    refine Db 3 0 ?_
    refine Dq 4 ?_
    refine Db 5 0 ?_
    obtain ⟨x439, h440, H441⟩ := bnd H372
    refine D.addr 0 rfl (idx_lt h440) fun b442 o443 e444 => ?_
    subst e444
    refine Dy 6 (Yl.ia h440 rfl rfl rfl rfl rfl rfl) ?_
    refine D.el 0 rfl (idx_some h440).2 ?_
    rintro ⟨a445, c446⟩
    refine Dy 7 (Yl.ldc 0 0 rfl rfl rfl rfl) ?_
    refine Dq 8 ?_
    obtain ⟨r449, h450, H451⟩ := bnd H441
    refine Dk [] [1] (c_ref09_Fill h450) fun ⟨a452, c453⟩ => ?_
    obtain ⟨r455, h456, H457⟩ := bnd H451
    refine Dk [] [3, 0] (c_ref11_set h456) fun ⟨a458, c459⟩ => ?_
    refine Dt 0 ?_
    refine Dn ?_
    refine Et (Ts (Tr ?_))
    refine Lq 1 ?_
    refine Lt 0 ?_
    refine Ln (Et (Ts (Tr ?_)))
    refine Lb 0 ?_
    obtain ⟨r461, h462, H463⟩ := bnd H457
    refine Lk [] [0] (c_ref11_line h462) fun ⟨⟨a464, c465⟩, ⟨a466, c467⟩⟩ => ?_
    refine Lq 3 ?_
    refine Ll fun g470 => ?_
    refine Lt 0 ?_
    refine Lq 1 ?_
    refine Ln (Et (Ts (Tr ?_)))
    refine Lb 0 ?_
    refine Lt 2 ?_
    refine Ln (Et (Tr ?_))
    refine Lq 2 ?_
    refine L.frz 2 rfl ?_
    obtain ⟨_, h472, H473⟩ := bnd H463
    refine La [3] [0] (Ac.ap (ty := tyRef09Row) h472 rfl rfl rfl rfl rfl rfl rfl) ?_
    rintro ⟨a474, c475⟩
    refine Lq 1 ?_
    refine Ln ?_
    obtain rfl := sm H473
    exact Eg ((a474, c475), (a464, c465)) trivial [0, 0, 1] [1] 6
   refine Tr ?_
   refine Lq 1 ?_
   refine Lb 0 ?_
   refine Lq 2 ?_
   refine Lt 0 ?_
   refine Ln ?_
   obtain rfl := sm H372
   exact Eg ((a97, c98), (a101, c102)) trivial [2, 0, 0] [0] 0
  refine Tk ?_
  obtain rfl := sm H371
  exact Eg ((a97, c98), (a101, c102)) trivial [2, 0, 0] [0] 0
 rintro ⟨⟨a361, c362⟩, ⟨a365, c366⟩⟩
 refine Ts ?_
 refine Td [14] [0, 0, 0] mo ?_
 refine Db 0 1 ?_
 refine Dq 1 ?_
 refine Dq 2 ?_
 refine Db 3 1 ?_
 refine Dq 4 ?_
 refine Db 5 1 ?_
 obtain ⟨x543, h544, H545⟩ := bnd H370
 refine D.addr 0 rfl (idx_lt h544) fun b546 o547 e548 => ?_
 subst e548
 refine Dy 6 (Yl.ia h544 rfl rfl rfl rfl rfl rfl) ?_
 refine D.el 0 rfl (idx_some h544).2 ?_
 rintro ⟨a549, c550⟩
 refine Dy 7 (Yl.ldc 0 0 rfl rfl rfl rfl) ?_
 refine Dq 8 ?_
 refine Db 9 1 ?_
 refine Dq 10 ?_
 refine Dq 11 ?_
 obtain ⟨r553, h554, H555⟩ := bnd H545
 refine Dk [] [1] (c_ref09_Put h554) fun ⟨a556, c557⟩ => ?_
 obtain ⟨r559, h560, H561⟩ := bnd H555
 refine Dk [] [3, 0] (c_ref11_set h560) fun ⟨a562, c563⟩ => ?_
 refine Dt 1 ?_
 refine Dn ?_
 refine Et (Ts (Tr ?_))
 refine Lq 1 ?_
 refine Lb 0 ?_
 refine Lq 3 ?_
 refine Lt 0 ?_
 refine Ln (Et (Ts (Tr ?_)))
 refine Lq 1 ?_
 refine Lb 0 ?_
 refine Lq 2 ?_
 refine Lb 0 ?_
 refine Lq 2 ?_
 refine Lt 0 ?_
 refine Ln (Et (Ts (Ts (Tr ?_))))
 refine Lq 1 ?_
 refine Lb 0 ?_
 refine Ln (Et ?_)
 obtain ⟨e569, H570, H571⟩ := bnd H561
 refine Tjh (η := Unit) (fun _ => []) [2, 4, 8] (fun h => [Ch.box g1 31 (bx31 e569 a562 c563)]) [2, 1] (fun h => [Im.sl tyRef09Row a562 c563 e569.g.l]) ?_ ?_
 ·refine Tb H570 (fun H572 => ?_) fun H572 => ?_
  ·refine Tr ?_
   refine Lq 1 ?_
   refine Lb 0 ?_
   refine Lq 2 ?_
   refine Lt 0 ?_
   refine Ln ?_
   obtain rfl := sm H572
   exact Eg () trivial [0, 1, 0] [0] 0
  refine Tk ?_
  obtain rfl := sm H572
  exact Eg () trivial [0, 1, 0] [0] 0
 rintro ⟨⟩
 refine Ts (Tr ?_)
 refine Lb 0 ?_
 refine Lq 1 ?_
 refine Lt 1 ?_
 refine Lq 1 ?_
 refine Ln (Et (Tv ?_))
 obtain rfl := sm H571
 exact Eo ((a562, c563), (a361, c362)) [2] [0] (.cell 0 rfl rfl rfl (.tmp rfl .nil))

theorem c_ref11_num {l : List Int} {i : Int} {d : Int} {r : Int} (H : p_ref11_num l i d = some r) : CT G 42 [.slice A0 l.length C0, .int .i64 i, .int .i64 d] [] [Im.sl (Ty.int .i64) A0 C0 l] (fun _ : Unit => .int .i64 r) (fun h => []) (fun h => []) := by
 delta p_ref11_num at H
 refine CT.of Go.Proofs.Tryz.func42 (by kernel_rfl) rfl rfl rfl fun K => ?_
 refine Ts (Tr ?_)
 refine Lq 1 ?_
 refine Ln (Et (Ts (Ts ?_)))
 obtain ⟨e18, H19, H20⟩ := bnd H
 refine Tj0 [(17, .bool e18)] [0, 1, 2] [] [] ?_ ?_
 ·refine Tr ?_
  refine Lq 5 ?_
  refine Lw 11 H19 (fun H21 => ?_) fun H21 => ?_
  ·refine Lq 2 ?_
   obtain ⟨x22, h23, H24⟩ := bnd H21
   refine L.addr 0 rfl (idx_lt h23) fun b25 o26 e27 => ?_
   subst e27
   refine Ly (Yl.ia h23 rfl rfl rfl rfl rfl rfl) ?_
   refine L.el 0 rfl (idx_some h23).2 ?_
   rintro _
   refine Lc 0 0 ?_
   refine Lq 2 ?_
   refine Ln ?_
   obtain rfl := sm H24
   exact Eg0 [] 1
  refine Lq 6 ?_
  refine Ln ?_
  obtain rfl := sm H21
  exact Eg0 [] 0
 refine Tb H20 (fun H37 => ?_) fun H37 => ?_
 ·refine Ts (Tr ?_)
  refine Lq 2 ?_
  obtain ⟨x38, h39, H40⟩ := bnd H37
  refine L.addr 0 rfl (idx_lt h39) fun b41 o42 e43 => ?_
  subst e43
  refine Ly (Yl.ia h39 rfl rfl rfl rfl rfl rfl) ?_
  refine L.el 0 rfl (idx_some h39).2 ?_
  rintro _
  refine Lc 0 0 ?_
  refine Lq 2 ?_
  refine Ln (Et (Tv (Er ?_)))
  obtain rfl := sm H40
  exact Eo1 () [] []
 refine Tk (Et (Ts (Tr ?_)))
 refine Lq 2 ?_
 refine Ln (Et (Tv ?_))
 obtain rfl := sm H37
 exact Eo1 () [] []

theorem c_ref09_Erase {r_ : Ref09Row} {from_ : Int} {to : Int} {style : Int} {r : Ref09Row} (H : p_ref09_Erase r_ from_ to style = some r) : CT G 122 [.agg #[.slice A0 r_.l.length C0, .bool r_.wrapped], .int .i64 from_, .int .i64 to, .int .i64 style] [] [Im.sl tyRef09Cell A0 C0 r_.l] (fun h : (Option Addr × Nat) => .agg #[.slice h.1 r.l.length h.2, .bool r.wrapped]) (fun h => []) (fun h => [Im.sl tyRef09Cell h.1 h.2 r.l]) := by
 delta p_ref09_Erase at H
 refine CT.of Go.Proofs.Tryz.func122 (by kernel_rfl) rfl rfl rfl fun K => ?_
 refine Ts (Tr ?_)
 refine Lx fun g1 => ?_
 refine Ll fun g2 => ?_
 refine Ln (Et (Ts (Tr ?_)))
 refine La [] [] (Ac.bs (ty := tyRef09Cell) (xs := []) .nil rfl rfl rfl rfl rfl rfl rfl) fun g3 => ?_
 refine Lq 1 ?_
 refine Lb 2 ?_
 obtain ⟨_, h5, H6⟩ := bnd H
 refine La [0] [0] (Ac.ap (ty := tyRef09Cell) h5 rfl rfl rfl rfl rfl rfl rfl) ?_
 rintro ⟨a7, c8⟩
 refine Lq 1 ?_
 refine Ln (Et (Ts (Ts (Tr ?_))))
 refine Lq 3 ?_
 refine Ln (Et ?_)
 obtain ⟨e169, H170, H171⟩ := bnd H6
 refine Tj0 [(9, .slice a7 e169.length c8)] [8] [Ch.arr tyRef09Cell 109 a7 c8 e169] [1, 2] ?_ ?_
 ·refine Tl ?_
  refine Tq (η := Unit) (fun s117 h => [(9, .slice a7 s117.2.length c8), (17, .int .i64 s117.1)]) [1, 2, 3, 8, 16] (fun s117 h => [Ch.arr tyRef09Cell 109 a7 c8 s117.2]) [1, 2] (fun _ _ => []) () [0, 0, 0] [] H170 ?_
  rintro k_ s117 ⟨⟩ z173 H172 hag174 hbr175
  refine Ts (Tr ?_)
  refine Lq 1 ?_
  refine Ln (Et (Ts ?_))
  refine Tb H172 (fun H177 => ?_) fun H177 => ?_
  ·refine Tk (Et (Ts ?_))
   obtain ⟨e208, H209, H210⟩ := bnd H177
   refine Tj0 [(9, .slice a7 e208.length c8)] [1, 2, 3, 8, 16, 17] [Ch.arr tyRef09Cell 109 a7 c8 e208] [1, 2] ?_ ?_
   ·refine Tl (Ts (Tr ?_))
    refine Lq 2 ?_
    refine Ln (Et (Ts ?_))
    obtain ⟨e214, H215, H216⟩ := bnd H209
    refine Tj0 [(27, .bool e214)] [1, 2, 3, 8, 9, 10, 16, 17] [] [1, 2, 0] ?_ ?_
    ·refine Tr ?_
     refine Lq 4 ?_
     refine Lw 23 H215 (fun H217 => ?_) fun H217 => ?_
     ·refine Lq 4 ?_
      refine Ln ?_
      obtain rfl := sm H217
      exact Eg0 [1, 1, 0] 0
     refine Lq 4 ?_
     refine Ln ?_
     obtain rfl := sm H217
     exact Eg0 [1, 1, 0] 0
    refine Tb H216 (fun H218 => ?_) fun H218 => ?_
    ·refine Tr ?_
     refine Lq 4 ?_
     obtain ⟨x219, h220, H221⟩ := bnd H218
     refine L.addro 2 rfl (idx_lt h220) fun b222 e223 => ?_
     subst e223
     refine Ly (Yl.ia h220 rfl rfl rfl rfl rfl rfl) ?_
     refine La [2] [] (Ac.se 0 (Ref09Cell.mk 32 style 0) (idx_some h220).2 rfl rfl rfl rfl rfl rfl (fun _ => ⟨(), rfl, [], rfl⟩)) fun _ => ?_
     refine L.sl 9 (k' := (s117.2.set s117.1.toNat (Ref09Cell.mk 32 style 0)).length) (List.length_set ..) rfl ?_
     refine Ln (Eb ?_)
     obtain rfl := sm H221
     exact Eg0 [0, 0, 0] 0
    refine Tk (Eb ?_)
    obtain rfl := sm H218
    exact Eg0 [2, 0, 0] 0
   refine Tr ?_
   refine Lq 2 ?_
   refine Ln ?_
   obtain rfl := sm H210
   exact Eg (_, ()) (hag174 _ rfl) [0, 0, 0] [] 0
  refine Tx (Ex (Ex (Eh ?_)))
  obtain rfl := sm H177
  have hb := hbr175 _ rfl
  subst e169
  exact Eg0 [0, 0, 0] 0
 refine Ts (Tr ?_)
 refine Lq 1 ?_
 refine L.frz 0 rfl ?_
 obtain ⟨r226, h227, H228⟩ := bnd H171
 refine Lk [] [0] (c_ref09_mend h227) fun ⟨a229, c230⟩ => ?_
 refine Lt 0 ?_
 refine Ln (Et (Tv ?_))
 obtain rfl := sm H228
 exact Eo (a229, c230) [] [0] (.cell 0 rfl rfl rfl .nil)

theorem c_ref11_erase {s_ : Ref11Screen} {y : Int} {from_ : Int} {to : Int} {r : Ref11Screen} (H : p_ref11_erase s_ y from_ to = some r) : CT G 87 [.agg (bx31 s_ A0 C0).toArray, .int .i64 y, .int .i64 from_, .int .i64 to] [] [Im.sl tyRef09Row A0 C0 s_.g.l] (fun h : (Option Addr × Nat) => .agg (bx31 r h.1 h.2).toArray) (fun h => []) (fun h => [Im.sl tyRef09Row h.1 h.2 r.g.l]) := by
 delta p_ref11_erase at H
 refine CT.of Go.Proofs.Tryz.func87 (by kernel_rfl) rfl rfl rfl fun K => ?_
 refine Ts (Tr ?_)
 refine Lx fun g1 => ?_
 refine Ll fun g2 => ?_
 refine Ln (Et (Ts ?_))
 refine Td [20] [0, 0] mo ?_
 refine Dq 0 ?_
 refine Db 1 1 ?_
 refine Dq 2 ?_
 refine Dq 3 ?_
 refine Dq 4 ?_
 refine Db 5 1 ?_
 refine Dq 6 ?_
 obtain ⟨x78, h79, H80⟩ := bnd H
 refine D.addr 0 rfl (idx_lt h79) fun b81 o82 e83 => ?_
 subst e83
 refine Dy 7 (Yl.ia h79 rfl rfl rfl rfl rfl rfl) ?_
 refine D.el 0 rfl (idx_some h79).2 ?_
 rintro ⟨a84, c85⟩
 refine Dy 8 (Yl.ldc 0 0 rfl rfl rfl rfl) ?_
 refine Dq 9 ?_
 refine Dq 10 ?_
 refine Dq 11 ?_
 refine Db 12 1 ?_
 obtain ⟨r88, h89, H90⟩ := bnd H80
 refine Dk [] [] (c_ref08_Num h89) fun ⟨⟩ => ?_
 obtain ⟨r91, h92, H93⟩ := bnd H90
 refine Dk [] [1] (c_ref09_Erase h92) fun ⟨a94, c95⟩ => ?_
 obtain ⟨r97, h98, H99⟩ := bnd H93
 refine Dk [] [3, 0] (c_ref10_Set h98) fun ⟨a100, c101⟩ => ?_
 refine Dq 16 ?_
 refine Dq 17 ?_
 refine Dq 18 ?_
 refine Dq 19 ?_
 refine Dt 1 ?_
 refine Dn ?_
 refine Et (Ts (Tr ?_))
 refine Lb 0 ?_
 refine Lt 1 ?_
 refine Ln (Et (Tv ?_))
 obtain rfl := sm H99
 exact Eo (a100, c101) [] [0] (.cell 0 rfl rfl rfl .nil)

theorem c_ref11_clear {s_ : Ref11Screen} {n_ : Int} {all : Bool} {r : Ref11Screen} (H : p_ref11_clear s_ n_ all = some r) : CT G 86 [.agg (bx31 s_ A0 C0).toArray, .int .i64 n_, .bool all] [] [Im.sl tyRef09Row A0 C0 s_.g.l] (fun h : (Option Addr × Nat) => .agg (bx31 r h.1 h.2).toArray) (fun h => []) (fun h => [Im.sl tyRef09Row h.1 h.2 r.g.l]) := by
 delta p_ref11_clear at H
 refine CT.of Go.Proofs.Tryz.func86 (by kernel_rfl) rfl rfl rfl fun K => ?_
 refine Ts (Tr ?_)
 refine Lx fun g1 => ?_
 refine Ll fun g2 => ?_
 refine Ln (Et (Ts (Ts (Tr ?_))))
 refine Lq 2 ?_
 refine Ln (Et ?_)
 refine Tb H (fun H4 => ?_) fun H4 => ?_
 ·refine Ts (Tr ?_)
  refine Lb 1 ?_
  refine Lt 0 ?_
  refine Ln (Et (Tv (Er ?_)))
  obtain rfl := sm H4
  exact Eo (A0, C0) [] [0] (.cell 0 rfl rfl rfl .nil)
 refine Tk (Et (Ts (Ts (Tr ?_))))
 refine Lq 2 ?_
 refine Lb 1 ?_
 refine Lq 2 ?_
 refine Ln (Et ?_)
 obtain ⟨e286, H287, H288⟩ := bnd H4
 refine Tjh (η := (Option Addr × Nat)) (fun _ => []) [1, 3, 6] (fun h => (fun a283 c284 => [Ch.box g1 31 (bx31 e286 a283 c284)]) h.1 h.2) [0] (fun h => (fun a283 c284 => [Im.sl tyRef09Row a283 c284 e286.g.l]) h.1 h.2) ?_ ?_
 ·refine Tl ?_
  refine Tq (η := (Option Addr × Nat)) (fun s194 h => (fun a190 c191 => [(17, .int .i64 s194.2)]) h.1 h.2) [1, 2, 3, 6, 16] (fun s194 h => (fun a190 c191 => [Ch.box g1 31 (bx31 s194.1 a190 c191)]) h.1 h.2) [0] (fun s194 h => (fun a190 c191 => [Im.sl tyRef09Row a190 c191 s194.1.g.l]) h.1 h.2) (A0, C0) [1, 0] [0] H287 ?_
  rintro k_ s194 ⟨a190, c191⟩ z290 H289 hag291 hbr292
  refine Ts (Tr ?_)
  refine Lq 1 ?_
  refine Ln (Et (Ts ?_))
  refine Tb H289 (fun H294 => ?_) fun H294 => ?_
  ·refine Tk (Et (Ts ?_))
   obtain ⟨e351, H352, H353⟩ := bnd H294
   refine Tjh (η := (Option Addr × Nat)) (fun _ => []) [1, 2, 3, 6, 16, 17] (fun h => (fun a348 c349 => [Ch.box g1 31 (bx31 e351 a348 c349)]) h.1 h.2) [1] (fun h => (fun a348 c349 => [Im.sl tyRef09Row a348 c349 e351.g.l]) h.1 h.2) ?_ ?_
   ·refine Tl (Ts (Tr ?_))
    refine Lq 2 ?_
    refine Ln (Et (Ts ?_))
    obtain ⟨e365, H366, H367⟩ := bnd H352
    refine Tj0 [(40, .bool e365)] [1, 2, 3, 6, 7, 16, 17] [] [0, 1] ?_ ?_
    ·refine Tr ?_
     refine Lq 2 ?_
     refine Lw 21 H366 (fun H368 => ?_) fun H368 => ?_
     ·refine Lq 2 ?_
      refine Lb 0 ?_
      refine Lq 2 ?_
      refine Lw 26 H368 (fun H369 => ?_) fun H369 => ?_
      ·refine Lq 4 ?_
       refine Lw 30 H369 (fun H370 => ?_) fun H370 => ?_
       ·refine Lq 10 ?_
        refine Ln ?_
        obtain rfl := sm H370
        exact Eg0 [0, 0] 0
       refine Lq 2 ?_
       refine Lb 0 ?_
       refine Lq 2 ?_
       refine Lw 35 H370 (fun H371 => ?_) fun H371 => ?_
       ·refine Lq 5 ?_
        refine Ln ?_
        obtain rfl := sm H371
        exact Eg0 [0, 0] 0
       refine Lq 5 ?_
       refine Ln ?_
       obtain rfl := sm H371
       exact Eg0 [0, 0] 0
      refine Lq 6 ?_
      refine Lb 0 ?_
      refine Lq 2 ?_
      refine Lw 35 H369 (fun H372 => ?_) fun H372 => ?_
      ·refine Lq 5 ?_
       refine Ln ?_
       obtain rfl := sm H372
       exact Eg0 [0, 0] 0
      refine Lq 5 ?_
      refine Ln ?_
      obtain rfl := sm H372
      exact Eg0 [0, 0] 0
     refine Lq 19 ?_
     refine Ln ?_
     obtain rfl := sm H368
     exact Eg0 [0, 0] 0
    refine Tb H367 (fun H373 => ?_) fun H373 => ?_
    ·refine Tr ?_
     refine Lb 0 ?_
     refine Lq 3 ?_
     refine Lb 0 ?_
     obtain ⟨r374, h375, H376⟩ := bnd H373
     refine Lk [] [0] (c_ref11_erase h375) fun ⟨a377, c378⟩ => ?_
     refine Lt 0 ?_
     refine Ln (Eb ?_)
     obtain rfl := sm H376
     exact Eg (a377, c378) trivial [0, 0] [0] 1
    refine Tk (Eb ?_)
    obtain rfl := sm H373
    exact Eg (a190, c191) trivial [0, 0] [0] 0
   rintro ⟨a348, c349⟩
   refine Tr ?_
   refine Lq 2 ?_
   refine Ln ?_
   obtain rfl := sm H353
   exact Eg (_, (a348, c349)) (hag291 _ rfl) [0, 0] [0] 2
  refine Tx (Ex (Ex (Eh ?_)))
  obtain rfl := sm H294
  have hb := hbr292 _ rfl
  subst e286
  exact Eg (a190, c191) trivial [0, 0] [0] 1
 rintro ⟨a283, c284⟩
 refine Ts (Tr ?_)
 refine Lq 1 ?_
 refine Ln (Et (Ts (Tr ?_)))
 refine Lq 2 ?_
 refine Lb 0 ?_
 refine Lq 1 ?_
 refine Ln (Et (Ts (Ts (Tr ?_))))
 refine Lq 2 ?_
 refine Ln (Et ?_)
 obtain ⟨e383, H384, H385⟩ := bnd H288
 refine Tj0 [(8, .int .i64 e383)] [1, 3, 6, 9] [] [0, 1] ?_ ?_
 ·refine Tb H384 (fun H386 => ?_) fun H386 => ?_
  ·refine Tr ?_
   refine Lq 1 ?_
   refine Lb 0 ?_
   refine Lq 1 ?_
   refine Ln ?_
   obtain rfl := sm H386
   exact Eg0 [0, 0] 0
  refine Tk ?_
  obtain rfl := sm H386
  exact Eg0 [0, 0] 0
 refine Ts (Ts (Tr ?_))
 refine Lq 2 ?_
 refine Ln (Et ?_)
 obtain ⟨e390, H391, H392⟩ := bnd H385
 refine Tj0 [(9, .int .i64 e390)] [3, 6, 8] [] [0, 1] ?_ ?_
 ·refine Tb H391 (fun H393 => ?_) fun H393 => ?_
  ·refine Tr ?_
   refine Lq 1 ?_
   refine Lb 0 ?_
   refine Lq 2 ?_
   refine Ln ?_
   obtain rfl := sm H393
   exact Eg0 [0, 0] 0
  refine Tk ?_
  obtain rfl := sm H393
  exact Eg0 [0, 0] 0
 refine Ts (Tr ?_)
 refine Lb 0 ?_
 refine Lq 1 ?_
 refine Lb 0 ?_
 refine Lq 2 ?_
 obtain ⟨r394, h395, H396⟩ := bnd H392
 refine Lk [] [0] (c_ref11_erase h395) fun ⟨a397, c398⟩ => ?_
 refine Lt 0 ?_
 refine Ln (Et (Ts (Tr ?_)))
 refine Lq 1 ?_
 refine Lt 0 ?_
 refine Ln (Et (Ts (Tr ?_)))
 refine Lb 0 ?_
 refine Lt 1 ?_
 refine Ln (Et (Tv ?_))
 obtain rfl := sm H396
 exact Eo (a397, c398) [] [0] (.cell 0 rfl rfl rfl .nil)

theorem c_ref09_Insert {r_ : Ref09Row} {at_ : Int} {n_ : Int} {style : Int} {r : Ref09Row} (H : p_ref09_Insert r_ at_ n_ style = some r) : CT G 88 [.agg #[.slice A0 r_.l.length C0, .bool r_.wrapped], .int .i64 at_, .int .i64 n_, .int .i64 style] [] [Im.sl tyRef09Cell A0 C0 r_.l] (fun h : (Option Addr × Nat) => .agg #[.slice h.1 r.l.length h.2, .bool r.wrapped]) (fun h => []) (fun h => [Im.sl tyRef09Cell h.1 h.2 r.l]) := by
 delta p_ref09_Insert at H
 refine CT.of Go.Proofs.Tryz.func88 (by kernel_rfl) rfl rfl rfl fun K => ?_
 refine Ts (Tr ?_)
 refine Lx fun g1 => ?_
 refine Ll fun g2 => ?_
 refine Ln (Et (Ts (Ts ?_)))
 obtain ⟨e8, H9, H10⟩ := bnd H
 refine Tj0 [(22, .bool e8)] [1, 2, 3, 4, 8] [] [0, 1] ?_ ?_
 ·refine Tr ?_
  refine Lq 3 ?_
  refine Lw 12 H9 (fun H11 => ?_) fun H11 => ?_
  ·refine Lq 10 ?_
   refine Ln ?_
   obtain rfl := sm H11
   exact Eg0 [0, 0] 0
  refine Lq 2 ?_
  refine Lb 1 ?_
  refine Lq 4 ?_
  refine Lw 19 H11 (fun H12 => ?_) fun H12 => ?_
  ·refine Lq 3 ?_
   refine Ln ?_
   obtain rfl := sm H12
   exact Eg0 [0, 0] 0
  refine Lq 3 ?_
  refine Ln ?_
  obtain rfl := sm H12
  exact Eg0 [0, 0] 0
 refine Tb H10 (fun H20 => ?_) fun H20 => ?_
 ·refine Ts (Tr ?_)
  refine Lq 1 ?_
  refine Lb 1 ?_
  obtain ⟨r21, h22, H23⟩ := bnd H20
  refine Lk [] [0] (c_ref09_mend h22) fun ⟨a24, c25⟩ => ?_
  refine Lt 0 ?_
  refine Ln (Et (Tv (Er ?_)))
  obtain rfl := sm H23
  exact Eo (a24, c25) [] [0] (.cell 0 rfl rfl rfl .nil)
 refine Tk (Et (Ts (Tr ?_)))
 refine Lq 2 ?_
 refine Lb 1 ?_
 refine Lq 5 ?_
 refine Ln (Et (Ts (Tr ?_)))
 refine La [] [] (Ac.bs (ty := tyRef09Cell) (xs := []) .nil rfl rfl rfl rfl rfl rfl rfl) fun g27 => ?_
 refine Lq 1 ?_
 refine Lb 2 ?_
 refine Lq 1 ?_
 obtain ⟨_, h29, H30⟩ := bnd H20
 refine L.rs 0 h29 rfl rfl rfl rfl rfl rfl rfl rfl rfl rfl rfl rfl ?_
 intro a31 c32
 obtain ⟨_, h34, H35⟩ := bnd H30
 refine La [0] [0] (Ac.ap (ty := tyRef09Cell) h34 rfl rfl rfl rfl rfl rfl rfl) ?_
 rintro ⟨a36, c37⟩
 refine Lq 1 ?_
 refine Ln (Et (Ts (Tr ?_)))
 refine Lq 3 ?_
 obtain ⟨r39, h40, H41⟩ := bnd H35
 refine Lk [] [] (c_ref09_Blank h40) fun ⟨a42, c43⟩ => ?_
 refine Lq 1 ?_
 obtain ⟨_, h45, H46⟩ := bnd H41
 refine La [0] [0] (Ac.ap (ty := tyRef09Cell) h45 rfl rfl rfl rfl rfl rfl rfl) ?_
 rintro ⟨a47, c48⟩
 refine Lq 1 ?_
 refine Ln (Et (Ts (Tr ?_)))
 refine Lq 2 ?_
 refine Lb 2 ?_
 refine Lq 2 ?_
 refine Lb 2 ?_
 refine Lq 3 ?_
 obtain ⟨_, h50, H51⟩ := bnd H46
 refine L.rs 2 h50 rfl rfl rfl rfl rfl rfl rfl rfl rfl rfl rfl rfl ?_
 intro a52 c53
 obtain ⟨_, h55, H56⟩ := bnd H51
 refine La [0] [0] (Ac.ap (ty := tyRef09Cell) h55 rfl rfl rfl rfl rfl rfl rfl) ?_
 rintro ⟨a57, c58⟩
 refine Lq 1 ?_
 refine Ln (Et (Ts (Tr ?_)))
 refine Lq 1 ?_
 refine L.frz 0 rfl ?_
 obtain ⟨r61, h62, H63⟩ := bnd H56
 refine Lk [] [0] (c_ref09_mend h62) fun ⟨a64, c65⟩ => ?_
 refine Lt 0 ?_
 refine Ln (Et (Tv ?_))
 obtain rfl := sm H63
 exact Eo (a64, c65) [] [0] (.cell 0 rfl rfl rfl .nil)

theorem c_ref09_Delete {r_ : Ref09Row} {at_ : Int} {n_ : Int} {style : Int} {r : Ref09Row} (H : p_ref09_Delete r_ at_ n_ style = some r) : CT G 89 [.agg #[.slice A0 r_.l.length C0, .bool r_.wrapped], .int .i64 at_, .int .i64 n_, .int .i64 style] [] [Im.sl tyRef09Cell A0 C0 r_.l] (fun h : (Option Addr × Nat) => .agg #[.slice h.1 r.l.length h.2, .bool r.wrapped]) (fun h => []) (fun h => [Im.sl tyRef09Cell h.1 h.2 r.l]) := by
 delta p_ref09_Delete at H
 refine CT.of Go.Proofs.Tryz.func89 (by kernel_rfl) rfl rfl rfl fun K => ?_
 refine Ts (Tr ?_)
 refine Lx fun g1 => ?_
 refine Ll fun g2 => ?_
 refine Ln (Et (Ts (Ts ?_)))
 obtain ⟨e8, H9, H10⟩ := bnd H
 refine Tj0 [(22, .bool e8)] [1, 2, 3, 4, 8] [] [0, 1] ?_ ?_
 ·refine Tr ?_
  refine Lq 3 ?_
  refine Lw 12 H9 (fun H11 => ?_) fun H11 => ?_
  ·refine Lq 10 ?_
   refine Ln ?_
   obtain rfl := sm H11
   exact Eg0 [0, 0] 0
  refine Lq 2 ?_
  refine Lb 1 ?_
  refine Lq 4 ?_
  refine Lw 19 H11 (fun H12 => ?_) fun H12 => ?_
  ·refine Lq 3 ?_
   refine Ln ?_
   obtain rfl := sm H12
   exact Eg0 [0, 0] 0
  refine Lq 3 ?_
  refine Ln ?_
  obtain rfl := sm H12
  exact Eg0 [0, 0] 0
 refine Tb H10 (fun H20 => ?_) fun H20 => ?_
 ·refine Ts (Tr ?_)
  refine Lq 1 ?_
  refine Lb 1 ?_
  obtain ⟨r21, h22, H23⟩ := bnd H20
  refine Lk [] [0] (c_ref09_mend h22) fun ⟨a24, c25⟩ => ?_
  refine Lt 0 ?_
  refine Ln (Et (Tv (Er ?_)))
  obtain rfl := sm H23
  exact Eo (a24, c25) [] [0] (.cell 0 rfl rfl rfl .nil)
 refine Tk (Et (Ts (Tr ?_)))
 refine Lq 2 ?_
 refine Lb 1 ?_
 refine Lq 5 ?_
 refine Ln (Et (Ts (Tr ?_)))
 refine La [] [] (Ac.bs (ty := tyRef09Cell) (xs := []) .nil rfl rfl rfl rfl rfl rfl rfl) fun g27 => ?_
 refine Lq 1 ?_
 refine Lb 2 ?_
 refine Lq 1 ?_
 obtain ⟨_, h29, H30⟩ := bnd H20
 refine L.rs 0 h29 rfl rfl rfl rfl rfl rfl rfl rfl rfl rfl rfl rfl ?_
 intro a31 c32
 obtain ⟨_, h34, H35⟩ := bnd H30
 refine La [0] [0] (Ac.ap (ty := tyRef09Cell) h34 rfl rfl rfl rfl rfl rfl rfl) ?_
 rintro ⟨a36, c37⟩
 refine Lq 1 ?_
 refine Ln (Et (Ts (Tr ?_)))
 refine Lq 2 ?_
 refine Lb 2 ?_
 refine Lq 3 ?_
 obtain ⟨_, h39, H40⟩ := bnd H35
 refine L.rs 1 h39 rfl rfl rfl rfl rfl rfl rfl rfl rfl rfl rfl rfl ?_
 intro a41 c42
 obtain ⟨_, h44, H45⟩ := bnd H40
 refine La [0] [0] (Ac.ap (ty := tyRef09Cell) h44 rfl rfl rfl rfl rfl rfl rfl) ?_
 rintro ⟨a46, c47⟩
 refine Lq 1 ?_
 refine Ln (Et (Ts (Tr ?_)))
 refine Lq 3 ?_
 obtain ⟨r49, h50, H51⟩ := bnd H45
 refine Lk [] [] (c_ref09_Blank h50) fun ⟨a52, c53⟩ => ?_
 refine Lq 1 ?_
 obtain ⟨_, h55, H56⟩ := bnd H51
 refine La [0] [0] (Ac.ap (ty := tyRef09Cell) h55 rfl rfl rfl rfl rfl rfl rfl) ?_
 rintro ⟨a57, c58⟩
 refine L.frz 0 rfl ?_
 obtain ⟨r61, h62, H63⟩ := bnd H56
 refine Lk [] [0] (c_ref09_mend h62) fun ⟨a64, c65⟩ => ?_
 refine Lt 0 ?_
 refine Ln (Et (Tv ?_))
 obtain rfl := sm H63
 exact Eo (a64, c65) [] [0] (.cell 0 rfl rfl rfl .nil)

theorem c_ref08_Set {s_ : Ref08Style} {l : List Int} {r : Ref08Style} (H : p_ref08_Set s_ l = some r) : CT G 90 [.agg #[.int .i64 s_.fore, .int .i64 s_.back, .bool s_.bold, .bool s_.under, .bool s_.inverse], .slice A0 l.length C0] [] [Im.sl (Ty.int .i64) A0 C0 l] (fun _ : Unit => .agg #[.int .i64 r.fore, .int .i64 r.back, .bool r.bold, .bool r.under, .bool r.inverse]) (fun h => []) (fun h => []) := by
 delta p_ref08_Set at H
 refine CT.of Go.Proofs.Tryz.func90 (by kernel_rfl) rfl rfl rfl fun K => ?_
 refine Ts (Tr ?_)
 refine Lx fun g1 => ?_
 refine Ll fun g2 => ?_
 refine Ln (Et (Ts (Ts (Tr ?_))))
 refine Lq 3 ?_
 refine Ln (Et ?_)
 refine Tb H (fun H4 => ?_) fun H4 => ?_
 ·refine Ts (Tr ?_)
  refine Lq 1 ?_
  refine Lt 0 ?_
  refine Ln (Et (Tv (Er ?_)))
  obtain rfl := sm H4
  exact Eo () [] [] (.cell 0 rfl rfl rfl .nil)
 refine Tk (Et (Ts (Tr ?_)))
 refine Lq 1 ?_
 refine Ln (Et (Ts (Ts (Tr ?_))))
 refine Lq 3 ?_
 refine Ln (Et ?_)
 obtain ⟨e1900, H1901, H1902⟩ := bnd H4
 refine Tj0 [] [2, 4] [Ch.box g1 29 [.int .i64 e1900.fore, .int .i64 e1900.back, .bool e1900.bold, .bool e1900.under, .bool e1900.inverse]] [0] ?_ ?_
 ·refine Tl ?_
  refine Tq (η := Unit) (fun s1270 h => [(5, .int .i64 s1270.2.2), (14, .int .i64 s1270.2.1)]) [1, 2, 4, 12, 13] (fun s1270 h => [Ch.box g1 29 [.int .i64 s1270.1.fore, .int .i64 s1270.1.back, .bool s1270.1.bold, .bool s1270.1.under, .bool s1270.1.inverse]]) [0] (fun _ _ => []) () [1, 0] [] H1901 ?_
  rintro k_ s1270 ⟨⟩ z1904 H1903 hag1905 hbr1906
  refine Ts (Tr ?_)
  refine Lq 1 ?_
  refine Ln (Et (Ts ?_))
  refine Tb H1903 (fun H1908 => ?_) fun H1908 => ?_
  ·refine Tk (Et (Ts ?_))
   obtain ⟨e2325, H2326, H2327⟩ := bnd H1908
   refine Tj0 [(5, .int .i64 e2325.1)] [1, 2, 4, 12, 13, 14] [Ch.box g1 29 [.int .i64 e2325.2.fore, .int .i64 e2325.2.back, .bool e2325.2.bold, .bool e2325.2.under, .bool e2325.2.inverse]] [1] ?_ ?_
   ·refine Tl (Ts (Tr ?_))
    refine Lq 1 ?_
    obtain ⟨x2328, h2329, H2330⟩ := bnd H2326
    refine L.addr 0 rfl (idx_lt h2329) fun b2331 o2332 e2333 => ?_
    subst e2333
    refine Ly (Yl.ia h2329 rfl rfl rfl rfl rfl rfl) ?_
    refine L.el 0 rfl (idx_some h2329).2 ?_
    rintro _
    refine Lc 0 0 ?_
    refine Lq 2 ?_
    refine Ln (Et (Ts (Ts (Tr ?_))))
    refine Lq 2 ?_
    refine Ln (Et ?_)
    refine Tb H2330 (fun H2336 => ?_) fun H2336 => ?_
    ·refine Ts (Tr ?_)
     refine Lq 3 ?_
     refine Ln (Et (Tx (Ex (Eh ?_))))
     obtain rfl := sm H2336
     exact Eg0 [0, 0] 1
    refine Tk (Et (Ts (Ts ?_)))
    obtain ⟨e2340, H2341, H2342⟩ := bnd H2336
    refine Tj0 [(28, .bool e2340)] [1, 2, 4, 5, 6, 7, 12, 13, 14] [] [0, 1] ?_ ?_
    ·refine Tr ?_
     refine Lq 3 ?_
     refine Lw 25 H2341 (fun H2343 => ?_) fun H2343 => ?_
     ·refine Lq 3 ?_
      refine Ln ?_
      obtain rfl := sm H2343
      exact Eg0 [0, 0] 0
     refine Lq 3 ?_
     refine Ln ?_
     obtain rfl := sm H2343
     exact Eg0 [0, 0] 0
    refine Tb H2342 (fun H2397 => ?_) fun H2397 => ?_
    ·refine Ts (Ts ?_)
     obtain ⟨e2409, H2410, H2411⟩ := bnd H2397
     refine Tj0 [(41, .bool e2409)] [1, 2, 4, 5, 6, 12, 13, 14] [] [0, 1] ?_ ?_
     ·refine Tr ?_
      refine Lq 6 ?_
      refine Lw 34 H2410 (fun H2412 => ?_) fun H2412 => ?_
      ·refine Lq 3 ?_
       obtain ⟨x2413, h2414, H2415⟩ := bnd H2412
       refine Ly (Yl.ia h2414 rfl rfl rfl rfl rfl rfl) ?_
       refine L.el 1 rfl (idx_some h2414).2 ?_
       rintro _
       refine Lc 0 0 ?_
       refine Lq 2 ?_
       refine Ln ?_
       obtain rfl := sm H2415
       exact Eg0 [0, 0] 1
      refine Lq 7 ?_
      refine Ln ?_
      obtain rfl := sm H2412
      exact Eg0 [0, 0] 0
     obtain ⟨e2420, H2421, H2422⟩ := bnd H2411
     refine Tj0 [(5, .int .i64 e2420)] [1, 2, 4, 6, 12, 13, 14] [] [0, 1] ?_ ?_
     ·refine Tb H2421 (fun H2423 => ?_) fun H2423 => ?_
      ·refine Tr ?_
       refine Lq 1 ?_
       refine Ln ?_
       obtain rfl := sm H2423
       exact Eg0 [0, 0] 0
      refine Tk ?_
      obtain rfl := sm H2423
      exact Eg0 [0, 0] 0
     refine Ts (Ts ?_)
     obtain ⟨e2435, H2436, H2437⟩ := bnd H2422
     refine Tj0 [(54, .bool e2435)] [1, 2, 4, 5, 12, 13, 14] [] [0, 1] ?_ ?_
     ·refine Tr ?_
      refine Lq 6 ?_
      refine Lw 47 H2436 (fun H2438 => ?_) fun H2438 => ?_
      ·refine Lq 3 ?_
       obtain ⟨x2439, h2440, H2441⟩ := bnd H2438
       refine Ly (Yl.ia h2440 rfl rfl rfl rfl rfl rfl) ?_
       refine L.el 1 rfl (idx_some h2440).2 ?_
       rintro _
       refine Lc 0 0 ?_
       refine Lq 2 ?_
       refine Ln ?_
       obtain rfl := sm H2441
       exact Eg0 [0, 0] 1
      refine Lq 7 ?_
      refine Ln ?_
      obtain rfl := sm H2438
      exact Eg0 [0, 0] 0
     obtain ⟨e2446, H2447, H2448⟩ := bnd H2437
     refine Tj0 [(5, .int .i64 e2446)] [1, 2, 4, 12, 13, 14] [] [0, 1] ?_ ?_
     ·refine Tb H2447 (fun H2449 => ?_) fun H2449 => ?_
      ·refine Tr ?_
       refine Lq 1 ?_
       refine Ln ?_
       obtain rfl := sm H2449
       exact Eg0 [0, 0] 0
      refine Tk ?_
      obtain rfl := sm H2449
      exact Eg0 [0, 0] 0
     refine Tx (Ex (Eh ?_))
     obtain rfl := sm H2448
     exact Eg0 [0, 0] 1
    refine Tk (Et (Ts (Ts (Tr ?_))))
    refine Lq 2 ?_
    refine Ln (Et ?_)
    obtain ⟨e2453, H2454, H2455⟩ := bnd H2397
    refine Tj0 [] [1, 2, 4, 5, 7, 12, 13, 14] [Ch.box g1 29 [.int .i64 e2453.fore, .int .i64 e2453.back, .bool e2453.bold, .bool e2453.under, .bool e2453.inverse]] [1] ?_ ?_
    ·refine Tb H2454 (fun H2456 => ?_) fun H2456 => ?_
     ·refine Tr ?_
      refine Lq 1 ?_
      refine Lt 0 ?_
      refine Ln ?_
      obtain rfl := sm H2456
      exact Eg0 [0, 0] 0
     refine Tk ?_
     obtain rfl := sm H2456
     exact Eg0 [0, 0] 0
    refine Ts (Ts ?_)
    obtain ⟨e2460, H2461, H2462⟩ := bnd H2455
    refine Tj0 [(63, .bool e2460)] [1, 2, 4, 5, 7, 12, 13, 14] [] [0, 1] ?_ ?_
    ·refine Tr ?_
     refine Lq 3 ?_
     refine Lw 60 H2461 (fun H2463 => ?_) fun H2463 => ?_
     ·refine Lq 3 ?_
      refine Ln ?_
      obtain rfl := sm H2463
      exact Eg0 [0, 0] 0
     refine Lq 3 ?_
     refine Ln ?_
     obtain rfl := sm H2463
     exact Eg0 [0, 0] 0
    obtain ⟨e2467, H2468, H2469⟩ := bnd H2462
    refine Tj0 [] [1, 2, 4, 5, 7, 12, 13, 14] [Ch.box g1 29 [.int .i64 e2467.fore, .int .i64 e2467.back, .bool e2467.bold, .bool e2467.under, .bool e2467.inverse]] [1] ?_ ?_
    ·refine Tb H2468 (fun H2470 => ?_) fun H2470 => ?_
     ·refine Tr ?_
      refine Lq 3 ?_
      refine Lt 0 ?_
      refine Ln ?_
      obtain rfl := sm H2470
      exact Eg0 [0, 0] 0
     refine Tk ?_
     obtain rfl := sm H2470
     exact Eg0 [0, 0] 0
    refine Ts (Ts ?_)
    obtain ⟨e2474, H2475, H2476⟩ := bnd H2469
    refine Tj0 [(72, .bool e2474)] [1, 2, 4, 5, 7, 12, 13, 14] [] [0, 1] ?_ ?_
    ·refine Tr ?_
     refine Lq 3 ?_
     refine Lw 69 H2475 (fun H2477 => ?_) fun H2477 => ?_
     ·refine Lq 3 ?_
      refine Ln ?_
      obtain rfl := sm H2477
      exact Eg0 [0, 0] 0
     refine Lq 3 ?_
     refine Ln ?_
     obtain rfl := sm H2477
     exact Eg0 [0, 0] 0
    obtain ⟨e2481, H2482, H2483⟩ := bnd H2476
    refine Tj0 [] [1, 2, 4, 5, 7, 12, 13, 14] [Ch.box g1 29 [.int .i64 e2481.fore, .int .i64 e2481.back, .bool e2481.bold, .bool e2481.under, .bool e2481.inverse]] [1] ?_ ?_
    ·refine Tb H2482 (fun H2484 => ?_) fun H2484 => ?_
     ·refine Tr ?_
      refine Lq 3 ?_
      refine Lt 0 ?_
      refine Ln ?_
      obtain rfl := sm H2484
      exact Eg0 [0, 0] 0
     refine Tk ?_
     obtain rfl := sm H2484
     exact Eg0 [0, 0] 0
    refine Ts (Ts ?_)
    obtain ⟨e2488, H2489, H2490⟩ := bnd H2483
    refine Tj0 [(81, .bool e2488)] [1, 2, 4, 5, 7, 12, 13, 14] [] [0, 1] ?_ ?_
    ·refine Tr ?_
     refine Lq 3 ?_
     refine Lw 78 H2489 (fun H2491 => ?_) fun H2491 => ?_
     ·refine Lq 3 ?_
      refine Ln ?_
      obtain rfl := sm H2491
      exact Eg0 [0, 0] 0
     refine Lq 3 ?_
     refine Ln ?_
     obtain rfl := sm H2491
     exact Eg0 [0, 0] 0
    obtain ⟨e2495, H2496, H2497⟩ := bnd H2490
    refine Tj0 [] [1, 2, 4, 5, 7, 12, 13, 14] [Ch.box g1 29 [.int .i64 e2495.fore, .int .i64 e2495.back, .bool e2495.bold, .bool e2495.under, .bool e2495.inverse]] [1] ?_ ?_
    ·refine Tb H2496 (fun H2498 => ?_) fun H2498 => ?_
     ·refine Tr ?_
      refine Lq 3 ?_
      refine Lt 0 ?_
      refine Ln ?_
      obtain rfl := sm H2498
      exact Eg0 [0, 0] 0
     refine Tk ?_
     obtain rfl := sm H2498
     exact Eg0 [0, 0] 0
    refine Ts (Ts ?_)
    obtain ⟨e2502, H2503, H2504⟩ := bnd H2497
    refine Tj0 [(90, .bool e2502)] [1, 2, 4, 5, 7, 12, 13, 14] [] [0, 1] ?_ ?_
    ·refine Tr ?_
     refine Lq 3 ?_
     refine Lw 87 H2503 (fun H2505 => ?_) fun H2505 => ?_
     ·refine Lq 3 ?_
      refine Ln ?_
      obtain rfl := sm H2505
      exact Eg0 [0, 0] 0
     refine Lq 3 ?_
     refine Ln ?_
     obtain rfl := sm H2505
     exact Eg0 [0, 0] 0
    obtain ⟨e2509, H2510, H2511⟩ := bnd H2504
    refine Tj0 [] [1, 2, 4, 5, 7, 12, 13, 14] [Ch.box g1 29 [.int .i64 e2509.fore, .int .i64 e2509.back, .bool e2509.bold, .bool e2509.under, .bool e2509.inverse]] [1] ?_ ?_
    ·refine Tb H2510 (fun H2512 => ?_) fun H2512 => ?_
     ·refine Tr ?_
      refine Lq 3 ?_
      refine Lt 0 ?_
      refine Ln ?_
      obtain rfl := sm H2512
      exact Eg0 [0, 0] 0
     refine Tk ?_
     obtain rfl := sm H2512
     exact Eg0 [0, 0] 0
    refine Ts (Ts (Tr ?_))
    refine Lq 2 ?_
    refine Ln (Et ?_)
    obtain ⟨e2516, H2517, H2518⟩ := bnd H2511
    refine Tj0 [] [1, 2, 4, 5, 7, 12, 13, 14] [Ch.box g1 29 [.int .i64 e2516.fore, .int .i64 e2516.back, .bool e2516.bold, .bool e2516.under, .bool e2516.inverse]] [1] ?_ ?_
    ·refine Tb H2517 (fun H2519 => ?_) fun H2519 => ?_
     ·refine Tr ?_
      refine Lq 1 ?_
      refine Lt 0 ?_
      refine Ln ?_
      obtain rfl := sm H2519
      exact Eg0 [0, 0] 0
     refine Tk ?_
     obtain rfl := sm H2519
     exact Eg0 [0, 0] 0
    refine Ts (Ts ?_)
    obtain ⟨e2523, H2524, H2525⟩ := bnd H2518
    refine Tj0 [(102, .bool e2523)] [1, 2, 4, 5, 7, 12, 13, 14] [] [0, 1] ?_ ?_
    ·refine Tr ?_
     refine Lq 3 ?_
     refine Lw 99 H2524 (fun H2526 => ?_) fun H2526 => ?_
     ·refine Lq 3 ?_
      refine Ln ?_
      obtain rfl := sm H2526
      exact Eg0 [0, 0] 0
     refine Lq 3 ?_
     refine Ln ?_
     obtain rfl := sm H2526
     exact Eg0 [0, 0] 0
    obtain ⟨e2530, H2531, H2532⟩ := bnd H2525
    refine Tj0 [] [1, 2, 4, 5, 7, 12, 13, 14] [Ch.box g1 29 [.int .i64 e2530.fore, .int .i64 e2530.back, .bool e2530.bold, .bool e2530.under, .bool e2530.inverse]] [1] ?_ ?_
    ·refine Tb H2531 (fun H2533 => ?_) fun H2533 => ?_
     ·refine Tr ?_
      refine Lq 3 ?_
      refine Lt 0 ?_
      refine Ln ?_
      obtain rfl := sm H2533
      exact Eg0 [0, 0] 0
     refine Tk ?_
     obtain rfl := sm H2533
     exact Eg0 [0, 0] 0
    refine Ts (Tr ?_)
    refine Lq 2 ?_
    refine Ln (Et ?_)
    refine Tb H2532 (fun H2534 => ?_) fun H2534 => ?_
    ·refine Tr ?_
     refine Lq 1 ?_
     refine Lt 0 ?_
     refine Ln (Eb ?_)
     obtain rfl := sm H2534
     exact Eg0 [0, 0] 1
    refine Tk (Eb ?_)
    obtain rfl := sm H2534
    exact Eg0 [0, 0] 1
   refine Tr ?_
   refine Lq 2 ?_
   refine Ln ?_
   obtain rfl := sm H2327
   exact Eg (_, ()) (hag1905 _ rfl) [0, 0] [] 0
  refine Tx (Ex (Ex (Eh ?_)))
  obtain rfl := sm H1908
  have hb := hbr1906 _ rfl
  subst e1900
  exact Eg0 [0, 0] 0
 refine Ts (Tr ?_)
 refine Lb 0 ?_
 refine Lt 1 ?_
 refine Ln (Et (Tv ?_))
 obtain rfl := sm H1902
 exact Eo () [] [] (.cell 0 rfl rfl rfl .nil)

end Go.Tw.X

set_option maxHeartbeats 2000000
set_option linter.unusedVariables false
set_option linter.unusedSimpArgs false
set_option maxRecDepth 10000
namespace Go.Tw.X
open Go Go.Tw
variable {A0 A1 A2 : Option Addr} {C0 C1 C2 : Nat}
variable {N0 N1 N2 N3 N4 : Nat}
theorem c_ref11_Command {s_ : Ref11Screen} {b : Int} {l : List Int} {r : Ref11Screen × (List Ref09Row)} (H : p_ref11_Command s_ b l = some r) : CT G 41 [.agg (bx31 s_ A0 C0).toArray, .int .i64 b, .slice A1 l.length C1] [] [Im.sl tyRef09Row A0 C0 s_.g.l, Im.sl (Ty.int .i64) A1 C1 l] (fun h : (Option Addr × Nat) × (Option Addr × Nat) => .tuple #[.agg (bx31 r.1 h.1.1 h.1.2).toArray, .slice h.2.1 r.2.length h.2.2]) (fun h => [Ch.arr tyRef09Row 69 h.2.1 h.2.2 r.2]) (fun h => [Im.sl tyRef09Row h.1.1 h.1.2 r.1.g.l]) := by
 delta p_ref11_Command at H
 refine CT.of Go.Proofs.Tryz.func41 (by kernel_rfl) rfl rfl rfl fun K => ?_
 refine Ts (Tr ?_)
 refine Lx fun g1 => ?_
 refine Ll fun g2 => ?_
 refine Lq 1 ?_
 refine Ln (Et (Ts (Tr ?_)))
 refine Lq 1 ?_
 obtain ⟨r3, h4, H5⟩ := bnd H
 refine Lk [] [1] (c_ref11_num h4) fun ⟨⟩ => ?_
 refine Lq 1 ?_
 refine Ln (Et (Ts (Tr ?_)))
 refine Lq 2 ?_
 refine Lb 1 ?_
 refine Lq 2 ?_
 refine Ln (Et (Ts (Tr ?_)))
 refine Lq 1 ?_
 refine Lb 1 ?_
 obtain ⟨r6, h7, H8⟩ := bnd H5
 refine Lk [] [] (c_ref08_Num h7) fun ⟨⟩ => ?_
 refine Lq 1 ?_
 refine Ln (Et (Ts (Ts (Tr ?_))))
 refine Lq 1 ?_
 refine Ln (Et ?_)
 obtain ⟨y754, H755, H756⟩ := bnd H8
 refine Tj (η := Ref11Screen × ((Option Addr × Nat))) (fun h => y754 = .inl h.1) (fun _ => []) [3, 6] (fun h => (fun e753 => (fun a750 c751 => [Ch.box g1 31 (bx31 e753 a750 c751)]) h.2.1 h.2.2) h.1) [0] (fun h => (fun e753 => (fun a750 c751 => [Im.sl tyRef09Row a750 c751 e753.g.l]) h.2.1 h.2.2) h.1) ?_ ?_
 ·refine Tl (Ts (Ts (Tr ?_)))
  refine Lq 2 ?_
  refine Ln (Et ?_)
  obtain ⟨e760, H761, H762⟩ := bnd H755
  refine Tj0 [(25, .bool e760)] [1, 2, 3, 6, 8, 9, 10, 24] [] [0, 1] ?_ ?_
  ·refine Tb H761 (fun H763 => ?_) fun H763 => ?_
   ·refine Tk ?_
    obtain rfl := sm H763
    exact Eg0 [0, 0] 0
   refine Tr ?_
   refine Lq 2 ?_
   refine Ln ?_
   obtain rfl := sm H763
   exact Eg0 [0, 0] 0
  refine Tb H762 (fun H764 => ?_) fun H764 => ?_
  ·refine Ts (Tr ?_)
   refine Lq 1 ?_
   refine Ln (Et (Ts (Ts (Tr ?_))))
   refine Lq 1 ?_
   refine Lb 1 ?_
   refine Lq 1 ?_
   refine Lb 1 ?_
   refine Lq 1 ?_
   refine Ln (Et ?_)
   obtain ⟨e768, H769, H770⟩ := bnd H764
   refine Tj0 [(11, .int .i64 e768)] [1, 3, 6, 8] [] [0, 1] ?_ ?_
   ·refine Tb H769 (fun H771 => ?_) fun H771 => ?_
    ·refine Tr ?_
     refine Lq 1 ?_
     refine Lb 1 ?_
     refine Lq 1 ?_
     refine Ln ?_
     obtain rfl := sm H771
     exact Eg0 [0, 0] 0
    refine Tk ?_
    obtain rfl := sm H771
    exact Eg0 [0, 0] 0
   refine Ts (Tr ?_)
   refine Lb 1 ?_
   refine Lq 1 ?_
   refine Lb 1 ?_
   refine Lq 2 ?_
   refine Lb 1 ?_
   refine Lq 3 ?_
   obtain ⟨r772, h773, H774⟩ := bnd H770
   refine Lk [] [0] (c_ref11_place h773) fun ⟨⟩ => ?_
   refine Lt 1 ?_
   refine Ln (Et (Ts (Tr ?_)))
   refine Lq 2 ?_
   refine Ln (Et ?_)
   refine Tb H774 (fun H776 => ?_) fun H776 => ?_
   ·refine Tr ?_
    refine Lq 1 ?_
    refine Lt 0 ?_
    refine Ln (Eb ?_)
    obtain rfl := sm H776
    exact Eg (_, (A0, C0)) rfl [0, 0] [0] 1
   refine Tk (Eb ?_)
   obtain rfl := sm H776
   exact Eg (_, (A0, C0)) rfl [0, 0] [0] 1
  refine Ts (Ts (Tr ?_))
  refine Lq 2 ?_
  refine Ln (Et ?_)
  obtain ⟨e780, H781, H782⟩ := bnd H764
  refine Tj0 [(48, .bool e780)] [1, 2, 3, 6, 8, 9, 10, 24] [] [0, 1] ?_ ?_
  ·refine Tb H781 (fun H783 => ?_) fun H783 => ?_
   ·refine Tk ?_
    obtain rfl := sm H783
    exact Eg0 [0, 0] 0
   refine Tr ?_
   refine Lq 2 ?_
   refine Ln ?_
   obtain rfl := sm H783
   exact Eg0 [0, 0] 0
  refine Tb H782 (fun H784 => ?_) fun H784 => ?_
  ·refine Ts (Tr ?_)
   refine Lq 3 ?_
   refine Ln (Et (Ts (Ts (Tr ?_))))
   refine Lq 1 ?_
   refine Lb 1 ?_
   refine Lq 1 ?_
   refine Lb 1 ?_
   refine Lq 1 ?_
   refine Ln (Et ?_)
   obtain ⟨e788, H789, H790⟩ := bnd H784
   refine Tj0 [(12, .int .i64 e788)] [1, 3, 6, 8] [] [0, 1] ?_ ?_
   ·refine Tb H789 (fun H791 => ?_) fun H791 => ?_
    ·refine Tr ?_
     refine Lq 1 ?_
     refine Lb 1 ?_
     refine Lq 1 ?_
     refine Ln ?_
     obtain rfl := sm H791
     exact Eg0 [0, 0] 0
    refine Tk ?_
    obtain rfl := sm H791
    exact Eg0 [0, 0] 0
   refine Ts (Tr ?_)
   refine Lb 1 ?_
   refine Lq 1 ?_
   refine Lb 1 ?_
   refine Lq 2 ?_
   refine Lb 1 ?_
   refine Lq 3 ?_
   obtain ⟨r792, h793, H794⟩ := bnd H790
   refine Lk [] [0] (c_ref11_place h793) fun ⟨⟩ => ?_
   refine Lt 1 ?_
   refine Ln (Et (Ts (Tr ?_)))
   refine Lq 2 ?_
   refine Ln (Et ?_)
   refine Tb H794 (fun H796 => ?_) fun H796 => ?_
   ·refine Tr ?_
    refine Lq 1 ?_
    refine Lt 0 ?_
    refine Ln (Eb ?_)
    obtain rfl := sm H796
    exact Eg (_, (A0, C0)) rfl [0, 0] [0] 1
   refine Tk (Eb ?_)
   obtain rfl := sm H796
   exact Eg (_, (A0, C0)) rfl [0, 0] [0] 1
  refine Ts (Tr ?_)
  refine Lq 2 ?_
  refine Ln (Et ?_)
  refine Tb H784 (fun H797 => ?_) fun H797 => ?_
  ·refine Tr ?_
   refine Lb 1 ?_
   refine Lq 1 ?_
   refine Lb 1 ?_
   refine Lq 3 ?_
   refine Lb 1 ?_
   obtain ⟨r798, h799, H800⟩ := bnd H797
   refine Lk [] [0] (c_ref11_place h799) fun ⟨⟩ => ?_
   refine Lt 1 ?_
   refine Ln (Eb ?_)
   obtain rfl := sm H800
   exact Eg (_, (A0, C0)) rfl [0, 0] [0] 1
  refine Ts (Tr ?_)
  refine Lq 2 ?_
  refine Ln (Et ?_)
  refine Tb H797 (fun H802 => ?_) fun H802 => ?_
  ·refine Tr ?_
   refine Lb 1 ?_
   refine Lq 1 ?_
   refine Lb 1 ?_
   refine Lq 3 ?_
   refine Lb 1 ?_
   obtain ⟨r803, h804, H805⟩ := bnd H802
   refine Lk [] [0] (c_ref11_place h804) fun ⟨⟩ => ?_
   refine Lt 1 ?_
   refine Ln (Eb ?_)
   obtain rfl := sm H805
   exact Eg (_, (A0, C0)) rfl [0, 0] [0] 1
  refine Ts (Tr ?_)
  refine Lq 2 ?_
  refine Ln (Et ?_)
  refine Tb H802 (fun H807 => ?_) fun H807 => ?_
  ·refine Tr ?_
   refine Lb 1 ?_
   refine Lq 3 ?_
   refine Lb 1 ?_
   obtain ⟨r808, h809, H810⟩ := bnd H807
   refine Lk [] [0] (c_ref11_place h809) fun ⟨⟩ => ?_
   refine Lt 1 ?_
   refine Ln (Eb ?_)
   obtain rfl := sm H810
   exact Eg (_, (A0, C0)) rfl [0, 0] [0] 1
  refine Ts (Tr ?_)
  refine Lq 2 ?_
  refine Ln (Et ?_)
  refine Tb H807 (fun H812 => ?_) fun H812 => ?_
  ·refine Tr ?_
   refine Lb 1 ?_
   refine Lq 1 ?_
   refine Lb 1 ?_
   refine Lq 2 ?_
   obtain ⟨r813, h814, H815⟩ := bnd H812
   refine Lk [] [0] (c_ref11_place h814) fun ⟨⟩ => ?_
   refine Lt 1 ?_
   refine Ln (Eb ?_)
   obtain rfl := sm H815
   exact Eg (_, (A0, C0)) rfl [0, 0] [0] 1
  refine Ts (Ts (Tr ?_))
  refine Lq 2 ?_
  refine Ln (Et ?_)
  obtain ⟨e820, H821, H822⟩ := bnd H812
  refine Tj0 [(109, .bool e820)] [1, 2, 3, 6, 8, 9, 10, 24] [] [0, 1] ?_ ?_
  ·refine Tb H821 (fun H823 => ?_) fun H823 => ?_
   ·refine Tk ?_
    obtain rfl := sm H823
    exact Eg0 [0, 0] 0
   refine Tr ?_
   refine Lq 2 ?_
   refine Ln ?_
   obtain rfl := sm H823
   exact Eg0 [0, 0] 0
  refine Tb H822 (fun H824 => ?_) fun H824 => ?_
  ·refine Td [7] [0, 0] mo ?_
   refine Db 0 1 ?_
   refine Dq 1 ?_
   refine Dq 4 ?_
   refine Dq 5 ?_
   obtain ⟨r832, h833, H834⟩ := bnd H824
   refine Dk [] [1] (c_ref11_num h833) fun ⟨⟩ => ?_
   refine Dq 3 ?_
   obtain ⟨r835, h836, H837⟩ := bnd H834
   refine Dk [] [0] (c_ref11_place h836) fun ⟨⟩ => ?_
   refine Dt 1 ?_
   refine Dn ?_
   refine Eb ?_
   obtain rfl := sm H837
   exact Eg (_, (A0, C0)) rfl [0, 0] [0] 1
  refine Ts (Tr ?_)
  refine Lq 2 ?_
  refine Ln (Et ?_)
  refine Tb H824 (fun H839 => ?_) fun H839 => ?_
  ·refine Td [4] [0, 0] mo ?_
   refine Db 0 1 ?_
   refine Dq 1 ?_
   obtain ⟨r849, h850, H851⟩ := bnd H839
   refine Dk [] [1] (c_ref11_num h850) fun ⟨⟩ => ?_
   obtain ⟨r852, h853, H854⟩ := bnd H851
   refine Dk [] [0] (c_ref11_clear h853) fun ⟨a855, c856⟩ => ?_
   refine Dt 1 ?_
   refine Dn ?_
   refine Eb ?_
   obtain rfl := sm H854
   exact Eg (_, (a855, c856)) rfl [0, 0] [0] 1
  refine Ts (Tr ?_)
  refine Lq 2 ?_
  refine Ln (Et ?_)
  refine Tb H839 (fun H858 => ?_) fun H858 => ?_
  ·refine Td [4] [0, 0] mo ?_
   refine Db 0 1 ?_
   refine Dq 1 ?_
   obtain ⟨r868, h869, H870⟩ := bnd H858
   refine Dk [] [1] (c_ref11_num h869) fun ⟨⟩ => ?_
   obtain ⟨r871, h872, H873⟩ := bnd H870
   refine Dk [] [0] (c_ref11_clear h872) fun ⟨a874, c875⟩ => ?_
   refine Dt 1 ?_
   refine Dn ?_
   refine Eb ?_
   obtain rfl := sm H873
   exact Eg (_, (a874, c875)) rfl [0, 0] [0] 1
  refine Ts (Tr ?_)
  refine Lq 2 ?_
  refine Ln (Et ?_)
  refine Tb H858 (fun H877 => ?_) fun H877 => ?_
  ·refine Ts (Tr ?_)
   refine Lb 1 ?_
   refine Lq 1 ?_
   refine Lb 1 ?_
   refine Lq 1 ?_
   refine Lb 1 ?_
   refine Lq 1 ?_
   refine Lb 1 ?_
   refine Lq 2 ?_
   obtain ⟨r878, h879, H880⟩ := bnd H877
   refine Lk [] [0] (c_ref11_erase h879) fun ⟨a881, c882⟩ => ?_
   refine Lt 1 ?_
   refine Ln (Et (Tr ?_))
   refine Lq 1 ?_
   refine Lt 0 ?_
   refine Ln (Eb ?_)
   obtain rfl := sm H880
   exact Eg (_, (a881, c882)) rfl [0, 0] [0] 1
  refine Ts (Tr ?_)
  refine Lq 2 ?_
  refine Ln (Et ?_)
  refine Tb H877 (fun H884 => ?_) fun H884 => ?_
  ·refine Ts ?_
   refine Td [14] [0, 0] mo ?_
   refine Db 0 1 ?_
   refine Dq 1 ?_
   refine Dq 2 ?_
   refine Db 3 1 ?_
   refine Dq 4 ?_
   refine Db 5 1 ?_
   obtain ⟨x951, h952, H953⟩ := bnd H884
   refine D.addr 0 rfl (idx_lt h952) fun b954 o955 e956 => ?_
   subst e956
   refine Dy 6 (Yl.ia h952 rfl rfl rfl rfl rfl rfl) ?_
   refine D.el 0 rfl (idx_some h952).2 ?_
   rintro ⟨a957, c958⟩
   refine Dy 7 (Yl.ldc 0 0 rfl rfl rfl rfl) ?_
   refine Dq 8 ?_
   refine Db 9 1 ?_
   refine Dq 10 ?_
   refine Dq 11 ?_
   obtain ⟨r961, h962, H963⟩ := bnd H953
   refine Dk [] [1] (c_ref09_Insert h962) fun ⟨a964, c965⟩ => ?_
   obtain ⟨r967, h968, H969⟩ := bnd H963
   refine Dk [] [3, 0] (c_ref11_set h968) fun ⟨a970, c971⟩ => ?_
   refine Dt 1 ?_
   refine Dn ?_
   refine Et (Tr ?_)
   refine Lq 1 ?_
   refine Lt 0 ?_
   refine Ln (Eb ?_)
   obtain rfl := sm H969
   exact Eg (_, (a970, c971)) rfl [0, 0] [0] 4
  refine Ts (Tr ?_)
  refine Lq 2 ?_
  refine Ln (Et ?_)
  refine Tb H884 (fun H973 => ?_) fun H973 => ?_
  ·refine Ts ?_
   refine Td [14] [0, 0] mo ?_
   refine Db 0 1 ?_
   refine Dq 1 ?_
   refine Dq 2 ?_
   refine Db 3 1 ?_
   refine Dq 4 ?_
   refine Db 5 1 ?_
   obtain ⟨x1040, h1041, H1042⟩ := bnd H973
   refine D.addr 0 rfl (idx_lt h1041) fun b1043 o1044 e1045 => ?_
   subst e1045
   refine Dy 6 (Yl.ia h1041 rfl rfl rfl rfl rfl rfl) ?_
   refine D.el 0 rfl (idx_some h1041).2 ?_
   rintro ⟨a1046, c1047⟩
   refine Dy 7 (Yl.ldc 0 0 rfl rfl rfl rfl) ?_
   refine Dq 8 ?_
   refine Db 9 1 ?_
   refine Dq 10 ?_
   refine Dq 11 ?_
   obtain ⟨r1050, h1051, H1052⟩ := bnd H1042
   refine Dk [] [1] (c_ref09_Delete h1051) fun ⟨a1053, c1054⟩ => ?_
   obtain ⟨r1056, h1057, H1058⟩ := bnd H1052
   refine Dk [] [3, 0] (c_ref11_set h1057) fun ⟨a1059, c1060⟩ => ?_
   refine Dt 1 ?_
   refine Dn ?_
   refine Et (Tr ?_)
   refine Lq 1 ?_
   refine Lt 0 ?_
   refine Ln (Eb ?_)
   obtain rfl := sm H1058
   exact Eg (_, (a1059, c1060)) rfl [0, 0] [0] 4
  refine Ts (Ts (Tr ?_))
  refine Lq 2 ?_
  refine Ln (Et ?_)
  obtain ⟨e1065, H1066, H1067⟩ := bnd H973
  refine Tj0 [(178, .bool e1065)] [1, 2, 3, 6, 8, 9, 10, 24] [] [0, 1] ?_ ?_
  ·refine Tb H1066 (fun H1068 => ?_) fun H1068 => ?_
   ·refine Tk ?_
    obtain rfl := sm H1068
    exact Eg0 [0, 0] 0
   refine Tr ?_
   refine Lq 2 ?_
   refine Ln ?_
   obtain rfl := sm H1068
   exact Eg0 [0, 0] 0
  refine Tb H1067 (fun H1069 => ?_) fun H1069 => ?_
  ·refine Ts ?_
   obtain ⟨e1073, H1074, H1075⟩ := bnd H1069
   refine Tj0 [(192, .bool e1073)] [1, 3, 6, 8, 10] [] [0, 1] ?_ ?_
   ·refine Tr ?_
    refine Lq 1 ?_
    refine Lb 1 ?_
    refine Lq 1 ?_
    refine Lb 1 ?_
    refine Lq 2 ?_
    refine Lw 186 H1074 (fun H1076 => ?_) fun H1076 => ?_
    ·refine Lq 1 ?_
     refine Lb 1 ?_
     refine Lq 1 ?_
     refine Lb 1 ?_
     refine Lq 2 ?_
     refine Ln ?_
     obtain rfl := sm H1076
     exact Eg0 [0, 0] 0
    refine Lq 6 ?_
    refine Ln ?_
    obtain rfl := sm H1076
    exact Eg0 [0, 0] 0
   refine Tb H1075 (fun H1077 => ?_) fun H1077 => ?_
   ·refine Ts (Tr ?_)
    refine Lq 1 ?_
    refine Lb 1 ?_
    refine Lq 3 ?_
    refine Lb 1 ?_
    refine Lq 1 ?_
    refine Lb 1 ?_
    refine Lq 2 ?_
    obtain ⟨r1078, h1079, H1080⟩ := bnd H1077
    refine Lk [] [0] (c_ref10_Move h1079) fun ⟨⟨a1081, c1082⟩, ⟨a1083, c1084⟩⟩ => ?_
    refine Lq 4 ?_
    refine Lt 2 ?_
    refine Ln (Et (Tr ?_))
    refine Lb 0 ?_
    refine Lq 1 ?_
    refine Lb 0 ?_
    obtain ⟨r1087, h1088, H1089⟩ := bnd H1080
    refine Lk [] [0] (c_ref11_place h1088) fun ⟨⟩ => ?_
    refine Lt 0 ?_
    refine Ln (Eb ?_)
    obtain rfl := sm H1089
    exact Eg (_, (a1081, c1082)) rfl [0, 1] [0] 2
   refine Tk (Eb ?_)
   obtain rfl := sm H1077
   exact Eg (_, (A0, C0)) rfl [1, 0] [0] 0
  refine Ts (Tr ?_)
  refine Lq 2 ?_
  refine Ln (Et ?_)
  refine Tb H1069 (fun H1091 => ?_) fun H1091 => ?_
  ·refine Ts (Tr ?_)
   refine Lq 1 ?_
   refine Lt 1 ?_
   refine Ln (Et (Ts (Tr ?_)))
   refine Lb 0 ?_
   refine Lq 1 ?_
   obtain ⟨r1092, h1093, H1094⟩ := bnd H1091
   refine Lk [] [0] (c_ref11_scroll h1093) fun ⟨⟨a1095, c1096⟩, ⟨a1097, c1098⟩⟩ => ?_
   refine Lq 2 ?_
   refine Lt 2 ?_
   refine Lq 1 ?_
   refine Ln (Et (Tv (Ev ?_)))
   obtain ⟨w1101, hz, H1102⟩ := inrs_some H1094
   subst y754
   obtain rfl := (sm H756).symm
   refine Er ?_
   obtain rfl := sm H1102
   exact Eo ((a1095, c1096), (a1097, c1098)) [1] [0] (.cell 0 rfl rfl rfl (.tmp rfl .nil))
  refine Ts (Tr ?_)
  refine Lq 2 ?_
  refine Ln (Et ?_)
  refine Tb H1091 (fun H1103 => ?_) fun H1103 => ?_
  ·refine Ts (Tr ?_)
   refine Lq 1 ?_
   refine Lt 1 ?_
   refine Ln (Et (Tr ?_))
   refine Lq 1 ?_
   refine Lb 0 ?_
   refine Lq 1 ?_
   refine Lb 0 ?_
   refine Lq 1 ?_
   refine Lb 0 ?_
   refine Lq 2 ?_
   obtain ⟨r1104, h1105, H1106⟩ := bnd H1103
   refine Lk [] [0] (c_ref10_Move h1105) fun ⟨⟨a1107, c1108⟩, ⟨a1109, c1110⟩⟩ => ?_
   refine Lq 4 ?_
   refine Lt 1 ?_
   refine Ln (Eb ?_)
   obtain rfl := sm H1106
   exact Eg (_, (a1107, c1108)) rfl [0, 1] [0] 1
  refine Ts (Tr ?_)
  refine Lq 2 ?_
  refine Ln (Et ?_)
  refine Tb H1103 (fun H1113 => ?_) fun H1113 => ?_
  ·refine Tr ?_
   refine Lq 1 ?_
   refine Lb 1 ?_
   refine Lq 1 ?_
   obtain ⟨r1114, h1115, H1116⟩ := bnd H1113
   refine Lk [] [1] (c_ref08_Set h1115) fun ⟨⟩ => ?_
   refine Lq 1 ?_
   refine Lt 1 ?_
   refine Ln (Eb ?_)
   obtain rfl := sm H1116
   exact Eg (_, (A0, C0)) rfl [0, 0] [0] 0
  refine Ts (Tr ?_)
  refine Lq 2 ?_
  refine Ln (Et ?_)
  refine Tb H1113 (fun H1117 => ?_) fun H1117 => ?_
  ·refine Ts (Tr ?_)
   refine Lq 1 ?_
   obtain ⟨r1118, h1119, H1120⟩ := bnd H1117
   refine Lk [] [1] (c_ref11_num h1119) fun ⟨⟩ => ?_
   refine Lq 5 ?_
   refine Ln (Et (Ts (Tr ?_)))
   refine Lq 2 ?_
   obtain ⟨r1121, h1122, H1123⟩ := bnd H1120
   refine Lk [] [1] (c_ref11_num h1122) fun ⟨⟩ => ?_
   refine Lq 5 ?_
   refine Ln (Et (Ts (Tr ?_)))
   refine Lq 3 ?_
   refine Ln (Et ?_)
   refine Tb H1123 (fun H1124 => ?_) fun H1124 => ?_
   ·refine Ts (Tr ?_)
    refine Lq 2 ?_
    refine Lt 1 ?_
    refine Ln (Et (Ts (Tr ?_)))
    refine Lq 2 ?_
    refine Lt 0 ?_
    refine Ln (Et (Tr ?_))
    refine Lb 0 ?_
    obtain ⟨r1125, h1126, H1127⟩ := bnd H1124
    refine Lk [] [0] (c_ref11_place h1126) fun ⟨⟩ => ?_
    refine Lt 0 ?_
    refine Ln (Eb ?_)
    obtain rfl := sm H1127
    exact Eg (_, (A0, C0)) rfl [0, 0] [0] 1
   refine Tk (Eb ?_)
   obtain rfl := sm H1124
   exact Eg (_, (A0, C0)) rfl [1, 0] [0] 0
  refine Tk (Eb ?_)
  obtain rfl := sm H1117
  exact Eg (_, (A0, C0)) rfl [1, 0] [0] 0
 rintro ⟨e753, ⟨a750, c751⟩⟩ hy
 subst hy
 refine Ts (Tr ?_)
 refine Lb 0 ?_
 refine Lt 1 ?_
 refine Lq 1 ?_
 refine Ln (Et (Tv ?_))
 refine E.nil0 tyRef09Row 69 ?_
 obtain rfl := sm H756
 exact Eo ((a750, c751), (none, 0)) [0] [0] (.cell 1 rfl rfl rfl (.tmp rfl .nil))

theorem c_ref11_Do {s_ : Ref11Screen} {a : Ref07Action} {r : Ref11Screen × (List Ref09Row)} (H : p_ref11_Do s_ a = some r) : CT G 14 [.agg (bx31 s_ A0 C0).toArray, .agg (bx37 a A1 C1).toArray] [] [Im.sl tyRef09Row A0 C0 s_.g.l, Im.sl (Ty.int .i64) A1 C1 a.nums] (fun h : (Option Addr × Nat) × (Option Addr × Nat) => .tuple #[.agg (bx31 r.1 h.1.1 h.1.2).toArray, .slice h.2.1 r.2.length h.2.2]) (fun h => [Ch.arr tyRef09Row 69 h.2.1 h.2.2 r.2]) (fun h => [Im.sl tyRef09Row h.1.1 h.1.2 r.1.g.l]) := by
 delta p_ref11_Do at H
 refine CT.of Go.Proofs.Tryz.func14 (by kernel_rfl) rfl rfl rfl fun K => ?_
 refine Ts (Tr ?_)
 refine Lx fun g1 => ?_
 refine Lx fun g2 => ?_
 refine Ll fun g3 => ?_
 refine Lq 1 ?_
 refine Ln (Et (Ts (Ts (Tr ?_))))
 refine Lq 1 ?_
 refine Lb 1 ?_
 refine Ln (Et ?_)
 obtain ⟨y457, H458, H459⟩ := bnd H
 refine Tj (η := Ref11Screen × Unit) (fun h => y457 = .inl h.1) (fun _ => []) [2, 4] (fun h => (fun e456 => [Ch.box g1 31 (bx31 e456 A0 C0)]) h.1) [0, 1] (fun h => (fun e456 => [Im.sl tyRef09Row A0 C0 e456.g.l]) h.1) ?_ ?_
 ·refine Tl (Ts (Tr ?_))
  refine Lq 2 ?_
  refine Ln (Et ?_)
  refine Tb H458 (fun H460 => ?_) fun H460 => ?_
  ·refine Ts (Tr ?_)
   refine Lb 2 ?_
   refine Lq 1 ?_
   refine Lb 1 ?_
   obtain ⟨r461, h462, H463⟩ := bnd H460
   refine Lk [] [0] (c_ref11_show h462) fun ⟨⟨a464, c465⟩, ⟨a466, c467⟩⟩ => ?_
   refine Lq 2 ?_
   refine Lt 1 ?_
   refine Lq 1 ?_
   refine Ln (Et (Tv (Ev ?_)))
   obtain ⟨w470, hz, H471⟩ := inrs_some H463
   subst y457
   obtain rfl := (sm H459).symm
   refine Er ?_
   obtain rfl := sm H471
   exact Eo ((a464, c465), (a466, c467)) [1] [0] (.cell 0 rfl rfl rfl (.tmp rfl .nil))
  refine Ts (Tr ?_)
  refine Lq 2 ?_
  refine Ln (Et ?_)
  refine Tb H460 (fun H472 => ?_) fun H472 => ?_
  ·refine Ts (Tr ?_)
   refine Lq 1 ?_
   refine Lb 1 ?_
   refine Ln (Et (Tl (Ts (Tr ?_))))
   refine Lq 2 ?_
   refine Ln (Et ?_)
   refine Tb H472 (fun H473 => ?_) fun H473 => ?_
   ·refine Ts (Tr ?_)
    refine Lb 2 ?_
    refine Lq 1 ?_
    refine Lb 2 ?_
    refine Lq 2 ?_
    refine Lb 2 ?_
    obtain ⟨r474, h475, H476⟩ := bnd H473
    refine Lk [] [0] (c_ref11_place h475) fun ⟨⟩ => ?_
    refine Lt 0 ?_
    refine Lq 1 ?_
    refine Ln (Et (Tv (Ev (Ev ?_))))
    obtain ⟨w478, hz, H479⟩ := inrs_some H476
    subst y457
    obtain rfl := (sm H459).symm
    refine Er ?_
    refine E.nil0 tyRef09Row 69 ?_
    obtain rfl := sm H479
    exact Eo ((A0, C0), (none, 0)) [0] [0] (.cell 1 rfl rfl rfl (.tmp rfl .nil))
   refine Ts (Tr ?_)
   refine Lq 2 ?_
   refine Ln (Et ?_)
   refine Tb H473 (fun H481 => ?_) fun H481 => ?_
   ·refine Ts (Tr ?_)
    refine Lb 2 ?_
    refine Lq 1 ?_
    refine Lb 2 ?_
    refine Lq 4 ?_
    refine Lb 2 ?_
    obtain ⟨r482, h483, H484⟩ := bnd H481
    refine Lk [] [0] (c_ref11_place h483) fun ⟨⟩ => ?_
    refine Lt 0 ?_
    refine Lq 1 ?_
    refine Ln (Et (Tv (Ev (Ev ?_))))
    obtain ⟨w486, hz, H487⟩ := inrs_some H484
    subst y457
    obtain rfl := (sm H459).symm
    refine Er ?_
    refine E.nil0 tyRef09Row 69 ?_
    obtain rfl := sm H487
    exact Eo ((A0, C0), (none, 0)) [0] [0] (.cell 1 rfl rfl rfl (.tmp rfl .nil))
   refine Ts (Ts (Tr ?_))
   refine Lq 2 ?_
   refine Ln (Et ?_)
   obtain ⟨e494, H495, H496⟩ := bnd H481
   refine Tj0 [(40, .bool e494)] [2, 4, 19] [] [0, 1, 2] ?_ ?_
   ·refine Tb H495 (fun H497 => ?_) fun H497 => ?_
    ·refine Tk ?_
     obtain rfl := sm H497
     exact Eg0 [0, 0, 0] 0
    refine Ts (Tr ?_)
    refine Lq 2 ?_
    refine Ln (Et ?_)
    refine Tb H497 (fun H498 => ?_) fun H498 => ?_
    ·refine Tk ?_
     obtain rfl := sm H498
     exact Eg0 [0, 0, 0] 0
    refine Tr ?_
    refine Lq 2 ?_
    refine Ln ?_
    obtain rfl := sm H498
    exact Eg0 [0, 0, 0] 0
   refine Tb H496 (fun H499 => ?_) fun H499 => ?_
   ·refine Ts (Tr ?_)
    refine Lb 2 ?_
    obtain ⟨r500, h501, H502⟩ := bnd H499
    refine Lk [] [0] (c_ref11_line h501) fun ⟨⟨a503, c504⟩, ⟨a505, c506⟩⟩ => ?_
    refine Lq 2 ?_
    refine Lt 1 ?_
    refine Lq 1 ?_
    refine Ln (Et (Tv (Ev (Ev ?_))))
    obtain ⟨w509, hz, H510⟩ := inrs_some H502
    subst y457
    obtain rfl := (sm H459).symm
    refine Er ?_
    obtain rfl := sm H510
    exact Eo ((a503, c504), (a505, c506)) [1] [0] (.cell 0 rfl rfl rfl (.tmp rfl .nil))
   refine Ts (Tr ?_)
   refine Lq 2 ?_
   refine Ln (Et ?_)
   refine Tb H499 (fun H511 => ?_) fun H511 => ?_
   ·refine Ts (Tr ?_)
    refine Lb 2 ?_
    refine Lq 1 ?_
    refine Lb 2 ?_
    obtain ⟨r512, h513, H514⟩ := bnd H511
    refine Lk [] [0] (c_ref11_place h513) fun ⟨⟩ => ?_
    refine Lt 0 ?_
    refine Lq 1 ?_
    refine Ln (Et (Tv (Ev (Ev ?_))))
    obtain ⟨w516, hz, H517⟩ := inrs_some H514
    subst y457
    obtain rfl := (sm H459).symm
    refine Er ?_
    refine E.nil0 tyRef09Row 69 ?_
    obtain rfl := sm H517
    exact Eo ((A0, C0), (none, 0)) [0] [0] (.cell 1 rfl rfl rfl (.tmp rfl .nil))
   refine Tk (Eb (Eb ?_))
   obtain rfl := sm H511
   exact Eg (_, ()) rfl [2, 0, 0] [0] 0
  refine Ts (Tr ?_)
  refine Lq 2 ?_
  refine Ln (Et ?_)
  refine Tb H472 (fun H519 => ?_) fun H519 => ?_
  ·refine Ts (Tr ?_)
   refine Lq 1 ?_
   refine Lb 1 ?_
   refine Ln (Et (Tl (Ts (Tr ?_))))
   refine Lq 2 ?_
   refine Ln (Et ?_)
   refine Tb H519 (fun H520 => ?_) fun H520 => ?_
   ·refine Ts (Tr ?_)
    refine Lb 2 ?_
    obtain ⟨r521, h522, H523⟩ := bnd H520
    refine Lk [] [0] (c_ref11_line h522) fun ⟨⟨a524, c525⟩, ⟨a526, c527⟩⟩ => ?_
    refine Lq 2 ?_
    refine Lt 1 ?_
    refine Lq 1 ?_
    refine Ln (Et (Tv (Ev (Ev ?_))))
    obtain ⟨w530, hz, H531⟩ := inrs_some H523
    subst y457
    obtain rfl := (sm H459).symm
    refine Er ?_
    obtain rfl := sm H531
    exact Eo ((a524, c525), (a526, c527)) [1] [0] (.cell 0 rfl rfl rfl (.tmp rfl .nil))
   refine Ts (Tr ?_)
   refine Lq 2 ?_
   refine Ln (Et ?_)
   refine Tb H520 (fun H532 => ?_) fun H532 => ?_
   ·refine Ts (Tr ?_)
    refine Lq 1 ?_
    refine Lt 2 ?_
    refine Ln (Et (Ts (Tr ?_)))
    refine Lb 0 ?_
    obtain ⟨r533, h534, H535⟩ := bnd H532
    refine Lk [] [0] (c_ref11_line h534) fun ⟨⟨a536, c537⟩, ⟨a538, c539⟩⟩ => ?_
    refine Lq 2 ?_
    refine Lt 2 ?_
    refine Lq 1 ?_
    refine Ln (Et (Tv (Ev (Ev ?_))))
    obtain ⟨w542, hz, H543⟩ := inrs_some H535
    subst y457
    obtain rfl := (sm H459).symm
    refine Er ?_
    obtain rfl := sm H543
    exact Eo ((a536, c537), (a538, c539)) [1] [0] (.cell 0 rfl rfl rfl (.tmp rfl .nil))
   refine Ts (Tr ?_)
   refine Lq 2 ?_
   refine Ln (Et ?_)
   refine Tb H532 (fun H544 => ?_) fun H544 => ?_
   ·refine Ts (Tr ?_)
    refine Lq 1 ?_
    refine Lt 2 ?_
    refine Ln (Et (Ts (Ts (Tr ?_))))
    refine Lq 1 ?_
    refine Lb 0 ?_
    refine Lq 1 ?_
    refine Lb 0 ?_
    refine Lq 1 ?_
    refine Ln (Et ?_)
    refine Tb H544 (fun H594 => ?_) fun H594 => ?_
    ·refine Ts ?_
     refine Td [14] [0, 0, 0] mo ?_
     refine Dq 0 ?_
     refine Db 1 0 ?_
     refine Dq 2 ?_
     refine Db 3 0 ?_
     refine Dq 4 ?_
     refine Db 5 0 ?_
     refine Dq 6 ?_
     refine Db 7 0 ?_
     obtain ⟨r631, h632, H633⟩ := bnd H594
     refine Dk [] [] (c_ref08_Num h632) fun ⟨⟩ => ?_
     obtain ⟨r634, h635, H636⟩ := bnd H633
     refine Dk [] [0] (c_ref10_Move h635) fun ⟨⟨a637, c638⟩, ⟨a639, c640⟩⟩ => ?_
     refine Dq 10 ?_
     refine Dq 11 ?_
     refine Dq 12 ?_
     refine Dq 13 ?_
     refine Dt 0 ?_
     refine Dn ?_
     refine Et (Ts (Tr ?_))
     refine Lb 0 ?_
     refine Lt 1 ?_
     refine Lq 1 ?_
     refine Ln (Et (Tv (Er (Ev (Ev ?_)))))
     obtain ⟨w643, hz, H644⟩ := inrs_some H636
     subst y457
     obtain rfl := (sm H459).symm
     refine Er ?_
     refine E.nil0 tyRef09Row 69 ?_
     obtain rfl := sm H644
     exact Eo ((a637, c638), (none, 0)) [0] [0] (.cell 1 rfl rfl rfl (.tmp rfl .nil))
    refine Tk (Et (Ts (Tr ?_)))
    refine Lb 0 ?_
    refine Lq 1 ?_
    refine Lb 0 ?_
    refine Lq 1 ?_
    refine Lb 0 ?_
    refine Lq 1 ?_
    obtain ⟨r646, h647, H648⟩ := bnd H594
    refine Lk [] [0] (c_ref11_place h647) fun ⟨⟩ => ?_
    refine Lt 1 ?_
    refine Lq 1 ?_
    refine Ln (Et (Tv (Ev (Ev ?_))))
    obtain ⟨w650, hz, H651⟩ := inrs_some H648
    subst y457
    obtain rfl := (sm H459).symm
    refine Er ?_
    refine E.nil0 tyRef09Row 69 ?_
    obtain rfl := sm H651
    exact Eo ((A0, C0), (none, 0)) [0] [0] (.cell 1 rfl rfl rfl (.tmp rfl .nil))
   refine Ts (Tr ?_)
   refine Lq 2 ?_
   refine Ln (Et ?_)
   refine Tb H544 (fun H653 => ?_) fun H653 => ?_
   ·refine Tr ?_
    refine Lq 1 ?_
    refine Lb 2 ?_
    refine Lq 1 ?_
    refine Lb 2 ?_
    refine Lq 1 ?_
    refine Lb 2 ?_
    refine Lq 1 ?_
    refine Lt 2 ?_
    refine Lq 1 ?_
    refine Lt 0 ?_
    refine Lq 1 ?_
    refine Lt 0 ?_
    refine Ln (Eb (Eb ?_))
    obtain rfl := sm H653
    exact Eg (_, ()) rfl [0, 0, 0] [0] 0
   refine Ts (Tr ?_)
   refine Lq 2 ?_
   refine Ln (Et ?_)
   refine Tb H653 (fun H654 => ?_) fun H654 => ?_
   ·refine Ts (Tr ?_)
    refine Lq 1 ?_
    refine Lb 2 ?_
    refine Lq 1 ?_
    refine Lt 2 ?_
    refine Ln (Et (Ts (Tr ?_)))
    refine Lb 0 ?_
    refine Lq 1 ?_
    refine Lb 0 ?_
    refine Lq 1 ?_
    refine Lb 0 ?_
    obtain ⟨r655, h656, H657⟩ := bnd H654
    refine Lk [] [0] (c_ref11_place h656) fun ⟨⟩ => ?_
    refine Lt 1 ?_
    refine Lq 1 ?_
    refine Ln (Et (Tv (Ev (Ev ?_))))
    obtain ⟨w659, hz, H660⟩ := inrs_some H657
    subst y457
    obtain rfl := (sm H459).symm
    refine Er ?_
    refine E.nil0 tyRef09Row 69 ?_
    obtain rfl := sm H660
    exact Eo ((A0, C0), (none, 0)) [0] [0] (.cell 1 rfl rfl rfl (.tmp rfl .nil))
   refine Ts (Tr ?_)
   refine Lq 2 ?_
   refine Ln (Et ?_)
   refine Tb H654 (fun H662 => ?_) fun H662 => ?_
   ·refine Ts (Tr ?_)
    refine Lq 2 ?_
    refine Lb 2 ?_
    refine Lq 2 ?_
    refine Lb 2 ?_
    refine Lq 1 ?_
    obtain ⟨r663, h664, H665⟩ := bnd H662
    refine Lk [] [] (c_ref11_New h664) fun ⟨a666, c667⟩ => ?_
    refine Lt 0 ?_
    refine Lq 1 ?_
    refine Ln (Et (Tv (Ev (Ev ?_))))
    obtain ⟨w669, hz, H670⟩ := inrs_some H665
    subst y457
    obtain rfl := (sm H459).symm
    refine Er ?_
    refine E.nil0 tyRef09Row 69 ?_
    obtain rfl := sm H670
    exact Eo ((a666, c667), (none, 0)) [0] [0] (.cell 1 rfl rfl rfl (.tmp rfl .nil))
   refine Tk (Eb (Eb ?_))
   obtain rfl := sm H662
   exact Eg (_, ()) rfl [2, 0, 0] [0] 0
  refine Ts (Tr ?_)
  refine Lq 2 ?_
  refine Ln (Et ?_)
  refine Tb H519 (fun H672 => ?_) fun H672 => ?_
  ·refine Ts (Ts (Tr ?_))
   refine Lq 1 ?_
   refine Lb 1 ?_
   refine Lq 1 ?_
   refine Ln (Et ?_)
   refine Tb H672 (fun H683 => ?_) fun H683 => ?_
   ·refine Ts (Tr ?_)
    refine Lb 2 ?_
    refine Lq 1 ?_
    refine Lb 1 ?_
    refine Lq 1 ?_
    refine Lb 1 ?_
    obtain ⟨r684, h685, H686⟩ := bnd H683
    refine Lk [] [0, 1] (c_ref11_Command h685) fun ⟨⟨a687, c688⟩, ⟨a689, c690⟩⟩ => ?_
    refine Lq 2 ?_
    refine Lt 1 ?_
    refine Lq 1 ?_
    refine Ln (Et (Tv (Er (Ev ?_))))
    obtain ⟨w693, hz, H694⟩ := inrs_some H686
    subst y457
    obtain rfl := (sm H459).symm
    refine Er ?_
    obtain rfl := sm H694
    exact Eo ((a687, c688), (a689, c690)) [1] [0] (.cell 0 rfl rfl rfl (.tmp rfl .nil))
   refine Tk (Et (Ts ?_))
   obtain ⟨e706, H707, H708⟩ := bnd H683
   refine Tj0 [(159, .bool e706)] [2, 3, 4] [] [0, 1, 2] ?_ ?_
   ·refine Tr ?_
    refine Lq 1 ?_
    refine Lb 1 ?_
    obtain ⟨r709, h710, H711⟩ := bnd H707
    refine Lk [] [1] (c_ref11_num h710) fun ⟨⟩ => ?_
    refine Lq 2 ?_
    refine Lw 150 H711 (fun H712 => ?_) fun H712 => ?_
    ·refine Lq 1 ?_
     refine Lb 1 ?_
     refine Lq 2 ?_
     refine Lw 154 H712 (fun H713 => ?_) fun H713 => ?_
     ·refine Lq 5 ?_
      refine Ln ?_
      obtain rfl := sm H713
      exact Eg0 [0, 0, 0] 0
     refine Lq 1 ?_
     refine Lb 1 ?_
     refine Lq 3 ?_
     refine Ln ?_
     obtain rfl := sm H713
     exact Eg0 [0, 0, 0] 0
    refine Lq 9 ?_
    refine Ln ?_
    obtain rfl := sm H712
    exact Eg0 [0, 0, 0] 0
   refine Tb H708 (fun H714 => ?_) fun H714 => ?_
   ·refine Tr ?_
    refine Lq 1 ?_
    refine Lb 1 ?_
    refine Lq 2 ?_
    refine Lt 2 ?_
    refine Ln (Eb ?_)
    obtain rfl := sm H714
    exact Eg (_, ()) rfl [0, 0, 0] [0] 0
   refine Tk (Eb ?_)
   obtain rfl := sm H714
   exact Eg (_, ()) rfl [2, 0, 0] [0] 0
  refine Ts (Tr ?_)
  refine Lq 2 ?_
  refine Ln (Et ?_)
  refine Tb H672 (fun H715 => ?_) fun H715 => ?_
  ·refine Tr ?_
   refine Lq 1 ?_
   refine Lb 1 ?_
   refine Lq 1 ?_
   refine Lt 2 ?_
   refine Ln (Eb ?_)
   obtain rfl := sm H715
   exact Eg (_, ()) rfl [0, 0, 0] [0] 0
  refine Tk (Eb ?_)
  obtain rfl := sm H715
  exact Eg (_, ()) rfl [2, 0, 0] [0] 0
 rintro ⟨e456, ⟨⟩⟩ hy
 subst hy
 refine Ts (Tr ?_)
 refine Lb 0 ?_
 refine Lt 1 ?_
 refine Lq 1 ?_
 refine Ln (Et (Tv ?_))
 refine E.nil0 tyRef09Row 69 ?_
 obtain rfl := sm H459
 exact Eo ((A0, C0), (none, 0)) [0] [0] (.cell 1 rfl rfl rfl (.tmp rfl .nil))

theorem c_grid_Grid_Rows {g : GridGrid} {r : (List RowRow) × GridGrid} (H : p_grid_Grid_Rows g = some r) : CT G 17 [.pointer (some ⟨N0, 0, none⟩)] [Ch.box N0 96 [.int .i64 g.w, .slice A0 g.l.length C0], Ch.arr tyRowRow 52 A0 C0 g.l] [] (fun h : (Option Addr × Nat) => .slice h.1 r.1.length h.2) (fun h => [Ch.arr tyRowRow 52 h.1 h.2 r.1, Ch.box N0 96 [.int .i64 r.2.w, .slice A0 r.2.l.length C0], Ch.arr tyRowRow 52 A0 C0 r.2.l]) (fun h => []) := by
 delta p_grid_Grid_Rows at H
 refine CT.of Go.Proofs.Tryz.func17 (by kernel_rfl) rfl rfl rfl fun K => ?_
 refine Ts (Tr ?_)
 refine Lq 1 ?_
 refine Ln (Et (Ts (Tr ?_)))
 refine Lq 3 ?_
 refine Lb 0 ?_
 obtain ⟨r1, h2, H3⟩ := bnd H
 refine Lk [1] [] (c_grid_copies_v2 h2) fun ⟨a4, c5⟩ => ?_
 obtain ⟨_, h8, H9⟩ := bnd H3
 refine L.bx 2 (cs' := [.int .i64 g.w, .slice A0 r1.2.length C0]) (by rw [chk_some h8]) rfl ?_
 refine Lq 1 ?_
 refine Ln (Et (Tv ?_))
 obtain rfl := sm H9
 exact Eo1 (a4, c5) [1, 0, 0] []

theorem c_law09_Is {r_ : RowRow} {x_ : Ref09Row} {r : Bool} (H : p_law09_Is r_ x_ = some r) : CT G 92 [.agg #[.slice A0 r_.cells.length C0, .bool r_.wrapped], .agg #[.slice A1 x_.l.length C1, .bool x_.wrapped]] [] [Im.sl tyRowCell A0 C0 r_.cells, Im.sl tyRef09Cell A1 C1 x_.l] (fun _ : Unit => .bool r) (fun h => []) (fun h => []) := by
 delta p_law09_Is at H
 refine CT.of Go.Proofs.Tryz.func92 (by kernel_rfl) rfl rfl rfl fun K => ?_
 refine Ts (Tr ?_)
 refine Lx fun g1 => ?_
 refine Lx fun g2 => ?_
 refine Lq 1 ?_
 refine Ln (Et (Ts (Ts ?_)))
 obtain ⟨e6, H7, H8⟩ := bnd H
 refine Tj0 [(20, .bool e6)] [2, 3] [] [0, 1] ?_ ?_
 ·refine Tr ?_
  refine Lq 1 ?_
  refine Lb 1 ?_
  refine Lq 2 ?_
  refine Lb 0 ?_
  refine Lq 3 ?_
  refine Lw 14 H7 (fun H9 => ?_) fun H9 => ?_
  ·refine Lq 6 ?_
   refine Ln ?_
   obtain rfl := sm H9
   exact Eg0 [0, 0] 0
  refine Lq 1 ?_
  refine Lb 1 ?_
  refine Lq 1 ?_
  refine Lb 0 ?_
  refine Lq 2 ?_
  refine Ln ?_
  obtain rfl := sm H9
  exact Eg0 [0, 0] 0
 refine Tb H8 (fun H11 => ?_) fun H11 => ?_
 ·refine Ts (Tr ?_)
  refine Lq 1 ?_
  refine Ln (Et (Tv (Er ?_)))
  obtain rfl := sm H11
  exact Eo1 () [] []
 refine Tk (Et (Ts (Ts (Tr ?_))))
 refine Lq 1 ?_
 refine Lb 1 ?_
 refine Lq 2 ?_
 refine Ln (Et ?_)
 obtain ⟨y713, H714, H715⟩ := bnd H11
 refine Tj (η := Unit × Unit) (fun h => y713 = .inl h.1) (fun _ => []) [] (fun _ => []) [0, 1] (fun _ => []) ?_ ?_
 ·refine Tl ?_
  refine Tq (η := Unit) (fun s479 h => [(24, .int .i64 s479)]) [3, 22, 23] (fun _ _ => []) [0, 1] (fun _ _ => []) () [0, 0] [] H714 ?_
  rintro k_ s479 ⟨⟩ z717 H716 hag718 hbr719
  refine Ts (Tr ?_)
  refine Lq 1 ?_
  refine Ln (Et (Ts ?_))
  refine Tb H716 (fun H721 => ?_) fun H721 => ?_
  ·refine Tk (Et (Ts (Tl (Ts (Tr ?_)))))
   refine Lq 1 ?_
   obtain ⟨x837, h838, H839⟩ := bnd H721
   refine L.addr 0 rfl (idx_lt h838) fun b840 o841 e842 => ?_
   subst e842
   refine Ly (Yl.ia h838 rfl rfl rfl rfl rfl rfl) ?_
   refine L.el 0 rfl (idx_some h838).2 ?_
   rintro _
   refine Lc 0 0 ?_
   refine Ll fun g844 => ?_
   refine Lq 1 ?_
   refine Lt 0 ?_
   refine Ln (Et (Ts ?_))
   obtain ⟨e914, H915, H916⟩ := bnd H839
   refine Tj0 [(60, .bool e914)] [3, 22, 23, 24] [] [0, 1, 2] ?_ ?_
   ·refine Td [] [0, 0, 0] mo ?_
    refine Dq 0 ?_
    refine Db 1 0 ?_
    refine Dq 2 ?_
    refine Dq 3 ?_
    refine Db 4 1 ?_
    refine Dq 5 ?_
    obtain ⟨x934, h935, H936⟩ := bnd H915
    refine D.addr 2 rfl (idx_lt h935) fun b937 o938 e939 => ?_
    subst e939
    refine Dy 6 (Yl.ia h935 rfl rfl rfl rfl rfl rfl) ?_
    refine D.el 2 rfl (idx_some h935).2 ?_
    rintro _
    refine Dq 7 ?_
    refine Dy 8 (Yl.ldc 0 0 rfl rfl rfl rfl) ?_
    refine Dq 9 ?_
    refine Dq 10 ?_
    refine D.cs 39 H936 rfl (fun hc H941 => ?_) (fun hc H941 => ?_)
    ·refine Ds 11 ?_
     refine Ds 12 ?_
     refine Ds 13 ?_
     refine Ds 14 ?_
     refine Ds 15 ?_
     refine Ds 16 ?_
     refine Ds 17 ?_
     refine Ds 18 ?_
     refine Ds 19 ?_
     refine Dq 20 ?_
     refine Dq 21 ?_
     refine Ds 22 ?_
     refine Ds 23 ?_
     refine Ds 24 ?_
     refine Ds 25 ?_
     refine Ds 26 ?_
     refine Ds 27 ?_
     refine Ds 28 ?_
     refine Ds 29 ?_
     refine Ds 30 ?_
     refine Dq 31 ?_
     refine Dn ?_
     obtain rfl := sm H941
     exact Eg0 [0, 0, 0] 1
    refine Dq 11 ?_
    refine Db 12 0 ?_
    refine Dq 13 ?_
    refine Db 14 1 ?_
    refine Dq 15 ?_
    obtain ⟨x942, h943, H944⟩ := bnd H941
    refine Dy 16 (Yl.ia h943 rfl rfl rfl rfl rfl rfl) ?_
    refine D.el 3 rfl (idx_some h943).2 ?_
    rintro _
    refine Dq 17 ?_
    refine Dy 18 (Yl.ldc 0 1 rfl rfl rfl rfl) ?_
    refine Dq 19 ?_
    refine Dq 20 ?_
    refine Dq 21 ?_
    refine D.cs 50 H944 rfl (fun hc H946 => ?_) (fun hc H946 => ?_)
    ·refine Ds 22 ?_
     refine Ds 23 ?_
     refine Ds 24 ?_
     refine Ds 25 ?_
     refine Ds 26 ?_
     refine Ds 27 ?_
     refine Ds 28 ?_
     refine Ds 29 ?_
     refine Ds 30 ?_
     refine Dq 31 ?_
     refine Dn ?_
     obtain rfl := sm H946
     exact Eg0 [0, 0, 0] 2
    refine Dq 22 ?_
    refine Db 23 0 ?_
    refine Dq 24 ?_
    refine Db 25 1 ?_
    refine Dq 26 ?_
    obtain ⟨x947, h948, H949⟩ := bnd H946
    refine Dy 27 (Yl.ia h948 rfl rfl rfl rfl rfl rfl) ?_
    refine D.el 4 rfl (idx_some h948).2 ?_
    rintro _
    refine Dq 28 ?_
    refine Dy 29 (Yl.ldc 0 2 rfl rfl rfl rfl) ?_
    refine Dq 30 ?_
    refine Dq 31 ?_
    refine Dn ?_
    obtain rfl := sm H949
    exact Eg0 [0, 0, 0] 3
   refine Tb H916 (fun H951 => ?_) fun H951 => ?_
   ·refine Ts (Tr ?_)
    refine Lq 1 ?_
    refine Ln (Et (Tv (Ev (Er (Er (Ev ?_))))))
    obtain ⟨w952, hz, H953⟩ := inrr_some H951
    subst z717
    have hb := hbr719 _ rfl
    subst y713
    obtain rfl := (sm H715).symm
    refine Er ?_
    obtain rfl := sm H953
    exact Eo1 () [] []
   refine Tk (Eb (Et (Tr ?_)))
   refine Lq 2 ?_
   refine Ln ?_
   obtain rfl := sm H951
   exact Eg (_, ()) (hag718 _ rfl) [1, 1] [] 1
  refine Tx (Ex (Ex (Eh ?_)))
  obtain rfl := sm H721
  have hb := hbr719 _ rfl
  subst y713
  exact Eg (_, ()) rfl [0, 0] [] 0
 rintro ⟨e712, ⟨⟩⟩ hy
 subst hy
 refine Ts (Tr ?_)
 refine Lq 1 ?_
 refine Ln (Et (Tv ?_))
 obtain rfl := sm H715
 exact Eo1 () [] []

theorem c_law10_Rows {l : List RowRow} {x_ : List Ref09Row} {r : Bool} (H : p_law10_Rows l x_ = some r) : CT G 46 [.slice A0 l.length C0, .slice A1 x_.length C1] [] [Im.sl tyRowRow A0 C0 l, Im.sl tyRef09Row A1 C1 x_] (fun _ : Unit => .bool r) (fun h => []) (fun h => []) := by
 delta p_law10_Rows at H
 refine CT.of Go.Proofs.Tryz.func46 (by kernel_rfl) rfl rfl rfl fun K => ?_
 refine Ts (Tr ?_)
 refine Lq 1 ?_
 refine Ln (Et (Ts (Ts (Tr ?_))))
 refine Lq 5 ?_
 refine Ln (Et ?_)
 refine Tb H (fun H2 => ?_) fun H2 => ?_
 ·refine Ts (Tr ?_)
  refine Lq 1 ?_
  refine Ln (Et (Tv (Er ?_)))
  obtain rfl := sm H2
  exact Eo1 () [] []
 refine Tk (Et (Ts (Ts (Tr ?_))))
 refine Lq 3 ?_
 refine Ln (Et ?_)
 obtain ⟨y572, H573, H574⟩ := bnd H2
 refine Tj (η := Unit × Unit) (fun h => y572 = .inl h.1) (fun _ => []) [] (fun _ => []) [] (fun _ => []) ?_ ?_
 ·refine Tl ?_
  refine Tq (η := Unit) (fun s382 h => [(13, .int .i64 s382)]) [0, 1, 12] (fun _ _ => []) [] (fun _ _ => []) () [] [] H573 ?_
  rintro k_ s382 ⟨⟩ z576 H575 hag577 hbr578
  refine Ts (Tr ?_)
  refine Lq 1 ?_
  refine Ln (Et (Ts ?_))
  refine Tb H575 (fun H580 => ?_) fun H580 => ?_
  ·refine Tk (Et (Ts (Tl (Ts (Tr ?_)))))
   refine Lq 2 ?_
   refine Ln (Et (Ts ?_))
   refine Td [] [] mo ?_
   refine Dq 0 ?_
   refine Dq 1 ?_
   obtain ⟨x743, h744, H745⟩ := bnd H580
   refine D.addr 0 rfl (idx_lt h744) fun b746 o747 e748 => ?_
   subst e748
   refine Dy 2 (Yl.ia h744 rfl rfl rfl rfl rfl rfl) ?_
   refine D.el 0 rfl (idx_some h744).2 ?_
   rintro ⟨a749, c750⟩
   refine Dy 3 (Yl.ldc 0 0 rfl rfl rfl rfl) ?_
   refine Dq 4 ?_
   refine Dq 5 ?_
   obtain ⟨x753, h754, H755⟩ := bnd H745
   refine D.addr 3 rfl (idx_lt h754) fun b756 o757 e758 => ?_
   subst e758
   refine Dy 6 (Yl.ia h754 rfl rfl rfl rfl rfl rfl) ?_
   refine D.el 3 rfl (idx_some h754).2 ?_
   rintro ⟨a759, c760⟩
   refine Dy 7 (Yl.ldc 0 0 rfl rfl rfl rfl) ?_
   obtain ⟨r763, h764, H765⟩ := bnd H755
   refine Dk [] [3, 1] (c_law09_Is h764) fun ⟨⟩ => ?_
   refine Dq 9 ?_
   refine Dn ?_
   refine Et ?_
   refine Tb H765 (fun H766 => ?_) fun H766 => ?_
   ·refine Ts (Tr ?_)
    refine Lq 1 ?_
    refine Ln (Et (Tv (Ev (Er (Er (Ev ?_))))))
    obtain ⟨w767, hz, H768⟩ := inrr_some H766
    subst z576
    have hb := hbr578 _ rfl
    subst y572
    obtain rfl := (sm H574).symm
    refine Er ?_
    obtain rfl := sm H768
    exact Eo1 () [] []
   refine Tk (Eb (Et (Tr ?_)))
   refine Lq 2 ?_
   refine Ln ?_
   obtain rfl := sm H766
   exact Eg (_, ()) (hag577 _ rfl) [] [] 4
  refine Tx (Ex (Ex (Eh ?_)))
  obtain rfl := sm H580
  have hb := hbr578 _ rfl
  subst y572
  exact Eg (_, ()) rfl [] [] 0
 rintro ⟨e571, ⟨⟩⟩ hy
 subst hy
 refine Ts (Tr ?_)
 refine Lq 1 ?_
 refine Ln (Et (Tv ?_))
 obtain rfl := sm H574
 exact Eo1 () [] []

theorem c_law11_small {n_ : Int} {r : Int} (H : p_law11_small n_ = some r) : CT G 23 [.int .i64 n_] [] [] (fun _ : Unit => .int .i64 r) (fun h => []) (fun h => []) := by
 delta p_law11_small at H
 refine CT.of Go.Proofs.Tryz.func23 (by kernel_rfl) rfl rfl rfl fun K => ?_
 refine Ts (Tr ?_)
 refine Lq 1 ?_
 refine Ln (Et (Ts (Tr ?_)))
 refine Lq 3 ?_
 refine Ln (Et (Tv ?_))
 obtain rfl := sm H
 exact Eo1 () [] []

theorem c_ref10_Resize {g : Ref10Grid} {w : Int} {h_ : Int} {off : Int} {r : Ref10Grid × (List Ref09Row)} (H : p_ref10_Resize g w h_ off = some r) : CT G 93 [.agg #[.int .i64 g.w, .slice A0 g.l.length C0], .int .i64 w, .int .i64 h_, .int .i64 off] [] [Im.sl tyRef09Row A0 C0 g.l] (fun h : (Option Addr × Nat) × (Option Addr × Nat) => .tuple #[.agg #[.int .i64 r.1.w, .slice h.1.1 r.1.l.length h.1.2], .slice h.2.1 r.2.length h.2.2]) (fun h => []) (fun h => [Im.sl tyRef09Row h.1.1 h.1.2 r.1.l, Im.sl tyRef09Row h.2.1 h.2.2 r.2]) := by
 delta p_ref10_Resize at H
 refine CT.of Go.Proofs.Tryz.func93 (by kernel_rfl) rfl rfl rfl fun K => ?_
 refine Ts (Tr ?_)
 refine Lx fun g1 => ?_
 refine Ll fun g2 => ?_
 refine Lq 1 ?_
 refine Ln (Et (Ts (Tr ?_)))
 refine Lq 2 ?_
 refine Lb 1 ?_
 refine Lq 5 ?_
 refine Ln (Et (Ts (Tr ?_)))
 refine Lq 1 ?_
 obtain ⟨r3, h4, H5⟩ := bnd H
 refine Lk [] [] (c_ref10_size h4) fun ⟨⟩ => ?_
 refine Lq 1 ?_
 refine Ll fun g6 => ?_
 refine Lt 0 ?_
 refine Ln (Et (Ts (Ts (Tr ?_))))
 refine Lq 1 ?_
 refine Ln (Et ?_)
 obtain ⟨e768, H769, H770⟩ := bnd H5
 refine Tjh (η := (Option Addr × Nat)) (fun _ => []) [3, 4, 8, 10] (fun h => (fun a765 c766 => [Ch.arr tyRef09Row 69 a765 c766 e768.l, Ch.box g6 27 [.int .i64 e768.w, .slice a765 e768.l.length c766]]) h.1 h.2) [1, 2] (fun _ => []) ?_ ?_
 ·refine Tl ?_
  refine T.nil0 tyRef09Row 69 ?_
  refine Tq (η := (Option Addr × Nat)) (fun s520 h => (fun a516 c517 => [(11, .int .i64 s520.2)]) h.1 h.2) [2, 3, 4, 8, 10] (fun s520 h => (fun a516 c517 => [Ch.arr tyRef09Row 69 a516 c517 s520.1.l, Ch.box g6 27 [.int .i64 s520.1.w, .slice a516 s520.1.l.length c517]]) h.1 h.2) [2, 3] (fun _ _ => []) (none, 0) [0, 0, 0, 0] [] H769 ?_
  rintro k_ s520 ⟨a516, c517⟩ z772 H771 hag773 hbr774
  refine Ts (Ts (Tr ?_))
  refine Lq 2 ?_
  obtain ⟨r775, h776, H777⟩ := bnd H771
  refine Lk [] [] (c_ref10_size h776) fun ⟨⟩ => ?_
  refine Lq 1 ?_
  refine Ln (Et ?_)
  refine Tb H777 (fun H779 => ?_) fun H779 => ?_
  ·refine Tk (Et (Ts ?_))
   obtain ⟨e938, H939, H940⟩ := bnd H779
   refine Tjh (η := (Option Addr × Nat)) (fun _ => []) [2, 3, 4, 8, 10, 11] (fun h => (fun a935 c936 => [Ch.arr tyRef09Row 69 a935 c936 e938.l, Ch.box g6 27 [.int .i64 e938.w, .slice a935 e938.l.length c936]]) h.1 h.2) [2, 3] (fun _ => []) ?_ ?_
   ·refine Tl (Ts (Tr ?_))
    refine Lq 4 ?_
    refine Lb 3 ?_
    refine Lq 2 ?_
    refine Ln (Et ?_)
    refine Tb H939 (fun H941 => ?_) fun H941 => ?_
    ·refine Td [15] [1, 1, 1] mo ?_
     refine Dq 0 ?_
     refine Db 1 0 ?_
     refine Dq 2 ?_
     refine Db 3 2 ?_
     refine Dq 4 ?_
     refine Dq 5 ?_
     refine Dq 6 ?_
     obtain ⟨x966, h967, H968⟩ := bnd H941
     refine D.addr 0 rfl (idx_lt h967) fun b969 o970 e971 => ?_
     subst e971
     refine Dy 7 (Yl.ia h967 rfl rfl rfl rfl rfl rfl) ?_
     refine D.el 0 rfl (idx_some h967).2 ?_
     rintro ⟨a972, c973⟩
     refine Dy 8 (Yl.ldc 0 0 rfl rfl rfl rfl) ?_
     refine Dq 9 ?_
     refine Db 10 0 ?_
     obtain ⟨r976, h977, H978⟩ := bnd H968
     refine Dk [] [1] (c_ref09_Resize h977) fun ⟨a979, c980⟩ => ?_
     refine Da [] [0] rfl rfl (Ac.bs (ty := tyRef09Row) (xs := [r976]) (.cons (a979, c980) [0] rfl .nil) rfl rfl rfl rfl rfl rfl rfl) fun g982 => ?_
     refine D.frz 0 rfl ?_
     obtain ⟨_, h985, H986⟩ := bnd H978
     refine Da [0] [0] rfl rfl (Ac.ap (ty := tyRef09Row) h985 rfl rfl rfl rfl rfl rfl rfl) ?_
     rintro ⟨a987, c988⟩
     refine Dq 14 ?_
     refine Dt 0 ?_
     refine Dn ?_
     refine Eb ?_
     obtain rfl := sm H986
     exact Eg (a987, c988) trivial [3, 0, 0, 0] [] 4
    refine Td [8] [1, 1, 1] mo ?_
    refine Dq 0 ?_
    refine Db 1 0 ?_
    refine Dq 2 ?_
    refine Db 3 0 ?_
    obtain ⟨r1004, h1005, H1006⟩ := bnd H941
    refine Dk [] [] (c_ref09_Blank h1005) fun ⟨a1007, c1008⟩ => ?_
    refine Da [] [0] rfl rfl (Ac.bs (ty := tyRef09Row) (xs := [r1004]) (.cons (a1007, c1008) [0] rfl .nil) rfl rfl rfl rfl rfl rfl rfl) fun g1010 => ?_
    refine D.frz 0 rfl ?_
    obtain ⟨_, h1013, H1014⟩ := bnd H1006
    refine Da [0] [0] rfl rfl (Ac.ap (ty := tyRef09Row) h1013 rfl rfl rfl rfl rfl rfl rfl) ?_
    rintro ⟨a1015, c1016⟩
    refine Dq 7 ?_
    refine Dt 0 ?_
    refine Dn ?_
    refine Eb ?_
    obtain rfl := sm H1014
    exact Eg (a1015, c1016) trivial [3, 0, 0, 0] [] 2
   rintro ⟨a935, c936⟩
   refine Tr ?_
   refine Lq 3 ?_
   refine Ln ?_
   obtain rfl := sm H940
   exact Eg (_, (a935, c936)) (hag773 _ rfl) [0, 0, 0, 0] [] 0
  refine Tx (Ex (Ex (Eh ?_)))
  obtain rfl := sm H779
  have hb := hbr774 _ rfl
  subst e768
  exact Eg (a516, c517) trivial [0, 0, 0, 0] [] 0
 rintro ⟨a765, c766⟩
 refine Ts ?_
 refine Td [] [0, 0, 1] mo ?_
 refine Db 0 1 ?_
 refine Dq 1 ?_
 refine Db 2 2 ?_
 refine Dq 3 ?_
 obtain ⟨_, h1033, H1034⟩ := bnd H770
 refine D.rsl 0 4 h1033 rfl rfl rfl rfl rfl rfl rfl rfl rfl rfl rfl rfl rfl rfl ?_
 intro a1035 c1036
 refine Da [0] [] rfl rfl (Ac.stb rfl rfl rfl rfl rfl rfl) fun _ => ?_
 refine Dq 6 ?_
 refine Dn ?_
 refine Et (Tv ?_)
 refine E.frz 0 rfl ?_
 obtain rfl := sm H1034
 exact Eo ((a765, c766), (a1035, c1036)) [] [0, 1] (.cell 2 rfl rfl rfl (.tmp rfl .nil))

end Go.Tw.X

set_option maxHeartbeats 2000000
set_option linter.unusedVariables false
set_option linter.unusedSimpArgs false
set_option maxRecDepth 10000
namespace Go.Tw.X
open Go Go.Tw
variable {A0 A1 A2 : Option Addr} {C0 C1 C2 : Nat}
variable {N0 N1 N2 N3 N4 : Nat}
theorem c_ref11_Resize {s_ : Ref11Screen} {w : Int} {h_ : Int} {r : Ref11Screen × (List Ref09Row)} (H : p_ref11_Resize s_ w h_ = some r) : CT G 47 [.agg (bx31 s_ A0 C0).toArray, .int .i64 w, .int .i64 h_] [] [Im.sl tyRef09Row A0 C0 s_.g.l] (fun h : (Option Addr × Nat) × (Option Addr × Nat) => .tuple #[.agg (bx31 r.1 h.1.1 h.1.2).toArray, .slice h.2.1 r.2.length h.2.2]) (fun h => []) (fun h => [Im.sl tyRef09Row h.1.1 h.1.2 r.1.g.l, Im.sl tyRef09Row h.2.1 h.2.2 r.2]) := by
 delta p_ref11_Resize at H
 refine CT.of Go.Proofs.Tryz.func47 (by kernel_rfl) rfl rfl rfl fun K => ?_
 refine Ts (Tr ?_)
 refine Lx fun g1 => ?_
 refine Ll fun g2 => ?_
 refine Lq 1 ?_
 refine Ln (Et (Ts (Tr ?_)))
 refine Lq 1 ?_
 refine Lb 1 ?_
 refine Lq 7 ?_
 refine Ln (Et (Ts (Tr ?_)))
 refine Lq 1 ?_
 refine Lb 1 ?_
 refine Lq 3 ?_
 obtain ⟨r3, h4, H5⟩ := bnd H
 refine Lk [] [0] (c_ref10_Resize h4) fun ⟨⟨a6, c7⟩, ⟨a8, c9⟩⟩ => ?_
 refine Lq 3 ?_
 refine Ll fun g12 => ?_
 refine Lt 0 ?_
 refine Lq 1 ?_
 refine Ln (Et (Ts (Tr ?_)))
 refine Lb 0 ?_
 refine Lq 1 ?_
 refine Lt 2 ?_
 refine Ln (Et (Ts (Tr ?_)))
 refine Lq 1 ?_
 refine Lt 0 ?_
 refine Ln (Et (Ts (Tr ?_)))
 refine Lq 1 ?_
 refine Lb 1 ?_
 refine Lq 3 ?_
 refine Lt 0 ?_
 refine Ln (Et (Ts (Tr ?_)))
 refine Lb 0 ?_
 refine Lq 1 ?_
 refine Lb 0 ?_
 refine Lq 1 ?_
 refine Lb 0 ?_
 refine Lq 2 ?_
 obtain ⟨r13, h14, H15⟩ := bnd H5
 refine Lk [] [0] (c_ref11_place h14) fun ⟨⟩ => ?_
 refine Lq 1 ?_
 refine Lt 2 ?_
 refine Lq 1 ?_
 refine Ln (Et (Tv ?_))
 obtain rfl := sm H15
 exact Eo ((a6, c7), (a8, c9)) [] [0, 2] (.cell 0 rfl rfl rfl (.tmp rfl .nil))

theorem c_grid_Grid_Resize {g : GridGrid} {w : Int} {h_ : Int} {off : Int} {r : (List RowRow) × GridGrid} (H : p_grid_Grid_Resize g w h_ off = some r) : CT G 50 [.pointer (some ⟨N0, 0, none⟩), .int .i64 w, .int .i64 h_, .int .i64 off] [Ch.box N0 96 [.int .i64 g.w, .slice A0 g.l.length C0], Ch.arr tyRowRow 52 A0 C0 g.l] [] (fun h : (Option Addr × Nat) × (Option Addr × Nat) => .slice h.1.1 r.1.length h.1.2) (fun h => [Ch.arr tyRowRow 52 h.1.1 h.1.2 r.1, Ch.box N0 96 [.int .i64 r.2.w, .slice h.2.1 r.2.l.length h.2.2], Ch.arr tyRowRow 52 h.2.1 h.2.2 r.2.l]) (fun h => []) := by
 delta p_grid_Grid_Resize at H
 refine CT.of Go.Proofs.Tryz.func50 (by kernel_rfl) rfl rfl rfl fun K => ?_
 refine Ts (Tr ?_)
 refine Lq 1 ?_
 refine Ln (Et (Ts (Tr ?_)))
 refine Lq 4 ?_
 refine Lb 0 ?_
 refine Lq 2 ?_
 obtain ⟨r1, h2, H3⟩ := bnd H
 refine Lk [] [] (c_grid_clip h2) fun ⟨⟩ => ?_
 refine Lq 1 ?_
 refine Ln (Et (Ts (Tr ?_)))
 refine Lq 3 ?_
 refine Lb 0 ?_
 refine Lq 1 ?_
 obtain ⟨_, h4, H5⟩ := bnd H3
 refine L.cap 1 rfl fun h9 => ?_
 refine Ly (Yl.sv (ty := tyRowRow) h9 h4 rfl rfl rfl rfl rfl rfl rfl rfl) ?_
 have hv8 : Vw tyRowRow g.l A0 C0 (cuta A0 C0 0 (tyRowRow).sz) (C0 - (0 : Int).toNat) 0 r1 := vw_new h4 h9
 obtain ⟨r10, h11, H12⟩ := bnd H5
 refine Lk [1] [] (c_slices_Clone_row_Row_w A0 C0 (cuta A0 C0 0 (tyRowRow).sz) (C0 - (0 : Int).toNat) hv8 h11) fun ⟨a13, c14⟩ => ?_
 refine Lq 1 ?_
 refine Ln (Et (Ts (Tr ?_)))
 refine Lq 3 ?_
 refine Lb 2 ?_
 refine Lq 1 ?_
 obtain ⟨_, h16, H17⟩ := bnd H12
 refine L.cap 1 rfl fun h21 => ?_
 refine Ly (Yl.sv (ty := tyRowRow) h21 h16 rfl rfl rfl rfl rfl rfl rfl rfl) ?_
 have hv20 : Vw tyRowRow g.l A0 C0 (cuta A0 C0 r1 (tyRowRow).sz) (C0 - r1.toNat) r1 (g.l.length : Int) := vw_new h16 h21
 obtain ⟨r22, h23, H24⟩ := bnd H17
 refine Lk [1] [] (c_slices_Clone_row_Row_w A0 C0 (cuta A0 C0 r1 (tyRowRow).sz) (C0 - r1.toNat) hv20 h23) fun ⟨a25, c26⟩ => ?_
 refine Lq 1 ?_
 refine Ln (Et (Ts (Tr ?_)))
 refine Lq 4 ?_
 obtain ⟨r28, h29, H30⟩ := bnd H24
 refine Lk [] [] (c_grid_size h29) fun ⟨⟩ => ?_
 refine Lq 1 ?_
 obtain ⟨_, h31, H32⟩ := bnd H30
 refine La [0] [] (Ac.rso h31 rfl rfl rfl rfl rfl rfl rfl) fun _ => ?_
 refine Lq 1 ?_
 refine Ln (Et (Ts ?_))
 obtain ⟨e119, H120, H121⟩ := bnd H32
 refine Tjh (η := (Option Addr × Nat)) (fun h => (fun a116 c117 => [(10, .slice a116 e119.length c117)]) h.1 h.2) [0, 1, 9] (fun h => (fun a116 c117 => [Ch.arr tyRowRow 52 a116 c117 e119]) h.1 h.2) [3, 1, 2] (fun _ => []) ?_ ?_
 ·refine Tl ?_
  refine Tq (η := (Option Addr × Nat)) (fun s92 h => (fun a89 c90 => [(10, .slice a89 s92.length c90)]) h.1 h.2) [0, 1, 2, 9] (fun s92 h => (fun a89 c90 => [Ch.arr tyRowRow 52 a89 c90 s92]) h.1 h.2) [3, 1, 2] (fun _ _ => []) (a25, c26) [0, 2, 0, 0] [] H120 ?_
  rintro k_ s92 ⟨a89, c90⟩ z123 H122 hag124 hbr125
  refine Ts (Ts (Tr ?_))
  refine Lq 3 ?_
  obtain ⟨r126, h127, H128⟩ := bnd H122
  refine Lk [] [] (c_grid_size h127) fun ⟨⟩ => ?_
  refine Lq 1 ?_
  refine Ln (Et ?_)
  refine Tb H128 (fun H130 => ?_) fun H130 => ?_
  ·refine Tk (Et (Tl (Tr ?_)))
   refine Lq 2 ?_
   obtain ⟨r131, h132, H133⟩ := bnd H130
   refine Lk [] [] (c_grid_size h132) fun ⟨⟩ => ?_
   obtain ⟨r134, h135, H136⟩ := bnd H133
   refine Lk [] [] (c_row_Blank h135) fun ⟨a137, c138⟩ => ?_
   refine La [] [0] (Ac.bs (ty := tyRowRow) (xs := [r134]) (.cons (a137, c138) [0] rfl .nil) rfl rfl rfl rfl rfl rfl rfl) fun g140 => ?_
   refine L.frz 0 rfl ?_
   obtain ⟨_, h143, H144⟩ := bnd H136
   refine La [0] [0] (Ac.ap (ty := tyRowRow) h143 rfl rfl rfl rfl rfl rfl rfl) ?_
   rintro ⟨a145, c146⟩
   refine Lq 1 ?_
   refine Ln (Eb ?_)
   obtain rfl := sm H144
   exact Eg (_, (a145, c146)) (hag124 _ rfl) [0, 0, 0, 0] [] 2
  refine Tx (Ex (Ex (Eh ?_)))
  obtain rfl := sm H130
  have hb := hbr125 _ rfl
  subst e119
  exact Eg (a89, c90) trivial [0, 0, 0, 0] [] 0
 rintro ⟨a116, c117⟩
 refine Ts (Tr ?_)
 refine Lq 3 ?_
 obtain ⟨r148, h149, H150⟩ := bnd H121
 refine Lk [] [] (c_grid_size h149) fun ⟨⟩ => ?_
 refine Lq 3 ?_
 refine Lt 1 ?_
 refine Lq 2 ?_
 refine Lt 0 ?_
 refine Ln (Et (Ts (Ts (Tr ?_))))
 refine Lq 3 ?_
 refine Lb 0 ?_
 refine Lq 2 ?_
 refine Ln (Et ?_)
 obtain ⟨e249, H250, H251⟩ := bnd H150
 refine Tjh (η := (Option Addr × Nat)) (fun _ => []) [9] (fun h => (fun a246 c247 => [Ch.arr tyRowRow 52 a246 c247 e249.l, Ch.box N0 96 [.int .i64 e249.w, .slice a246 e249.l.length c247]]) h.1 h.2) [3] (fun _ => []) ?_ ?_
 ·refine Tl ?_
  refine Tq (η := (Option Addr × Nat)) (fun s218 h => (fun a214 c215 => [(66, .int .i64 s218.2)]) h.1 h.2) [0, 9, 65] (fun s218 h => (fun a214 c215 => [Ch.arr tyRowRow 52 a214 c215 s218.1.l, Ch.box N0 96 [.int .i64 s218.1.w, .slice a214 s218.1.l.length c215]]) h.1 h.2) [3] (fun _ _ => []) (a116, c117) [1, 0, 1] [] H250 ?_
  rintro k_ s218 ⟨a214, c215⟩ z253 H252 hag254 hbr255
  refine Ts (Tr ?_)
  refine Lq 1 ?_
  refine Ln (Et (Ts ?_))
  refine Tb H252 (fun H257 => ?_) fun H257 => ?_
  ·refine Tk (Et (Ts (Tl (Ts (Tr ?_)))))
   refine Lq 2 ?_
   refine Ln (Et (Tr ?_))
   refine Lq 5 ?_
   refine Lb 1 ?_
   refine Lq 1 ?_
   obtain ⟨x270, h271, H272⟩ := bnd H257
   refine L.addro 0 rfl (idx_lt h271) fun b273 e274 => ?_
   subst e274
   refine Ly (Yl.ia h271 rfl rfl rfl rfl rfl rfl) ?_
   refine La [0] [] (Ac.lo s218.2.toNat 0 (v := (fun h : (Option Addr × Nat) => (fun a275 c276 => .agg #[.slice a275 x270.cells.length c276, .bool x270.wrapped]) h.1 h.2)) (idx_some h271).2 rfl rfl rfl (fun _ => rfl)) ?_
   rintro ⟨a275, c276⟩
   obtain ⟨r278, h279, H280⟩ := bnd H272
   refine Lk [1, 0] [0] (c_grid_Grid_Set h279) fun ⟨⟩ => ?_
   refine Ln (Eb (Et (Tr ?_)))
   refine Lq 2 ?_
   refine Ln ?_
   obtain rfl := sm H280
   exact Eg (_, ((some ⟨b273, 0, none⟩), c215)) (hag254 _ rfl) [1, 0, 0] [] 1
  refine Tx (Ex (Ex (Eh ?_)))
  obtain rfl := sm H257
  have hb := hbr255 _ rfl
  subst e249
  exact Eg (a214, c215) trivial [0, 0, 0] [] 0
 rintro ⟨a246, c247⟩
 refine Ts (Tr ?_)
 refine Lq 2 ?_
 refine Ln (Et (Tv ?_))
 obtain rfl := sm H251
 exact Eo1 ((a13, c14), (a246, c247)) [2, 1, 0] []

theorem c_screen_Screen_Resize {s_ : ScreenScreen} {w : Int} {h_ : Int} {r : (List RowRow) × ScreenScreen} (H : p_screen_Screen_Resize s_ w h_ = some r) : CT G 20 [.pointer (some ⟨N0, 0, none⟩), .int .i64 w, .int .i64 h_] [Ch.box N0 81 [.pointer (some ⟨N1, 0, none⟩), .int .i64 s_.spot.x, .int .i64 s_.spot.y, .int .i64 s_.spot.style.fore, .int .i64 s_.spot.style.back, .bool s_.spot.style.bold, .bool s_.spot.style.under, .bool s_.spot.style.inverse, .int .i64 s_.saved.x, .int .i64 s_.saved.y, .int .i64 s_.saved.style.fore, .int .i64 s_.saved.style.back, .bool s_.saved.style.bold, .bool s_.saved.style.under, .bool s_.saved.style.inverse, .bool s_.waiting, .int .i64 s_.top, .int .i64 s_.bottom, .bool s_.wraps, .string s_.title], Ch.box N1 96 [.int .i64 s_.g.w, .slice A0 s_.g.l.length C0], Ch.arr tyRowRow 52 A0 C0 s_.g.l] [] (fun h : (Option Addr × Nat) × (Option Addr × Nat) => .slice h.1.1 r.1.length h.1.2) (fun h => [Ch.arr tyRowRow 52 h.1.1 h.1.2 r.1, Ch.box N0 81 [.pointer (some ⟨N1, 0, none⟩), .int .i64 r.2.spot.x, .int .i64 r.2.spot.y, .int .i64 r.2.spot.style.fore, .int .i64 r.2.spot.style.back, .bool r.2.spot.style.bold, .bool r.2.spot.style.under, .bool r.2.spot.style.inverse, .int .i64 r.2.saved.x, .int .i64 r.2.saved.y, .int .i64 r.2.saved.style.fore, .int .i64 r.2.saved.style.back, .bool r.2.saved.style.bold, .bool r.2.saved.style.under, .bool r.2.saved.style.inverse, .bool r.2.waiting, .int .i64 r.2.top, .int .i64 r.2.bottom, .bool r.2.wraps, .string r.2.title], Ch.box N1 96 [.int .i64 r.2.g.w, .slice h.2.1 r.2.g.l.length h.2.2], Ch.arr tyRowRow 52 h.2.1 h.2.2 r.2.g.l]) (fun h => []) := by
 delta p_screen_Screen_Resize at H
 refine CT.of Go.Proofs.Tryz.func20 (by kernel_rfl) rfl rfl rfl fun K => ?_
 refine Ts (Tr ?_)
 refine Lq 1 ?_
 refine Ln (Et (Ts ?_))
 refine Td [9] [0, 0, 0] mo ?_
 refine Dq 0 ?_
 refine Dq 1 ?_
 refine Dq 2 ?_
 refine Dq 3 ?_
 refine Db 4 0 ?_
 refine Dq 5 ?_
 obtain ⟨r10, h11, H12⟩ := bnd H
 refine Dk [] [] (c_screen_clip h11) fun ⟨⟩ => ?_
 refine Dq 7 ?_
 refine Dq 8 ?_
 refine Dq 9 ?_
 refine Dq 10 ?_
 refine Dn ?_
 refine Et (Ts (Tr ?_))
 refine Lq 3 ?_
 refine Lb 0 ?_
 refine Lq 3 ?_
 obtain ⟨r13, h14, H15⟩ := bnd H12
 refine Lk [1, 1] [] (c_grid_Grid_Resize h14) fun ⟨⟨a16, c17⟩, ⟨a18, c19⟩⟩ => ?_
 refine Lq 1 ?_
 refine Ln (Et (Ts ?_))
 refine Td [13] [0, 0, 0, 0] mo ?_
 refine Dq 0 ?_
 refine Dq 1 ?_
 refine Dq 2 ?_
 refine Dq 3 ?_
 refine Dq 4 ?_
 refine Db 5 3 ?_
 refine Dq 6 ?_
 refine Dq 7 ?_
 refine Dq 8 ?_
 refine Dq 9 ?_
 refine Db 10 3 ?_
 refine Dq 11 ?_
 refine Dq 12 ?_
 obtain ⟨r34, h35, H36⟩ := bnd H15
 refine Dkl [3, 1, 1] [] (c_screen_Screen_move h35) fun ⟨⟩ => ?_
 refine Dn ?_
 refine Et (Ts (Tr ?_))
 refine Lq 1 ?_
 obtain ⟨r38, h39, H40⟩ := bnd H36
 refine Lk [0, 0, 0] [] (c_screen_Screen_last h39) fun ⟨⟩ => ?_
 refine Lq 5 ?_
 refine Ln (Et (Ts (Tr ?_)))
 refine Lq 5 ?_
 refine Lt 0 ?_
 refine Lq 2 ?_
 refine Lt 0 ?_
 refine Ln (Et (Ts (Tr ?_)))
 refine Lq 2 ?_
 refine Ln (Et (Tv ?_))
 obtain rfl := sm H40
 exact Eo1 ((a16, c17), (a18, c19)) [3, 0, 0, 0] []

theorem c_ref05_need {b : Int} {r : Int × Int × Int} (H : p_ref05_need b = some r) : CT G 126 [.int .i64 b] [] [] (fun _ : Unit => .tuple #[.int .i64 r.1, .int .i64 r.2.1, .int .i64 r.2.2]) (fun h => []) (fun h => []) := by
 delta p_ref05_need at H
 refine CT.of Go.Proofs.Tryz.func126 (by kernel_rfl) rfl rfl rfl fun K => ?_
 refine Ts (Tr ?_)
 refine Lq 3 ?_
 refine Ln (Et (Ts (Ts ?_)))
 obtain ⟨e4, H5, H6⟩ := bnd H
 refine Tj0 [(10, .bool e4)] [0] [] [] ?_ ?_
 ·refine Tr ?_
  refine Lq 3 ?_
  refine Lw 7 H5 (fun H7 => ?_) fun H7 => ?_
  ·refine Lq 3 ?_
   refine Ln ?_
   obtain rfl := sm H7
   exact Eg0 [] 0
  refine Lq 3 ?_
  refine Ln ?_
  obtain rfl := sm H7
  exact Eg0 [] 0
 refine Tb H6 (fun H9 => ?_) fun H9 => ?_
 ·refine Ts (Tr ?_)
  refine Lq 3 ?_
  refine Ln (Et (Tv (Er ?_)))
  obtain rfl := sm H9
  exact Eo () [] [] (.tmp rfl (.tmp rfl (.tmp rfl .nil)))
 refine Tk (Et (Ts (Ts (Tr ?_))))
 refine Lq 2 ?_
 refine Ln (Et ?_)
 refine Tb H9 (fun H11 => ?_) fun H11 => ?_
 ·refine Ts (Tr ?_)
  refine Lq 3 ?_
  refine Ln (Et (Tv (Er ?_)))
  obtain rfl := sm H11
  exact Eo () [] [] (.tmp rfl (.tmp rfl (.tmp rfl .nil)))
 refine Tk (Et (Ts (Ts (Tr ?_))))
 refine Lq 2 ?_
 refine Ln (Et ?_)
 refine Tb H11 (fun H13 => ?_) fun H13 => ?_
 ·refine Ts (Tr ?_)
  refine Lq 3 ?_
  refine Ln (Et (Tv (Er ?_)))
  obtain rfl := sm H13
  exact Eo () [] [] (.tmp rfl (.tmp rfl (.tmp rfl .nil)))
 refine Tk (Et (Ts (Ts ?_)))
 obtain ⟨e17, H18, H19⟩ := bnd H13
 refine Tj0 [(20, .bool e17)] [0] [] [] ?_ ?_
 ·refine Tr ?_
  refine Lq 3 ?_
  refine Lw 17 H18 (fun H20 => ?_) fun H20 => ?_
  ·refine Lq 3 ?_
   refine Ln ?_
   obtain rfl := sm H20
   exact Eg0 [] 0
  refine Lq 3 ?_
  refine Ln ?_
  obtain rfl := sm H20
  exact Eg0 [] 0
 refine Tb H19 (fun H22 => ?_) fun H22 => ?_
 ·refine Ts (Tr ?_)
  refine Lq 3 ?_
  refine Ln (Et (Tv (Er ?_)))
  obtain rfl := sm H22
  exact Eo () [] [] (.tmp rfl (.tmp rfl (.tmp rfl .nil)))
 refine Tk (Et (Ts (Ts (Tr ?_))))
 refine Lq 2 ?_
 refine Ln (Et ?_)
 refine Tb H22 (fun H24 => ?_) fun H24 => ?_
 ·refine Ts (Tr ?_)
  refine Lq 3 ?_
  refine Ln (Et (Tv (Er ?_)))
  obtain rfl := sm H24
  exact Eo () [] [] (.tmp rfl (.tmp rfl (.tmp rfl .nil)))
 refine Tk (Et (Ts (Ts (Tr ?_))))
 refine Lq 2 ?_
 refine Ln (Et ?_)
 refine Tb H24 (fun H26 => ?_) fun H26 => ?_
 ·refine Ts (Tr ?_)
  refine Lq 3 ?_
  refine Ln (Et (Tv (Er ?_)))
  obtain rfl := sm H26
  exact Eo () [] [] (.tmp rfl (.tmp rfl (.tmp rfl .nil)))
 refine Tk (Et (Ts (Ts ?_)))
 obtain ⟨e30, H31, H32⟩ := bnd H26
 refine Tj0 [(30, .bool e30)] [] [] [] ?_ ?_
 ·refine Tr ?_
  refine Lq 3 ?_
  refine Lw 27 H31 (fun H33 => ?_) fun H33 => ?_
  ·refine Lq 3 ?_
   refine Ln ?_
   obtain rfl := sm H33
   exact Eg0 [] 0
  refine Lq 3 ?_
  refine Ln ?_
  obtain rfl := sm H33
  exact Eg0 [] 0
 refine Tb H32 (fun H35 => ?_) fun H35 => ?_
 ·refine Ts (Tr ?_)
  refine Lq 3 ?_
  refine Ln (Et (Tv (Er ?_)))
  obtain rfl := sm H35
  exact Eo () [] [] (.tmp rfl (.tmp rfl (.tmp rfl .nil)))
 refine Tk (Et (Ts (Tr ?_)))
 refine Lq 3 ?_
 refine Ln (Et (Tv ?_))
 obtain rfl := sm H35
 exact Eo () [] [] (.tmp rfl (.tmp rfl (.tmp rfl .nil)))

theorem c_ref05_Runes {s_ : ByteArray} {r : (List Int) × Int} (H : p_ref05_Runes s_ = some r) : CT G 94 [.string s_] [] [] (fun h : (Option Addr × Nat) => .tuple #[.slice h.1 r.1.length h.2, .int .i64 r.2]) (fun h => [Ch.arr (Ty.int .i64) 3 h.1 h.2 r.1]) (fun h => []) := by
 delta p_ref05_Runes at H
 refine CT.of Go.Proofs.Tryz.func94 (by kernel_rfl) rfl rfl rfl fun K => ?_
 refine Ts (Tr ?_)
 refine Lq 2 ?_
 refine Ln (Et (Ts (Tr ?_)))
 refine La [] [] (Ac.bs (ty := (Ty.int .i64)) (xs := []) .nil rfl rfl rfl rfl rfl rfl rfl) fun g1 => ?_
 refine Lq 1 ?_
 refine Ln (Et (Ts (Tr ?_)))
 refine Lq 1 ?_
 refine Ln (Et (Ts ?_))
 obtain ⟨y687, H688, H689⟩ := bnd H
 refine Tj (η := (List Int) × ((Option Addr × Nat))) (fun h => y687 = .inl h.1) (fun h => (fun e686 => (fun a683 c684 => [(4, .slice a683 e686.length c684)]) h.2.1 h.2.2) h.1) [] (fun h => (fun e686 => (fun a683 c684 => [Ch.arr (Ty.int .i64) 3 a683 c684 e686]) h.2.1 h.2.2) h.1) [] (fun _ => []) ?_ ?_
 ·refine Tl ?_
  refine Tq (η := (Option Addr × Nat)) (fun s460 h => (fun a456 c457 => [(4, .slice a456 s460.1.length c457), (5, .int .i64 s460.2)]) h.1 h.2) [0] (fun s460 h => (fun a456 c457 => [Ch.arr (Ty.int .i64) 3 a456 c457 s460.1]) h.1 h.2) [] (fun _ _ => []) ((some ⟨g1, 0, none⟩), 0) [0] [] H688 ?_
  rintro k_ s460 ⟨a456, c457⟩ z691 H690 hag692 hbr693
  refine Ts (Ts (Tr ?_))
  refine Lq 4 ?_
  refine Ln (Et ?_)
  refine Tb H690 (fun H695 => ?_) fun H695 => ?_
  ·refine Tk (Et (Tl (Ts (Tr ?_))))
   refine Lq 2 ?_
   obtain ⟨b696, h697, H698⟩ := bnd H695
   refine Ly (Yl.si h697 rfl rfl rfl rfl rfl) ?_
   refine Lq 2 ?_
   refine Ln (Et (Ts (Ts (Tr ?_))))
   refine Lq 2 ?_
   refine Ln (Et ?_)
   refine Tb H698 (fun H708 => ?_) fun H708 => ?_
   ·refine Ts (Tr ?_)
    refine Lq 2 ?_
    refine La [] [] (Ac.bs (ty := (Ty.int .i64)) (xs := [(IntKind.i64.wrap b696)]) (.cons () [] rfl .nil) rfl rfl rfl rfl rfl rfl rfl) fun g709 => ?_
    refine L.frz 0 rfl ?_
    obtain ⟨_, h712, H713⟩ := bnd H708
    refine La [0] [0] (Ac.ap (ty := (Ty.int .i64)) h712 rfl rfl rfl rfl rfl rfl rfl) ?_
    rintro ⟨a714, c715⟩
    refine Lq 1 ?_
    refine Ln (Et (Ts (Tr ?_)))
    refine Lq 3 ?_
    refine Ln (Et (Tx (Ex (Eh ?_))))
    obtain rfl := sm H713
    exact Eg (_, (a714, c715)) (hag692 _ rfl) [0] [] 1
   refine Tk (Et (Ts (Tr ?_)))
   refine Lq 1 ?_
   obtain ⟨r717, h718, H719⟩ := bnd H708
   refine Lk [] [] (c_ref05_need h718) fun ⟨⟩ => ?_
   refine Lq 7 ?_
   refine Ln (Et (Ts (Ts (Tr ?_))))
   refine Lq 2 ?_
   refine Ln (Et ?_)
   refine Tb H719 (fun H729 => ?_) fun H729 => ?_
   ·refine Ts (Tr ?_)
    refine Lq 1 ?_
    refine La [] [] (Ac.bs (ty := (Ty.int .i64)) (xs := [65533]) (.cons () [] rfl .nil) rfl rfl rfl rfl rfl rfl rfl) fun g730 => ?_
    refine L.frz 0 rfl ?_
    obtain ⟨_, h733, H734⟩ := bnd H729
    refine La [0] [0] (Ac.ap (ty := (Ty.int .i64)) h733 rfl rfl rfl rfl rfl rfl rfl) ?_
    rintro ⟨a735, c736⟩
    refine Lq 1 ?_
    refine Ln (Et (Ts (Tr ?_)))
    refine Lq 3 ?_
    refine Ln (Et (Tx (Ex (Eh ?_))))
    obtain rfl := sm H734
    exact Eg (_, (a735, c736)) (hag692 _ rfl) [0] [] 1
   refine Tk (Et (Ts (Tr ?_)))
   refine Lq 1 ?_
   refine La [] [] (Ac.bs (ty := (Ty.int .i64)) (xs := [0, 32, 16, 8]) (.cons () [] rfl (.cons () [] rfl (.cons () [] rfl (.cons () [] rfl .nil)))) rfl rfl rfl rfl rfl rfl rfl) fun g738 => ?_
   refine Lq 1 ?_
   obtain ⟨x740, h741, H742⟩ := bnd H729
   refine Ly (Yl.ia h741 rfl rfl rfl rfl rfl rfl) ?_
   refine Ly (Yl.lo (v := .int .i64 x740) 0 r717.1.toNat 0 (idx_some h741).2 rfl rfl rfl rfl (fun _ => rfl)) ?_
   obtain ⟨_, h743, H744⟩ := bnd H742
   refine Ly (Yl.rem (b := x740) h743 rfl rfl rfl) ?_
   refine Lq 1 ?_
   refine Ln (Et (Ts (Tr ?_)))
   refine Lq 1 ?_
   refine Ln (Et (Ts ?_))
   obtain ⟨e823, H824, H825⟩ := bnd H744
   refine Tj0 [(10, .int .i64 e823.1), (11, .int .i64 e823.2)] [0, 4, 5, 7] [] [1] ?_ ?_
   ·refine Tl ?_
    refine Tq (η := Unit) (fun s799 h => [(8, .int .i64 s799.2.2.1), (9, .int .i64 s799.2.2.2), (10, .int .i64 s799.1), (11, .int .i64 s799.2.1)]) [0, 4, 5, 7] (fun _ _ => []) [1] (fun _ _ => []) () [1] [] H824 ?_
    rintro k_ s799 ⟨⟩ z827 H826 hag828 hbr829
    refine Ts (Ts ?_)
    obtain ⟨e833, H834, H835⟩ := bnd H826
    refine Tj0 [(59, .bool e833)] [0, 4, 5, 7, 8, 9, 10, 11] [] [0] ?_ ?_
    ·refine Tr ?_
     refine Lq 4 ?_
     refine Lw 52 H834 (fun H836 => ?_) fun H836 => ?_
     ·refine Lq 7 ?_
      refine Ln ?_
      obtain rfl := sm H836
      exact Eg0 [0] 0
     refine Lq 7 ?_
     refine Ln ?_
     obtain rfl := sm H836
     exact Eg0 [0] 0
    refine Tb H835 (fun H838 => ?_) fun H838 => ?_
    ·refine Tk (Et (Tl (Ts (Tr ?_))))
     refine Lq 4 ?_
     obtain ⟨b839, h840, H841⟩ := bnd H838
     refine Ly (Yl.si h840 rfl rfl rfl rfl rfl) ?_
     refine Lq 2 ?_
     refine Ln (Et (Ts (Ts ?_)))
     obtain ⟨e845, H846, H847⟩ := bnd H841
     refine Tj0 [(73, .bool e845)] [0, 4, 5, 7, 10, 11, 12] [] [0] ?_ ?_
     ·refine Tr ?_
      refine Lq 4 ?_
      refine Lw 69 H846 (fun H848 => ?_) fun H848 => ?_
      ·refine Lq 4 ?_
       refine Ln ?_
       obtain rfl := sm H848
       exact Eg0 [0] 0
      refine Lq 4 ?_
      refine Ln ?_
      obtain rfl := sm H848
      exact Eg0 [0] 0
     refine Tb H847 (fun H850 => ?_) fun H850 => ?_
     ·refine Tx (Ex (E.block_on rfl (Ex (Eh ?_))))
      obtain rfl := sm H850
      have hb := hbr829 _ rfl
      subst e823
      exact Eg0 [0] 0
     refine Tk (Et (Ts (Tr ?_)))
     refine Lq 6 ?_
     refine Ln (Et (Ts (Tr ?_)))
     refine Lq 1 ?_
     refine Ln (Et (Ts (Tr ?_)))
     refine Lq 1 ?_
     refine Ln (Et (Tr ?_))
     refine Lq 3 ?_
     refine Ln (Eb ?_)
     obtain rfl := sm H850
     exact Eg (_, ()) (hag828 _ rfl) [0] [] 0
    refine Tx (Ex (Ex (Eh ?_)))
    obtain rfl := sm H838
    have hb := hbr829 _ rfl
    subst e823
    exact Eg0 [0] 0
   refine Ts (Ts (Tr ?_))
   refine Lq 3 ?_
   refine Ln (Et ?_)
   obtain ⟨y892, H893, H894⟩ := bnd H825
   refine Tj (η := (List Int) × ((Option Addr × Nat))) (fun h => y892 = .inl h.1) (fun h => (fun e891 => (fun a888 c889 => [(4, .slice a888 e891.length c889)]) h.2.1 h.2.2) h.1) [0, 5, 11] (fun h => (fun e891 => (fun a888 c889 => [Ch.arr (Ty.int .i64) 3 a888 c889 e891]) h.2.1 h.2.2) h.1) [] (fun _ => []) ?_ ?_
   ·refine Tb H893 (fun H895 => ?_) fun H895 => ?_
    ·refine Tr ?_
     refine Lq 2 ?_
     refine La [] [] (Ac.bs (ty := (Ty.int .i64)) (xs := [e823.1]) (.cons () [] rfl .nil) rfl rfl rfl rfl rfl rfl rfl) fun g896 => ?_
     refine L.frz 0 rfl ?_
     obtain ⟨_, h899, H900⟩ := bnd H895
     refine La [0] [0] (Ac.ap (ty := (Ty.int .i64)) h899 rfl rfl rfl rfl rfl rfl rfl) ?_
     rintro ⟨a901, c902⟩
     refine Lq 1 ?_
     refine Ln ?_
     obtain rfl := sm H900
     exact Eg (_, (a901, c902)) rfl [0] [] 1
    refine Ts (Tr ?_)
    refine Lq 6 ?_
    refine Ln (Et ?_)
    refine Tb H895 (fun H904 => ?_) fun H904 => ?_
    ·refine Ts (Tr ?_)
     refine Lq 4 ?_
     refine Ln (Et (Tv ?_))
     obtain ⟨w905, hz, H906⟩ := inrs_some H904
     subst y892
     obtain rfl := (sm H894).symm
     refine Er (Ev (Er (Ev ?_)))
     obtain ⟨w907, hz, H908⟩ := inrr_some H906
     subst z691
     have hb := hbr693 _ rfl
     subst y687
     obtain rfl := (sm H689).symm
     refine Er ?_
     obtain rfl := sm H908
     exact Eo (a456, c457) [0] [] (.tmp rfl (.tmp rfl .nil))
    refine Tr ?_
    refine Lq 1 ?_
    refine La [] [] (Ac.bs (ty := (Ty.int .i64)) (xs := [65533]) (.cons () [] rfl .nil) rfl rfl rfl rfl rfl rfl rfl) fun g909 => ?_
    refine L.frz 0 rfl ?_
    obtain ⟨_, h912, H913⟩ := bnd H904
    refine La [0] [0] (Ac.ap (ty := (Ty.int .i64)) h912 rfl rfl rfl rfl rfl rfl rfl) ?_
    rintro ⟨a914, c915⟩
    refine Lq 1 ?_
    refine Ln ?_
    obtain rfl := sm H913
    exact Eg (_, (a914, c915)) rfl [0] [] 1
   rintro ⟨e891, ⟨a888, c889⟩⟩ hy
   subst hy
   refine Tr ?_
   refine Lq 4 ?_
   refine Ln (Eb ?_)
   obtain rfl := sm H894
   exact Eg (_, (a888, c889)) (hag692 _ rfl) [0] [] 0
  refine Tx (Ex (Ex (Eh ?_)))
  obtain rfl := sm H695
  have hb := hbr693 _ rfl
  subst y687
  exact Eg (_, (a456, c457)) rfl [0] [] 0
 rintro ⟨e686, ⟨a683, c684⟩⟩ hy
 subst hy
 refine Ts (Tr ?_)
 refine Lq 3 ?_
 refine Ln (Et (Tv ?_))
 obtain rfl := sm H689
 exact Eo (a683, c684) [0] [] (.tmp rfl (.tmp rfl .nil))

theorem c_ref07_prints {l : List Int} {r : (List Ref07Action)} (H : p_ref07_prints l = some r) : CT G 95 [.slice A0 l.length C0] [] [Im.sl (Ty.int .i64) A0 C0 l] (fun h : (Option Addr × Nat) => .slice h.1 r.length h.2) (fun h => [Ch.arr tyRef07Action 37 h.1 h.2 r]) (fun h => []) := by
 delta p_ref07_prints at H
 refine CT.of Go.Proofs.Tryz.func95 (by kernel_rfl) rfl rfl rfl fun K => ?_
 refine Ts (Tr ?_)
 refine Lq 1 ?_
 refine Ln (Et (Ts (Tr ?_)))
 refine La [] [] (Ac.bs (ty := tyRef07Action) (xs := []) .nil rfl rfl rfl rfl rfl rfl rfl) fun g1 => ?_
 refine Lq 1 ?_
 refine Ln (Et (Ts (Ts (Tr ?_))))
 refine Lq 3 ?_
 refine Ln (Et ?_)
 obtain ⟨e125, H126, H127⟩ := bnd H
 refine Tjh (η := (Option Addr × Nat)) (fun h => (fun a122 c123 => [(3, .slice a122 e125.length c123)]) h.1 h.2) [] (fun h => (fun a122 c123 => [Ch.arr tyRef07Action 37 a122 c123 e125]) h.1 h.2) [] (fun _ => []) ?_ ?_
 ·refine Tl ?_
  refine Tq (η := (Option Addr × Nat)) (fun s86 h => (fun a82 c83 => [(3, .slice a82 s86.1.length c83), (9, .int .i64 s86.2)]) h.1 h.2) [7, 8] (fun s86 h => (fun a82 c83 => [Ch.arr tyRef07Action 37 a82 c83 s86.1]) h.1 h.2) [] (fun _ _ => []) ((some ⟨g1, 0, none⟩), 0) [0] [] H126 ?_
  rintro k_ s86 ⟨a82, c83⟩ z129 H128 hag130 hbr131
  refine Ts (Tr ?_)
  refine Lq 1 ?_
  refine Ln (Et (Ts ?_))
  refine Tb H128 (fun H133 => ?_) fun H133 => ?_
  ·refine Tk (Et (Ts (Tl (Ts (Tr ?_)))))
   obtain ⟨x150, h151, H152⟩ := bnd H133
   refine L.addr 0 rfl (idx_lt h151) fun b153 o154 e155 => ?_
   subst e155
   refine Ly (Yl.ia h151 rfl rfl rfl rfl rfl rfl) ?_
   refine L.el 0 rfl (idx_some h151).2 ?_
   rintro _
   refine Lc 0 0 ?_
   refine Lq 1 ?_
   refine Ln (Et (Tr ?_))
   refine Lq 3 ?_
   refine L.know [Im.sl (Ty.int .i64) none 0 []] (fun A w _ _ f hf => by rw [List.mem_singleton.1 hf]; exact Im.sl_nil A w) ?_
   refine La [] [0] (Ac.bs (ty := tyRef07Action) (xs := [(Ref07Action.mk 1 x150 0 false ([] : List Int) (ByteArray.mk #[]))]) (.cons (none, 0) [0] rfl .nil) rfl rfl rfl rfl rfl rfl rfl) fun g158 => ?_
   refine L.frz 0 rfl ?_
   obtain ⟨_, h161, H162⟩ := bnd H152
   refine La [0] [0] (Ac.ap (ty := tyRef07Action) h161 rfl rfl rfl rfl rfl rfl rfl) ?_
   rintro ⟨a163, c164⟩
   refine Lq 1 ?_
   refine Ln (Eb (Et (Tr ?_)))
   refine Lq 2 ?_
   refine Ln ?_
   obtain rfl := sm H162
   exact Eg (_, (a163, c164)) (hag130 _ rfl) [0] [] 3
  refine Tx (Ex (Ex (Eh ?_)))
  obtain rfl := sm H133
  have hb := hbr131 _ rfl
  subst e125
  exact Eg (a82, c83) trivial [0] [] 0
 rintro ⟨a122, c123⟩
 refine Ts (Tr ?_)
 refine Lq 2 ?_
 refine Ln (Et (Tv ?_))
 obtain rfl := sm H127
 exact Eo1 (a122, c123) [0] []

theorem c_ref07_Titles {s_ : ByteArray} {r : (List Ref07Action)} (H : p_ref07_Titles s_ = some r) : CT G 96 [.string s_] [] [] (fun h : (Option Addr × Nat) => .slice h.1 r.length h.2) (fun h => [Ch.arr tyRef07Action 37 h.1 h.2 r]) (fun h => []) := by
 delta p_ref07_Titles at H
 refine CT.of Go.Proofs.Tryz.func96 (by kernel_rfl) rfl rfl rfl fun K => ?_
 refine Ts (Tr ?_)
 refine Lq 1 ?_
 refine Ln (Et (Ts (Ts (Tr ?_))))
 refine Lq 3 ?_
 refine Ln (Et ?_)
 obtain ⟨e8, H9, H10⟩ := bnd H
 refine Tj0 [(0, .string e8)] [] [] [] ?_ ?_
 ·refine Tb H9 (fun H11 => ?_) fun H11 => ?_
  ·refine Tr ?_
   refine Lq 1 ?_
   obtain ⟨_, h12, H13⟩ := bnd H11
   refine Ly (Yl.sc h12 rfl rfl rfl rfl rfl rfl) ?_
   refine Lq 1 ?_
   refine Ln ?_
   obtain rfl := sm H13
   exact Eg0 [] 0
  refine Tk ?_
  obtain rfl := sm H11
  exact Eg0 [] 0
 refine Ts (Ts ?_)
 obtain ⟨e45, H46, H47⟩ := bnd H10
 refine Tj0 [(25, .bool e45)] [0] [] [] ?_ ?_
 ·refine Tr ?_
  refine Lq 4 ?_
  refine Lw 11 H46 (fun H48 => ?_) fun H48 => ?_
  ·refine Lq 1 ?_
   obtain ⟨b49, h50, H51⟩ := bnd H48
   refine Ly (Yl.si h50 rfl rfl rfl rfl rfl) ?_
   refine Lq 2 ?_
   refine Lw 15 H51 (fun H52 => ?_) fun H52 => ?_
   ·refine Lq 7 ?_
    obtain ⟨b53, h54, H55⟩ := bnd H52
    refine Ly (Yl.si h54 rfl rfl rfl rfl rfl) ?_
    refine Lq 2 ?_
    refine Ln ?_
    obtain rfl := sm H55
    exact Eg0 [] 0
   refine Lq 1 ?_
   obtain ⟨b56, h57, H58⟩ := bnd H52
   refine Ly (Yl.si h57 rfl rfl rfl rfl rfl) ?_
   refine Lq 4 ?_
   refine Lw 21 H58 (fun H59 => ?_) fun H59 => ?_
   ·refine Lq 1 ?_
    obtain ⟨b60, h61, H62⟩ := bnd H59
    refine Ly (Yl.si h61 rfl rfl rfl rfl rfl) ?_
    refine Lq 2 ?_
    refine Ln ?_
    obtain rfl := sm H62
    exact Eg0 [] 0
   refine Lq 4 ?_
   refine Ln ?_
   obtain rfl := sm H59
   exact Eg0 [] 0
  refine Lq 14 ?_
  refine Ln ?_
  obtain rfl := sm H48
  exact Eg0 [] 0
 refine Tb H47 (fun H69 => ?_) fun H69 => ?_
 ·refine Ts (Tr ?_)
  refine Lq 1 ?_
  obtain ⟨_, h70, H71⟩ := bnd H69
  refine Ly (Yl.sc h70 rfl rfl rfl rfl rfl rfl) ?_
  refine Lq 1 ?_
  refine L.know [Im.sl (Ty.int .i64) none 0 []] (fun A w _ _ f hf => by rw [List.mem_singleton.1 hf]; exact Im.sl_nil A w) ?_
  refine La [] [0] (Ac.bs (ty := tyRef07Action) (xs := [(Ref07Action.mk 5 0 0 false ([] : List Int) (scut e8 2 (e8.size : Int)))]) (.cons (none, 0) [0] rfl .nil) rfl rfl rfl rfl rfl rfl rfl) fun g73 => ?_
  refine Lq 1 ?_
  refine Ln (Et (Tv (Er ?_)))
  obtain rfl := sm H71
  exact Eo1 ((some ⟨g73, 0, none⟩), 1) [0] []
 refine Tk (Et (Ts (Tr ?_)))
 refine Lq 1 ?_
 refine Ln (Et (Tv ?_))
 refine E.nil0 tyRef07Action 37 ?_
 obtain rfl := sm H69
 exact Eo1 (none, 0) [0] []

theorem c_ref07_Order {s_ : ByteArray} {last : Int} {r : (List Ref07Action)} (H : p_ref07_Order s_ last = some r) : CT G 97 [.string s_, .int .i64 last] [] [] (fun h : (Option Addr × Nat) => .slice h.1 r.length h.2) (fun h => [Ch.arr tyRef07Action 37 h.1 h.2 r]) (fun h => []) := by
 delta p_ref07_Order at H
 refine CT.of Go.Proofs.Tryz.func97 (by kernel_rfl) rfl rfl rfl fun K => ?_
 refine Ts (Tr ?_)
 refine Lq 1 ?_
 refine Ln (Et (Ts (Tr ?_)))
 refine Lq 2 ?_
 refine Ll fun g1 => ?_
 refine Lt 0 ?_
 refine Ln (Et (Ts (Ts ?_)))
 obtain ⟨e11, H12, H13⟩ := bnd H
 refine Tj0 [(16, .bool e11)] [0, 5] [] [0] ?_ ?_
 ·refine Tr ?_
  refine Lq 3 ?_
  refine Lw 12 H12 (fun H14 => ?_) fun H14 => ?_
  ·refine Lq 1 ?_
   obtain ⟨b15, h16, H17⟩ := bnd H14
   refine Ly (Yl.si h16 rfl rfl rfl rfl rfl) ?_
   refine Lq 2 ?_
   refine Ln ?_
   obtain rfl := sm H17
   exact Eg0 [0] 0
  refine Lq 4 ?_
  refine Ln ?_
  obtain rfl := sm H14
  exact Eg0 [0] 0
 obtain ⟨e29, H30, H31⟩ := bnd H13
 refine Tjh (η := (Option Addr × Nat)) (fun h => (fun a26 c27 => [(0, .string e29.1)]) h.1 h.2) [5] (fun h => (fun a26 c27 => [Ch.arr (Ty.int .i64) 3 a26 c27 e29.2.nums, Ch.box g1 37 (bx37 e29.2 a26 c27)]) h.1 h.2) [] (fun _ => []) ?_ ?_
 ·refine Tb H30 (fun H32 => ?_) fun H32 => ?_
  ·refine Ts (Tr ?_)
   refine Lq 1 ?_
   refine Lt 0 ?_
   refine Ln (Et (Tr ?_))
   refine Lq 1 ?_
   obtain ⟨_, h33, H34⟩ := bnd H32
   refine Ly (Yl.sc h33 rfl rfl rfl rfl rfl rfl) ?_
   refine Lq 1 ?_
   refine Ln ?_
   refine E.nil0 (Ty.int .i64) 3 ?_
   obtain rfl := sm H34
   exact Eg (none, 0) trivial [0, 0] [] 0
  refine Tk ?_
  refine E.nil0 (Ty.int .i64) 3 ?_
  obtain rfl := sm H32
  exact Eg (none, 0) trivial [0, 0] [] 0
 rintro ⟨a26, c27⟩
 refine Ts (Ts (Tr ?_))
 refine Lq 2 ?_
 refine Ln (Et ?_)
 refine Tb H31 (fun H41 => ?_) fun H41 => ?_
 ·refine Ts (Tr ?_)
  refine Lb 1 ?_
  refine L.frz 0 rfl ?_
  refine La [] [0] (Ac.bs (ty := tyRef07Action) (xs := [e29.2]) (.cons (a26, c27) [0] rfl .nil) rfl rfl rfl rfl rfl rfl rfl) fun g43 => ?_
  refine Lq 1 ?_
  refine Ln (Et (Tv (Er ?_)))
  obtain rfl := sm H41
  exact Eo1 ((some ⟨g43, 0, none⟩), 1) [0] []
 refine Tk (Et (Ts (Tr ?_)))
 refine Lq 1 ?_
 refine Ln (Et (Ts (Ts (Tr ?_))))
 refine Lq 1 ?_
 refine Ln (Et ?_)
 obtain ⟨y1008, H1009, H1010⟩ := bnd H41
 refine Tj (η := Ref07Action × ((Option Addr × Nat))) (fun h => y1008 = .inl h.1) (fun _ => []) [5] (fun h => (fun e1007 => (fun a1004 c1005 => [Ch.arr (Ty.int .i64) 3 a1004 c1005 e1007.nums, Ch.box g1 37 (bx37 e1007 a1004 c1005)]) h.2.1 h.2.2) h.1) [] (fun _ => []) ?_ ?_
 ·refine Tl ?_
  refine Tq (η := (Option Addr × Nat)) (fun s689 h => (fun a684 c685 => [(6, .int .i64 s689.2.1), (7, .int .i64 s689.2.2)]) h.1 h.2) [0, 5] (fun s689 h => (fun a684 c685 => [Ch.arr (Ty.int .i64) 3 a684 c685 s689.1.nums, Ch.box g1 37 (bx37 s689.1 a684 c685)]) h.1 h.2) [] (fun _ _ => []) (a26, c27) [0, 0] [] H1009 ?_
  rintro k_ s689 ⟨a684, c685⟩ z1012 H1011 hag1013 hbr1014
  refine Ts (Ts (Tr ?_))
  refine Lq 4 ?_
  refine Ln (Et ?_)
  refine Tb H1011 (fun H1016 => ?_) fun H1016 => ?_
  ·refine Tk (Et (Ts ?_))
   obtain ⟨y1223, H1224, H1225⟩ := bnd H1016
   refine Tj (η := (Int × Ref07Action) × ((Option Addr × Nat))) (fun h => y1223 = .inl h.1) (fun h => (fun e1222 => (fun a1219 c1220 => [(6, .int .i64 e1222.1)]) h.2.1 h.2.2) h.1) [0, 5, 7] (fun h => (fun e1222 => (fun a1219 c1220 => [Ch.arr (Ty.int .i64) 3 a1219 c1220 e1222.2.nums, Ch.box g1 37 (bx37 e1222.2 a1219 c1220)]) h.2.1 h.2.2) h.1) [] (fun _ => []) ?_ ?_
   ·refine Tl (Ts (Ts ?_))
    obtain ⟨e1243, H1244, H1245⟩ := bnd H1224
    refine Tj0 [(45, .bool e1243)] [0, 5, 6, 7] [] [1, 0] ?_ ?_
    ·refine Tr ?_
     refine Lq 5 ?_
     refine Lw 34 H1244 (fun H1246 => ?_) fun H1246 => ?_
     ·refine Lq 2 ?_
      obtain ⟨b1247, h1248, H1249⟩ := bnd H1246
      refine Ly (Yl.si h1248 rfl rfl rfl rfl rfl) ?_
      refine Lq 3 ?_
      refine Lw 40 H1249 (fun H1250 => ?_) fun H1250 => ?_
      ·refine Lq 2 ?_
       obtain ⟨b1251, h1252, H1253⟩ := bnd H1250
       refine Ly (Yl.si h1252 rfl rfl rfl rfl rfl) ?_
       refine Lq 2 ?_
       refine Ln ?_
       obtain rfl := sm H1253
       exact Eg0 [1, 0] 0
      refine Lq 5 ?_
      refine Ln ?_
      obtain rfl := sm H1250
      exact Eg0 [1, 0] 0
     refine Lq 11 ?_
     refine Ln ?_
     obtain rfl := sm H1246
     exact Eg0 [1, 0] 0
    refine Tb H1245 (fun H1258 => ?_) fun H1258 => ?_
    ·refine Ts (Tr ?_)
     refine Lq 4 ?_
     obtain ⟨b1259, h1260, H1261⟩ := bnd H1258
     refine Ly (Yl.si h1260 rfl rfl rfl rfl rfl) ?_
     refine Lq 5 ?_
     refine Ln (Et (Tx (Ex (Eh ?_))))
     obtain rfl := sm H1261
     exact Eg (_, (a684, c685)) rfl [1, 0] [] 0
    refine Tk (Et (Ts (Ts ?_)))
    obtain ⟨e1279, H1280, H1281⟩ := bnd H1258
    refine Tj0 [(70, .bool e1279)] [0, 5, 6, 7] [] [0, 1] ?_ ?_
    ·refine Tr ?_
     refine Lq 5 ?_
     refine Lw 59 H1280 (fun H1282 => ?_) fun H1282 => ?_
     ·refine Lq 2 ?_
      obtain ⟨b1283, h1284, H1285⟩ := bnd H1282
      refine Ly (Yl.si h1284 rfl rfl rfl rfl rfl) ?_
      refine Lq 3 ?_
      refine Lw 65 H1285 (fun H1286 => ?_) fun H1286 => ?_
      ·refine Lq 2 ?_
       obtain ⟨b1287, h1288, H1289⟩ := bnd H1286
       refine Ly (Yl.si h1288 rfl rfl rfl rfl rfl) ?_
       refine Lq 2 ?_
       refine Ln ?_
       obtain rfl := sm H1289
       exact Eg0 [0, 0] 0
      refine Lq 5 ?_
      refine Ln ?_
      obtain rfl := sm H1286
      exact Eg0 [0, 0] 0
     refine Lq 11 ?_
     refine Ln ?_
     obtain rfl := sm H1282
     exact Eg0 [0, 0] 0
    refine Tb H1281 (fun H1291 => ?_) fun H1291 => ?_
    ·refine Ts (Tr ?_)
     refine Lq 1 ?_
     refine Ln (Et (Tv (Er (Ev ?_))))
     obtain ⟨w1292, hz, H1293⟩ := inrs_some H1291
     subst y1223
     obtain rfl := (sm H1225).symm
     refine Er (Er (Ev ?_))
     obtain ⟨w1294, hz, H1295⟩ := inrr_some H1293
     subst z1012
     have hb := hbr1014 _ rfl
     subst y1008
     obtain rfl := (sm H1010).symm
     refine Er ?_
     refine E.nil0 tyRef07Action 37 ?_
     obtain rfl := sm H1295
     exact Eo1 (none, 0) [0] []
    refine Tk (Et (Ts (Ts (Tr ?_))))
    refine Lq 1 ?_
    refine Lb 0 ?_
    refine Lq 2 ?_
    refine Ln (Et ?_)
    obtain ⟨e1319, H1320, H1321⟩ := bnd H1291
    refine Tjh (η := (Option Addr × Nat)) (fun _ => []) [0, 5, 7] (fun h => (fun a1316 c1317 => [Ch.arr (Ty.int .i64) 3 a1316 c1317 e1319.nums, Ch.box g1 37 (bx37 e1319 a1316 c1317)]) h.1 h.2) [] (fun _ => []) ?_ ?_
    ·refine Tb H1320 (fun H1322 => ?_) fun H1322 => ?_
     ·refine Tr ?_
      refine Lq 1 ?_
      refine Lb 0 ?_
      refine Lq 1 ?_
      refine La [] [] (Ac.bs (ty := (Ty.int .i64)) (xs := [s689.2.1]) (.cons () [] rfl .nil) rfl rfl rfl rfl rfl rfl rfl) fun g1323 => ?_
      refine L.frz 0 rfl ?_
      obtain ⟨_, h1326, H1327⟩ := bnd H1322
      refine La [1] [0] (Ac.ap (ty := (Ty.int .i64)) h1326 rfl rfl rfl rfl rfl rfl rfl) ?_
      rintro ⟨a1328, c1329⟩
      refine Lq 1 ?_
      refine Lt 1 ?_
      refine Ln ?_
      obtain rfl := sm H1327
      exact Eg (a1328, c1329) trivial [1, 0] [] 1
     refine Tk ?_
     obtain rfl := sm H1322
     exact Eg (a684, c685) trivial [1, 0] [] 0
    rintro ⟨a1316, c1317⟩
    refine Tr ?_
    refine Lq 1 ?_
    refine Ln (Eb ?_)
    obtain rfl := sm H1321
    exact Eg (_, (a1316, c1317)) rfl [0, 0] [] 0
   rintro ⟨e1222, ⟨a1219, c1220⟩⟩ hy
   subst hy
   refine Tr ?_
   refine Lq 3 ?_
   refine Ln ?_
   obtain rfl := sm H1225
   exact Eg (_, (a1219, c1220)) (hag1013 _ rfl) [0, 0] [] 0
  refine Tx (Ex (Ex (Eh ?_)))
  obtain rfl := sm H1016
  have hb := hbr1014 _ rfl
  subst y1008
  exact Eg (_, (a684, c685)) rfl [0, 0] [] 0
 rintro ⟨e1007, ⟨a1004, c1005⟩⟩ hy
 subst hy
 refine Ts (Tr ?_)
 refine Lb 1 ?_
 refine L.frz 0 rfl ?_
 refine La [] [0] (Ac.bs (ty := tyRef07Action) (xs := [e1007]) (.cons (a1004, c1005) [0] rfl .nil) rfl rfl rfl rfl rfl rfl rfl) fun g1332 => ?_
 refine Lq 1 ?_
 refine Ln (Et (Tv ?_))
 obtain rfl := sm H1010
 exact Eo1 ((some ⟨g1332, 0, none⟩), 1) [0] []

theorem c_ref07_Read {s_ : ByteArray} {r : (List Ref07Action)} (H : p_ref07_Read s_ = some r) : CT G 48 [.string s_] [] [] (fun h : (Option Addr × Nat) => .slice h.1 r.length h.2) (fun h => [Ch.arr tyRef07Action 37 h.1 h.2 r]) (fun h => []) := by
 delta p_ref07_Read at H
 refine CT.of Go.Proofs.Tryz.func48 (by kernel_rfl) rfl rfl rfl fun K => ?_
 refine Ts (Tr ?_)
 refine Lq 1 ?_
 refine Ln (Et (Ts (Tr ?_)))
 refine La [] [] (Ac.bs (ty := tyRef07Action) (xs := []) .nil rfl rfl rfl rfl rfl rfl rfl) fun g1 => ?_
 refine Lq 1 ?_
 refine Ln (Et (Ts (Tr ?_)))
 refine Lq 1 ?_
 refine Ln (Et (Ts (Tr ?_)))
 refine Lq 1 ?_
 refine Ln (Et (Ts (Tr ?_)))
 refine Lq 1 ?_
 refine Ln (Et (Ts ?_))
 obtain ⟨y2913, H2914, H2915⟩ := bnd H
 refine Tj (η := (List Ref07Action) × ((Option Addr × Nat))) (fun h => y2913 = .inl h.1) (fun h => (fun e2912 => (fun a2909 c2910 => [(3, .slice a2909 e2912.length c2910)]) h.2.1 h.2.2) h.1) [] (fun h => (fun e2912 => (fun a2909 c2910 => [Ch.arr tyRef07Action 37 a2909 c2910 e2912]) h.2.1 h.2.2) h.1) [] (fun _ => []) ?_ ?_
 ·refine Tl ?_
  refine Tq (η := (Option Addr × Nat)) (fun s1946 h => (fun a1940 c1941 => [(3, .slice a1940 s1946.1.length c1941), (4, .int .i64 s1946.2.1), (5, .int .i64 s1946.2.2.1), (6, .string s1946.2.2.2)]) h.1 h.2) [0] (fun s1946 h => (fun a1940 c1941 => [Ch.arr tyRef07Action 37 a1940 c1941 s1946.1]) h.1 h.2) [] (fun _ _ => []) ((some ⟨g1, 0, none⟩), 0) [0] [] H2914 ?_
  rintro k_ s1946 ⟨a1940, c1941⟩ z2917 H2916 hag2918 hbr2919
  refine Ts (Ts (Tr ?_))
  refine Lq 4 ?_
  refine Ln (Et ?_)
  refine Tb H2916 (fun H2921 => ?_) fun H2921 => ?_
  ·refine Tk (Et (Tl (Ts (Ts (Tr ?_)))))
   refine Lq 2 ?_
   refine Ln (Et ?_)
   obtain ⟨y3314, H3315, H3316⟩ := bnd H2921
   refine Tj (η := ((List Ref07Action) × Int) × ((Option Addr × Nat))) (fun h => y3314 = .inl h.1) (fun h => (fun e3313 => (fun a3309 c3310 => [(3, .slice a3309 e3313.1.length c3310), (5, .int .i64 e3313.2)]) h.2.1 h.2.2) h.1) [0, 4, 6] (fun h => (fun e3313 => (fun a3309 c3310 => [Ch.arr tyRef07Action 37 a3309 c3310 e3313.1]) h.2.1 h.2.2) h.1) [] (fun _ => []) ?_ ?_
   ·refine Tb H3315 (fun H3317 => ?_) fun H3317 => ?_
    ·refine Ts (Tr ?_)
     refine Lq 2 ?_
     refine Ln (Et (Ts ?_))
     obtain ⟨e3413, H3414, H3415⟩ := bnd H3317
     refine Tj0 [(7, .int .i64 e3413)] [0, 3, 4, 5, 6] [] [0] ?_ ?_
     ·refine Tl ?_
      refine Tq (η := Unit) (fun s3381 h => [(7, .int .i64 s3381)]) [0, 3, 4, 5, 6] (fun _ _ => []) [0] (fun _ _ => []) () [0] [] H3414 ?_
      rintro k_ s3381 ⟨⟩ z3417 H3416 hag3418 hbr3419
      refine Ts (Ts ?_)
      obtain ⟨e3437, H3438, H3439⟩ := bnd H3416
      refine Tj0 [(34, .bool e3437)] [0, 3, 4, 5, 6, 7] [] [0] ?_ ?_
      ·refine Tr ?_
       refine Lq 5 ?_
       refine Lw 23 H3438 (fun H3440 => ?_) fun H3440 => ?_
       ·refine Lq 2 ?_
        obtain ⟨b3441, h3442, H3443⟩ := bnd H3440
        refine Ly (Yl.si h3442 rfl rfl rfl rfl rfl) ?_
        refine Lq 3 ?_
        refine Lw 29 H3443 (fun H3444 => ?_) fun H3444 => ?_
        ·refine Lq 2 ?_
         obtain ⟨b3445, h3446, H3447⟩ := bnd H3444
         refine Ly (Yl.si h3446 rfl rfl rfl rfl rfl) ?_
         refine Lq 2 ?_
         refine Ln ?_
         obtain rfl := sm H3447
         exact Eg0 [0] 0
        refine Lq 5 ?_
        refine Ln ?_
        obtain rfl := sm H3444
        exact Eg0 [0] 0
       refine Lq 11 ?_
       refine Ln ?_
       obtain rfl := sm H3440
       exact Eg0 [0] 0
      refine Tb H3439 (fun H3449 => ?_) fun H3449 => ?_
      ·refine Tk (Et (Tl (Tr ?_)))
       refine Lq 3 ?_
       refine Ln (Eb ?_)
       obtain rfl := sm H3449
       exact Eg (_, ()) (hag3418 _ rfl) [0] [] 0
      refine Tx (Ex (Ex (Eh ?_)))
      obtain rfl := sm H3449
      have hb := hbr3419 _ rfl
      subst e3413
      exact Eg0 [0] 0
     refine Ts (Tr ?_)
     refine Lq 3 ?_
     obtain ⟨_, h3450, H3451⟩ := bnd H3415
     refine Ly (Yl.sc h3450 rfl rfl rfl rfl rfl rfl) ?_
     obtain ⟨r3452, h3453, H3454⟩ := bnd H3451
     refine Lk [] [] (c_ref05_Runes h3453) fun ⟨a3455, c3456⟩ => ?_
     refine Lq 5 ?_
     refine Ln (Et (Ts (Tr ?_)))
     refine Lq 2 ?_
     refine L.frz 0 rfl ?_
     obtain ⟨r3459, h3460, H3461⟩ := bnd H3454
     refine Lk [] [0] (c_ref07_prints h3460) fun ⟨a3462, c3463⟩ => ?_
     refine L.frz 0 rfl ?_
     obtain ⟨_, h3466, H3467⟩ := bnd H3461
     refine La [0] [0] (Ac.ap (ty := tyRef07Action) h3466 rfl rfl rfl rfl rfl rfl rfl) ?_
     rintro ⟨a3468, c3469⟩
     refine Lq 1 ?_
     refine Ln (Et (Ts (Ts (Tr ?_))))
     refine Lq 4 ?_
     refine Ln (Et ?_)
     refine Tb H3467 (fun H3472 => ?_) fun H3472 => ?_
     ·refine Ts (Tr ?_)
      refine Lq 2 ?_
      refine Ln (Et (Tv (Er ?_)))
      obtain ⟨w3473, hz, H3474⟩ := inrs_some H3472
      subst y3314
      obtain rfl := (sm H3316).symm
      refine Er (Ev (Er (Ev ?_)))
      obtain ⟨w3475, hz, H3476⟩ := inrr_some H3474
      subst z2917
      have hb := hbr2919 _ rfl
      subst y2913
      obtain rfl := (sm H2915).symm
      refine Er ?_
      obtain rfl := sm H3476
      exact Eo1 (a3468, c3469) [0] []
     refine Tk (Et (Ts (Ts (Tr ?_))))
     refine Lq 2 ?_
     refine Ln (Et ?_)
     obtain ⟨e3501, H3502, H3503⟩ := bnd H3472
     refine Tjh (η := (Option Addr × Nat)) (fun h => (fun a3498 c3499 => [(3, .slice a3498 e3501.length c3499)]) h.1 h.2) [0, 4, 6, 7] (fun h => (fun a3498 c3499 => [Ch.arr tyRef07Action 37 a3498 c3499 e3501]) h.1 h.2) [] (fun _ => []) ?_ ?_
     ·refine Tb H3502 (fun H3504 => ?_) fun H3504 => ?_
      ·refine Tr ?_
       refine Lq 2 ?_
       refine L.know [Im.sl (Ty.int .i64) none 0 []] (fun A w _ _ f hf => by rw [List.mem_singleton.1 hf]; exact Im.sl_nil A w) ?_
       refine La [] [0] (Ac.bs (ty := tyRef07Action) (xs := [(Ref07Action.mk 1 65533 0 false ([] : List Int) (ByteArray.mk #[]))]) (.cons (none, 0) [0] rfl .nil) rfl rfl rfl rfl rfl rfl rfl) fun g3506 => ?_
       refine L.frz 0 rfl ?_
       obtain ⟨_, h3509, H3510⟩ := bnd H3504
       refine La [0] [0] (Ac.ap (ty := tyRef07Action) h3509 rfl rfl rfl rfl rfl rfl rfl) ?_
       rintro ⟨a3511, c3512⟩
       refine Lq 1 ?_
       refine Ln ?_
       obtain rfl := sm H3510
       exact Eg (a3511, c3512) trivial [0] [] 2
      refine Tk ?_
      obtain rfl := sm H3504
      exact Eg (a3468, c3469) trivial [0] [] 0
     rintro ⟨a3498, c3499⟩
     refine Tr ?_
     refine Lq 2 ?_
     refine Ln ?_
     obtain rfl := sm H3503
     exact Eg (_, (a3498, c3499)) rfl [0] [] 2
    refine Tk ?_
    obtain rfl := sm H3317
    exact Eg (_, (a1940, c1941)) rfl [0] [] 0
   rintro ⟨e3313, ⟨a3309, c3310⟩⟩ hy
   subst hy
   refine Ts (Tr ?_)
   refine Lq 2 ?_
   obtain ⟨b3514, h3515, H3516⟩ := bnd H3316
   refine Ly (Yl.si h3515 rfl rfl rfl rfl rfl) ?_
   refine Lq 2 ?_
   refine Ln (Et (Ts (Tr ?_)))
   refine Lq 3 ?_
   refine Ln (Et (Ts (Ts (Tr ?_))))
   refine Lq 2 ?_
   refine Ln (Et ?_)
   refine Tb H3516 (fun H3663 => ?_) fun H3663 => ?_
   ·refine Ts (Ts (Tr ?_))
    refine Lq 2 ?_
    refine Ln (Et ?_)
    obtain ⟨y3760, H3761, H3762⟩ := bnd H3663
    refine Tj (η := ((List Ref07Action) × Int × Int × ByteArray) × ((Option Addr × Nat))) (fun h => y3760 = .inl h.1) (fun h => (fun e3759 => (fun a3753 c3754 => [(3, .slice a3753 e3759.1.length c3754), (4, .int .i64 e3759.2.1), (5, .int .i64 e3759.2.2.1), (6, .string e3759.2.2.2)]) h.2.1 h.2.2) h.1) [0] (fun h => (fun e3759 => (fun a3753 c3754 => [Ch.arr tyRef07Action 37 a3753 c3754 e3759.1]) h.2.1 h.2.2) h.1) [] (fun _ => []) ?_ ?_
    ·refine Tb H3761 (fun H3763 => ?_) fun H3763 => ?_
     ·refine Ts (Tr ?_)
      refine Lq 2 ?_
      obtain ⟨r3764, h3765, H3766⟩ := bnd H3763
      refine Lk [] [] (c_ref07_Titles h3765) fun ⟨a3767, c3768⟩ => ?_
      refine L.frz 0 rfl ?_
      obtain ⟨_, h3771, H3772⟩ := bnd H3766
      refine La [0] [0] (Ac.ap (ty := tyRef07Action) h3771 rfl rfl rfl rfl rfl rfl rfl) ?_
      rintro ⟨a3773, c3774⟩
      refine Lq 1 ?_
      refine Ln (Et (Tr ?_))
      refine Lq 1 ?_
      refine Ln ?_
      obtain rfl := sm H3772
      exact Eg (_, (a3773, c3774)) rfl [0] [] 1
     refine Ts ?_
     obtain ⟨e3779, H3780, H3781⟩ := bnd H3763
     refine Tj0 [(80, .bool e3779)] [0, 3, 4, 5, 6, 10] [] [0] ?_ ?_
     ·refine Tr ?_
      refine Lq 3 ?_
      refine Lw 77 H3780 (fun H3782 => ?_) fun H3782 => ?_
      ·refine Lq 3 ?_
       refine Ln ?_
       obtain rfl := sm H3782
       exact Eg0 [0] 0
      refine Lq 3 ?_
      refine Ln ?_
      obtain rfl := sm H3782
      exact Eg0 [0] 0
     refine Tb H3781 (fun H3783 => ?_) fun H3783 => ?_
     ·refine Tr ?_
      refine Lq 1 ?_
      refine Ln ?_
      obtain rfl := sm H3783
      exact Eg (_, (a3309, c3310)) rfl [0] [] 0
     refine Ts (Tr ?_)
     refine Lq 2 ?_
     refine Ln (Et ?_)
     refine Tb H3783 (fun H3784 => ?_) fun H3784 => ?_
     ·refine Tr ?_
      refine Lq 3 ?_
      refine La [] [] (Ac.bs (ty := (Ty.int .u8)) (xs := [(IntKind.u8.wrap (IntKind.i64.wrap b3514))]) (.cons () [] rfl .nil) rfl rfl rfl rfl rfl rfl rfl) fun g3785 => ?_
      refine Ly (Yl.bs 0 rfl rfl rfl rfl rfl rfl rfl rfl rfl) ?_
      obtain ⟨_, h3787, H3788⟩ := bnd H3784
      refine Ly (Yl.sa h3787 rfl rfl rfl) ?_
      refine Lq 1 ?_
      refine Ln ?_
      obtain rfl := sm H3788
      exact Eg (_, (a3309, c3310)) rfl [1] [] 0
     refine Ts (Ts (Tr ?_))
     refine Lq 4 ?_
     refine Ln (Et ?_)
     refine Tb H3784 (fun H3790 => ?_) fun H3790 => ?_
     ·refine Ts (Tr ?_)
      refine Lq 2 ?_
      refine Ln (Et (Tv (Er ?_)))
      obtain ⟨w3791, hz, H3792⟩ := inrs_some H3790
      subst y3760
      obtain rfl := (sm H3762).symm
      refine Er (Er (Ev (Er (Ev ?_))))
      obtain ⟨w3793, hz, H3794⟩ := inrr_some H3792
      subst z2917
      have hb := hbr2919 _ rfl
      subst y2913
      obtain rfl := (sm H2915).symm
      refine Er ?_
      obtain rfl := sm H3794
      exact Eo1 (a3309, c3310) [0] []
     refine Tk (Et (Ts (Tr ?_)))
     refine Lq 1 ?_
     refine Ln (Et (Ts (Tr ?_)))
     refine Lq 2 ?_
     obtain ⟨b3795, h3796, H3797⟩ := bnd H3790
     refine Ly (Yl.si h3796 rfl rfl rfl rfl rfl) ?_
     refine Lq 1 ?_
     refine Ln (Et ?_)
     refine Tb H3797 (fun H3798 => ?_) fun H3798 => ?_
     ·refine Ts (Tr ?_)
      refine Lq 2 ?_
      obtain ⟨r3799, h3800, H3801⟩ := bnd H3798
      refine Lk [] [] (c_ref07_Titles h3800) fun ⟨a3802, c3803⟩ => ?_
      refine L.frz 0 rfl ?_
      obtain ⟨_, h3806, H3807⟩ := bnd H3801
      refine La [0] [0] (Ac.ap (ty := tyRef07Action) h3806 rfl rfl rfl rfl rfl rfl rfl) ?_
      rintro ⟨a3808, c3809⟩
      refine Lq 1 ?_
      refine Ln (Et (Ts (Tr ?_)))
      refine Lq 1 ?_
      refine Ln (Et (Tr ?_))
      refine Lq 3 ?_
      refine Ln ?_
      obtain rfl := sm H3807
      exact Eg (_, (a3808, c3809)) rfl [0] [] 1
     refine Tk ?_
     obtain rfl := sm H3798
     exact Eg (_, (a3309, c3310)) rfl [0] [] 0
    rintro ⟨e3759, ⟨a3753, c3754⟩⟩ hy
    subst hy
    refine Tx (Ex (Eh ?_))
    obtain rfl := sm H3762
    exact Eg (_, (a3753, c3754)) (hag2918 _ rfl) [0] [] 0
   refine Tk (Et (Ts (Ts ?_)))
   obtain ⟨e3814, H3815, H3816⟩ := bnd H3663
   refine Tj0 [(109, .bool e3814)] [0, 3, 4, 5, 6, 10] [] [0] ?_ ?_
   ·refine Tr ?_
    refine Lq 3 ?_
    refine Lw 106 H3815 (fun H3817 => ?_) fun H3817 => ?_
    ·refine Lq 3 ?_
     refine Ln ?_
     obtain rfl := sm H3817
     exact Eg0 [0] 0
    refine Lq 3 ?_
    refine Ln ?_
    obtain rfl := sm H3817
    exact Eg0 [0] 0
   refine Tb H3816 (fun H3819 => ?_) fun H3819 => ?_
   ·refine Ts (Tr ?_)
    refine Lq 1 ?_
    refine Ln (Et (Tx (Ex (Eh ?_))))
    obtain rfl := sm H3819
    exact Eg (_, (a3309, c3310)) (hag2918 _ rfl) [0] [] 0
   refine Tk (Et (Ts (Ts (Tr ?_))))
   refine Lq 2 ?_
   refine Ln (Et ?_)
   refine Tb H3819 (fun H3821 => ?_) fun H3821 => ?_
   ·refine Ts (Tr ?_)
    refine Lq 1 ?_
    refine Ln (Et (Tx (Ex (Eh ?_))))
    obtain rfl := sm H3821
    exact Eg (_, (a3309, c3310)) (hag2918 _ rfl) [0] [] 0
   refine Tk (Et (Ts (Ts (Tr ?_))))
   refine Lq 2 ?_
   refine Ln (Et ?_)
   refine Tb H3821 (fun H3832 => ?_) fun H3832 => ?_
   ·refine Ts (Tr ?_)
    refine Lq 3 ?_
    refine L.know [Im.sl (Ty.int .i64) none 0 []] (fun A w _ _ f hf => by rw [List.mem_singleton.1 hf]; exact Im.sl_nil A w) ?_
    refine La [] [0] (Ac.bs (ty := tyRef07Action) (xs := [(Ref07Action.mk 2 0 (IntKind.i64.wrap b3514) false ([] : List Int) (ByteArray.mk #[]))]) (.cons (none, 0) [0] rfl .nil) rfl rfl rfl rfl rfl rfl rfl) fun g3834 => ?_
    refine L.frz 0 rfl ?_
    obtain ⟨_, h3837, H3838⟩ := bnd H3832
    refine La [0] [0] (Ac.ap (ty := tyRef07Action) h3837 rfl rfl rfl rfl rfl rfl rfl) ?_
    rintro ⟨a3839, c3840⟩
    refine Lq 1 ?_
    refine Ln (Et (Tx (Ex (Eh ?_))))
    obtain rfl := sm H3838
    exact Eg (_, (a3839, c3840)) (hag2918 _ rfl) [0] [] 2
   refine Tk (Et (Ts (Ts (Tr ?_))))
   refine Lq 2 ?_
   refine Ln (Et ?_)
   refine Tb H3832 (fun H3843 => ?_) fun H3843 => ?_
   ·refine Tx (Ex (Eh ?_))
    obtain rfl := sm H3843
    exact Eg (_, (a3309, c3310)) (hag2918 _ rfl) [0] [] 0
   refine Tk (Et (Ts (Tr ?_)))
   refine Lq 1 ?_
   refine Ln (Et (Tl (Ts (Tr ?_))))
   refine Lq 2 ?_
   refine Ln (Et ?_)
   refine Tb H3843 (fun H3844 => ?_) fun H3844 => ?_
   ·refine Ts (Tr ?_)
    refine Lq 1 ?_
    refine Ln (Et (Ts (Tr ?_)))
    refine Lq 1 ?_
    refine Ln (Et (Ts (Tr ?_)))
    refine Lq 2 ?_
    refine Ln (Et ?_)
    refine Tb H3844 (fun H3845 => ?_) fun H3845 => ?_
    ·refine Tr ?_
     refine Lq 1 ?_
     refine Ln (Eb (Eb ?_))
     obtain rfl := sm H3845
     exact Eg (_, (a3309, c3310)) (hag2918 _ rfl) [0] [] 0
    refine Ts (Tr ?_)
    refine Lq 2 ?_
    refine Ln (Et ?_)
    refine Tb H3845 (fun H3846 => ?_) fun H3846 => ?_
    ·refine Tr ?_
     refine Lq 1 ?_
     refine Ln (Eb (Eb ?_))
     obtain rfl := sm H3846
     exact Eg (_, (a3309, c3310)) (hag2918 _ rfl) [0] [] 0
    refine Ts (Tr ?_)
    refine Lq 2 ?_
    refine Ln (Et ?_)
    refine Tb H3846 (fun H3847 => ?_) fun H3847 => ?_
    ·refine Tr ?_
     refine Lq 1 ?_
     refine Ln (Eb (Eb ?_))
     obtain rfl := sm H3847
     exact Eg (_, (a3309, c3310)) (hag2918 _ rfl) [0] [] 0
    refine Ts (Tr ?_)
    refine Lq 2 ?_
    refine Ln (Et ?_)
    refine Tb H3847 (fun H3848 => ?_) fun H3848 => ?_
    ·refine Tr ?_
     refine Lq 3 ?_
     refine L.know [Im.sl (Ty.int .i64) none 0 []] (fun A w _ _ f hf => by rw [List.mem_singleton.1 hf]; exact Im.sl_nil A w) ?_
     refine La [] [0] (Ac.bs (ty := tyRef07Action) (xs := [(Ref07Action.mk 3 0 (IntKind.i64.wrap b3514) false ([] : List Int) (ByteArray.mk #[]))]) (.cons (none, 0) [0] rfl .nil) rfl rfl rfl rfl rfl rfl rfl) fun g3850 => ?_
     refine L.frz 0 rfl ?_
     obtain ⟨_, h3853, H3854⟩ := bnd H3848
     refine La [0] [0] (Ac.ap (ty := tyRef07Action) h3853 rfl rfl rfl rfl rfl rfl rfl) ?_
     rintro ⟨a3855, c3856⟩
     refine Lq 1 ?_
     refine Ln (Eb (Eb ?_))
     obtain rfl := sm H3854
     exact Eg (_, (a3855, c3856)) (hag2918 _ rfl) [0] [] 2
    refine Tk (Eb (Eb ?_))
    obtain rfl := sm H3848
    exact Eg (_, (a3309, c3310)) (hag2918 _ rfl) [0] [] 0
   refine Ts (Tr ?_)
   refine Lq 2 ?_
   refine Ln (Et ?_)
   refine Tb H3844 (fun H3858 => ?_) fun H3858 => ?_
   ·refine Ts (Tr ?_)
    refine Lq 2 ?_
    refine Ln (Et ?_)
    refine Tb H3858 (fun H3859 => ?_) fun H3859 => ?_
    ·refine Tr ?_
     refine Lq 1 ?_
     refine Ln (Eb (Eb ?_))
     obtain rfl := sm H3859
     exact Eg (_, (a3309, c3310)) (hag2918 _ rfl) [0] [] 0
    refine Tk (Eb (Eb ?_))
    obtain rfl := sm H3859
    exact Eg (_, (a3309, c3310)) (hag2918 _ rfl) [0] [] 0
   refine Ts (Tr ?_)
   refine Lq 2 ?_
   refine Ln (Et ?_)
   refine Tb H3858 (fun H3860 => ?_) fun H3860 => ?_
   ·refine Ts ?_
    obtain ⟨e3864, H3865, H3866⟩ := bnd H3860
    refine Tj0 [(148, .bool e3864)] [0, 3, 4, 5, 6, 10] [] [0] ?_ ?_
    ·refine Tr ?_
     refine Lq 3 ?_
     refine Lw 145 H3865 (fun H3867 => ?_) fun H3867 => ?_
     ·refine Lq 3 ?_
      refine Ln ?_
      obtain rfl := sm H3867
      exact Eg0 [0] 0
     refine Lq 3 ?_
     refine Ln ?_
     obtain rfl := sm H3867
     exact Eg0 [0] 0
    refine Tb H3866 (fun H3868 => ?_) fun H3868 => ?_
    ·refine Tr ?_
     refine Lq 3 ?_
     refine La [] [] (Ac.bs (ty := (Ty.int .u8)) (xs := [(IntKind.u8.wrap (IntKind.i64.wrap b3514))]) (.cons () [] rfl .nil) rfl rfl rfl rfl rfl rfl rfl) fun g3869 => ?_
     refine Ly (Yl.bs 0 rfl rfl rfl rfl rfl rfl rfl rfl rfl) ?_
     obtain ⟨_, h3871, H3872⟩ := bnd H3868
     refine Ly (Yl.sa h3871 rfl rfl rfl) ?_
     refine Lq 1 ?_
     refine Ln (Eb (Eb ?_))
     obtain rfl := sm H3872
     exact Eg (_, (a3309, c3310)) (hag2918 _ rfl) [1] [] 0
    refine Ts (Tr ?_)
    refine Lq 3 ?_
    obtain ⟨r3873, h3874, H3875⟩ := bnd H3868
    refine Lk [] [] (c_ref07_Order h3874) fun ⟨a3876, c3877⟩ => ?_
    refine L.frz 0 rfl ?_
    obtain ⟨_, h3880, H3881⟩ := bnd H3875
    refine La [0] [0] (Ac.ap (ty := tyRef07Action) h3880 rfl rfl rfl rfl rfl rfl rfl) ?_
    rintro ⟨a3882, c3883⟩
    refine Lq 1 ?_
    refine Ln (Et (Tr ?_))
    refine Lq 1 ?_
    refine Ln (Eb (Eb ?_))
    obtain rfl := sm H3881
    exact Eg (_, (a3882, c3883)) (hag2918 _ rfl) [0] [] 1
   refine Tk (Eb (Eb ?_))
   obtain rfl := sm H3860
   exact Eg (_, (a3309, c3310)) (hag2918 _ rfl) [0] [] 0
  refine Tx (Ex (Ex (Eh ?_)))
  obtain rfl := sm H2921
  have hb := hbr2919 _ rfl
  subst y2913
  exact Eg (_, (a1940, c1941)) rfl [0] [] 0
 rintro ⟨e2912, ⟨a2909, c2910⟩⟩ hy
 subst hy
 refine Ts (Tr ?_)
 refine Lq 2 ?_
 refine Ln (Et (Tv ?_))
 obtain rfl := sm H2915
 exact Eo1 (a2909, c2910) [0] []

theorem c_law11_Do {s_ : ScreenScreen} {x_ : Ref11Screen} {t_ : Law11Step} {r : Ref11Screen × Bool × ScreenScreen} (H : p_law11_Do s_ x_ t_ = some r) : CT G 19 [.pointer (some ⟨N0, 0, none⟩), .agg (bx31 x_ A1 C1).toArray, .agg (bx62 t_ A2 C2).toArray] [Ch.box N0 81 [.pointer (some ⟨N1, 0, none⟩), .int .i64 s_.spot.x, .int .i64 s_.spot.y, .int .i64 s_.spot.style.fore, .int .i64 s_.spot.style.back, .bool s_.spot.style.bold, .bool s_.spot.style.under, .bool s_.spot.style.inverse, .int .i64 s_.saved.x, .int .i64 s_.saved.y, .int .i64 s_.saved.style.fore, .int .i64 s_.saved.style.back, .bool s_.saved.style.bold, .bool s_.saved.style.under, .bool s_.saved.style.inverse, .bool s_.waiting, .int .i64 s_.top, .int .i64 s_.bottom, .bool s_.wraps, .string s_.title], Ch.box N1 96 [.int .i64 s_.g.w, .slice A0 s_.g.l.length C0], Ch.arr tyRowRow 52 A0 C0 s_.g.l] [Im.sl tyRef09Row A1 C1 x_.g.l, Im.sl (Ty.int .i64) A2 C2 t_.a.nums, Im.sl tyWideSpan (some ⟨0, 0, none⟩) 13 t_wide_nones, Im.sl tyWideSpan (some ⟨1, 0, none⟩) 14 t_wide_twos] (fun h : (Option Addr × Nat) × Nat × (Option Addr × Nat) => .tuple #[.agg (bx31 r.1 h.1.1 h.1.2).toArray, .bool r.2.1]) (fun h => [Ch.box N0 81 [.pointer (some ⟨h.2.1, 0, none⟩), .int .i64 r.2.2.spot.x, .int .i64 r.2.2.spot.y, .int .i64 r.2.2.spot.style.fore, .int .i64 r.2.2.spot.style.back, .bool r.2.2.spot.style.bold, .bool r.2.2.spot.style.under, .bool r.2.2.spot.style.inverse, .int .i64 r.2.2.saved.x, .int .i64 r.2.2.saved.y, .int .i64 r.2.2.saved.style.fore, .int .i64 r.2.2.saved.style.back, .bool r.2.2.saved.style.bold, .bool r.2.2.saved.style.under, .bool r.2.2.saved.style.inverse, .bool r.2.2.waiting, .int .i64 r.2.2.top, .int .i64 r.2.2.bottom, .bool r.2.2.wraps, .string r.2.2.title], Ch.box h.2.1 96 [.int .i64 r.2.2.g.w, .slice h.2.2.1 r.2.2.g.l.length h.2.2.2], Ch.arr tyRowRow 52 h.2.2.1 h.2.2.2 r.2.2.g.l]) (fun h => [Im.sl tyRef09Row h.1.1 h.1.2 r.1.g.l]) := by
 delta p_law11_Do at H
 refine CT.of Go.Proofs.Tryz.func19 (by kernel_rfl) rfl rfl rfl fun K => ?_
 refine Ts (Tr ?_)
 refine Lx fun g1 => ?_
 refine Lx fun g2 => ?_
 refine Ll fun g3 => ?_
 refine Lq 1 ?_
 refine Ln (Et (Ts (Ts (Tr ?_))))
 refine Lq 1 ?_
 refine Lb 1 ?_
 refine Ln (Et (Tl (Ts (Tr ?_))))
 refine Lq 2 ?_
 refine Ln (Et ?_)
 refine Tb H (fun H261 => ?_) fun H261 => ?_
 ·refine Ts (Tr ?_)
  refine Lq 1 ?_
  refine Lb 1 ?_
  refine Ll fun g262 => ?_
  refine Lt 0 ?_
  refine Ln (Et (Ts ?_))
  refine Td [19, 21, 23, 25] [0, 0, 0, 0, 0, 0, 0] mo ?_
  refine Dq 0 ?_
  refine Db 1 0 ?_
  refine Dq 2 ?_
  refine Dq 3 ?_
  refine Dq 4 ?_
  refine Db 5 0 ?_
  refine Dq 6 ?_
  refine Dq 7 ?_
  refine Dq 8 ?_
  refine Db 9 0 ?_
  refine Dq 10 ?_
  refine Db 11 0 ?_
  refine Dq 12 ?_
  refine Dq 13 ?_
  obtain ⟨_, h287, H288⟩ := bnd H261
  refine D.rsl 1 14 h287 rfl rfl rfl rfl rfl rfl rfl rfl rfl rfl rfl rfl rfl rfl ?_
  intro a289 c290
  refine Dq 15 ?_
  refine Db 16 0 ?_
  refine Dq 18 ?_
  obtain ⟨r292, h293, H294⟩ := bnd H288
  refine Dk [] [] (c_law01_Cut h293) fun ⟨⟩ => ?_
  refine Dt 0 ?_
  refine Dq 20 ?_
  refine Dt 0 ?_
  refine Dq 22 ?_
  refine Dt 0 ?_
  refine Dq 24 ?_
  refine Dt 0 ?_
  refine Dn ?_
  refine Et (Ts (Tr ?_))
  refine Lb 3 ?_
  refine Lb 0 ?_
  obtain ⟨r295, h296, H297⟩ := bnd H294
  refine Lk [] [1, 0] (c_ref11_Do h296) fun ⟨⟨a298, c299⟩, ⟨a300, c301⟩⟩ => ?_
  refine Lq 3 ?_
  refine Ll fun g304 => ?_
  refine Lt 0 ?_
  refine Lq 1 ?_
  refine Ln (Et (Ts ?_))
  refine Td [7] [0, 0, 0, 0, 0, 0] mo ?_
  refine Db 0 0 ?_
  refine Dq 1 ?_
  refine Db 2 2 ?_
  refine Dq 5 ?_
  obtain ⟨r362, h363, H364⟩ := bnd H297
  refine Dk [] [1] (c_law11_Own h363) fun ⟨a365, c366⟩ => ?_
  obtain ⟨r368, h369, H370⟩ := bnd H364
  refine Dk [0, 0, 0] [0, 5, 6] (c_screen_Screen_Do h369) fun ⟨⟨a371, c372⟩, g373, ⟨a374, c375⟩⟩ => ?_
  obtain ⟨r378, h379, H380⟩ := bnd H370
  refine D.one rfl rfl rfl (Dp.br (Ac.call (c_law10_Rows h379) rfl rfl rfl rfl) (Bw.ch 6 rfl (Bw.ch 1 rfl (Bw.nil))) rfl rfl rfl rfl ?_)
  intro _
  refine Dt 3 ?_
  refine Dq 8 ?_
  refine Dn ?_
  refine Et (Tv (Ev (Er ?_)))
  obtain rfl := sm H380
  exact Eo ((a298, c299), g373, (a374, c375)) [7, 7, 7] [1] (.cell 0 rfl rfl rfl (.tmp rfl .nil))
 refine Ts (Tr ?_)
 refine Lq 2 ?_
 refine Ln (Et ?_)
 refine Tb H261 (fun H381 => ?_) fun H381 => ?_
 ·refine Ts ?_
  refine Td [12] [0, 0, 0, 0, 0, 0] mo ?_
  refine Db 0 2 ?_
  refine Dq 1 ?_
  refine Db 2 1 ?_
  refine Dq 4 ?_
  refine Db 5 1 ?_
  refine DF.of rfl ?_
  obtain ⟨r430, h431, H432⟩ := bnd H381
  refine DF.add _ (FSp.ac 3 [] (Ac.call (c_law11_small h431) rfl rfl rfl rfl) rfl rfl rfl rfl rfl) rfl ?_
  obtain ⟨r433, h434, H435⟩ := bnd H432
  refine DF.add _ (FSp.dep 0 rfl rfl fun ⟨⟩ => FSp.ac 6 [] (Ac.call (c_law11_small h434) rfl rfl rfl rfl) rfl rfl rfl rfl rfl) rfl ?_
  refine DF.add _ (FSp.ac 11 [] (Ac.alloc rfl rfl) rfl rfl rfl rfl rfl) rfl ?_
  refine DF.step 7 rfl rfl rfl rfl rfl ?_
  refine DFp.use 1 rfl rfl rfl ?_
  rintro ⟨⟩
  refine DFp.use 1 rfl rfl rfl ?_
  rintro ⟨⟩
  obtain ⟨r437, h438, H439⟩ := bnd H435
  refine DFp.a [] [0] (Ac.call (c_ref11_Resize h438) rfl rfl rfl rfl) rfl rfl rfl rfl rfl rfl rfl rfl ?_
  rintro ⟨⟨a440, c441⟩, ⟨a442, c443⟩⟩
  refine DF.add _ (FSp.q 8 rfl rfl rfl rfl rfl) rfl ?_
  refine DF.add _ (FSp.dep 0 rfl rfl fun _ => FSp.q 9 rfl rfl rfl rfl rfl) rfl ?_
  refine DF.add _ (FSp.dep 1 rfl rfl fun _ => FSp.q 10 rfl rfl rfl rfl rfl) rfl ?_
  refine DF.step 12 rfl rfl rfl rfl rfl ?_
  refine DFp.use 1 rfl rfl rfl ?_
  intro _
  refine DFp.use 1 rfl rfl rfl ?_
  intro _
  refine DFp.use 1 rfl rfl rfl ?_
  intro g436
  refine DFp.alf [6] [] (Ac.stb rfl rfl rfl rfl rfl rfl) rfl (fo_cons (FSp.q 10 rfl rfl rfl rfl rfl) (fo_nil)) rfl rfl rfl rfl rfl rfl rfl rfl ?_
  intro _
  refine DF.add _ (FSp.dep 0 rfl rfl fun _ => FSp.q 13 rfl rfl rfl rfl rfl) rfl ?_
  refine DF.fin rfl rfl rfl rfl rfl ?_
  refine DFe.use ?_
  intro _
  refine DFe.use ?_
  intro _
  refine DFe.nil ?_
  refine Et (Ts ?_)
  refine Td [11] [0, 0, 0, 0] mo ?_
  refine Db 0 0 ?_
  refine Dq 1 ?_
  refine Dq 2 ?_
  refine Db 3 2 ?_
  refine Dq 5 ?_
  refine Db 6 2 ?_
  refine Dq 9 ?_
  obtain ⟨r500, h501, H502⟩ := bnd H439
  refine Dk [] [] (c_law11_small h501) fun ⟨⟩ => ?_
  obtain ⟨r503, h504, H505⟩ := bnd H502
  refine Dk [] [] (c_law11_small h504) fun ⟨⟩ => ?_
  obtain ⟨r506, h507, H508⟩ := bnd H505
  refine Dk [0, 0, 0] [] (c_screen_Screen_Resize h507) fun ⟨⟨a509, c510⟩, ⟨a511, c512⟩⟩ => ?_
  obtain ⟨r515, h516, H517⟩ := bnd H508
  refine D.one rfl rfl rfl (Dp.br (Ac.call (c_law10_Rows h516) rfl rfl rfl rfl) (Bw.ch 4 rfl (Bw.im 1 rfl (Bw.nil))) rfl rfl rfl rfl ?_)
  intro _
  refine Dt 1 ?_
  refine Dq 12 ?_
  refine Dn ?_
  refine Et (Tv (Ev (Er ?_)))
  obtain rfl := sm H517
  exact Eo ((a440, c441), N1, (a511, c512)) [5, 5, 5] [0] (.cell 0 rfl rfl rfl (.tmp rfl .nil))
 refine Tk (Eb (Et (Ts (Ts (Tr ?_)))))
 refine Lq 1 ?_
 refine Lb 1 ?_
 obtain ⟨r518, h519, H520⟩ := bnd H381
 refine Lk [] [] (c_law01_Cut h519) fun ⟨⟩ => ?_
 obtain ⟨r521, h522, H523⟩ := bnd H520
 refine Lk [] [] (c_ref07_Read h522) fun ⟨a524, c525⟩ => ?_
 refine Lq 2 ?_
 refine Ln (Et ?_)
 obtain ⟨y808, H809, H810⟩ := bnd H523
 refine Tj (η := (Ref11Screen × ScreenScreen) × ((Option Addr × Nat) × Nat × (Option Addr × Nat))) (fun h => y808 = .inl h.1) (fun _ => []) [4, 6] (fun h => (fun e807 => (fun a799 c800 g803 a804 c805 => [Ch.arr tyRowRow 52 a804 c805 e807.2.g.l, Ch.box g1 31 (bx31 e807.1 a799 c800), Ch.box N0 81 [.pointer (some ⟨g803, 0, none⟩), .int .i64 e807.2.spot.x, .int .i64 e807.2.spot.y, .int .i64 e807.2.spot.style.fore, .int .i64 e807.2.spot.style.back, .bool e807.2.spot.style.bold, .bool e807.2.spot.style.under, .bool e807.2.spot.style.inverse, .int .i64 e807.2.saved.x, .int .i64 e807.2.saved.y, .int .i64 e807.2.saved.style.fore, .int .i64 e807.2.saved.style.back, .bool e807.2.saved.style.bold, .bool e807.2.saved.style.under, .bool e807.2.saved.style.inverse, .bool e807.2.waiting, .int .i64 e807.2.top, .int .i64 e807.2.bottom, .bool e807.2.wraps, .string e807.2.title], Ch.box g803 96 [.int .i64 e807.2.g.w, .slice a804 e807.2.g.l.length c805]]) h.2.1.1 h.2.1.2 h.2.2.1 h.2.2.2.1 h.2.2.2.2) h.1) [1, 2] (fun h => (fun e807 => (fun a799 c800 g803 a804 c805 => [Im.sl tyRef09Row a799 c800 e807.1.g.l]) h.2.1.1 h.2.1.2 h.2.2.1 h.2.2.2.1 h.2.2.2.2) h.1) ?_ ?_
 ·refine Tl ?_
  refine Tq (η := (Option Addr × Nat) × Nat × (Option Addr × Nat)) (fun s717 h => (fun a708 c709 g712 a713 c714 => [(87, .int .i64 s717.2.2)]) h.1.1 h.1.2 h.2.1 h.2.2.1 h.2.2.2) [0, 4, 6, 85, 86] (fun s717 h => (fun a708 c709 g712 a713 c714 => [Ch.arr tyRowRow 52 a713 c714 s717.2.1.g.l, Ch.box g1 31 (bx31 s717.1 a708 c709), Ch.box N0 81 [.pointer (some ⟨g712, 0, none⟩), .int .i64 s717.2.1.spot.x, .int .i64 s717.2.1.spot.y, .int .i64 s717.2.1.spot.style.fore, .int .i64 s717.2.1.spot.style.back, .bool s717.2.1.spot.style.bold, .bool s717.2.1.spot.style.under, .bool s717.2.1.spot.style.inverse, .int .i64 s717.2.1.saved.x, .int .i64 s717.2.1.saved.y, .int .i64 s717.2.1.saved.style.fore, .int .i64 s717.2.1.saved.style.back, .bool s717.2.1.saved.style.bold, .bool s717.2.1.saved.style.under, .bool s717.2.1.saved.style.inverse, .bool s717.2.1.waiting, .int .i64 s717.2.1.top, .int .i64 s717.2.1.bottom, .bool s717.2.1.wraps, .string s717.2.1.title], Ch.box g712 96 [.int .i64 s717.2.1.g.w, .slice a713 s717.2.1.g.l.length c714]]) h.1.1 h.1.2 h.2.1 h.2.2.1 h.2.2.2) [1, 2, 0] (fun s717 h => (fun a708 c709 g712 a713 c714 => [Im.sl tyRef09Row a708 c709 s717.1.g.l]) h.1.1 h.1.2 h.2.1 h.2.2.1 h.2.2.2) ((A1, C1), N1, (A0, C0)) [6, 3, 3, 3, 1, 1, 0] [0] H809 ?_
  rintro k_ s717 ⟨⟨a708, c709⟩, g712, ⟨a713, c714⟩⟩ z812 H811 hag813 hbr814
  refine Ts (Tr ?_)
  refine Lq 1 ?_
  refine Ln (Et (Ts ?_))
  refine Tb H811 (fun H816 => ?_) fun H816 => ?_
  ·refine Tk (Et (Ts (Tl (Ts (Tr ?_)))))
   obtain ⟨x856, h857, H858⟩ := bnd H816
   refine L.addro 6 rfl (idx_lt h857) fun b859 e860 => ?_
   subst e860
   refine Ly (Yl.ia h857 rfl rfl rfl rfl rfl rfl) ?_
   refine La [6] [] (Ac.lo s717.2.2.toNat 0 (v := (fun h : (Option Addr × Nat) => (fun a861 c862 => .agg (bx37 x856 a861 c862).toArray) h.1 h.2)) (idx_some h857).2 rfl rfl rfl (fun _ => rfl)) ?_
   rintro ⟨a861, c862⟩
   refine Ll fun g864 => ?_
   refine Lt 0 ?_
   refine Ln (Et (Ts (Tr ?_)))
   refine Lb 3 ?_
   refine Lb 0 ?_
   obtain ⟨r865, h866, H867⟩ := bnd H858
   refine Lk [] [1, 0] (c_ref11_Do h866) fun ⟨⟨a868, c869⟩, ⟨a870, c871⟩⟩ => ?_
   refine Lq 3 ?_
   refine Ll fun g874 => ?_
   refine Lt 0 ?_
   refine Lq 1 ?_
   refine Ln (Et (Ts (Tr ?_)))
   refine Lb 0 ?_
   refine Lt 5 ?_
   refine Ln (Et (Ts (Tr ?_)))
   refine Lq 1 ?_
   refine Lb 3 ?_
   obtain ⟨r875, h876, H877⟩ := bnd H867
   refine Lk [] [1] (c_law11_Own h876) fun ⟨a878, c879⟩ => ?_
   obtain ⟨r881, h882, H883⟩ := bnd H877
   refine Lk [6, 6, 5] [0, 6, 7] (c_screen_Screen_Do h882) fun ⟨⟨a884, c885⟩, g886, ⟨a887, c888⟩⟩ => ?_
   refine Lq 1 ?_
   obtain ⟨r891, h892, H893⟩ := bnd H883
   refine L.br (Ac.call (c_law10_Rows h892) rfl rfl rfl rfl) (Bw.ch 0 rfl (Bw.ch 6 rfl (Bw.nil))) rfl rfl rfl ?_
   intro _
   refine Lq 1 ?_
   refine Ln (Et ?_)
   refine Tb H893 (fun H894 => ?_) fun H894 => ?_
   ·refine Ts (Tr ?_)
    refine Lb 4 ?_
    refine Lt 9 ?_
    refine Lq 1 ?_
    refine Ln (Et (Tv (Ev (Er (Er (Ev ?_))))))
    obtain ⟨w895, hz, H896⟩ := inrr_some H894
    subst z812
    have hb := hbr814 _ rfl
    subst y808
    obtain rfl := (sm H810).symm
    refine Er ?_
    obtain rfl := sm H896
    exact Eo ((a868, c869), g886, (a887, c888)) [2, 2, 2] [1] (.cell 0 rfl rfl rfl (.tmp rfl .nil))
   refine Tk (Eb (Et (Tr ?_)))
   refine Lq 2 ?_
   refine Ln ?_
   obtain rfl := sm H894
   exact Eg (_, ((a868, c869), g886, (a887, c888))) (hag813 _ rfl) [3, 3, 1, 1, 5, 5, 4] [1] 4
  refine Tx (Ex (Ex (Eh ?_)))
  obtain rfl := sm H816
  have hb := hbr814 _ rfl
  subst y808
  exact Eg (_, ((a708, c709), g712, (a713, c714))) rfl [0, 0, 0, 0, 0, 0] [0] 1
 rintro ⟨e807, ⟨⟨a799, c800⟩, g803, ⟨a804, c805⟩⟩⟩ hy
 subst hy
 refine Ts (Tr ?_)
 refine Lb 1 ?_
 refine Lt 4 ?_
 refine Lq 1 ?_
 refine Ln (Et (Tv ?_))
 obtain rfl := sm H810
 exact Eo ((a799, c800), g803, (a804, c805)) [3, 3, 1] [0] (.cell 0 rfl rfl rfl (.tmp rfl .nil))

end Go.Tw.X

set_option maxHeartbeats 2000000
set_option linter.unusedVariables false
set_option linter.unusedSimpArgs false
set_option maxRecDepth 10000
namespace Go.Tw.X
open Go Go.Tw
variable {A0 A1 A2 : Option Addr} {C0 C1 C2 : Nat}
variable {N0 N1 N2 N3 N4 : Nat}
theorem c_screen_Screen_Region {s_ : ScreenScreen} {r : Int × Int} (H : p_screen_Screen_Region s_ = some r) : CT G 22 [.pointer (some ⟨N0, 0, none⟩)] [Ch.box N0 81 [.pointer (some ⟨N1, 0, none⟩), .int .i64 s_.spot.x, .int .i64 s_.spot.y, .int .i64 s_.spot.style.fore, .int .i64 s_.spot.style.back, .bool s_.spot.style.bold, .bool s_.spot.style.under, .bool s_.spot.style.inverse, .int .i64 s_.saved.x, .int .i64 s_.saved.y, .int .i64 s_.saved.style.fore, .int .i64 s_.saved.style.back, .bool s_.saved.style.bold, .bool s_.saved.style.under, .bool s_.saved.style.inverse, .bool s_.waiting, .int .i64 s_.top, .int .i64 s_.bottom, .bool s_.wraps, .string s_.title], Ch.box N1 96 [.int .i64 s_.g.w, .slice A0 s_.g.l.length C0], Ch.arr tyRowRow 52 A0 C0 s_.g.l] [] (fun _ : Unit => .tuple #[.int .i64 r.1, .int .i64 r.2]) (fun h => [Ch.box N0 81 [.pointer (some ⟨N1, 0, none⟩), .int .i64 s_.spot.x, .int .i64 s_.spot.y, .int .i64 s_.spot.style.fore, .int .i64 s_.spot.style.back, .bool s_.spot.style.bold, .bool s_.spot.style.under, .bool s_.spot.style.inverse, .int .i64 s_.saved.x, .int .i64 s_.saved.y, .int .i64 s_.saved.style.fore, .int .i64 s_.saved.style.back, .bool s_.saved.style.bold, .bool s_.saved.style.under, .bool s_.saved.style.inverse, .bool s_.waiting, .int .i64 s_.top, .int .i64 s_.bottom, .bool s_.wraps, .string s_.title], Ch.box N1 96 [.int .i64 s_.g.w, .slice A0 s_.g.l.length C0], Ch.arr tyRowRow 52 A0 C0 s_.g.l]) (fun h => []) := by
 delta p_screen_Screen_Region at H
 refine CT.of Go.Proofs.Tryz.func22 (by kernel_rfl) rfl rfl rfl fun K => ?_
 refine Ts (Tr ?_)
 refine Lq 2 ?_
 refine Ln (Et (Ts ?_))
 refine Td [] [0, 0, 0] mo ?_
 refine Dq 0 ?_
 refine Dq 1 ?_
 refine Dq 2 ?_
 refine Db 3 0 ?_
 refine Dq 4 ?_
 refine Dq 5 ?_
 refine Dq 6 ?_
 refine Db 7 0 ?_
 refine Dq 8 ?_
 refine Dq 9 ?_
 refine Dn ?_
 refine Et (Tv ?_)
 obtain rfl := sm H
 exact Eo () [0, 0, 0] [] (.tmp rfl (.tmp rfl .nil))

theorem c_screen_Screen_Waiting {s_ : ScreenScreen} {r : Bool} (H : p_screen_Screen_Waiting s_ = some r) : CT G 24 [.pointer (some ⟨N0, 0, none⟩)] [Ch.box N0 81 [.pointer (some ⟨N1, 0, none⟩), .int .i64 s_.spot.x, .int .i64 s_.spot.y, .int .i64 s_.spot.style.fore, .int .i64 s_.spot.style.back, .bool s_.spot.style.bold, .bool s_.spot.style.under, .bool s_.spot.style.inverse, .int .i64 s_.saved.x, .int .i64 s_.saved.y, .int .i64 s_.saved.style.fore, .int .i64 s_.saved.style.back, .bool s_.saved.style.bold, .bool s_.saved.style.under, .bool s_.saved.style.inverse, .bool s_.waiting, .int .i64 s_.top, .int .i64 s_.bottom, .bool s_.wraps, .string s_.title], Ch.box N1 96 [.int .i64 s_.g.w, .slice A0 s_.g.l.length C0], Ch.arr tyRowRow 52 A0 C0 s_.g.l] [] (fun _ : Unit => .bool r) (fun h => [Ch.box N0 81 [.pointer (some ⟨N1, 0, none⟩), .int .i64 s_.spot.x, .int .i64 s_.spot.y, .int .i64 s_.spot.style.fore, .int .i64 s_.spot.style.back, .bool s_.spot.style.bold, .bool s_.spot.style.under, .bool s_.spot.style.inverse, .int .i64 s_.saved.x, .int .i64 s_.saved.y, .int .i64 s_.saved.style.fore, .int .i64 s_.saved.style.back, .bool s_.saved.style.bold, .bool s_.saved.style.under, .bool s_.saved.style.inverse, .bool s_.waiting, .int .i64 s_.top, .int .i64 s_.bottom, .bool s_.wraps, .string s_.title], Ch.box N1 96 [.int .i64 s_.g.w, .slice A0 s_.g.l.length C0], Ch.arr tyRowRow 52 A0 C0 s_.g.l]) (fun h => []) := by
 delta p_screen_Screen_Waiting at H
 refine CT.of Go.Proofs.Tryz.func24 (by kernel_rfl) rfl rfl rfl fun K => ?_
 refine Ts (Tr ?_)
 refine Lq 1 ?_
 refine Ln (Et (Ts (Tr ?_)))
 refine Lq 3 ?_
 refine Lb 0 ?_
 refine Lq 1 ?_
 refine Ln (Et (Tv ?_))
 obtain rfl := sm H
 exact Eo1 () [0, 0, 0] []

theorem c_glyph_Encode {l : List Int} {r : ByteArray} (H : p_glyph_Encode l = some r) : CT G 128 [.slice A0 l.length C0] [] [Im.sl (Ty.int .i32) A0 C0 l] (fun _ : Unit => .string r) (fun h => []) (fun h => []) := by
 delta p_glyph_Encode at H
 refine CT.of Go.Proofs.Tryz.func128 (by kernel_rfl) rfl rfl rfl fun K => ?_
 refine Ts (Tr ?_)
 refine Lq 1 ?_
 refine Ln (Et (Ts (Tr ?_)))
 refine Lq 1 ?_
 refine Ln (Et (Ts (Ts (Tr ?_))))
 refine Lq 3 ?_
 refine Ln (Et ?_)
 obtain ⟨e618, H619, H620⟩ := bnd H
 refine Tjh (η := (Option Addr × Nat)) (fun h => (fun a615 c616 => [(3, .slice a615 e618.length c616)]) h.1 h.2) [] (fun h => (fun a615 c616 => [Ch.arr (Ty.int .u8) 5 a615 c616 e618]) h.1 h.2) [] (fun _ => []) ?_ ?_
 ·refine Tl ?_
  refine T.nil0 (Ty.int .u8) 5 ?_
  refine Tq (η := (Option Addr × Nat)) (fun s418 h => (fun a414 c415 => [(3, .slice a414 s418.1.length c415), (8, .int .i64 s418.2)]) h.1 h.2) [6, 7] (fun s418 h => (fun a414 c415 => [Ch.arr (Ty.int .u8) 5 a414 c415 s418.1]) h.1 h.2) [] (fun _ _ => []) (none, 0) [0] [] H619 ?_
  rintro k_ s418 ⟨a414, c415⟩ z622 H621 hag623 hbr624
  refine Ts (Tr ?_)
  refine Lq 1 ?_
  refine Ln (Et (Ts ?_))
  refine Tb H621 (fun H626 => ?_) fun H626 => ?_
  ·refine Tk (Et (Ts ?_))
   obtain ⟨e755, H756, H757⟩ := bnd H626
   refine Tjh (η := (Option Addr × Nat)) (fun h => (fun a752 c753 => [(3, .slice a752 e755.length c753)]) h.1 h.2) [6, 7, 8] (fun h => (fun a752 c753 => [Ch.arr (Ty.int .u8) 5 a752 c753 e755]) h.1 h.2) [] (fun _ => []) ?_ ?_
   ·refine Tl (Ts (Tr ?_))
    obtain ⟨x758, h759, H760⟩ := bnd H756
    refine L.addr 0 rfl (idx_lt h759) fun b761 o762 e763 => ?_
    subst e763
    refine Ly (Yl.ia h759 rfl rfl rfl rfl rfl rfl) ?_
    refine L.el 0 rfl (idx_some h759).2 ?_
    rintro _
    refine Lc 0 0 ?_
    refine Lq 1 ?_
    refine Ln (Et (Ts (Ts ?_)))
    obtain ⟨e772, H773, H774⟩ := bnd H760
    refine Tj0 [(25, .bool e772)] [3, 5, 6, 7, 8] [] [0] ?_ ?_
    ·refine Tr ?_
     refine Lq 3 ?_
     refine Lw 14 H773 (fun H775 => ?_) fun H775 => ?_
     ·refine Lq 11 ?_
      refine Ln ?_
      obtain rfl := sm H775
      exact Eg0 [0] 0
     refine Lq 4 ?_
     refine Lw 18 H775 (fun H776 => ?_) fun H776 => ?_
     ·refine Lq 7 ?_
      refine Ln ?_
      obtain rfl := sm H776
      exact Eg0 [0] 0
     refine Lq 3 ?_
     refine Lw 21 H776 (fun H777 => ?_) fun H777 => ?_
     ·refine Lq 4 ?_
      refine Ln ?_
      obtain rfl := sm H777
      exact Eg0 [0] 0
     refine Lq 4 ?_
     refine Ln ?_
     obtain rfl := sm H777
     exact Eg0 [0] 0
    obtain ⟨e781, H782, H783⟩ := bnd H774
    refine Tj0 [(5, .int .i32 e781)] [3, 6, 7, 8] [] [0] ?_ ?_
    ·refine Tb H782 (fun H784 => ?_) fun H784 => ?_
     ·refine Tr ?_
      refine Lq 1 ?_
      refine Ln ?_
      obtain rfl := sm H784
      exact Eg0 [0] 0
     refine Tk ?_
     obtain rfl := sm H784
     exact Eg0 [0] 0
    refine Tl (Ts (Tr ?_))
    refine Lq 3 ?_
    refine Ln (Et ?_)
    refine Tb H783 (fun H785 => ?_) fun H785 => ?_
    ·refine Tr ?_
     refine Lq 3 ?_
     refine La [] [] (Ac.bs (ty := (Ty.int .u8)) (xs := [(IntKind.u8.wrap e781)]) (.cons () [] rfl .nil) rfl rfl rfl rfl rfl rfl rfl) fun g786 => ?_
     refine L.frz 0 rfl ?_
     obtain ⟨_, h789, H790⟩ := bnd H785
     refine La [0] [0] (Ac.ap (ty := (Ty.int .u8)) h789 rfl rfl rfl rfl rfl rfl rfl) ?_
     rintro ⟨a791, c792⟩
     refine Lq 1 ?_
     refine Ln (Eb (Eb ?_))
     obtain rfl := sm H790
     exact Eg (a791, c792) trivial [0] [] 2
    refine Ts (Tr ?_)
    refine Lq 3 ?_
    refine Ln (Et ?_)
    refine Tb H785 (fun H794 => ?_) fun H794 => ?_
    ·refine Tr ?_
     refine Lq 9 ?_
     refine La [] [] (Ac.bs (ty := (Ty.int .u8)) (xs := [(IntKind.u8.wrap (Go.bits .or .i32 192 (e781.fdiv (2 ^ (min 6 32))))), (IntKind.u8.wrap (Go.bits .or .i32 128 (Go.bits .and .i32 e781 63)))]) (.cons () [] rfl (.cons () [] rfl .nil)) rfl rfl rfl rfl rfl rfl rfl) fun g795 => ?_
     refine L.frz 0 rfl ?_
     obtain ⟨_, h798, H799⟩ := bnd H794
     refine La [0] [0] (Ac.ap (ty := (Ty.int .u8)) h798 rfl rfl rfl rfl rfl rfl rfl) ?_
     rintro ⟨a800, c801⟩
     refine Lq 1 ?_
     refine Ln (Eb (Eb ?_))
     obtain rfl := sm H799
     exact Eg (a800, c801) trivial [0] [] 2
    refine Ts (Tr ?_)
    refine Lq 3 ?_
    refine Ln (Et ?_)
    refine Tb H794 (fun H803 => ?_) fun H803 => ?_
    ·refine Tr ?_
     refine Lq 14 ?_
     refine La [] [] (Ac.bs (ty := (Ty.int .u8)) (xs := [(IntKind.u8.wrap (Go.bits .or .i32 224 (e781.fdiv (2 ^ (min 12 32))))), (IntKind.u8.wrap (Go.bits .or .i32 128 (Go.bits .and .i32 (e781.fdiv (2 ^ (min 6 32))) 63))), (IntKind.u8.wrap (Go.bits .or .i32 128 (Go.bits .and .i32 e781 63)))]) (.cons () [] rfl (.cons () [] rfl (.cons () [] rfl .nil))) rfl rfl rfl rfl rfl rfl rfl) fun g804 => ?_
     refine L.frz 0 rfl ?_
     obtain ⟨_, h807, H808⟩ := bnd H803
     refine La [0] [0] (Ac.ap (ty := (Ty.int .u8)) h807 rfl rfl rfl rfl rfl rfl rfl) ?_
     rintro ⟨a809, c810⟩
     refine Lq 1 ?_
     refine Ln (Eb (Eb ?_))
     obtain rfl := sm H808
     exact Eg (a809, c810) trivial [0] [] 2
    refine Tr ?_
    refine Lq 19 ?_
    refine La [] [] (Ac.bs (ty := (Ty.int .u8)) (xs := [(IntKind.u8.wrap (Go.bits .or .i32 240 (e781.fdiv (2 ^ (min 18 32))))), (IntKind.u8.wrap (Go.bits .or .i32 128 (Go.bits .and .i32 (e781.fdiv (2 ^ (min 12 32))) 63))), (IntKind.u8.wrap (Go.bits .or .i32 128 (Go.bits .and .i32 (e781.fdiv (2 ^ (min 6 32))) 63))), (IntKind.u8.wrap (Go.bits .or .i32 128 (Go.bits .and .i32 e781 63)))]) (.cons () [] rfl (.cons () [] rfl (.cons () [] rfl (.cons () [] rfl .nil)))) rfl rfl rfl rfl rfl rfl rfl) fun g812 => ?_
    refine L.frz 0 rfl ?_
    obtain ⟨_, h815, H816⟩ := bnd H803
    refine La [0] [0] (Ac.ap (ty := (Ty.int .u8)) h815 rfl rfl rfl rfl rfl rfl rfl) ?_
    rintro ⟨a817, c818⟩
    refine Lq 1 ?_
    refine Ln (Eb (Eb ?_))
    obtain rfl := sm H816
    exact Eg (a817, c818) trivial [0] [] 2
   rintro ⟨a752, c753⟩
   refine Tr ?_
   refine Lq 2 ?_
   refine Ln ?_
   obtain rfl := sm H757
   exact Eg (_, (a752, c753)) (hag623 _ rfl) [0] [] 0
  refine Tx (Ex (Ex (Eh ?_)))
  obtain rfl := sm H626
  have hb := hbr624 _ rfl
  subst e618
  exact Eg (a414, c415) trivial [0] [] 0
 rintro ⟨a615, c616⟩
 refine Ts (Tr ?_)
 refine Lq 1 ?_
 refine Ly (Yl.bs 0 rfl rfl rfl rfl rfl rfl rfl rfl rfl) ?_
 refine Lq 1 ?_
 refine Ln (Et (Tv ?_))
 obtain rfl := sm H620
 exact Eo1 () [] []

theorem c_grid_Grid_Text {g : GridGrid} {r : (List ByteArray)} (H : p_grid_Grid_Text g = some r) : CT G 101 [.pointer (some ⟨N0, 0, none⟩)] [Ch.box N0 96 [.int .i64 g.w, .slice A0 g.l.length C0], Ch.arr tyRowRow 52 A0 C0 g.l] [] (fun h : (Option Addr × Nat) => .slice h.1 r.length h.2) (fun h => [Ch.arr Ty.str 9 h.1 h.2 r, Ch.box N0 96 [.int .i64 g.w, .slice A0 g.l.length C0], Ch.arr tyRowRow 52 A0 C0 g.l]) (fun h => []) := by
 delta p_grid_Grid_Text at H
 refine CT.of Go.Proofs.Tryz.func101 (by kernel_rfl) rfl rfl rfl fun K => ?_
 refine Ts (Tr ?_)
 refine Lq 1 ?_
 refine Ln (Et (Ts (Tr ?_)))
 refine Lq 1 ?_
 refine Ln (Et (Ts (Ts (Tr ?_))))
 refine Lq 3 ?_
 refine Lb 0 ?_
 refine Lq 2 ?_
 refine Ln (Et ?_)
 obtain ⟨e1079, H1080, H1081⟩ := bnd H
 refine Tjh (η := (Option Addr × Nat)) (fun h => (fun a1076 c1077 => [(3, .slice a1076 e1079.length c1077)]) h.1 h.2) [] (fun h => (fun a1076 c1077 => [Ch.arr Ty.str 9 a1076 c1077 e1079]) h.1 h.2) [0, 1] (fun _ => []) ?_ ?_
 ·refine Tl ?_
  refine T.nil0 Ty.str 9 ?_
  refine Tq (η := (Option Addr × Nat)) (fun s722 h => (fun a719 c720 => [(3, .slice a719 s722.2.length c720), (14, .int .i64 s722.1)]) h.1 h.2) [12, 13] (fun s722 h => (fun a719 c720 => [Ch.arr Ty.str 9 a719 c720 s722.2]) h.1 h.2) [1, 2] (fun _ _ => []) (none, 0) [0, 0, 0] [] H1080 ?_
  rintro k_ s722 ⟨a719, c720⟩ z1083 H1082 hag1084 hbr1085
  refine Ts (Tr ?_)
  refine Lq 1 ?_
  refine Ln (Et (Ts ?_))
  refine Tb H1082 (fun H1087 => ?_) fun H1087 => ?_
  ·refine Tk (Et (Ts (Tl (Ts (Tr ?_)))))
   obtain ⟨x1263, h1264, H1265⟩ := bnd H1087
   refine L.addro 2 rfl (idx_lt h1264) fun b1266 e1267 => ?_
   subst e1267
   refine Ly (Yl.ia h1264 rfl rfl rfl rfl rfl rfl) ?_
   refine La [2] [] (Ac.lo s722.1.toNat 0 (v := (fun h : (Option Addr × Nat) => (fun a1268 c1269 => .agg #[.slice a1268 x1263.cells.length c1269, .bool x1263.wrapped]) h.1 h.2)) (idx_some h1264).2 rfl rfl rfl (fun _ => rfl)) ?_
   rintro ⟨a1268, c1269⟩
   refine Ll fun g1271 => ?_
   refine Lt 0 ?_
   refine Ln (Et (Ts (Tr ?_)))
   refine Lq 1 ?_
   refine Ln (Et (Ts (Ts (Tr ?_))))
   refine Lb 0 ?_
   obtain ⟨r1272, h1273, H1274⟩ := bnd H1265
   refine Lk [] [0] (c_row_Row_Glyphs h1273) fun ⟨a1275, c1276⟩ => ?_
   refine Lq 2 ?_
   refine Ln (Et ?_)
   obtain ⟨e1390, H1391, H1392⟩ := bnd H1274
   refine Tjh (η := (Option Addr × Nat)) (fun h => (fun a1387 c1388 => [(6, .slice a1387 e1390.length c1388)]) h.1 h.2) [3, 12, 13, 14] (fun h => (fun a1387 c1388 => [Ch.arr (Ty.int .i32) 21 a1387 c1388 e1390]) h.1 h.2) [1, 4, 2, 3] (fun _ => []) ?_ ?_
   ·refine Tl ?_
    refine T.nil0 (Ty.int .i32) 21 ?_
    refine Tq (η := (Option Addr × Nat)) (fun s1355 h => (fun a1352 c1353 => [(6, .slice a1352 s1355.2.length c1353), (21, .int .i64 s1355.1)]) h.1 h.2) [3, 12, 13, 14, 19, 20] (fun s1355 h => (fun a1352 c1353 => [Ch.arr (Ty.int .i32) 21 a1352 c1353 s1355.2]) h.1 h.2) [2, 5, 1, 3, 4] (fun _ _ => []) (none, 0) [0, 1, 3, 0, 0, 0] [] H1391 ?_
    rintro k_ s1355 ⟨a1352, c1353⟩ z1394 H1393 hag1395 hbr1396
    refine Ts (Tr ?_)
    refine Lq 1 ?_
    refine Ln (Et (Ts ?_))
    refine Tb H1393 (fun H1398 => ?_) fun H1398 => ?_
    ·refine Tk (Et (Ts (Tl (Ts (Tr ?_)))))
     obtain ⟨x1413, h1414, H1415⟩ := bnd H1398
     refine L.addro 3 rfl (idx_lt h1414) fun b1416 e1417 => ?_
     subst e1417
     refine Ly (Yl.ia h1414 rfl rfl rfl rfl rfl rfl) ?_
     refine Ly (Yl.lo (v := .agg #[.int .i32 x1413.rune, .int .i64 x1413.style]) 3 s1355.1.toNat 0 (idx_some h1414).2 rfl rfl rfl rfl (fun _ => rfl)) ?_
     refine Ll fun g1418 => ?_
     refine Lt 0 ?_
     refine Ln (Et (Tr ?_))
     refine Lq 2 ?_
     refine Lb 0 ?_
     refine La [] [] (Ac.bs (ty := (Ty.int .i32)) (xs := [x1413.rune]) (.cons () [] rfl .nil) rfl rfl rfl rfl rfl rfl rfl) fun g1419 => ?_
     refine L.frz 0 rfl ?_
     obtain ⟨_, h1422, H1423⟩ := bnd H1415
     refine La [1] [0] (Ac.ap (ty := (Ty.int .i32)) h1422 rfl rfl rfl rfl rfl rfl rfl) ?_
     rintro ⟨a1424, c1425⟩
     refine Lq 1 ?_
     refine Ln (Eb (Et (Tr ?_)))
     refine Lq 2 ?_
     refine Ln ?_
     obtain rfl := sm H1423
     exact Eg (_, (a1424, c1425)) (hag1395 _ rfl) [0, 1, 1, 1, 1, 1] [] 1
    refine Tx (Ex (Ex (Eh ?_)))
    obtain rfl := sm H1398
    have hb := hbr1396 _ rfl
    subst e1390
    exact Eg (a1352, c1353) trivial [0, 0, 0, 1, 1] [] 0
   rintro ⟨a1387, c1388⟩
   refine Tr ?_
   refine Lq 2 ?_
   obtain ⟨r1427, h1428, H1429⟩ := bnd H1392
   refine L.br (Ac.call (c_glyph_Encode h1428) rfl rfl rfl rfl) (Bw.ch 0 rfl (Bw.nil)) rfl rfl rfl ?_
   intro _
   refine La [] [] (Ac.bs (ty := Ty.str) (xs := [r1427]) (.cons () [] rfl .nil) rfl rfl rfl rfl rfl rfl rfl) fun g1430 => ?_
   refine L.frz 0 rfl ?_
   obtain ⟨_, h1433, H1434⟩ := bnd H1429
   refine La [4] [0] (Ac.ap (ty := Ty.str) h1433 rfl rfl rfl rfl rfl rfl rfl) ?_
   rintro ⟨a1435, c1436⟩
   refine Lq 1 ?_
   refine Ln (Eb (Et (Tr ?_)))
   refine Lq 2 ?_
   refine Ln ?_
   obtain rfl := sm H1434
   exact Eg (_, (a1435, c1436)) (hag1084 _ rfl) [0, 2, 2] [] 2
  refine Tx (Ex (Ex (Eh ?_)))
  obtain rfl := sm H1087
  have hb := hbr1085 _ rfl
  subst e1079
  exact Eg (a719, c720) trivial [0, 0, 0] [] 0
 rintro ⟨a1076, c1077⟩
 refine Ts (Tr ?_)
 refine Lq 2 ?_
 refine Ln (Et (Tv ?_))
 obtain rfl := sm H1081
 exact Eo1 (a1076, c1077) [0, 0, 0] []

theorem c_ref09_Glyphs {r_ : Ref09Row} {r : (List Ref09Glyph)} (H : p_ref09_Glyphs r_ = some r) : CT G 129 [.agg #[.slice A0 r_.l.length C0, .bool r_.wrapped]] [] [Im.sl tyRef09Cell A0 C0 r_.l] (fun h : (Option Addr × Nat) => .slice h.1 r.length h.2) (fun h => [Ch.arr tyRef09Glyph 173 h.1 h.2 r]) (fun h => []) := by
 delta p_ref09_Glyphs at H
 refine CT.of Go.Proofs.Tryz.func129 (by kernel_rfl) rfl rfl rfl fun K => ?_
 refine Ts (Tr ?_)
 refine Lx fun g1 => ?_
 refine Lq 1 ?_
 refine Ln (Et (Ts (Tr ?_)))
 refine Lq 1 ?_
 refine Lb 0 ?_
 refine Lq 2 ?_
 refine Ln (Et (Ts ?_))
 obtain ⟨e106, H107, H108⟩ := bnd H
 refine Tj0 [(3, .int .i64 e106)] [1] [] [0] ?_ ?_
 ·refine Tl ?_
  refine Tq (η := Unit) (fun s71 h => [(3, .int .i64 s71)]) [1] (fun _ _ => []) [0] (fun _ _ => []) () [0] [] H107 ?_
  rintro k_ s71 ⟨⟩ z110 H109 hag111 hbr112
  refine Ts (Ts ?_)
  obtain ⟨e132, H133, H134⟩ := bnd H109
  refine Tj0 [(26, .bool e132)] [1, 3] [] [0] ?_ ?_
  ·refine Tr ?_
   refine Lq 3 ?_
   refine Lw 12 H133 (fun H135 => ?_) fun H135 => ?_
   ·refine Lq 1 ?_
    refine Lb 0 ?_
    refine Lq 3 ?_
    refine Lw 17 H135 (fun H136 => ?_) fun H136 => ?_
    ·refine Lq 1 ?_
     refine Lb 0 ?_
     refine Lq 2 ?_
     obtain ⟨x137, h138, H139⟩ := bnd H136
     refine L.addr 0 rfl (idx_lt h138) fun b140 o141 e142 => ?_
     subst e142
     refine Ly (Yl.ia h138 rfl rfl rfl rfl rfl rfl) ?_
     refine L.el 0 rfl (idx_some h138).2 ?_
     rintro _
     refine Lc 0 0 ?_
     refine Lq 3 ?_
     refine Ln ?_
     obtain rfl := sm H139
     exact Eg0 [0] 1
    refine Lq 9 ?_
    refine Ln ?_
    obtain rfl := sm H136
    exact Eg0 [0] 0
   refine Lq 14 ?_
   refine Ln ?_
   obtain rfl := sm H135
   exact Eg0 [0] 0
  refine Tb H134 (fun H145 => ?_) fun H145 => ?_
  ·refine Tk (Et (Tl (Tr ?_)))
   refine Lq 3 ?_
   refine Ln (Eb ?_)
   obtain rfl := sm H145
   exact Eg (_, ()) (hag111 _ rfl) [0] [] 0
  refine Tx (Ex (Ex (Eh ?_)))
  obtain rfl := sm H145
  have hb := hbr112 _ rfl
  subst e106
  exact Eg0 [0] 0
 refine Ts (Tr ?_)
 refine La [] [] (Ac.bs (ty := tyRef09Glyph) (xs := []) .nil rfl rfl rfl rfl rfl rfl rfl) fun g146 => ?_
 refine Lq 1 ?_
 refine Ln (Et (Ts (Ts (Tr ?_))))
 refine Lq 1 ?_
 refine Lb 1 ?_
 refine Lq 1 ?_
 obtain ⟨_, h148, H149⟩ := bnd H108
 refine L.rs 0 h148 rfl rfl rfl rfl rfl rfl rfl rfl rfl rfl rfl rfl ?_
 intro a150 c151
 refine Lq 2 ?_
 refine Ln (Et ?_)
 obtain ⟨e416, H417, H418⟩ := bnd H149
 refine Tjh (η := (Option Addr × Nat)) (fun h => (fun a413 c414 => [(4, .slice a413 e416.length c414)]) h.1 h.2) [] (fun h => (fun a413 c414 => [Ch.arr tyRef09Glyph 173 a413 c414 e416]) h.1 h.2) [1] (fun _ => []) ?_ ?_
 ·refine Tl ?_
  refine Tq (η := (Option Addr × Nat)) (fun s330 h => (fun a327 c328 => [(4, .slice a327 s330.2.length c328), (35, .int .i64 s330.1)]) h.1 h.2) [33, 34] (fun s330 h => (fun a327 c328 => [Ch.arr tyRef09Glyph 173 a327 c328 s330.2]) h.1 h.2) [1] (fun _ _ => []) ((some ⟨g146, 0, none⟩), 0) [0, 0] [] H417 ?_
  rintro k_ s330 ⟨a327, c328⟩ z420 H419 hag421 hbr422
  refine Ts (Tr ?_)
  refine Lq 1 ?_
  refine Ln (Et (Ts ?_))
  refine Tb H419 (fun H424 => ?_) fun H424 => ?_
  ·refine Tk (Et (Ts ?_))
   obtain ⟨e477, H478, H479⟩ := bnd H424
   refine Tjh (η := (Option Addr × Nat)) (fun h => (fun a474 c475 => [(4, .slice a474 e477.length c475)]) h.1 h.2) [33, 34, 35] (fun h => (fun a474 c475 => [Ch.arr tyRef09Glyph 173 a474 c475 e477]) h.1 h.2) [1] (fun _ => []) ?_ ?_
   ·refine Tl (Ts (Tr ?_))
    obtain ⟨x480, h481, H482⟩ := bnd H478
    refine L.addr 0 rfl (idx_lt h481) fun b483 o484 e485 => ?_
    subst e485
    refine Ly (Yl.ia h481 rfl rfl rfl rfl rfl rfl) ?_
    refine L.el 0 rfl (idx_some h481).2 ?_
    rintro _
    refine Lc 0 0 ?_
    refine Ll fun g487 => ?_
    refine Lt 0 ?_
    refine Ln (Et (Ts ?_))
    obtain ⟨e491, H492, H493⟩ := bnd H482
    refine Tj0 [(46, .bool e491)] [4, 6, 33, 34, 35] [] [0, 2, 1] ?_ ?_
    ·refine Tr ?_
     refine Lq 1 ?_
     refine Lb 0 ?_
     refine Lq 2 ?_
     refine Lw 42 H492 (fun H494 => ?_) fun H494 => ?_
     ·refine Lq 4 ?_
      refine Ln ?_
      obtain rfl := sm H494
      exact Eg0 [0, 1, 0] 0
     refine Lq 1 ?_
     refine Lb 0 ?_
     refine Lq 2 ?_
     refine Ln ?_
     obtain rfl := sm H494
     exact Eg0 [0, 1, 0] 0
    refine Tb H493 (fun H495 => ?_) fun H495 => ?_
    ·refine Tr ?_
     refine Lq 2 ?_
     refine Lb 0 ?_
     refine Lq 1 ?_
     refine Lb 0 ?_
     refine Lq 1 ?_
     refine La [] [] (Ac.bs (ty := tyRef09Glyph) (xs := [(Ref09Glyph.mk x480.rune x480.style)]) (.cons () [] rfl .nil) rfl rfl rfl rfl rfl rfl rfl) fun g496 => ?_
     refine L.frz 0 rfl ?_
     obtain ⟨_, h499, H500⟩ := bnd H495
     refine La [2] [0] (Ac.ap (ty := tyRef09Glyph) h499 rfl rfl rfl rfl rfl rfl rfl) ?_
     rintro ⟨a501, c502⟩
     refine Lq 1 ?_
     refine Ln (Eb ?_)
     obtain rfl := sm H500
     exact Eg (a501, c502) trivial [0, 1] [] 2
    refine Tk (Eb ?_)
    obtain rfl := sm H495
    exact Eg (a327, c328) trivial [2, 1] [] 1
   rintro ⟨a474, c475⟩
   refine Tr ?_
   refine Lq 2 ?_
   refine Ln ?_
   obtain rfl := sm H479
   exact Eg (_, (a474, c475)) (hag421 _ rfl) [0, 0] [] 0
  refine Tx (Ex (Ex (Eh ?_)))
  obtain rfl := sm H424
  have hb := hbr422 _ rfl
  subst e416
  exact Eg (a327, c328) trivial [0, 0] [] 0
 rintro ⟨a413, c414⟩
 refine Ts (Tr ?_)
 refine Lq 2 ?_
 refine Ln (Et (Tv ?_))
 obtain rfl := sm H418
 exact Eo1 (a413, c414) [0] []

theorem c_ref05_Encode {r_ : Int} {r : ByteArray} (H : p_ref05_Encode r_ = some r) : CT G 130 [.int .i64 r_] [] [] (fun _ : Unit => .string r) (fun h => []) (fun h => []) := by
 delta p_ref05_Encode at H
 refine CT.of Go.Proofs.Tryz.func130 (by kernel_rfl) rfl rfl rfl fun K => ?_
 refine Ts (Tr ?_)
 refine Lq 1 ?_
 refine Ln (Et (Ts (Ts ?_)))
 obtain ⟨e8, H9, H10⟩ := bnd H
 refine Tj0 [(16, .bool e8)] [0] [] [] ?_ ?_
 ·refine Tr ?_
  refine Lq 3 ?_
  refine Lw 5 H9 (fun H11 => ?_) fun H11 => ?_
  ·refine Lq 11 ?_
   refine Ln ?_
   obtain rfl := sm H11
   exact Eg0 [] 0
  refine Lq 4 ?_
  refine Lw 9 H11 (fun H12 => ?_) fun H12 => ?_
  ·refine Lq 7 ?_
   refine Ln ?_
   obtain rfl := sm H12
   exact Eg0 [] 0
  refine Lq 3 ?_
  refine Lw 12 H12 (fun H13 => ?_) fun H13 => ?_
  ·refine Lq 4 ?_
   refine Ln ?_
   obtain rfl := sm H13
   exact Eg0 [] 0
  refine Lq 4 ?_
  refine Ln ?_
  obtain rfl := sm H13
  exact Eg0 [] 0
 obtain ⟨e17, H18, H19⟩ := bnd H10
 refine Tj0 [(0, .int .i64 e17)] [] [] [] ?_ ?_
 ·refine Tb H18 (fun H20 => ?_) fun H20 => ?_
  ·refine Tr ?_
   refine Lq 1 ?_
   refine Ln ?_
   obtain rfl := sm H20
   exact Eg0 [] 0
  refine Tk ?_
  obtain rfl := sm H20
  exact Eg0 [] 0
 refine Ts (Ts (Tr ?_))
 refine Lq 2 ?_
 refine Ln (Et ?_)
 refine Tb H19 (fun H24 => ?_) fun H24 => ?_
 ·refine Ts (Tr ?_)
  refine Lq 2 ?_
  refine La [] [] (Ac.bs (ty := (Ty.int .u8)) (xs := [(IntKind.u8.wrap e17)]) (.cons () [] rfl .nil) rfl rfl rfl rfl rfl rfl rfl) fun g25 => ?_
  refine Ly (Yl.bs 0 rfl rfl rfl rfl rfl rfl rfl rfl rfl) ?_
  refine Lq 1 ?_
  refine Ln (Et (Tv (Er ?_)))
  obtain rfl := sm H24
  exact Eo1 () [] []
 refine Tk (Et (Ts (Ts (Tr ?_))))
 refine Lq 2 ?_
 refine Ln (Et ?_)
 refine Tb H24 (fun H30 => ?_) fun H30 => ?_
 ·refine Ts (Tr ?_)
  refine Lq 8 ?_
  refine La [] [] (Ac.bs (ty := (Ty.int .u8)) (xs := [(IntKind.u8.wrap (IntKind.i64.wrap (192 + (IntKind.i64.wrap (e17.tdiv 64))))), (IntKind.u8.wrap (IntKind.i64.wrap (128 + (e17.tmod 64))))]) (.cons () [] rfl (.cons () [] rfl .nil)) rfl rfl rfl rfl rfl rfl rfl) fun g31 => ?_
  refine Ly (Yl.bs 0 rfl rfl rfl rfl rfl rfl rfl rfl rfl) ?_
  refine Lq 1 ?_
  refine Ln (Et (Tv (Er ?_)))
  obtain rfl := sm H30
  exact Eo1 () [] []
 refine Tk (Et (Ts (Ts (Tr ?_))))
 refine Lq 2 ?_
 refine Ln (Et ?_)
 refine Tb H30 (fun H36 => ?_) fun H36 => ?_
 ·refine Ts (Tr ?_)
  refine Lq 13 ?_
  refine La [] [] (Ac.bs (ty := (Ty.int .u8)) (xs := [(IntKind.u8.wrap (IntKind.i64.wrap (224 + (IntKind.i64.wrap (e17.tdiv 4096))))), (IntKind.u8.wrap (IntKind.i64.wrap (128 + ((IntKind.i64.wrap (e17.tdiv 64)).tmod 64)))), (IntKind.u8.wrap (IntKind.i64.wrap (128 + (e17.tmod 64))))]) (.cons () [] rfl (.cons () [] rfl (.cons () [] rfl .nil))) rfl rfl rfl rfl rfl rfl rfl) fun g37 => ?_
  refine Ly (Yl.bs 0 rfl rfl rfl rfl rfl rfl rfl rfl rfl) ?_
  refine Lq 1 ?_
  refine Ln (Et (Tv (Er ?_)))
  obtain rfl := sm H36
  exact Eo1 () [] []
 refine Tk (Et (Ts (Tr ?_)))
 refine Lq 18 ?_
 refine La [] [] (Ac.bs (ty := (Ty.int .u8)) (xs := [(IntKind.u8.wrap (IntKind.i64.wrap (240 + (IntKind.i64.wrap (e17.tdiv 262144))))), (IntKind.u8.wrap (IntKind.i64.wrap (128 + ((IntKind.i64.wrap (e17.tdiv 4096)).tmod 64)))), (IntKind.u8.wrap (IntKind.i64.wrap (128 + ((IntKind.i64.wrap (e17.tdiv 64)).tmod 64)))), (IntKind.u8.wrap (IntKind.i64.wrap (128 + (e17.tmod 64))))]) (.cons () [] rfl (.cons () [] rfl (.cons () [] rfl (.cons () [] rfl .nil)))) rfl rfl rfl rfl rfl rfl rfl) fun g39 => ?_
 refine Ly (Yl.bs 0 rfl rfl rfl rfl rfl rfl rfl rfl rfl) ?_
 refine Lq 1 ?_
 refine Ln (Et (Tv ?_))
 obtain rfl := sm H36
 exact Eo1 () [] []

theorem c_ref10_Text {r_ : Ref09Row} {r : ByteArray} (H : p_ref10_Text r_ = some r) : CT G 103 [.agg #[.slice A0 r_.l.length C0, .bool r_.wrapped]] [] [Im.sl tyRef09Cell A0 C0 r_.l] (fun _ : Unit => .string r) (fun h => []) (fun h => []) := by
 delta p_ref10_Text at H
 refine CT.of Go.Proofs.Tryz.func103 (by kernel_rfl) rfl rfl rfl fun K => ?_
 refine Ts (Tr ?_)
 refine Lx fun g1 => ?_
 refine Lq 1 ?_
 refine Ln (Et (Ts (Tr ?_)))
 refine Lq 1 ?_
 refine Ln (Et (Ts (Ts (Tr ?_))))
 refine Lb 0 ?_
 obtain ⟨r2, h3, H4⟩ := bnd H
 refine Lk [] [0] (c_ref09_Glyphs h3) fun ⟨a5, c6⟩ => ?_
 refine Lq 2 ?_
 refine Ln (Et ?_)
 obtain ⟨e88, H89, H90⟩ := bnd H4
 refine Tj0 [(3, .string e88)] [] [] [1] ?_ ?_
 ·refine Tl ?_
  refine Tq (η := Unit) (fun s62 h => [(3, .string s62.1), (9, .int .i64 s62.2)]) [7, 8] (fun _ _ => []) [1, 0] (fun _ _ => []) () [1, 0] [] H89 ?_
  rintro k_ s62 ⟨⟩ z92 H91 hag93 hbr94
  refine Ts (Tr ?_)
  refine Lq 1 ?_
  refine Ln (Et (Ts ?_))
  refine Tb H91 (fun H96 => ?_) fun H96 => ?_
  ·refine Tk (Et (Ts (Tl (Ts (Tr ?_)))))
   obtain ⟨x108, h109, H110⟩ := bnd H96
   refine L.addro 1 rfl (idx_lt h109) fun b111 e112 => ?_
   subst e112
   refine Ly (Yl.ia h109 rfl rfl rfl rfl rfl rfl) ?_
   refine Ly (Yl.lo (v := .agg #[.int .i64 x108.rune, .int .i64 x108.style]) 1 s62.2.toNat 0 (idx_some h109).2 rfl rfl rfl rfl (fun _ => rfl)) ?_
   refine Ll fun g113 => ?_
   refine Lt 0 ?_
   refine Ln (Et (Tr ?_))
   refine Lq 2 ?_
   refine Lb 0 ?_
   obtain ⟨r114, h115, H116⟩ := bnd H110
   refine Lk [] [] (c_ref05_Encode h115) fun ⟨⟩ => ?_
   obtain ⟨_, h117, H118⟩ := bnd H116
   refine Ly (Yl.sa h117 rfl rfl rfl) ?_
   refine Lq 1 ?_
   refine Ln (Eb (Et (Tr ?_)))
   refine Lq 2 ?_
   refine Ln ?_
   obtain rfl := sm H118
   exact Eg (_, ()) (hag93 _ rfl) [1, 1] [] 0
  refine Tx (Ex (Ex (Eh ?_)))
  obtain rfl := sm H96
  have hb := hbr94 _ rfl
  subst e88
  exact Eg0 [0] 0
 refine Ts (Tr ?_)
 refine Lq 2 ?_
 refine Ln (Et (Tv ?_))
 obtain rfl := sm H90
 exact Eo1 () [] []

theorem c_law10_Is {g : GridGrid} {x_ : Ref10Grid} {r : Bool × GridGrid} (H : p_law10_Is g x_ = some r) : CT G 54 [.pointer (some ⟨N0, 0, none⟩), .agg #[.int .i64 x_.w, .slice A1 x_.l.length C1]] [Ch.box N0 96 [.int .i64 g.w, .slice A0 g.l.length C0], Ch.arr tyRowRow 52 A0 C0 g.l] [Im.sl tyRef09Row A1 C1 x_.l] (fun _ : Unit => .bool r.1) (fun h => [Ch.box N0 96 [.int .i64 r.2.w, .slice A0 r.2.l.length C0], Ch.arr tyRowRow 52 A0 C0 r.2.l]) (fun h => []) := by
 delta p_law10_Is at H
 refine CT.of Go.Proofs.Tryz.func54 (by kernel_rfl) rfl rfl rfl fun K => ?_
 refine Ts (Tr ?_)
 refine Lx fun g1 => ?_
 refine Lq 1 ?_
 refine Ln (Et (Ts (Tr ?_)))
 refine Lq 1 ?_
 obtain ⟨r2, h3, H4⟩ := bnd H
 refine Lk [1, 1] [] (c_grid_Grid_Size h3) fun ⟨⟩ => ?_
 refine Lq 5 ?_
 refine Ln (Et (Ts (Tr ?_)))
 refine Lq 1 ?_
 obtain ⟨r5, h6, H7⟩ := bnd H4
 refine Lk [0, 0] [] (c_grid_Grid_Text h6) fun ⟨a8, c9⟩ => ?_
 refine Lq 1 ?_
 refine Ln (Et (Ts (Ts ?_)))
 obtain ⟨e122, H123, H124⟩ := bnd H7
 refine Tj0 [(56, .bool e122.1)] [0, 3, 7] [Ch.arr tyRowRow 52 A0 C0 e122.2.l, Ch.box N0 96 [.int .i64 e122.2.w, .slice A0 e122.2.l.length C0]] [3, 0] ?_ ?_
 ·refine Td [] [0, 2] mo ?_
  refine Dq 0 ?_
  refine Dq 1 ?_
  refine Db 2 1 ?_
  refine Dq 3 ?_
  refine Dq 4 ?_
  refine D.cs 21 H123 rfl (fun hc H152 => ?_) (fun hc H152 => ?_)
  ·refine Ds 5 ?_
   refine Ds 6 ?_
   refine Ds 7 ?_
   refine Ds 8 ?_
   refine Ds 9 ?_
   refine Dq 10 ?_
   refine Dq 11 ?_
   refine Ds 12 ?_
   refine Ds 13 ?_
   refine Ds 14 ?_
   refine Ds 15 ?_
   refine Ds 16 ?_
   refine Ds 17 ?_
   refine Dq 18 ?_
   refine Dq 19 ?_
   refine Ds 20 ?_
   refine Ds 21 ?_
   refine Ds 22 ?_
   refine Ds 23 ?_
   refine Dq 24 ?_
   refine Dq 25 ?_
   refine Ds 26 ?_
   refine Ds 27 ?_
   refine Ds 28 ?_
   refine Ds 29 ?_
   refine Ds 30 ?_
   refine Dq 31 ?_
   refine Dq 32 ?_
   refine Ds 33 ?_
   refine Ds 34 ?_
   refine Ds 35 ?_
   refine Ds 36 ?_
   refine Ds 37 ?_
   refine Ds 38 ?_
   refine Dq 39 ?_
   refine Dn ?_
   obtain rfl := sm H152
   exact Eg0 [3, 2, 1, 0] 0
  refine Dq 5 ?_
  refine Dq 6 ?_
  refine Db 7 1 ?_
  refine Dq 8 ?_
  refine Dq 9 ?_
  refine Dq 10 ?_
  refine Dq 11 ?_
  refine D.cs 28 H152 rfl (fun hc H153 => ?_) (fun hc H153 => ?_)
  ·refine Ds 12 ?_
   refine Ds 13 ?_
   refine Ds 14 ?_
   refine Ds 15 ?_
   refine Ds 16 ?_
   refine Ds 17 ?_
   refine Dq 18 ?_
   refine Dq 19 ?_
   refine Ds 20 ?_
   refine Ds 21 ?_
   refine Ds 22 ?_
   refine Ds 23 ?_
   refine Dq 24 ?_
   refine Dq 25 ?_
   refine Ds 26 ?_
   refine Ds 27 ?_
   refine Ds 28 ?_
   refine Ds 29 ?_
   refine Ds 30 ?_
   refine Dq 31 ?_
   refine Dq 32 ?_
   refine Ds 33 ?_
   refine Ds 34 ?_
   refine Ds 35 ?_
   refine Ds 36 ?_
   refine Ds 37 ?_
   refine Ds 38 ?_
   refine Dq 39 ?_
   refine Dn ?_
   obtain rfl := sm H153
   exact Eg0 [3, 2, 1, 0] 0
  refine Dq 12 ?_
  refine Dq 14 ?_
  refine Db 15 1 ?_
  obtain ⟨r154, h155, H156⟩ := bnd H153
  refine Dk [0, 0] [] (c_grid_Grid_Rows h155) fun ⟨a157, c158⟩ => ?_
  obtain ⟨r161, h162, H163⟩ := bnd H156
  refine D.one rfl rfl rfl (Dp.br (Ac.call (c_law10_Rows h162) rfl rfl rfl rfl) (Bw.ch 2 rfl (Bw.im 0 rfl (Bw.nil))) rfl rfl rfl rfl ?_)
  intro _
  refine Dq 17 ?_
  refine Dq 18 ?_
  refine Dq 19 ?_
  refine D.cs 36 H163 rfl (fun hc H164 => ?_) (fun hc H164 => ?_)
  ·refine Ds 20 ?_
   refine Ds 21 ?_
   refine Ds 22 ?_
   refine Ds 23 ?_
   refine Dq 24 ?_
   refine Dq 25 ?_
   refine Ds 26 ?_
   refine Ds 27 ?_
   refine Ds 28 ?_
   refine Ds 29 ?_
   refine Ds 30 ?_
   refine Dq 31 ?_
   refine Dq 32 ?_
   refine Ds 33 ?_
   refine Ds 34 ?_
   refine Ds 35 ?_
   refine Ds 36 ?_
   refine Ds 37 ?_
   refine Ds 38 ?_
   refine Dq 39 ?_
   refine Dn ?_
   obtain rfl := sm H164
   exact Eg0 [4, 3, 1, 0] 0
  refine Dq 20 ?_
  refine Dq 21 ?_
  refine Dq 22 ?_
  refine Dq 23 ?_
  refine Dq 24 ?_
  refine Dq 25 ?_
  refine D.cs 42 H164 rfl (fun hc H165 => ?_) (fun hc H165 => ?_)
  ·refine Ds 26 ?_
   refine Ds 27 ?_
   refine Ds 28 ?_
   refine Ds 29 ?_
   refine Ds 30 ?_
   refine Dq 31 ?_
   refine Dq 32 ?_
   refine Ds 33 ?_
   refine Ds 34 ?_
   refine Ds 35 ?_
   refine Ds 36 ?_
   refine Ds 37 ?_
   refine Ds 38 ?_
   refine Dq 39 ?_
   refine Dn ?_
   obtain rfl := sm H165
   exact Eg0 [4, 3, 1, 0] 0
  refine Dq 26 ?_
  obtain ⟨r166, h167, H168⟩ := bnd H165
  refine D.one rfl rfl rfl (Dp.ab [3, 3] [] [2, 2] (Ac.call (c_grid_Grid_Row h167) rfl rfl rfl rfl) rfl rfl rfl rfl rfl rfl (fun _ => rfl) ?_)
  rintro ⟨a169, c170⟩
  refine Dq 28 ?_
  refine Dq 29 ?_
  refine Dq 30 ?_
  refine Dq 31 ?_
  refine Dq 32 ?_
  refine D.cs 49 H168 rfl (fun hc H172 => ?_) (fun hc H172 => ?_)
  ·refine Ds 33 ?_
   refine Ds 34 ?_
   refine Ds 35 ?_
   refine Ds 36 ?_
   refine Ds 37 ?_
   refine Ds 38 ?_
   refine Dq 39 ?_
   refine Dn ?_
   obtain rfl := sm H172
   exact Eg0 [3, 2, 1, 0] 1
  refine Dq 33 ?_
  refine Dq 34 ?_
  obtain ⟨r173, h174, H175⟩ := bnd H172
  refine D.one rfl rfl rfl (Dp.ab [2, 2] [] [2, 2] (Ac.call (c_grid_Grid_Row h174) rfl rfl rfl rfl) rfl rfl rfl rfl rfl rfl (fun _ => rfl) ?_)
  rintro ⟨a176, c177⟩
  refine Dq 36 ?_
  refine Dq 37 ?_
  refine Dq 38 ?_
  refine Dq 39 ?_
  refine Dn ?_
  obtain rfl := sm H175
  exact Eg0 [3, 2, 1, 0] 2
 refine Tb H124 (fun H180 => ?_) fun H180 => ?_
 ·refine Ts (Tr ?_)
  refine Lq 1 ?_
  refine Ln (Et (Tv (Er ?_)))
  obtain rfl := sm H180
  exact Eo1 () [1, 0] []
 refine Tk (Et (Ts (Ts (Tr ?_))))
 refine Lq 1 ?_
 refine Lb 2 ?_
 refine Lq 2 ?_
 refine Ln (Et ?_)
 obtain ⟨y936, H937, H938⟩ := bnd H180
 refine Tj (η := Unit × Unit) (fun h => y936 = .inl h.1) (fun _ => []) [] (fun _ => []) [1, 2, 0] (fun _ => []) ?_ ?_
 ·refine Tl ?_
  refine Tq (η := Unit) (fun s684 h => [(60, .int .i64 s684)]) [0, 7, 58, 59] (fun _ _ => []) [1, 2, 0, 3] (fun _ _ => []) () [1, 1, 0, 0] [] H937 ?_
  rintro k_ s684 ⟨⟩ z940 H939 hag941 hbr942
  refine Ts (Tr ?_)
  refine Lq 1 ?_
  refine Ln (Et (Ts ?_))
  refine Tb H939 (fun H944 => ?_) fun H944 => ?_
  ·refine Tk (Et (Ts (Tl (Ts (Tr ?_)))))
   refine Lq 1 ?_
   obtain ⟨x1069, h1070, H1071⟩ := bnd H944
   refine L.addr 0 rfl (idx_lt h1070) fun b1072 o1073 e1074 => ?_
   subst e1074
   refine Ly (Yl.ia h1070 rfl rfl rfl rfl rfl rfl) ?_
   refine L.el 0 rfl (idx_some h1070).2 ?_
   rintro ⟨a1075, c1076⟩
   refine Lc 0 0 ?_
   refine Ll fun g1079 => ?_
   refine Lq 1 ?_
   refine Lt 0 ?_
   refine Ln (Et (Ts ?_))
   obtain ⟨e1153, H1154, H1155⟩ := bnd H1071
   refine Tj0 [(79, .bool e1153)] [0, 7, 58, 59, 60] [] [0, 1, 2, 3, 4] ?_ ?_
   ·refine Td [] [0, 0, 0, 0, 0] mo ?_
    refine Dq 0 ?_
    refine Dq 1 ?_
    refine Db 3 0 ?_
    obtain ⟨r1174, h1175, H1176⟩ := bnd H1154
    refine D.one rfl rfl rfl (Dp.ab [1, 2] [] [2, 0, 1, 0, 0] (Ac.call (c_grid_Grid_Row h1175) rfl rfl rfl rfl) rfl rfl rfl rfl rfl rfl (fun _ => rfl) ?_)
    rintro ⟨a1177, c1178⟩
    obtain ⟨r1180, h1181, H1182⟩ := bnd H1176
    refine Dk [] [0, 2] (c_law09_Is h1181) fun ⟨⟩ => ?_
    refine Dq 5 ?_
    refine Dq 6 ?_
    refine D.cs 71 H1182 rfl (fun hc H1183 => ?_) (fun hc H1183 => ?_)
    ·refine Ds 7 ?_
     refine Ds 8 ?_
     refine Ds 9 ?_
     refine Ds 10 ?_
     refine Ds 11 ?_
     refine Ds 12 ?_
     refine Ds 13 ?_
     refine Dq 14 ?_
     refine Dn ?_
     obtain rfl := sm H1183
     exact Eg0 [0, 0, 0, 0, 0] 1
    refine Dq 7 ?_
    refine Dq 8 ?_
    obtain ⟨x1184, h1185, H1186⟩ := bnd H1183
    refine D.addro 4 rfl (idx_lt h1185) fun b1187 e1188 => ?_
    subst e1188
    refine Dy 9 (Yl.ia h1185 rfl rfl rfl rfl rfl rfl) ?_
    refine Dy 10 (Yl.lo (v := .string x1184) 4 s684.toNat 0 (idx_some h1185).2 rfl rfl rfl rfl (fun _ => rfl)) ?_
    refine Db 11 0 ?_
    obtain ⟨r1189, h1190, H1191⟩ := bnd H1186
    refine Dk [] [2] (c_ref10_Text h1190) fun ⟨⟩ => ?_
    refine Dq 13 ?_
    refine Dq 14 ?_
    refine Dn ?_
    obtain rfl := sm H1191
    exact Eg0 [0, 0, 0, 0, 0] 1
   refine Tb H1155 (fun H1192 => ?_) fun H1192 => ?_
   ·refine Ts (Tr ?_)
    refine Lq 1 ?_
    refine Ln (Et (Tv (Ev (Er (Er (Ev ?_))))))
    obtain ⟨w1193, hz, H1194⟩ := inrr_some H1192
    subst z940
    have hb := hbr942 _ rfl
    subst y936
    obtain rfl := (sm H938).symm
    refine Er ?_
    obtain rfl := sm H1194
    exact Eo1 () [1, 2] []
   refine Tk (Eb (Et (Tr ?_)))
   refine Lq 2 ?_
   refine Ln ?_
   obtain rfl := sm H1192
   exact Eg (_, ()) (hag941 _ rfl) [1, 1, 1, 1] [] 2
  refine Tx (Ex (Ex (Eh ?_)))
  obtain rfl := sm H944
  have hb := hbr942 _ rfl
  subst y936
  exact Eg (_, ()) rfl [0, 0, 0] [] 0
 rintro ⟨e935, ⟨⟩⟩ hy
 subst hy
 refine Ts (Tr ?_)
 refine Lq 1 ?_
 refine Ln (Et (Tv ?_))
 obtain rfl := sm H938
 exact Eo1 () [0, 1] []

end Go.Tw.X

set_option maxHeartbeats 2000000
set_option linter.unusedVariables false
set_option linter.unusedSimpArgs false
set_option maxRecDepth 10000
namespace Go.Tw.X
open Go Go.Tw
variable {A0 A1 A2 : Option Addr} {C0 C1 C2 : Nat}
variable {N0 N1 N2 N3 N4 : Nat}
theorem c_screen_Screen_Title {s_ : ScreenScreen} {r : ByteArray} (H : p_screen_Screen_Title s_ = some r) : CT G 55 [.pointer (some ⟨N0, 0, none⟩)] [Ch.box N0 81 [.pointer (some ⟨N1, 0, none⟩), .int .i64 s_.spot.x, .int .i64 s_.spot.y, .int .i64 s_.spot.style.fore, .int .i64 s_.spot.style.back, .bool s_.spot.style.bold, .bool s_.spot.style.under, .bool s_.spot.style.inverse, .int .i64 s_.saved.x, .int .i64 s_.saved.y, .int .i64 s_.saved.style.fore, .int .i64 s_.saved.style.back, .bool s_.saved.style.bold, .bool s_.saved.style.under, .bool s_.saved.style.inverse, .bool s_.waiting, .int .i64 s_.top, .int .i64 s_.bottom, .bool s_.wraps, .string s_.title], Ch.box N1 96 [.int .i64 s_.g.w, .slice A0 s_.g.l.length C0], Ch.arr tyRowRow 52 A0 C0 s_.g.l] [] (fun _ : Unit => .string r) (fun h => [Ch.box N0 81 [.pointer (some ⟨N1, 0, none⟩), .int .i64 s_.spot.x, .int .i64 s_.spot.y, .int .i64 s_.spot.style.fore, .int .i64 s_.spot.style.back, .bool s_.spot.style.bold, .bool s_.spot.style.under, .bool s_.spot.style.inverse, .int .i64 s_.saved.x, .int .i64 s_.saved.y, .int .i64 s_.saved.style.fore, .int .i64 s_.saved.style.back, .bool s_.saved.style.bold, .bool s_.saved.style.under, .bool s_.saved.style.inverse, .bool s_.waiting, .int .i64 s_.top, .int .i64 s_.bottom, .bool s_.wraps, .string s_.title], Ch.box N1 96 [.int .i64 s_.g.w, .slice A0 s_.g.l.length C0], Ch.arr tyRowRow 52 A0 C0 s_.g.l]) (fun h => []) := by
 delta p_screen_Screen_Title at H
 refine CT.of Go.Proofs.Tryz.func55 (by kernel_rfl) rfl rfl rfl fun K => ?_
 refine Ts (Tr ?_)
 refine Lq 1 ?_
 refine Ln (Et (Ts (Tr ?_)))
 refine Lq 3 ?_
 refine Lb 0 ?_
 refine Lq 1 ?_
 refine Ln (Et (Tv ?_))
 obtain rfl := sm H
 exact Eo1 () [0, 0, 0] []

theorem c_screen_Screen_Style {s_ : ScreenScreen} {r : StyleStyle} (H : p_screen_Screen_Style s_ = some r) : CT G 56 [.pointer (some ⟨N0, 0, none⟩)] [Ch.box N0 81 [.pointer (some ⟨N1, 0, none⟩), .int .i64 s_.spot.x, .int .i64 s_.spot.y, .int .i64 s_.spot.style.fore, .int .i64 s_.spot.style.back, .bool s_.spot.style.bold, .bool s_.spot.style.under, .bool s_.spot.style.inverse, .int .i64 s_.saved.x, .int .i64 s_.saved.y, .int .i64 s_.saved.style.fore, .int .i64 s_.saved.style.back, .bool s_.saved.style.bold, .bool s_.saved.style.under, .bool s_.saved.style.inverse, .bool s_.waiting, .int .i64 s_.top, .int .i64 s_.bottom, .bool s_.wraps, .string s_.title], Ch.box N1 96 [.int .i64 s_.g.w, .slice A0 s_.g.l.length C0], Ch.arr tyRowRow 52 A0 C0 s_.g.l] [] (fun _ : Unit => .agg #[.int .i64 r.fore, .int .i64 r.back, .bool r.bold, .bool r.under, .bool r.inverse]) (fun h => [Ch.box N0 81 [.pointer (some ⟨N1, 0, none⟩), .int .i64 s_.spot.x, .int .i64 s_.spot.y, .int .i64 s_.spot.style.fore, .int .i64 s_.spot.style.back, .bool s_.spot.style.bold, .bool s_.spot.style.under, .bool s_.spot.style.inverse, .int .i64 s_.saved.x, .int .i64 s_.saved.y, .int .i64 s_.saved.style.fore, .int .i64 s_.saved.style.back, .bool s_.saved.style.bold, .bool s_.saved.style.under, .bool s_.saved.style.inverse, .bool s_.waiting, .int .i64 s_.top, .int .i64 s_.bottom, .bool s_.wraps, .string s_.title], Ch.box N1 96 [.int .i64 s_.g.w, .slice A0 s_.g.l.length C0], Ch.arr tyRowRow 52 A0 C0 s_.g.l]) (fun h => []) := by
 delta p_screen_Screen_Style at H
 refine CT.of Go.Proofs.Tryz.func56 (by kernel_rfl) rfl rfl rfl fun K => ?_
 refine Ts (Tr ?_)
 refine Ll fun g1 => ?_
 refine Ln (Et (Ts (Tr ?_)))
 refine Lq 4 ?_
 refine Lb 1 ?_
 refine Lt 0 ?_
 refine Ln (Et (Tv ?_))
 obtain rfl := sm H
 exact Eo () [1, 1, 1] [] (.cell 0 rfl rfl rfl .nil)

theorem c_law11_Is {s_ : ScreenScreen} {x_ : Ref11Screen} {r : Bool × ScreenScreen} (H : p_law11_Is s_ x_ = some r) : CT G 27 [.pointer (some ⟨N0, 0, none⟩), .agg (bx31 x_ A1 C1).toArray] [Ch.box N0 81 [.pointer (some ⟨N1, 0, none⟩), .int .i64 s_.spot.x, .int .i64 s_.spot.y, .int .i64 s_.spot.style.fore, .int .i64 s_.spot.style.back, .bool s_.spot.style.bold, .bool s_.spot.style.under, .bool s_.spot.style.inverse, .int .i64 s_.saved.x, .int .i64 s_.saved.y, .int .i64 s_.saved.style.fore, .int .i64 s_.saved.style.back, .bool s_.saved.style.bold, .bool s_.saved.style.under, .bool s_.saved.style.inverse, .bool s_.waiting, .int .i64 s_.top, .int .i64 s_.bottom, .bool s_.wraps, .string s_.title], Ch.box N1 96 [.int .i64 s_.g.w, .slice A0 s_.g.l.length C0], Ch.arr tyRowRow 52 A0 C0 s_.g.l] [Im.sl tyRef09Row A1 C1 x_.g.l] (fun _ : Unit => .bool r.1) (fun h => [Ch.box N0 81 [.pointer (some ⟨N1, 0, none⟩), .int .i64 r.2.spot.x, .int .i64 r.2.spot.y, .int .i64 r.2.spot.style.fore, .int .i64 r.2.spot.style.back, .bool r.2.spot.style.bold, .bool r.2.spot.style.under, .bool r.2.spot.style.inverse, .int .i64 r.2.saved.x, .int .i64 r.2.saved.y, .int .i64 r.2.saved.style.fore, .int .i64 r.2.saved.style.back, .bool r.2.saved.style.bold, .bool r.2.saved.style.under, .bool r.2.saved.style.inverse, .bool r.2.waiting, .int .i64 r.2.top, .int .i64 r.2.bottom, .bool r.2.wraps, .string r.2.title], Ch.box N1 96 [.int .i64 r.2.g.w, .slice A0 r.2.g.l.length C0], Ch.arr tyRowRow 52 A0 C0 r.2.g.l]) (fun h => []) := by
 delta p_law11_Is at H
 refine CT.of Go.Proofs.Tryz.func27 (by kernel_rfl) rfl rfl rfl fun K => ?_
 refine Ts (Tr ?_)
 refine Lx fun g1 => ?_
 refine Lq 1 ?_
 refine Ln (Et (Ts (Tr ?_)))
 refine Lq 1 ?_
 obtain ⟨r2, h3, H4⟩ := bnd H
 refine Lk [1, 1, 1] [] (c_screen_Screen_Cursor h3) fun ⟨⟩ => ?_
 refine Lq 5 ?_
 refine Ln (Et (Ts (Tr ?_)))
 refine Lq 1 ?_
 obtain ⟨r5, h6, H7⟩ := bnd H4
 refine Lk [0, 0, 0] [] (c_screen_Screen_Region h6) fun ⟨⟩ => ?_
 refine Lq 5 ?_
 refine Ln (Et (Ts (Tr ?_)))
 refine Lq 1 ?_
 obtain ⟨r8, h9, H10⟩ := bnd H7
 refine Lk [0, 0, 0] [] (c_screen_Screen_Grid h9) fun ⟨g11, ⟨a12, c13⟩⟩ => ?_
 refine Lq 1 ?_
 refine Ln (Et (Ts ?_))
 obtain ⟨e99, H100, H101⟩ := bnd H10
 refine Tj0 [(4, .bool e99.1)] [] [Ch.arr tyRowRow 52 a12 c13 e99.2.l, Ch.box g11 96 [.int .i64 e99.2.w, .slice a12 e99.2.l.length c13]] [2, 3, 5, 4] ?_ ?_
 ·refine Td [] [2, 2, 2, 2] mo ?_
  refine Dq 0 ?_
  refine Dy 1 (Yl.pn rfl rfl rfl rfl rfl rfl) ?_
  refine Dq 2 ?_
  refine Dq 3 ?_
  refine Dq 4 ?_
  refine Db 5 3 ?_
  obtain ⟨r122, h123, H124⟩ := bnd H100
  refine Dk [0, 0] [0] (c_law10_Is h123) fun ⟨⟩ => ?_
  refine Dq 7 ?_
  refine Dq 8 ?_
  refine D.cs 30 H124 rfl (fun hc H126 => ?_) (fun hc H126 => ?_)
  ·refine Dq 9 ?_
   refine Dq 10 ?_
   refine Db 11 3 ?_
   refine Dq 12 ?_
   refine Dq 13 ?_
   refine Dq 14 ?_
   refine D.cs 36 H126 rfl (fun hc H127 => ?_) (fun hc H127 => ?_)
   ·refine Dq 15 ?_
    refine Dq 16 ?_
    refine Db 17 3 ?_
    refine Dq 18 ?_
    refine Dq 19 ?_
    refine Dq 20 ?_
    refine D.cs 42 H127 rfl (fun hc H128 => ?_) (fun hc H128 => ?_)
    ·refine Dq 21 ?_
     refine Dq 22 ?_
     refine Db 23 3 ?_
     refine Dq 24 ?_
     refine Dq 25 ?_
     refine Dq 26 ?_
     refine D.cs 48 H128 rfl (fun hc H129 => ?_) (fun hc H129 => ?_)
     ·refine Dq 27 ?_
      refine Dq 28 ?_
      refine Db 29 3 ?_
      refine Dq 30 ?_
      refine Dq 31 ?_
      refine Dq 32 ?_
      refine D.cs 54 H129 rfl (fun hc H130 => ?_) (fun hc H130 => ?_)
      ·refine Dq 33 ?_
       refine Dq 35 ?_
       refine Db 36 3 ?_
       obtain ⟨r131, h132, H133⟩ := bnd H130
       refine D.one rfl rfl rfl (Dp.ab [0, 0, 0] [] [0, 0, 0, 0] (Ac.call (c_screen_Screen_Waiting h132) rfl rfl rfl rfl) rfl rfl rfl rfl rfl rfl (fun _ => rfl) ?_)
       rintro ⟨⟩
       refine Dq 37 ?_
       refine Dq 38 ?_
       refine Dq 39 ?_
       refine D.cs 61 H133 rfl (fun hc H134 => ?_) (fun hc H134 => ?_)
       ·refine Dq 40 ?_
        refine Dq 42 ?_
        refine Db 43 3 ?_
        obtain ⟨r135, h136, H137⟩ := bnd H134
        refine D.one rfl rfl rfl (Dp.ab [0, 0, 0] [] [0, 0, 0, 0] (Ac.call (c_screen_Screen_Title h136) rfl rfl rfl rfl) rfl rfl rfl rfl rfl rfl (fun _ => rfl) ?_)
        rintro ⟨⟩
        refine Dq 44 ?_
        refine Dq 45 ?_
        refine Dq 46 ?_
        refine D.cs 68 H137 rfl (fun hc H138 => ?_) (fun hc H138 => ?_)
        ·refine Dq 47 ?_
         refine Dq 49 ?_
         refine Db 50 3 ?_
         obtain ⟨r139, h140, H141⟩ := bnd H138
         refine D.one rfl rfl rfl (Dp.ab [0, 0, 0] [] [0, 0, 0, 0] (Ac.call (c_screen_Screen_Style h140) rfl rfl rfl rfl) rfl rfl rfl rfl rfl rfl (fun _ => rfl) ?_)
         rintro ⟨⟩
         refine Dq 51 ?_
         refine Dq 52 ?_
         refine Dq 53 ?_
         refine Dn ?_
         obtain rfl := sm H141
         exact Eg0 [5, 4, 0, 0, 1, 0] 0
        refine Ds 47 ?_
        refine Ds 48 ?_
        refine Ds 49 ?_
        refine Ds 50 ?_
        refine Ds 51 ?_
        refine Dq 52 ?_
        refine Dq 53 ?_
        refine Dn ?_
        obtain rfl := sm H138
        exact Eg0 [5, 4, 0, 0, 1, 0] 0
       refine Ds 40 ?_
       refine Ds 41 ?_
       refine Ds 42 ?_
       refine Ds 43 ?_
       refine Ds 44 ?_
       refine Dq 45 ?_
       refine Dq 46 ?_
       refine Ds 47 ?_
       refine Ds 48 ?_
       refine Ds 49 ?_
       refine Ds 50 ?_
       refine Ds 51 ?_
       refine Dq 52 ?_
       refine Dq 53 ?_
       refine Dn ?_
       obtain rfl := sm H134
       exact Eg0 [5, 4, 0, 0, 1, 0] 0
      refine Ds 33 ?_
      refine Ds 34 ?_
      refine Ds 35 ?_
      refine Ds 36 ?_
      refine Ds 37 ?_
      refine Dq 38 ?_
      refine Dq 39 ?_
      refine Ds 40 ?_
      refine Ds 41 ?_
      refine Ds 42 ?_
      refine Ds 43 ?_
      refine Ds 44 ?_
      refine Dq 45 ?_
      refine Dq 46 ?_
      refine Ds 47 ?_
      refine Ds 48 ?_
      refine Ds 49 ?_
      refine Ds 50 ?_
      refine Ds 51 ?_
      refine Dq 52 ?_
      refine Dq 53 ?_
      refine Dn ?_
      obtain rfl := sm H130
      exact Eg0 [5, 4, 0, 0, 1, 0] 0
     refine Ds 27 ?_
     refine Ds 28 ?_
     refine Ds 29 ?_
     refine Ds 30 ?_
     refine Dq 31 ?_
     refine Dq 32 ?_
     refine Ds 33 ?_
     refine Ds 34 ?_
     refine Ds 35 ?_
     refine Ds 36 ?_
     refine Ds 37 ?_
     refine Dq 38 ?_
     refine Dq 39 ?_
     refine Ds 40 ?_
     refine Ds 41 ?_
     refine Ds 42 ?_
     refine Ds 43 ?_
     refine Ds 44 ?_
     refine Dq 45 ?_
     refine Dq 46 ?_
     refine Ds 47 ?_
     refine Ds 48 ?_
     refine Ds 49 ?_
     refine Ds 50 ?_
     refine Ds 51 ?_
     refine Dq 52 ?_
     refine Dq 53 ?_
     refine Dn ?_
     obtain rfl := sm H129
     exact Eg0 [5, 4, 0, 0, 1, 0] 0
    refine Ds 21 ?_
    refine Ds 22 ?_
    refine Ds 23 ?_
    refine Ds 24 ?_
    refine Dq 25 ?_
    refine Dq 26 ?_
    refine Ds 27 ?_
    refine Ds 28 ?_
    refine Ds 29 ?_
    refine Ds 30 ?_
    refine Dq 31 ?_
    refine Dq 32 ?_
    refine Ds 33 ?_
    refine Ds 34 ?_
    refine Ds 35 ?_
    refine Ds 36 ?_
    refine Ds 37 ?_
    refine Dq 38 ?_
    refine Dq 39 ?_
    refine Ds 40 ?_
    refine Ds 41 ?_
    refine Ds 42 ?_
    refine Ds 43 ?_
    refine Ds 44 ?_
    refine Dq 45 ?_
    refine Dq 46 ?_
    refine Ds 47 ?_
    refine Ds 48 ?_
    refine Ds 49 ?_
    refine Ds 50 ?_
    refine Ds 51 ?_
    refine Dq 52 ?_
    refine Dq 53 ?_
    refine Dn ?_
    obtain rfl := sm H128
    exact Eg0 [5, 4, 0, 0, 1, 0] 0
   refine Ds 15 ?_
   refine Ds 16 ?_
   refine Ds 17 ?_
   refine Ds 18 ?_
   refine Dq 19 ?_
   refine Dq 20 ?_
   refine Ds 21 ?_
   refine Ds 22 ?_
   refine Ds 23 ?_
   refine Ds 24 ?_
   refine Dq 25 ?_
   refine Dq 26 ?_
   refine Ds 27 ?_
   refine Ds 28 ?_
   refine Ds 29 ?_
   refine Ds 30 ?_
   refine Dq 31 ?_
   refine Dq 32 ?_
   refine Ds 33 ?_
   refine Ds 34 ?_
   refine Ds 35 ?_
   refine Ds 36 ?_
   refine Ds 37 ?_
   refine Dq 38 ?_
   refine Dq 39 ?_
   refine Ds 40 ?_
   refine Ds 41 ?_
   refine Ds 42 ?_
   refine Ds 43 ?_
   refine Ds 44 ?_
   refine Dq 45 ?_
   refine Dq 46 ?_
   refine Ds 47 ?_
   refine Ds 48 ?_
   refine Ds 49 ?_
   refine Ds 50 ?_
   refine Ds 51 ?_
   refine Dq 52 ?_
   refine Dq 53 ?_
   refine Dn ?_
   obtain rfl := sm H127
   exact Eg0 [5, 4, 0, 0, 1, 0] 0
  refine Ds 9 ?_
  refine Ds 10 ?_
  refine Ds 11 ?_
  refine Ds 12 ?_
  refine Dq 13 ?_
  refine Dq 14 ?_
  refine Ds 15 ?_
  refine Ds 16 ?_
  refine Ds 17 ?_
  refine Ds 18 ?_
  refine Dq 19 ?_
  refine Dq 20 ?_
  refine Ds 21 ?_
  refine Ds 22 ?_
  refine Ds 23 ?_
  refine Ds 24 ?_
  refine Dq 25 ?_
  refine Dq 26 ?_
  refine Ds 27 ?_
  refine Ds 28 ?_
  refine Ds 29 ?_
  refine Ds 30 ?_
  refine Dq 31 ?_
  refine Dq 32 ?_
  refine Ds 33 ?_
  refine Ds 34 ?_
  refine Ds 35 ?_
  refine Ds 36 ?_
  refine Ds 37 ?_
  refine Dq 38 ?_
  refine Dq 39 ?_
  refine Ds 40 ?_
  refine Ds 41 ?_
  refine Ds 42 ?_
  refine Ds 43 ?_
  refine Ds 44 ?_
  refine Dq 45 ?_
  refine Dq 46 ?_
  refine Ds 47 ?_
  refine Ds 48 ?_
  refine Ds 49 ?_
  refine Ds 50 ?_
  refine Ds 51 ?_
  refine Dq 52 ?_
  refine Dq 53 ?_
  refine Dn ?_
  obtain rfl := sm H126
  exact Eg0 [5, 4, 0, 0, 1, 0] 0
 refine Tv ?_
 obtain rfl := sm H101
 exact Eo1 () [2, 2, 3] []

theorem c_law11_ScreenAnew {w : Int} {h_ : Int} {l : List Law11Step} {r : Bool} (H : p_law11_ScreenAnew w h_ l = some r) : CT G 6 [.int .i64 w, .int .i64 h_, .slice A0 l.length C0] [] [Im.sl tyLaw11Step A0 C0 l, Im.sl tyWideSpan (some ⟨0, 0, none⟩) 13 t_wide_nones, Im.sl tyWideSpan (some ⟨1, 0, none⟩) 14 t_wide_twos] (fun _ : Unit => .bool r) (fun h => []) (fun h => []) := by
 delta p_law11_ScreenAnew at H
 refine CT.of Go.Proofs.Tryz.func6 (by kernel_rfl) rfl rfl rfl fun K => ?_
 refine Ts (Tr ?_)
 refine Lq 1 ?_
 refine Ln (Et (Ts (Ts (Tr ?_))))
 obtain ⟨r1, h2, H3⟩ := bnd H
 refine Lk [] [1, 2] (c_law11_awake h2) fun ⟨⟩ => ?_
 refine Lq 1 ?_
 refine Ln (Et ?_)
 refine Tb H3 (fun H5 => ?_) fun H5 => ?_
 ·refine Ts (Tr ?_)
  refine Lq 1 ?_
  refine Ln (Et (Tv (Er ?_)))
  obtain rfl := sm H5
  exact Eo1 () [] []
 refine Tk (Et (Ts (Tr ?_)))
 refine Lq 1 ?_
 obtain ⟨r6, h7, H8⟩ := bnd H5
 refine Lk [] [] (c_law11_small h7) fun ⟨⟩ => ?_
 refine Lq 1 ?_
 obtain ⟨r9, h10, H11⟩ := bnd H8
 refine Lk [] [] (c_law11_small h10) fun ⟨⟩ => ?_
 obtain ⟨r12, h13, H14⟩ := bnd H11
 refine Lk [] [] (c_screen_New h13) fun ⟨g15, g16, ⟨a17, c18⟩⟩ => ?_
 refine Lq 1 ?_
 obtain ⟨r20, h21, H22⟩ := bnd H14
 refine Lk [] [] (c_law11_small h21) fun ⟨⟩ => ?_
 refine Lq 1 ?_
 obtain ⟨r23, h24, H25⟩ := bnd H22
 refine Lk [] [] (c_law11_small h24) fun ⟨⟩ => ?_
 obtain ⟨r26, h27, H28⟩ := bnd H25
 refine Lk [] [] (c_ref11_New h27) fun ⟨a29, c30⟩ => ?_
 refine Ll fun g32 => ?_
 refine Lq 1 ?_
 refine Lt 0 ?_
 refine Ln (Et (Ts (Ts (Tr ?_))))
 refine Lq 1 ?_
 refine Ly (Yl.pn rfl rfl rfl rfl rfl rfl) ?_
 refine Ln (Et ?_)
 refine T.cond rfl (fun h => nomatch h) (fun _ => ?_)
 refine Tk (Et (Ts (Ts (Tr ?_))))
 refine Lq 1 ?_
 refine Ln (Et ?_)
 obtain ⟨e340, H341, H342⟩ := bnd H28
 refine Tjh (η := (Option Addr × Nat) × Nat × (Option Addr × Nat)) (fun _ => []) [7, 8] (fun h => (fun a332 c333 g336 a337 c338 => [Ch.arr tyRowRow 52 a337 c338 e340.2.g.l, Ch.box g32 31 (bx31 e340.1 a332 c333), Ch.box g15 81 [.pointer (some ⟨g336, 0, none⟩), .int .i64 e340.2.spot.x, .int .i64 e340.2.spot.y, .int .i64 e340.2.spot.style.fore, .int .i64 e340.2.spot.style.back, .bool e340.2.spot.style.bold, .bool e340.2.spot.style.under, .bool e340.2.spot.style.inverse, .int .i64 e340.2.saved.x, .int .i64 e340.2.saved.y, .int .i64 e340.2.saved.style.fore, .int .i64 e340.2.saved.style.back, .bool e340.2.saved.style.bold, .bool e340.2.saved.style.under, .bool e340.2.saved.style.inverse, .bool e340.2.waiting, .int .i64 e340.2.top, .int .i64 e340.2.bottom, .bool e340.2.wraps, .string e340.2.title], Ch.box g336 96 [.int .i64 e340.2.g.w, .slice a337 e340.2.g.l.length c338]]) h.1.1 h.1.2 h.2.1 h.2.2.1 h.2.2.2) [] (fun h => (fun a332 c333 g336 a337 c338 => [Im.sl tyRef09Row a332 c333 e340.1.g.l]) h.1.1 h.1.2 h.2.1 h.2.2.1 h.2.2.2) ?_ ?_
 ·refine Tl ?_
  refine Tq (η := Nat × (Option Addr × Nat) × (Option Addr × Nat)) (fun s241 h => (fun g232 a233 c234 a237 c238 => [(9, .int .i64 s241.2.2)]) h.1 h.2.1.1 h.2.1.2 h.2.2.1 h.2.2.2) [2, 7, 8] (fun s241 h => (fun g232 a233 c234 a237 c238 => [Ch.arr tyRowRow 52 a233 c234 s241.1.g.l, Ch.box g32 31 (bx31 s241.2.1 a237 c238), Ch.box g15 81 [.pointer (some ⟨g232, 0, none⟩), .int .i64 s241.1.spot.x, .int .i64 s241.1.spot.y, .int .i64 s241.1.spot.style.fore, .int .i64 s241.1.spot.style.back, .bool s241.1.spot.style.bold, .bool s241.1.spot.style.under, .bool s241.1.spot.style.inverse, .int .i64 s241.1.saved.x, .int .i64 s241.1.saved.y, .int .i64 s241.1.saved.style.fore, .int .i64 s241.1.saved.style.back, .bool s241.1.saved.style.bold, .bool s241.1.saved.style.under, .bool s241.1.saved.style.inverse, .bool s241.1.waiting, .int .i64 s241.1.top, .int .i64 s241.1.bottom, .bool s241.1.wraps, .string s241.1.title], Ch.box g232 96 [.int .i64 s241.1.g.w, .slice a233 s241.1.g.l.length c234]]) h.1 h.2.1.1 h.2.1.2 h.2.2.1 h.2.2.2) [] (fun s241 h => (fun g232 a233 c234 a237 c238 => [Im.sl tyRef09Row a237 c238 s241.2.1.g.l]) h.1 h.2.1.1 h.2.1.2 h.2.2.1 h.2.2.2) (g16, (a17, c18), (a29, c30)) [3, 0, 0, 0] [0] H341 ?_
  rintro k_ s241 ⟨g232, ⟨a233, c234⟩, ⟨a237, c238⟩⟩ z344 H343 hag345 hbr346
  refine Ts (Ts ?_)
  obtain ⟨e350, H351, H352⟩ := bnd H343
  refine Tj0 [(32, .bool e350)] [2, 7, 8, 9] [] [1, 2, 3, 0] ?_ ?_
  ·refine Tr ?_
   refine Lq 5 ?_
   refine Lw 29 H351 (fun H353 => ?_) fun H353 => ?_
   ·refine Lq 3 ?_
    refine Ln ?_
    obtain rfl := sm H353
    exact Eg0 [1, 1, 1, 0] 0
   refine Lq 3 ?_
   refine Ln ?_
   obtain rfl := sm H353
   exact Eg0 [1, 1, 1, 0] 0
  refine Tb H352 (fun H355 => ?_) fun H355 => ?_
  ·refine Tk (Et (Ts (Tl ?_)))
   refine Td [10] [0] mo ?_
   refine Dq 0 ?_
   refine Db 1 0 ?_
   refine Dq 2 ?_
   refine Dq 3 ?_
   obtain ⟨x416, h417, H418⟩ := bnd H355
   refine D.addr 2 rfl (idx_lt h417) fun b419 o420 e421 => ?_
   subst e421
   refine Dy 4 (Yl.ia h417 rfl rfl rfl rfl rfl rfl) ?_
   refine D.el 2 rfl (idx_some h417).2 ?_
   rintro ⟨a422, c423⟩
   refine Dy 5 (Yl.ldc 0 0 rfl rfl rfl rfl) ?_
   obtain ⟨r426, h427, H428⟩ := bnd H418
   refine Dk [0, 0, 0] [2, 1, 5, 6] (c_law11_Do h427) fun ⟨⟨a429, c430⟩, g431, ⟨a432, c433⟩⟩ => ?_
   refine Dq 7 ?_
   refine Dq 8 ?_
   refine Dq 9 ?_
   refine Dt 0 ?_
   refine Dn ?_
   refine Eb (Et (Tr ?_))
   refine Lq 3 ?_
   refine Ln ?_
   obtain rfl := sm H428
   exact Eg (_, (g431, (a432, c433), (a429, c430))) (hag345 _ rfl) [3, 0, 0, 0] [0] 4
  refine Tx (Ex (Ex (Eh ?_)))
  obtain rfl := sm H355
  have hb := hbr346 _ rfl
  subst e340
  exact Eg ((a237, c238), g232, (a233, c234)) trivial [3, 0, 0, 0] [0] 1
 rintro ⟨⟨a332, c333⟩, g336, ⟨a337, c338⟩⟩
 refine Ts (Tr ?_)
 refine Lq 2 ?_
 refine L.know [Im.sl (Ty.int .i64) none 0 []] (fun A w _ _ f hf => by rw [List.mem_singleton.1 hf]; exact Im.sl_nil A w) ?_
 obtain ⟨r437, h438, H439⟩ := bnd H342
 refine Lk [2, 2, 0] [0, 4, 5] (c_screen_Screen_Do h438) fun ⟨⟨a440, c441⟩, g442, ⟨a443, c444⟩⟩ => ?_
 refine Lq 1 ?_
 refine Ln (Et (Ts ?_))
 obtain ⟨e473, H474, H475⟩ := bnd H439
 refine Tj0 [(6, .bool e473.1)] [] [Ch.arr tyRowRow 52 a443 c444 e473.2.2.l, Ch.box g15 81 [.pointer (some ⟨g442, 0, none⟩), .int .i64 e473.2.1.spot.x, .int .i64 e473.2.1.spot.y, .int .i64 e473.2.1.spot.style.fore, .int .i64 e473.2.1.spot.style.back, .bool e473.2.1.spot.style.bold, .bool e473.2.1.spot.style.under, .bool e473.2.1.spot.style.inverse, .int .i64 e473.2.1.saved.x, .int .i64 e473.2.1.saved.y, .int .i64 e473.2.1.saved.style.fore, .int .i64 e473.2.1.saved.style.back, .bool e473.2.1.saved.style.bold, .bool e473.2.1.saved.style.under, .bool e473.2.1.saved.style.inverse, .bool e473.2.1.waiting, .int .i64 e473.2.1.top, .int .i64 e473.2.1.bottom, .bool e473.2.1.wraps, .string e473.2.1.title], Ch.box g442 96 [.int .i64 e473.2.2.w, .slice a443 e473.2.2.l.length c444]] [4] ?_ ?_
 ·refine Tr ?_
  refine Lq 4 ?_
  refine Lw 51 H474 (fun H476 => ?_) fun H476 => ?_
  ·refine Lq 3 ?_
   refine Lb 4 ?_
   refine Lq 2 ?_
   refine Lb 4 ?_
   refine Lq 1 ?_
   obtain ⟨r477, h478, H479⟩ := bnd H476
   refine Lk [] [] (c_ref11_New h478) fun ⟨a480, c481⟩ => ?_
   obtain ⟨r483, h484, H485⟩ := bnd H479
   refine Lk [1, 1, 1] [0] (c_law11_Is h484) fun ⟨⟩ => ?_
   refine Lq 2 ?_
   refine Ln ?_
   obtain rfl := sm H485
   exact Eg0 [2, 0, 0, 1] 1
  refine Lq 12 ?_
  refine Ln ?_
  obtain rfl := sm H476
  exact Eg0 [3, 1, 1, 1] 0
 refine Tv ?_
 obtain rfl := sm H475
 exact Eo1 () [] []

end Go.Tw.X

set_option maxHeartbeats 2000000
set_option linter.unusedVariables false
set_option linter.unusedSimpArgs false
set_option maxRecDepth 10000
namespace Go.Tw.X
open Go Go.Tw
theorem opn_to {P : Program} {α β : Type} {t : TypeId} {ty : Ty α} {ty' : Ty β} {wf : α → Prop} {wf' : β → Prop} (h : Opn P t ty wf) (g : α → β) (gh : ty.Hid → ty'.Hid) (h1 : ∀ y hh, ty'.cs (g y) (gh hh) = ty.cs y hh) (h2 : ∀ y hh, ty'.im (g y) (gh hh) = ty.im y hh) (h3 : ∀ y, wf y → wf' (g y)) : Opn P t ty' wf' := Opn.to g gh h h1 h2 h3
theorem opn3 : Opn Go.Proofs.Tryz.prog 3 (Ty.int .i64) (inK .i64) := Opn.int (by kernel_rfl)
theorem opn9 : Opn Go.Proofs.Tryz.prog 9 Ty.str (fun s : ByteArray => s.size ≤ maxLen) := Opn.str (by kernel_rfl)
theorem opn4 : Opn Go.Proofs.Tryz.prog 4 Ty.bool (fun _ => True) := Opn.bool (by kernel_rfl)
theorem opn35 : Opn Go.Proofs.Tryz.prog 35 (Ty.slice (Ty.int .i64)) (fun xs : List Int => ∀ x ∈ xs, (inK .i64) x) := Opn.slice (by kernel_rfl) opn3 (by kernel_rfl) (by decide)
theorem opn37 : Opn Go.Proofs.Tryz.prog 37 tyRef07Action wfRef07Action := opn_to (β := Ref07Action) (ty' := tyRef07Action) (wf' := wfRef07Action) (Opn.struct (fs := [(3, 0), (3, 1), (3, 2), (4, 3), (35, 4), (9, 5)]) (by kernel_rfl) (by kernel_rfl) (.cons opn3 (by kernel_rfl) (.cons opn3 (by kernel_rfl) (.cons opn3 (by kernel_rfl) (.cons opn4 (by kernel_rfl) (.cons opn35 (by kernel_rfl) (.cons opn9 (by kernel_rfl) .nil))))))) (fun y => ⟨y.1, y.2.1, y.2.2.1, y.2.2.2.1, y.2.2.2.2.1, y.2.2.2.2.2.1⟩) (fun h => h.2.2.2.2.1) (fun _ _ => rfl) (fun _ _ => rfl) (fun y h => h)
theorem opn62 : Opn Go.Proofs.Tryz.prog 62 tyLaw11Step wfLaw11Step := opn_to (β := Law11Step) (ty' := tyLaw11Step) (wf' := wfLaw11Step) (Opn.struct (fs := [(3, 0), (3, 1), (3, 2), (37, 3), (9, 9)]) (by kernel_rfl) (by kernel_rfl) (.cons opn3 (by kernel_rfl) (.cons opn3 (by kernel_rfl) (.cons opn3 (by kernel_rfl) (.cons opn37 (by kernel_rfl) (.cons opn9 (by kernel_rfl) .nil)))))) (fun y => ⟨y.1, y.2.1, y.2.2.1, y.2.2.2.1, y.2.2.2.2.1⟩) (fun h => h.2.2.2.1) (fun _ _ => rfl) (fun _ _ => rfl) (fun y h => h)
theorem opn58 : Opn Go.Proofs.Tryz.prog 58 (Ty.slice tyLaw11Step) (fun xs : List Law11Step => ∀ x ∈ xs, wfLaw11Step x) := Opn.slice (by kernel_rfl) opn62 (by kernel_rfl) (by decide)
end Go.Tw.X

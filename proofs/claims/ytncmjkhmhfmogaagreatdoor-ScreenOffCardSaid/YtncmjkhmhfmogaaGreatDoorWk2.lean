import Derived.Test.YtncmjkhmhfmogaaGreatDoorWk1
import Derived.Test.YtncmjkhmhfmogaaGreatDoorFw2
set_option maxHeartbeats 2000000
set_option linter.unusedVariables false
set_option linter.unusedSimpArgs false
set_option maxRecDepth 10000
namespace Go.Tw.X
open Go Go.Tw
variable {A0 A1 A2 : Option Addr} {C0 C1 C2 : Nat}
variable {N0 N1 N2 N3 N4 : Nat}
theorem c_ref09_Resize {r_ : Ref09Row} {w : Int} {r : Ref09Row} (H : p_ref09_Resize r_ w = some r) : CT G 125 [.agg #[.slice A0 r_.l.length C0, .bool r_.wrapped], .int .i64 w] [] [Im.sl tyRef09Cell A0 C0 r_.l] (fun h : (Option Addr × Nat) => .agg #[.slice h.1 r.l.length h.2, .bool r.wrapped]) (fun h => []) (fun h => [Im.sl tyRef09Cell h.1 h.2 r.l]) := by
 delta p_ref09_Resize at H
 refine CT.of Go.Proofs.Tryz.func125 (by kernel_rfl) rfl rfl rfl fun K => ?_
 refine Ts (Tr ?_)
 refine Lx fun g1 => ?_
 refine Ll fun g2 => ?_
 refine Ln (Et (Ts (Tr ?_)))
 refine Lq 1 ?_
 obtain ⟨r3, h4, H5⟩ := bnd H
 refine Lk [] [] (c_ref09_near h4) fun ⟨⟩ => ?_
 refine Lq 1 ?_
 refine Ln (Et (Ts (Ts (Tr ?_))))
 refine Lq 2 ?_
 refine Lb 1 ?_
 refine Lq 2 ?_
 refine Ln (Et ?_)
 refine Tb H5 (fun H7 => ?_) fun H7 => ?_
 ·refine Ts (Tr ?_)
  refine Lb 1 ?_
  refine Lt 0 ?_
  refine Ln (Et (Tv (Er ?_)))
  obtain rfl := sm H7
  exact Eo (A0, C0) [] [0] (.cell 0 rfl rfl rfl .nil)
 refine Tk (Et (Ts (Tr ?_)))
 refine La [] [] (Ac.bs (ty := tyRef09Cell) (xs := []) .nil rfl rfl rfl rfl rfl rfl rfl) fun g8 => ?_
 refine Lq 1 ?_
 refine Lb 2 ?_
 refine Lq 2 ?_
 refine Lb 2 ?_
 refine Lq 2 ?_
 obtain ⟨_, h10, H11⟩ := bnd H7
 refine L.rs 0 h10 rfl rfl rfl rfl rfl rfl rfl rfl rfl rfl rfl rfl ?_
 intro a12 c13
 obtain ⟨_, h15, H16⟩ := bnd H11
 refine La [0] [0] (Ac.ap (ty := tyRef09Cell) h15 rfl rfl rfl rfl rfl rfl rfl) ?_
 rintro ⟨a17, c18⟩
 refine Lq 1 ?_
 refine Ln (Et (Ts (Tr ?_)))
 refine Lq 5 ?_
 obtain ⟨r20, h21, H22⟩ := bnd H16
 refine Lk [] [] (c_ref09_Blank h21) fun ⟨a23, c24⟩ => ?_
 refine Lq 1 ?_
 obtain ⟨_, h26, H27⟩ := bnd H22
 refine La [0] [0] (Ac.ap (ty := tyRef09Cell) h26 rfl rfl rfl rfl rfl rfl rfl) ?_
 rintro ⟨a28, c29⟩
 refine L.frz 0 rfl ?_
 obtain ⟨r32, h33, H34⟩ := bnd H27
 refine Lk [] [0] (c_ref09_mend h33) fun ⟨a35, c36⟩ => ?_
 refine Lt 0 ?_
 refine Ln (Et (Tv ?_))
 obtain rfl := sm H34
 exact Eo (a35, c36) [] [0] (.cell 0 rfl rfl rfl .nil)

theorem c_ref10_Set {g : Ref10Grid} {y : Int} {r_ : Ref09Row} {r : Ref10Grid × Bool} (H : p_ref10_Set g y r_ = some r) : CT G 121 [.agg #[.int .i64 g.w, .slice A0 g.l.length C0], .int .i64 y, .agg #[.slice A1 r_.l.length C1, .bool r_.wrapped]] [] [Im.sl tyRef09Row A0 C0 g.l, Im.sl tyRef09Cell A1 C1 r_.l] (fun h : (Option Addr × Nat) => .tuple #[.agg #[.int .i64 r.1.w, .slice h.1 r.1.l.length h.2], .bool r.2]) (fun h => []) (fun h => [Im.sl tyRef09Row h.1 h.2 r.1.l]) := by
 delta p_ref10_Set at H
 refine CT.of Go.Proofs.Tryz.func121 (by kernel_rfl) rfl rfl rfl fun K => ?_
 refine Ts (Tr ?_)
 refine Lx fun g1 => ?_
 refine Lx fun g2 => ?_
 refine Ll fun g3 => ?_
 refine Lq 1 ?_
 refine Ln (Et (Ts (Ts ?_)))
 obtain ⟨e7, H8, H9⟩ := bnd H
 refine Tj0 [(17, .bool e7)] [1, 3, 5, 6] [] [0, 1, 2] ?_ ?_
 ·refine Tr ?_
  refine Lq 3 ?_
  refine Lw 11 H8 (fun H10 => ?_) fun H10 => ?_
  ·refine Lq 6 ?_
   refine Ln ?_
   obtain rfl := sm H10
   exact Eg0 [0, 0, 0] 0
  refine Lq 2 ?_
  refine Lb 2 ?_
  refine Lq 3 ?_
  refine Ln ?_
  obtain rfl := sm H10
  exact Eg0 [0, 0, 0] 0
 refine Tb H9 (fun H12 => ?_) fun H12 => ?_
 ·refine Ts (Tr ?_)
  refine Lb 2 ?_
  refine Lt 0 ?_
  refine Lq 1 ?_
  refine Ln (Et (Tv (Er ?_)))
  obtain rfl := sm H12
  exact Eo (A0, C0) [] [0] (.cell 0 rfl rfl rfl (.tmp rfl .nil))
 refine Tk (Et (Ts (Tr ?_)))
 refine La [] [] (Ac.bs (ty := tyRef09Row) (xs := []) .nil rfl rfl rfl rfl rfl rfl rfl) fun g13 => ?_
 refine Lq 1 ?_
 refine Lb 3 ?_
 obtain ⟨_, h15, H16⟩ := bnd H12
 refine La [0] [0] (Ac.ap (ty := tyRef09Row) h15 rfl rfl rfl rfl rfl rfl rfl) ?_
 rintro ⟨a17, c18⟩
 refine Lq 1 ?_
 refine Ln (Et (Ts (Tr ?_)))
 refine Lq 2 ?_
 refine Lb 2 ?_
 refine Lq 1 ?_
 refine Lb 3 ?_
 obtain ⟨r20, h21, H22⟩ := bnd H16
 refine Lk [] [1] (c_ref09_Resize h21) fun ⟨a23, c24⟩ => ?_
 obtain ⟨x26, h27, H28⟩ := bnd H22
 refine L.addro 0 rfl (idx_lt h27) fun b29 e30 => ?_
 subst e30
 refine Ly (Yl.ia h27 rfl rfl rfl rfl rfl rfl) ?_
 refine La [0] [0] (Ac.se 0 r20 (idx_some h27).2 rfl rfl rfl rfl rfl rfl (fun _ => ⟨(a23, c24), rfl, [1], rfl⟩)) fun _ => ?_
 refine L.sl 8 (k' := ((([] : List Ref09Row) ++ g.l).set y.toNat r20).length) (List.length_set ..) rfl ?_
 refine Ln (Et (Ts (Tr ?_)))
 refine Lq 1 ?_
 refine Lb 3 ?_
 refine Lq 2 ?_
 refine Lt 1 ?_
 refine Lq 1 ?_
 refine Ln (Et (Tv ?_))
 refine E.frz 1 rfl ?_
 obtain rfl := sm H28
 exact Eo ((some ⟨b29, 0, none⟩), c18) [] [0] (.cell 0 rfl rfl rfl (.tmp rfl .nil))

theorem c_ref11_set {s_ : Ref11Screen} {r_ : Ref09Row} {r : Ref11Screen} (H : p_ref11_set s_ r_ = some r) : CT G 81 [.agg (bx31 s_ A0 C0).toArray, .agg #[.slice A1 r_.l.length C1, .bool r_.wrapped]] [] [Im.sl tyRef09Row A0 C0 s_.g.l, Im.sl tyRef09Cell A1 C1 r_.l] (fun h : (Option Addr × Nat) => .agg (bx31 r h.1 h.2).toArray) (fun h => []) (fun h => [Im.sl tyRef09Row h.1 h.2 r.g.l]) := by
 delta p_ref11_set at H
 refine CT.of Go.Proofs.Tryz.func81 (by kernel_rfl) rfl rfl rfl fun K => ?_
 refine Ts (Tr ?_)
 refine Lx fun g1 => ?_
 refine Lx fun g2 => ?_
 refine Ll fun g3 => ?_
 refine Ln (Et (Ts (Tr ?_)))
 refine Lq 1 ?_
 refine Lb 2 ?_
 refine Lq 1 ?_
 refine Lb 2 ?_
 refine Lb 1 ?_
 obtain ⟨r4, h5, H6⟩ := bnd H
 refine Lk [] [0, 1] (c_ref10_Set h5) fun ⟨a7, c8⟩ => ?_
 refine Lq 4 ?_
 refine Lt 2 ?_
 refine Ln (Et (Ts (Tr ?_)))
 refine Lb 0 ?_
 refine Lt 1 ?_
 refine Ln (Et (Tv ?_))
 obtain rfl := sm H6
 exact Eo (a7, c8) [] [0] (.cell 0 rfl rfl rfl .nil)

theorem c_ref10_Move {g : Ref10Grid} {up : Bool} {top : Int} {bottom : Int} {n_ : Int} {style : Int} {r : Ref10Grid × (List Ref09Row)} (H : p_ref10_Move g up top bottom n_ style = some r) : CT G 39 [.agg #[.int .i64 g.w, .slice A0 g.l.length C0], .bool up, .int .i64 top, .int .i64 bottom, .int .i64 n_, .int .i64 style] [] [Im.sl tyRef09Row A0 C0 g.l] (fun h : (Option Addr × Nat) × (Option Addr × Nat) => .tuple #[.agg #[.int .i64 r.1.w, .slice h.1.1 r.1.l.length h.1.2], .slice h.2.1 r.2.length h.2.2]) (fun h => [Ch.arr tyRef09Row 69 h.2.1 h.2.2 r.2]) (fun h => [Im.sl tyRef09Row h.1.1 h.1.2 r.1.l]) := by
 delta p_ref10_Move at H
 refine CT.of Go.Proofs.Tryz.func39 (by kernel_rfl) rfl rfl rfl fun K => ?_
 refine Ts (Tr ?_)
 refine Lx fun g1 => ?_
 refine Ll fun g2 => ?_
 refine Lq 1 ?_
 refine Ln (Et (Ts (Tr ?_)))
 refine Lq 1 ?_
 refine Lb 1 ?_
 refine Lq 3 ?_
 refine Ln (Et (Ts (Tr ?_)))
 refine Lq 5 ?_
 refine Ln (Et (Ts (Tr ?_)))
 refine Lq 5 ?_
 refine Ln (Et (Ts (Tr ?_)))
 refine La [] [] (Ac.bs (ty := tyRef09Row) (xs := []) .nil rfl rfl rfl rfl rfl rfl rfl) fun g3 => ?_
 refine Lq 1 ?_
 refine Ln (Et (Ts (Ts (Tr ?_))))
 refine Lq 3 ?_
 refine Ln (Et ?_)
 refine Tb H (fun H6 => ?_) fun H6 => ?_
 ·refine Ts (Tr ?_)
  refine Lb 2 ?_
  refine Lq 1 ?_
  refine Lt 1 ?_
  refine Lq 1 ?_
  refine Ln (Et (Tv (Er ?_)))
  obtain rfl := sm H6
  exact Eo ((A0, C0), ((some ⟨g3, 0, none⟩), 0)) [1] [0] (.cell 0 rfl rfl rfl (.tmp rfl .nil))
 refine Tk (Et (Ts (Tr ?_)))
 refine La [] [] (Ac.bs (ty := tyRef09Row) (xs := []) .nil rfl rfl rfl rfl rfl rfl rfl) fun g7 => ?_
 refine Lq 1 ?_
 refine Lb 3 ?_
 obtain ⟨_, h9, H10⟩ := bnd H6
 refine La [0] [0] (Ac.ap (ty := tyRef09Row) h9 rfl rfl rfl rfl rfl rfl rfl) ?_
 rintro ⟨a11, c12⟩
 refine Lq 1 ?_
 refine Ln (Et (Ts (Tr ?_)))
 refine Lq 1 ?_
 refine Lb 3 ?_
 refine Lq 1 ?_
 obtain ⟨r14, h15, H16⟩ := bnd H10
 refine Lk [] [] (c_ref09_Blank h15) fun ⟨a17, c18⟩ => ?_
 refine Ll fun g20 => ?_
 refine Lt 0 ?_
 refine Ln (Et (Ts (Ts (Tr ?_))))
 refine Lq 1 ?_
 refine Ln (Et ?_)
 obtain ⟨e2398, H2399, H2400⟩ := bnd H16
 refine Tjh (η := (Option Addr × Nat)) (fun h => (fun a2393 c2394 => [(15, .slice a2393 e2398.1.length c2394), (16, .slice a11 e2398.2.length c12)]) h.1 h.2) [6, 12] (fun h => (fun a2393 c2394 => [Ch.arr tyRef09Row 69 a2393 c2394 e2398.1, Ch.arr tyRef09Row 69 a11 c12 e2398.2]) h.1 h.2) [0, 3, 4] (fun _ => []) ?_ ?_
 ·refine Tl ?_
  refine Tq (η := (Option Addr × Nat)) (fun s1608 h => (fun a1602 c1603 => [(15, .slice a1602 s1608.1.length c1603), (16, .slice a11 s1608.2.1.length c12), (18, .int .i64 s1608.2.2)]) h.1 h.2) [1, 2, 3, 4, 6, 12, 17] (fun s1608 h => (fun a1602 c1603 => [Ch.arr tyRef09Row 69 a1602 c1603 s1608.1, Ch.arr tyRef09Row 69 a11 c12 s1608.2.1]) h.1 h.2) [0, 3, 4] (fun _ _ => []) ((some ⟨g3, 0, none⟩), 0) [2, 1, 0, 0, 0] [] H2399 ?_
  rintro k_ s1608 ⟨a1602, c1603⟩ z2402 H2401 hag2403 hbr2404
  refine Ts (Ts ?_)
  obtain ⟨e2408, H2409, H2410⟩ := bnd H2401
  refine Tj0 [(56, .bool e2408)] [1, 2, 3, 4, 6, 12, 15, 16, 17, 18] [] [2, 3, 4, 0, 1] ?_ ?_
  ·refine Tr ?_
   refine Lq 4 ?_
   refine Lw 50 H2409 (fun H2411 => ?_) fun H2411 => ?_
   ·refine Lq 6 ?_
    refine Ln ?_
    obtain rfl := sm H2411
    exact Eg0 [2, 2, 2, 0, 0] 0
   refine Lq 6 ?_
   refine Ln ?_
   obtain rfl := sm H2411
   exact Eg0 [2, 2, 2, 0, 0] 0
  refine Tb H2410 (fun H2413 => ?_) fun H2413 => ?_
  ·refine Tk (Et (Ts ?_))
   obtain ⟨e2930, H2931, H2932⟩ := bnd H2413
   refine Tjh (η := (Option Addr × Nat)) (fun h => (fun a2925 c2926 => [(15, .slice a2925 e2930.1.length c2926), (16, .slice a11 e2930.2.length c12)]) h.1 h.2) [1, 2, 3, 4, 6, 12, 17, 18] (fun h => (fun a2925 c2926 => [Ch.arr tyRef09Row 69 a2925 c2926 e2930.1, Ch.arr tyRef09Row 69 a11 c12 e2930.2]) h.1 h.2) [0, 1, 2] (fun _ => []) ?_ ?_
   ·refine Tl (Ts (Tr ?_))
    refine Lq 1 ?_
    refine Ln (Et ?_)
    refine Tb H2931 (fun H2933 => ?_) fun H2933 => ?_
    ·refine Ts (Tr ?_)
     refine Lq 3 ?_
     obtain ⟨x2934, h2935, H2936⟩ := bnd H2933
     refine L.addro 4 rfl (idx_lt h2935) fun b2937 e2938 => ?_
     subst e2938
     refine Ly (Yl.ia h2935 rfl rfl rfl rfl rfl rfl) ?_
     refine La [4] [] (Ac.lo ((imax 0 (imin top (IntKind.i64.wrap ((g.l.length : Int) - 1)))).toNat) 0 (v := (fun h : (Option Addr × Nat) => (fun a2939 c2940 => .agg #[.slice a2939 x2934.l.length c2940, .bool x2934.wrapped]) h.1 h.2)) (idx_some h2935).2 rfl rfl rfl (fun _ => rfl)) ?_
     rintro ⟨a2939, c2940⟩
     refine La [] [0] (Ac.bs (ty := tyRef09Row) (xs := [x2934]) (.cons (a2939, c2940) [0] rfl .nil) rfl rfl rfl rfl rfl rfl rfl) fun g2942 => ?_
     refine L.frz 0 rfl ?_
     obtain ⟨_, h2945, H2946⟩ := bnd H2936
     refine La [4] [0] (Ac.ap (ty := tyRef09Row) h2945 rfl rfl rfl rfl rfl rfl rfl) ?_
     rintro ⟨a2947, c2948⟩
     refine Lq 1 ?_
     refine Ln (Et (Ts (Ts (Tr ?_))))
     refine Lq 2 ?_
     refine Ln (Et ?_)
     obtain ⟨e3028, H3029, H3030⟩ := bnd H2946
     refine Tj0 [(16, .slice (some ⟨b2937, 0, none⟩) e3028.length c12)] [1, 2, 3, 4, 6, 12, 15, 17, 18] [Ch.arr tyRef09Row 69 (some ⟨b2937, 0, none⟩) c12 e3028] [2, 3, 4, 0] ?_ ?_
     ·refine Tl ?_
      refine Tq (η := Unit) (fun s3003 h => [(16, .slice (some ⟨b2937, 0, none⟩) s3003.1.length c12), (19, .int .i64 s3003.2)]) [1, 2, 3, 4, 6, 12, 15, 17, 18] (fun s3003 h => [Ch.arr tyRef09Row 69 (some ⟨b2937, 0, none⟩) c12 s3003.1]) [2, 3, 4, 0] (fun _ _ => []) () [1, 1, 1, 1, 0] [] H3029 ?_
      rintro k_ s3003 ⟨⟩ z3032 H3031 hag3033 hbr3034
      refine Ts (Ts (Tr ?_))
      refine Lq 3 ?_
      refine Ln (Et ?_)
      refine Tb H3031 (fun H3036 => ?_) fun H3036 => ?_
      ·refine Tk (Et (Ts (Tl (Tr ?_))))
       refine Lq 5 ?_
       obtain ⟨x3047, h3048, H3049⟩ := bnd H3036
       refine Ly (Yl.ia h3048 rfl rfl rfl rfl rfl rfl) ?_
       refine La [0] [] (Ac.lo ((IntKind.i64.wrap (s3003.2 + 1)).toNat) 0 (v := (fun h : (Option Addr × Nat) => (fun a3050 c3051 => .agg #[.slice a3050 x3047.l.length c3051, .bool x3047.wrapped]) h.1 h.2)) (idx_some h3048).2 rfl rfl rfl (fun _ => rfl)) ?_
       rintro ⟨a3050, c3051⟩
       obtain ⟨x3053, h3054, H3055⟩ := bnd H3049
       refine Ly (Yl.ia h3054 rfl rfl rfl rfl rfl rfl) ?_
       refine La [0] [0] (Ac.se 0 x3047 (idx_some h3054).2 rfl rfl rfl rfl rfl rfl (fun _ => ⟨(a3050, c3051), rfl, [1], rfl⟩)) fun _ => ?_
       refine L.sl 16 (k' := (s3003.1.set s3003.2.toNat x3047).length) (List.length_set ..) rfl ?_
       refine Ln (Eb (Et (Tr ?_)))
       refine Lq 3 ?_
       refine Ln ?_
       obtain rfl := sm H3055
       exact Eg (_, ()) (hag3033 _ rfl) [0, 0, 0, 0, 0] [] 1
      refine Tx (Ex (Ex (Eh ?_)))
      obtain rfl := sm H3036
      have hb := hbr3034 _ rfl
      subst e3028
      exact Eg0 [0, 0, 0, 0, 0] 0
     refine Tr ?_
     refine Lq 2 ?_
     refine Lb 1 ?_
     obtain ⟨x3057, h3058, H3059⟩ := bnd H3030
     refine Ly (Yl.ia h3058 rfl rfl rfl rfl rfl rfl) ?_
     refine La [0] [2] (Ac.se 0 r14 (idx_some h3058).2 rfl rfl rfl rfl rfl rfl (fun _ => ⟨(a17, c18), rfl, [1], rfl⟩)) fun _ => ?_
     refine L.sl 16 (k' := (e3028.set ((imax 0 (imin bottom (IntKind.i64.wrap ((g.l.length : Int) - 1)))).toNat) r14).length) (List.length_set ..) rfl ?_
     refine Ln (Eb ?_)
     obtain rfl := sm H3059
     exact Eg (a2947, c2948) trivial [4, 0, 0, 0, 0] [] 2
    refine Ts (Tr ?_)
    refine Lq 3 ?_
    obtain ⟨x3061, h3062, H3063⟩ := bnd H2933
    refine L.addro 4 rfl (idx_lt h3062) fun b3064 e3065 => ?_
    subst e3065
    refine Ly (Yl.ia h3062 rfl rfl rfl rfl rfl rfl) ?_
    refine La [4] [] (Ac.lo ((imax 0 (imin bottom (IntKind.i64.wrap ((g.l.length : Int) - 1)))).toNat) 0 (v := (fun h : (Option Addr × Nat) => (fun a3066 c3067 => .agg #[.slice a3066 x3061.l.length c3067, .bool x3061.wrapped]) h.1 h.2)) (idx_some h3062).2 rfl rfl rfl (fun _ => rfl)) ?_
    rintro ⟨a3066, c3067⟩
    refine La [] [0] (Ac.bs (ty := tyRef09Row) (xs := [x3061]) (.cons (a3066, c3067) [0] rfl .nil) rfl rfl rfl rfl rfl rfl rfl) fun g3069 => ?_
    refine L.frz 0 rfl ?_
    obtain ⟨_, h3072, H3073⟩ := bnd H3063
    refine La [4] [0] (Ac.ap (ty := tyRef09Row) h3072 rfl rfl rfl rfl rfl rfl rfl) ?_
    rintro ⟨a3074, c3075⟩
    refine Lq 1 ?_
    refine Ln (Et (Ts (Ts (Tr ?_))))
    refine Lq 2 ?_
    refine Ln (Et ?_)
    obtain ⟨e3155, H3156, H3157⟩ := bnd H3073
    refine Tj0 [(16, .slice (some ⟨b3064, 0, none⟩) e3155.length c12)] [1, 2, 3, 4, 6, 12, 15, 17, 18] [Ch.arr tyRef09Row 69 (some ⟨b3064, 0, none⟩) c12 e3155] [2, 3, 4, 0] ?_ ?_
    ·refine Tl ?_
     refine Tq (η := Unit) (fun s3130 h => [(16, .slice (some ⟨b3064, 0, none⟩) s3130.1.length c12), (20, .int .i64 s3130.2)]) [1, 2, 3, 4, 6, 12, 15, 17, 18] (fun s3130 h => [Ch.arr tyRef09Row 69 (some ⟨b3064, 0, none⟩) c12 s3130.1]) [2, 3, 4, 0] (fun _ _ => []) () [1, 1, 1, 1, 0] [] H3156 ?_
     rintro k_ s3130 ⟨⟩ z3159 H3158 hag3160 hbr3161
     refine Ts (Ts (Tr ?_))
     refine Lq 3 ?_
     refine Ln (Et ?_)
     refine Tb H3158 (fun H3163 => ?_) fun H3163 => ?_
     ·refine Tk (Et (Ts (Tl (Tr ?_))))
      refine Lq 5 ?_
      obtain ⟨x3174, h3175, H3176⟩ := bnd H3163
      refine Ly (Yl.ia h3175 rfl rfl rfl rfl rfl rfl) ?_
      refine La [0] [] (Ac.lo ((IntKind.i64.wrap (s3130.2 - 1)).toNat) 0 (v := (fun h : (Option Addr × Nat) => (fun a3177 c3178 => .agg #[.slice a3177 x3174.l.length c3178, .bool x3174.wrapped]) h.1 h.2)) (idx_some h3175).2 rfl rfl rfl (fun _ => rfl)) ?_
      rintro ⟨a3177, c3178⟩
      obtain ⟨x3180, h3181, H3182⟩ := bnd H3176
      refine Ly (Yl.ia h3181 rfl rfl rfl rfl rfl rfl) ?_
      refine La [0] [0] (Ac.se 0 x3174 (idx_some h3181).2 rfl rfl rfl rfl rfl rfl (fun _ => ⟨(a3177, c3178), rfl, [1], rfl⟩)) fun _ => ?_
      refine L.sl 16 (k' := (s3130.1.set s3130.2.toNat x3174).length) (List.length_set ..) rfl ?_
      refine Ln (Eb (Et (Tr ?_)))
      refine Lq 3 ?_
      refine Ln ?_
      obtain rfl := sm H3182
      exact Eg (_, ()) (hag3160 _ rfl) [0, 0, 0, 0, 0] [] 1
     refine Tx (Ex (Ex (Eh ?_)))
     obtain rfl := sm H3163
     have hb := hbr3161 _ rfl
     subst e3155
     exact Eg0 [0, 0, 0, 0, 0] 0
    refine Tr ?_
    refine Lq 2 ?_
    refine Lb 1 ?_
    obtain ⟨x3184, h3185, H3186⟩ := bnd H3157
    refine Ly (Yl.ia h3185 rfl rfl rfl rfl rfl rfl) ?_
    refine La [0] [2] (Ac.se 0 r14 (idx_some h3185).2 rfl rfl rfl rfl rfl rfl (fun _ => ⟨(a17, c18), rfl, [1], rfl⟩)) fun _ => ?_
    refine L.sl 16 (k' := (e3155.set ((imax 0 (imin top (IntKind.i64.wrap ((g.l.length : Int) - 1)))).toNat) r14).length) (List.length_set ..) rfl ?_
    refine Ln (Eb ?_)
    obtain rfl := sm H3186
    exact Eg (a3074, c3075) trivial [4, 0, 0, 0, 0] [] 2
   rintro ⟨a2925, c2926⟩
   refine Tr ?_
   refine Lq 3 ?_
   refine Ln ?_
   obtain rfl := sm H2932
   exact Eg (_, (a2925, c2926)) (hag2403 _ rfl) [0, 0, 0, 0, 0] [] 0
  refine Tx (Ex (Ex (Eh ?_)))
  obtain rfl := sm H2413
  have hb := hbr2404 _ rfl
  subst e2398
  exact Eg (a1602, c1603) trivial [3, 3, 0, 0, 0] [] 0
 rintro ⟨a2393, c2394⟩
 refine Ts (Tr ?_)
 refine Lq 1 ?_
 refine Lb 4 ?_
 refine Lq 3 ?_
 refine Lt 3 ?_
 refine Lq 1 ?_
 refine Ln (Et (Tv ?_))
 refine E.frz 2 rfl ?_
 obtain rfl := sm H2400
 exact Eo ((a11, c12), (a2393, c2394)) [1] [0] (.cell 0 rfl rfl rfl (.tmp rfl .nil))

theorem c_ref11_scroll {s_ : Ref11Screen} {n_ : Int} {r : Ref11Screen × (List Ref09Row)} (H : p_ref11_scroll s_ n_ = some r) : CT G 84 [.agg (bx31 s_ A0 C0).toArray, .int .i64 n_] [] [Im.sl tyRef09Row A0 C0 s_.g.l] (fun h : (Option Addr × Nat) × (Option Addr × Nat) => .tuple #[.agg (bx31 r.1 h.1.1 h.1.2).toArray, .slice h.2.1 r.2.length h.2.2]) (fun h => [Ch.arr tyRef09Row 69 h.2.1 h.2.2 r.2]) (fun h => [Im.sl tyRef09Row h.1.1 h.1.2 r.1.g.l]) := by
 delta p_ref11_scroll at H
 refine CT.of Go.Proofs.Tryz.func84 (by kernel_rfl) rfl rfl rfl fun K => ?_
 refine Ts (Tr ?_)
 refine Lx fun g1 => ?_
 refine Ll fun g2 => ?_
 refine Lq 1 ?_
 refine Ln (Et (Ts ?_))
 refine Td [15] [0, 0] mo ?_
 refine Dq 0 ?_
 refine Db 1 1 ?_
 refine Dq 2 ?_
 refine Db 3 1 ?_
 refine Dq 4 ?_
 refine Db 5 1 ?_
 refine Dq 6 ?_
 refine Dq 7 ?_
 refine Db 8 1 ?_
 refine DF.of rfl ?_
 obtain ⟨r42, h43, H44⟩ := bnd H
 refine DF.add _ (FSp.ac 9 [] (Ac.call (c_ref08_Num h43) rfl rfl rfl rfl) rfl rfl rfl rfl rfl) rfl ?_
 refine DF.add _ (FSp.ac 14 [] (Ac.alloc rfl rfl) rfl rfl rfl rfl rfl) rfl ?_
 refine DF.step 10 rfl rfl rfl rfl rfl ?_
 refine DFp.use 1 rfl rfl rfl ?_
 rintro ⟨⟩
 obtain ⟨r46, h47, H48⟩ := bnd H44
 refine DFp.a [] [0] (Ac.call (c_ref10_Move h47) rfl rfl rfl rfl) rfl rfl rfl rfl rfl rfl rfl rfl ?_
 rintro ⟨⟨a49, c50⟩, ⟨a51, c52⟩⟩
 refine DF.add _ (FSp.q 11 rfl rfl rfl rfl rfl) rfl ?_
 refine DF.add _ (FSp.dep 0 rfl rfl fun _ => FSp.q 12 rfl rfl rfl rfl rfl) rfl ?_
 refine DF.add _ (FSp.dep 1 rfl rfl fun _ => FSp.q 13 rfl rfl rfl rfl rfl) rfl ?_
 refine DF.step 15 rfl rfl rfl rfl rfl ?_
 refine DFp.use 1 rfl rfl rfl ?_
 intro _
 refine DFp.use 1 rfl rfl rfl ?_
 intro _
 refine DFp.use 1 rfl rfl rfl ?_
 intro g45
 refine DFp.alf [2] [] (Ac.stb rfl rfl rfl rfl rfl rfl) rfl (fo_cons (FSp.q 13 rfl rfl rfl rfl rfl) (fo_nil)) rfl rfl rfl rfl rfl rfl rfl rfl ?_
 intro _
 refine DF.add _ (FSp.dep 0 rfl rfl fun _ => FSp.q 16 rfl rfl rfl rfl rfl) rfl ?_
 refine DF.fin rfl rfl rfl rfl rfl ?_
 refine DFe.use ?_
 intro _
 refine DFe.use ?_
 intro _
 refine DFe.nil ?_
 refine Et (Ts (Tr ?_))
 refine Lb 0 ?_
 refine Lq 1 ?_
 refine Lt 2 ?_
 refine Ln (Et (Ts (Ts (Tr ?_))))
 refine Lq 1 ?_
 refine Lb 0 ?_
 refine Lq 1 ?_
 refine Ln (Et ?_)
 refine Tb H48 (fun H56 => ?_) fun H56 => ?_
 ·refine Ts (Tr ?_)
  refine Lb 0 ?_
  refine Lt 2 ?_
  refine Lq 1 ?_
  refine Ln (Et (Tv (Er ?_)))
  refine E.nil0 tyRef09Row 69 ?_
  obtain rfl := sm H56
  exact Eo ((a49, c50), (none, 0)) [0] [0] (.cell 1 rfl rfl rfl (.tmp rfl .nil))
 refine Tk (Et (Ts (Tr ?_)))
 refine Lb 0 ?_
 refine Lq 1 ?_
 refine Lt 2 ?_
 refine Lq 1 ?_
 refine Ln (Et (Tv ?_))
 obtain rfl := sm H56
 exact Eo ((a49, c50), (a51, c52)) [3] [0] (.cell 0 rfl rfl rfl (.tmp rfl .nil))

theorem c_ref11_place {s_ : Ref11Screen} {x_ : Int} {y : Int} {r : Ref11Screen} (H : p_ref11_place s_ x_ y = some r) : CT G 37 [.agg (bx31 s_ A0 C0).toArray, .int .i64 x_, .int .i64 y] [] [Im.sl tyRef09Row A0 C0 s_.g.l] (fun _ : Unit => .agg (bx31 r A0 C0).toArray) (fun h => []) (fun h => [Im.sl tyRef09Row A0 C0 r.g.l]) := by
 delta p_ref11_place at H
 refine CT.of Go.Proofs.Tryz.func37 (by kernel_rfl) rfl rfl rfl fun K => ?_
 refine Ts (Tr ?_)
 refine Lx fun g1 => ?_
 refine Ll fun g2 => ?_
 refine Ln (Et (Ts (Tr ?_)))
 refine Lq 3 ?_
 refine Lb 1 ?_
 refine Lq 4 ?_
 refine Lt 1 ?_
 refine Ln (Et (Ts (Tr ?_)))
 refine Lq 3 ?_
 refine Lb 0 ?_
 refine Lq 5 ?_
 refine Lt 0 ?_
 refine Ln (Et (Ts (Tr ?_)))
 refine Lq 1 ?_
 refine Lt 0 ?_
 refine Ln (Et (Ts (Tr ?_)))
 refine Lb 0 ?_
 refine Lt 1 ?_
 refine Ln (Et (Tv ?_))
 obtain rfl := sm H
 exact Eo () [] [0] (.cell 0 rfl rfl rfl .nil)

theorem c_ref11_line {s_ : Ref11Screen} {r : Ref11Screen × (List Ref09Row)} (H : p_ref11_line s_ = some r) : CT G 38 [.agg (bx31 s_ A0 C0).toArray] [] [Im.sl tyRef09Row A0 C0 s_.g.l] (fun h : (Option Addr × Nat) × (Option Addr × Nat) => .tuple #[.agg (bx31 r.1 h.1.1 h.1.2).toArray, .slice h.2.1 r.2.length h.2.2]) (fun h => [Ch.arr tyRef09Row 69 h.2.1 h.2.2 r.2]) (fun h => [Im.sl tyRef09Row h.1.1 h.1.2 r.1.g.l]) := by
 delta p_ref11_line at H
 refine CT.of Go.Proofs.Tryz.func38 (by kernel_rfl) rfl rfl rfl fun K => ?_
 refine Ts (Tr ?_)
 refine Lx fun g1 => ?_
 refine Ll fun g2 => ?_
 refine Lq 1 ?_
 refine Ln (Et (Ts (Tr ?_)))
 refine Lq 1 ?_
 refine Lt 1 ?_
 refine Ln (Et (Ts (Ts (Tr ?_))))
 refine Lq 1 ?_
 refine Lb 0 ?_
 refine Lq 1 ?_
 refine Lb 0 ?_
 refine Lq 1 ?_
 refine Ln (Et ?_)
 refine Tb H (fun H13 => ?_) fun H13 => ?_
 ·refine Ts (Tr ?_)
  refine Lb 0 ?_
  obtain ⟨r14, h15, H16⟩ := bnd H13
  refine Lk [] [0] (c_ref11_scroll h15) fun ⟨⟨a17, c18⟩, ⟨a19, c20⟩⟩ => ?_
  refine Lq 2 ?_
  refine Lt 2 ?_
  refine Lq 1 ?_
  refine Ln (Et (Tv (Er ?_)))
  obtain rfl := sm H16
  exact Eo ((a17, c18), (a19, c20)) [1] [0] (.cell 0 rfl rfl rfl (.tmp rfl .nil))
 refine Tk (Et (Ts (Tr ?_)))
 refine Lb 0 ?_
 refine Lq 1 ?_
 refine Lb 0 ?_
 refine Lq 1 ?_
 refine Lb 0 ?_
 refine Lq 1 ?_
 obtain ⟨r23, h24, H25⟩ := bnd H13
 refine Lk [] [0] (c_ref11_place h24) fun ⟨⟩ => ?_
 refine Lt 1 ?_
 refine Lq 1 ?_
 refine Ln (Et (Tv ?_))
 refine E.nil0 tyRef09Row 69 ?_
 obtain rfl := sm H25
 exact Eo ((A0, C0), (none, 0)) [0] [0] (.cell 1 rfl rfl rfl (.tmp rfl .nil))

theorem c_ref09_Fill {r_ : Ref09Row} {style : Int} {r : Ref09Row} (H : p_ref09_Fill r_ style = some r) : CT G 82 [.agg #[.slice A0 r_.l.length C0, .bool r_.wrapped], .int .i64 style] [] [Im.sl tyRef09Cell A0 C0 r_.l] (fun h : (Option Addr × Nat) => .agg #[.slice h.1 r.l.length h.2, .bool r.wrapped]) (fun h => []) (fun h => [Im.sl tyRef09Cell h.1 h.2 r.l]) := by
 delta p_ref09_Fill at H
 refine CT.of Go.Proofs.Tryz.func82 (by kernel_rfl) rfl rfl rfl fun K => ?_
 refine Ts (Tr ?_)
 refine Lx fun g1 => ?_
 refine Ll fun g2 => ?_
 refine Ln (Et (Ts (Tr ?_)))
 refine La [] [] (Ac.bs (ty := tyRef09Cell) (xs := []) .nil rfl rfl rfl rfl rfl rfl rfl) fun g3 => ?_
 refine Lq 1 ?_
 refine Lb 2 ?_
 obtain ⟨_, h5, H6⟩ := bnd H
 refine La [0] [0] (Ac.ap (ty := tyRef09Cell) h5 rfl rfl rfl rfl rfl rfl rfl) ?_
 rintro ⟨a7, c8⟩
 refine Lq 1 ?_
 refine Ln (Et (Ts (Ts (Tr ?_))))
 refine Lq 3 ?_
 refine Ln (Et ?_)
 obtain ⟨e26, H27, H28⟩ := bnd H6
 refine Tj0 [(5, .slice a7 e26.length c8)] [4] [Ch.arr tyRef09Cell 109 a7 c8 e26] [1, 2] ?_ ?_
 ·refine Tb H27 (fun H29 => ?_) fun H29 => ?_
  ·refine Tr ?_
   refine Lq 6 ?_
   obtain ⟨x30, h31, H32⟩ := bnd H29
   refine L.addro 0 rfl (idx_lt h31) fun b33 e34 => ?_
   subst e34
   refine Ly (Yl.ia h31 rfl rfl rfl rfl rfl rfl) ?_
   refine La [0] [] (Ac.se 0 (Ref09Cell.mk 32 style 3) (idx_some h31).2 rfl rfl rfl rfl rfl rfl (fun _ => ⟨(), rfl, [], rfl⟩)) fun _ => ?_
   refine L.sl 5 (k' := ((([] : List Ref09Cell) ++ r_.l).set ((IntKind.i64.wrap (((([] : List Ref09Cell) ++ r_.l).length : Int) - 1)).toNat) (Ref09Cell.mk 32 style 3)).length) (List.length_set ..) rfl ?_
   refine Ln ?_
   obtain rfl := sm H32
   exact Eg0 [0, 0, 0] 0
  refine Tk ?_
  obtain rfl := sm H29
  exact Eg0 [0, 0, 0] 0
 refine Ts (Tr ?_)
 refine Lq 1 ?_
 refine L.frz 0 rfl ?_
 obtain ⟨r37, h38, H39⟩ := bnd H28
 refine Lk [] [0] (c_ref09_mend h38) fun ⟨a40, c41⟩ => ?_
 refine Ll fun g43 => ?_
 refine Lt 0 ?_
 refine Ln (Et (Ts (Tr ?_)))
 refine Lq 1 ?_
 refine Lt 0 ?_
 refine Ln (Et (Ts (Tr ?_)))
 refine Lb 0 ?_
 refine Lt 1 ?_
 refine Ln (Et (Tv ?_))
 obtain rfl := sm H39
 exact Eo (a40, c41) [] [0] (.cell 0 rfl rfl rfl .nil)

theorem c_ref09_Put {r_ : Ref09Row} {at_ : Int} {x_ : Int} {style : Int} {r : Ref09Row} (H : p_ref09_Put r_ at_ x_ style = some r) : CT G 83 [.agg #[.slice A0 r_.l.length C0, .bool r_.wrapped], .int .i64 at_, .int .i64 x_, .int .i64 style] [] [Im.sl tyRef09Cell A0 C0 r_.l] (fun h : (Option Addr × Nat) => .agg #[.slice h.1 r.l.length h.2, .bool r.wrapped]) (fun h => []) (fun h => [Im.sl tyRef09Cell h.1 h.2 r.l]) := by
 delta p_ref09_Put at H
 refine CT.of Go.Proofs.Tryz.func83 (by kernel_rfl) rfl rfl rfl fun K => ?_
 refine Ts (Tr ?_)
 refine Lx fun g1 => ?_
 refine Ll fun g2 => ?_
 refine Ln (Et (Ts (Tr ?_)))
 refine Lq 1 ?_
 obtain ⟨r3, h4, H5⟩ := bnd H
 refine Lk [] [] (c_ref06_Of h4) fun ⟨⟩ => ?_
 refine Lq 1 ?_
 refine Ln (Et (Ts (Ts ?_)))
 obtain ⟨e11, H12, H13⟩ := bnd H5
 refine Tj0 [(27, .bool e11)] [1, 2, 3, 4, 8, 9] [] [0, 1] ?_ ?_
 ·refine Tr ?_
  refine Lq 3 ?_
  refine Lw 15 H12 (fun H14 => ?_) fun H14 => ?_
  ·refine Lq 12 ?_
   refine Ln ?_
   obtain rfl := sm H14
   exact Eg0 [0, 0] 0
  refine Lq 4 ?_
  refine Lw 19 H14 (fun H15 => ?_) fun H15 => ?_
  ·refine Lq 8 ?_
   refine Ln ?_
   obtain rfl := sm H15
   exact Eg0 [0, 0] 0
  refine Lq 2 ?_
  refine Lb 1 ?_
  refine Lq 5 ?_
  refine Ln ?_
  obtain rfl := sm H15
  exact Eg0 [0, 0] 0
 refine Tb H13 (fun H23 => ?_) fun H23 => ?_
 ·refine Ts (Tr ?_)
  refine Lq 1 ?_
  refine Lb 1 ?_
  obtain ⟨r24, h25, H26⟩ := bnd H23
  refine Lk [] [0] (c_ref09_mend h25) fun ⟨a27, c28⟩ => ?_
  refine Lt 0 ?_
  refine Ln (Et (Tv (Er ?_)))
  obtain rfl := sm H26
  exact Eo (a27, c28) [] [0] (.cell 0 rfl rfl rfl .nil)
 refine Tk (Et (Ts (Tr ?_)))
 refine La [] [] (Ac.bs (ty := tyRef09Cell) (xs := []) .nil rfl rfl rfl rfl rfl rfl rfl) fun g30 => ?_
 refine Lq 1 ?_
 refine Lb 2 ?_
 obtain ⟨_, h32, H33⟩ := bnd H23
 refine La [0] [0] (Ac.ap (ty := tyRef09Cell) h32 rfl rfl rfl rfl rfl rfl rfl) ?_
 rintro ⟨a34, c35⟩
 refine Lq 1 ?_
 refine Ln (Et (Ts (Tr ?_)))
 refine Lq 5 ?_
 obtain ⟨x37, h38, H39⟩ := bnd H33
 refine L.addro 0 rfl (idx_lt h38) fun b40 e41 => ?_
 subst e41
 refine Ly (Yl.ia h38 rfl rfl rfl rfl rfl rfl) ?_
 refine La [0] [] (Ac.se 0 (Ref09Cell.mk x_ style 0) (idx_some h38).2 rfl rfl rfl rfl rfl rfl (fun _ => ⟨(), rfl, [], rfl⟩)) fun _ => ?_
 refine L.sl 10 (k' := ((([] : List Ref09Cell) ++ r_.l).set at_.toNat (Ref09Cell.mk x_ style 0)).length) (List.length_set ..) rfl ?_
 refine Ln (Et (Ts (Ts (Tr ?_))))
 refine Lq 2 ?_
 refine Ln (Et ?_)
 obtain ⟨e111, H112, H113⟩ := bnd H39
 refine Tj0 [(10, .slice (some ⟨b40, 0, none⟩) e111.length c35)] [8] [Ch.arr tyRef09Cell 109 (some ⟨b40, 0, none⟩) c35 e111] [1, 2] ?_ ?_
 ·refine Tb H112 (fun H114 => ?_) fun H114 => ?_
  ·refine Ts (Tr ?_)
   refine Lq 5 ?_
   obtain ⟨x115, h116, H117⟩ := bnd H114
   refine Ly (Yl.ia h116 rfl rfl rfl rfl rfl rfl) ?_
   refine La [0] [] (Ac.se 0 (Ref09Cell.mk x_ style 1) (idx_some h116).2 rfl rfl rfl rfl rfl rfl (fun _ => ⟨(), rfl, [], rfl⟩)) fun _ => ?_
   refine L.sl 10 (k' := (((([] : List Ref09Cell) ++ r_.l).set at_.toNat (Ref09Cell.mk x_ style 0)).set at_.toNat (Ref09Cell.mk x_ style 1)).length) (List.length_set ..) rfl ?_
   refine Ln (Et (Ts (Tr ?_)))
   refine Lq 6 ?_
   obtain ⟨x119, h120, H121⟩ := bnd H117
   refine Ly (Yl.ia h120 rfl rfl rfl rfl rfl rfl) ?_
   refine La [0] [] (Ac.se 0 (Ref09Cell.mk x_ style 2) (idx_some h120).2 rfl rfl rfl rfl rfl rfl (fun _ => ⟨(), rfl, [], rfl⟩)) fun _ => ?_
   refine L.sl 10 (k' := ((((([] : List Ref09Cell) ++ r_.l).set at_.toNat (Ref09Cell.mk x_ style 0)).set at_.toNat (Ref09Cell.mk x_ style 1)).set ((IntKind.i64.wrap (at_ + 1)).toNat) (Ref09Cell.mk x_ style 2)).length) (List.length_set ..) rfl ?_
   refine Ln (Et (Ts ?_))
   obtain ⟨e132, H133, H134⟩ := bnd H121
   refine Tj0 [(66, .bool e132)] [1, 8, 10] [] [1, 2, 0] ?_ ?_
   ·refine Tr ?_
    refine Lq 3 ?_
    refine Lw 58 H133 (fun H135 => ?_) fun H135 => ?_
    ·refine Lq 3 ?_
     obtain ⟨x136, h137, H138⟩ := bnd H135
     refine Ly (Yl.ia h137 rfl rfl rfl rfl rfl rfl) ?_
     refine Lq 1 ?_
     refine Ly (Yl.lo (v := .int .i64 x136.part) 0 ((IntKind.i64.wrap (at_ - 1)).toNat) 2 (idx_some h137).2 rfl rfl rfl rfl (fun _ => rfl)) ?_
     refine Lq 2 ?_
     refine Ln ?_
     obtain rfl := sm H138
     exact Eg0 [1, 1, 0] 0
    refine Lq 8 ?_
    refine Ln ?_
    obtain rfl := sm H135
    exact Eg0 [1, 1, 0] 0
   refine Tb H134 (fun H139 => ?_) fun H139 => ?_
   ·refine Tr ?_
    refine Lq 6 ?_
    obtain ⟨x140, h141, H142⟩ := bnd H139
    refine Ly (Yl.ia h141 rfl rfl rfl rfl rfl rfl) ?_
    refine Lq 1 ?_
    refine Ly (Yl.lo (v := .int .i64 x140.style) 2 ((IntKind.i64.wrap (at_ - 1)).toNat) 1 (idx_some h141).2 rfl rfl rfl rfl (fun _ => rfl)) ?_
    refine Lq 1 ?_
    obtain ⟨x143, h144, H145⟩ := bnd H142
    refine Ly (Yl.ia h144 rfl rfl rfl rfl rfl rfl) ?_
    refine La [2] [] (Ac.se 0 (Ref09Cell.mk 32 x140.style 0) (idx_some h144).2 rfl rfl rfl rfl rfl rfl (fun _ => ⟨(), rfl, [], rfl⟩)) fun _ => ?_
    refine L.sl 10 (k' := (((((([] : List Ref09Cell) ++ r_.l).set at_.toNat (Ref09Cell.mk x_ style 0)).set at_.toNat (Ref09Cell.mk x_ style 1)).set ((IntKind.i64.wrap (at_ + 1)).toNat) (Ref09Cell.mk x_ style 2)).set ((IntKind.i64.wrap (at_ - 1)).toNat) (Ref09Cell.mk 32 x140.style 0)).length) (List.length_set ..) rfl ?_
    refine Ln ?_
    obtain rfl := sm H145
    exact Eg0 [0, 0, 0] 0
   refine Tk ?_
   obtain rfl := sm H139
   exact Eg0 [2, 0, 0] 0
  refine Tk ?_
  obtain rfl := sm H114
  exact Eg0 [0, 0, 0] 0
 refine Ts (Tr ?_)
 refine Lq 1 ?_
 refine L.frz 0 rfl ?_
 obtain ⟨r148, h149, H150⟩ := bnd H113
 refine Lk [] [0] (c_ref09_mend h149) fun ⟨a151, c152⟩ => ?_
 refine Lt 0 ?_
 refine Ln (Et (Tv ?_))
 obtain rfl := sm H150
 exact Eo (a151, c152) [] [0] (.cell 0 rfl rfl rfl .nil)

theorem c_ref11_show {s_ : Ref11Screen} {r_ : Int} {r : Ref11Screen × (List Ref09Row)} (H : p_ref11_show s_ r_ = some r) : CT G 36 [.agg (bx31 s_ A0 C0).toArray, .int .i64 r_] [] [Im.sl tyRef09Row A0 C0 s_.g.l] (fun h : (Option Addr × Nat) × (Option Addr × Nat) => .tuple #[.agg (bx31 r.1 h.1.1 h.1.2).toArray, .slice h.2.1 r.2.length h.2.2]) (fun h => [Ch.arr tyRef09Row 69 h.2.1 h.2.2 r.2]) (fun h => [Im.sl tyRef09Row h.1.1 h.1.2 r.1.g.l]) := by
 delta p_ref11_show at H
 refine CT.of Go.Proofs.Tryz.func36 (by kernel_rfl) rfl rfl rfl fun K => ?_
 refine Ts (Tr ?_)
 refine Lx fun g1 => ?_
 refine Ll fun g2 => ?_
 refine Lq 1 ?_
 refine Ln (Et (Ts (Tr ?_)))
 refine Lq 1 ?_
 obtain ⟨r3, h4, H5⟩ := bnd H
 refine Lk [] [] (c_ref06_Of h4) fun ⟨⟩ => ?_
 refine Lq 1 ?_
 refine Ln (Et (Ts (Ts ?_)))
 obtain ⟨e9, H10, H11⟩ := bnd H5
 refine Tj0 [(24, .bool e9)] [1, 2, 4, 6] [] [0, 1] ?_ ?_
 ·refine Tr ?_
  refine Lq 3 ?_
  refine Lw 18 H10 (fun H12 => ?_) fun H12 => ?_
  ·refine Lq 6 ?_
   refine Ln ?_
   obtain rfl := sm H12
   exact Eg0 [0, 0] 0
  refine Lq 3 ?_
  refine Lb 1 ?_
  refine Lq 2 ?_
  refine Ln ?_
  obtain rfl := sm H12
  exact Eg0 [0, 0] 0
 refine Tb H11 (fun H14 => ?_) fun H14 => ?_
 ·refine Ts (Tr ?_)
  refine Lb 1 ?_
  refine Lt 0 ?_
  refine Lq 1 ?_
  refine Ln (Et (Tv (Er ?_)))
  refine E.nil0 tyRef09Row 69 ?_
  obtain rfl := sm H14
  exact Eo ((A0, C0), (none, 0)) [0] [0] (.cell 1 rfl rfl rfl (.tmp rfl .nil))
 refine Tk (Et (Ts (Tr ?_)))
 refine Lq 1 ?_
 refine Lb 1 ?_
 obtain ⟨r16, h17, H18⟩ := bnd H14
 refine Lk [] [] (c_ref08_Num h17) fun ⟨⟩ => ?_
 refine Lq 1 ?_
 refine Ln (Et (Ts (Tr ?_)))
 refine La [] [] (Ac.bs (ty := tyRef09Row) (xs := []) .nil rfl rfl rfl rfl rfl rfl rfl) fun g19 => ?_
 refine Lq 1 ?_
 refine Ln (Et (Ts (Ts ?_)))
 obtain ⟨e24, H25, H26⟩ := bnd H18
 refine Tj0 [(35, .bool e24)] [1, 2, 4, 6, 7, 8] [] [1, 2, 0] ?_ ?_
 ·refine Tr ?_
  refine Lq 1 ?_
  refine Lb 2 ?_
  refine Lq 1 ?_
  refine Lw 32 H25 (fun H27 => ?_) fun H27 => ?_
  ·refine Lq 1 ?_
   refine Lb 2 ?_
   refine Lq 1 ?_
   refine Ln ?_
   obtain rfl := sm H27
   exact Eg0 [1, 1, 0] 0
  refine Lq 3 ?_
  refine Ln ?_
  obtain rfl := sm H27
  exact Eg0 [1, 1, 0] 0
 obtain ⟨e104, H105, H106⟩ := bnd H26
 refine Tjh (η := (Option Addr × Nat) × (Option Addr × Nat)) (fun h => (fun a97 c98 a101 c102 => [(8, .slice a97 e104.1.length c98)]) h.1.1 h.1.2 h.2.1 h.2.2) [1, 2, 4, 6, 7] (fun h => (fun a97 c98 a101 c102 => [Ch.arr tyRef09Row 69 a97 c98 e104.1, Ch.box g1 31 (bx31 e104.2 a101 c102)]) h.1.1 h.1.2 h.2.1 h.2.2) [0] (fun h => (fun a97 c98 a101 c102 => [Im.sl tyRef09Row a101 c102 e104.2.g.l]) h.1.1 h.1.2 h.2.1 h.2.2) ?_ ?_
 ·refine Tb H105 (fun H107 => ?_) fun H107 => ?_
  ·refine Ts (Tr ?_)
   refine Lq 2 ?_
   refine Lb 1 ?_
   refine Lq 1 ?_
   refine Lb 1 ?_
   obtain ⟨x108, h109, H110⟩ := bnd H107
   refine L.addr 0 rfl (idx_lt h109) fun b111 o112 e113 => ?_
   subst e113
   refine Ly (Yl.ia h109 rfl rfl rfl rfl rfl rfl) ?_
   refine L.el 0 rfl (idx_some h109).2 ?_
   rintro ⟨a114, c115⟩
   refine Lc 0 0 ?_
   refine Ll fun g118 => ?_
   refine Lt 0 ?_
   refine Ln (Et (Ts (Tr ?_)))
   refine Lq 1 ?_
   refine Lt 0 ?_
   refine Ln (Et (Ts (Tr ?_)))
   refine Lb 2 ?_
   refine Lb 0 ?_
   obtain ⟨r119, h120, H121⟩ := bnd H110
   refine Lk [] [2, 1] (c_ref11_set h120) fun ⟨a122, c123⟩ => ?_
   refine Lt 2 ?_
   refine Ln (Et (Ts (Tr ?_)))
   refine Lq 1 ?_
   refine Lt 0 ?_
   refine Ln (Et (Ts (Tr ?_)))
   refine Lb 0 ?_
   obtain ⟨r125, h126, H127⟩ := bnd H121
   refine Lk [] [0] (c_ref11_line h126) fun ⟨⟨a128, c129⟩, ⟨a130, c131⟩⟩ => ?_
   refine Lq 3 ?_
   refine Ll fun g134 => ?_
   refine Lt 0 ?_
   refine Lq 1 ?_
   refine Ln (Et (Ts (Tr ?_)))
   refine Lb 0 ?_
   refine Lt 2 ?_
   refine Ln (Et (Tr ?_))
   refine Lq 2 ?_
   refine L.frz 2 rfl ?_
   obtain ⟨_, h136, H137⟩ := bnd H127
   refine La [4] [0] (Ac.ap (ty := tyRef09Row) h136 rfl rfl rfl rfl rfl rfl rfl) ?_
   rintro ⟨a138, c139⟩
   refine Lq 1 ?_
   refine Ln ?_
   obtain rfl := sm H137
   exact Eg ((a138, c139), (a128, c129)) trivial [0, 0, 2] [1] 5
  refine Tk ?_
  obtain rfl := sm H107
  exact Eg (((some ⟨g19, 0, none⟩), 0), (A0, C0)) trivial [2, 1, 0] [0] 0
 rintro ⟨⟨a97, c98⟩, ⟨a101, c102⟩⟩
 refine Ts (Ts ?_)
 obtain ⟨e144, H145, H146⟩ := bnd H106
 refine Tj0 [(67, .bool e144)] [1, 2, 4, 6, 7, 8] [] [1, 2, 0] ?_ ?_
 ·refine Tr ?_
  refine Lq 3 ?_
  refine Lw 59 H145 (fun H147 => ?_) fun H147 => ?_
  ·refine Lq 1 ?_
   refine Lb 1 ?_
   refine Lq 2 ?_
   refine Lb 1 ?_
   refine Lq 3 ?_
   refine Ln ?_
   obtain rfl := sm H147
   exact Eg0 [1, 1, 0] 0
  refine Lq 8 ?_
  refine Ln ?_
  obtain rfl := sm H147
  exact Eg0 [1, 1, 0] 0
 obtain ⟨e368, H369, H370⟩ := bnd H146
 refine Tjh (η := (Option Addr × Nat) × (Option Addr × Nat)) (fun h => (fun a361 c362 a365 c366 => [(8, .slice a361 e368.1.length c362)]) h.1.1 h.1.2 h.2.1 h.2.2) [1, 2, 4, 6, 7] (fun h => (fun a361 c362 a365 c366 => [Ch.arr tyRef09Row 69 a361 c362 e368.1, Ch.box g1 31 (bx31 e368.2 a365 c366)]) h.1.1 h.1.2 h.2.1 h.2.2) [1] (fun h => (fun a361 c362 a365 c366 => [Im.sl tyRef09Row a365 c366 e368.2.g.l]) h.1.1 h.1.2 h.2.1 h.2.2) ?_ ?_
 ·refine Tb H369 (fun H371 => ?_) fun H371 => ?_
  ·refine Ts (Tr ?_)
   refine Lq 1 ?_
   refine Lb 0 ?_
   refine Ln (Et ?_)
   refine Tb H371 (fun H372 => ?_) fun H372 => ?_
   ·refine Ts ?_
    refine Td [11] [0, 0, 0] mo ?_
    refine Db 0 0 ?_
    refine Dq 1 ?_
    refine Dq 2 ?_
    refine Db 3 0 ?_
    refine Dq 4 ?_
    refine Db 5 0 ?_
    obtain ⟨x439, h440, H441⟩ := bnd H372
    refine D.addr 0 rfl (idx_lt h440) fun b442 o443 e444 => ?_
    subst e444
    refine Dy 6 (Yl.ia h440 rfl rfl rfl rfl rfl rfl) ?_
    refine D.el 0 rfl (idx_some h440).2 ?_
    rintro ⟨a445, c446⟩
    refine Dy 7 (Yl.ldc 0 0 rfl rfl rfl rfl) ?_
    refine Dq 8 ?_
    obtain ⟨r449, h450, H451⟩ := bnd H441
    refine Dk [] [1] (c_ref09_Fill h450) fun ⟨a452, c453⟩ => ?_
    obtain ⟨r455, h456, H457⟩ := bnd H451
    refine Dk [] [3, 0] (c_ref11_set h456) fun ⟨a458, c459⟩ => ?_
    refine Dt 0 ?_
    refine Dn ?_
    refine Et (Ts (Tr ?_))
    refine Lq 1 ?_
    refine Lt 0 ?_
    refine Ln (Et (Ts (Tr ?_)))
    refine Lb 0 ?_
    obtain ⟨r461, h462, H463⟩ := bnd H457
    refine Lk [] [0] (c_ref11_line h462) fun ⟨⟨a464, c465⟩, ⟨a466, c467⟩⟩ => ?_
    refine Lq 3 ?_
    refine Ll fun g470 => ?_
    refine Lt 0 ?_
    refine Lq 1 ?_
    refine Ln (Et (Ts (Tr ?_)))
    refine Lb 0 ?_
    refine Lt 2 ?_
    refine Ln (Et (Tr ?_))
    refine Lq 2 ?_
    refine L.frz 2 rfl ?_
    obtain ⟨_, h472, H473⟩ := bnd H463
    refine La [3] [0] (Ac.ap (ty := tyRef09Row) h472 rfl rfl rfl rfl rfl rfl rfl) ?_
    rintro ⟨a474, c475⟩
    refine Lq 1 ?_
    refine Ln ?_
    obtain rfl := sm H473
    exact Eg ((a474, c475), (a464, c465)) trivial [0, 0, 1] [1] 6
   refine Tr ?_
   refine Lq 1 ?_
   refine Lb 0 ?_
   refine Lq 2 ?_
   refine Lt 0 ?_
   refine Ln ?_
   obtain rfl := sm H372
   exact Eg ((a97, c98), (a101, c102)) trivial [2, 0, 0] [0] 0
  refine Tk ?_
  obtain rfl := sm H371
  exact Eg ((a97, c98), (a101, c102)) trivial [2, 0, 0] [0] 0
 rintro ⟨⟨a361, c362⟩, ⟨a365, c366⟩⟩
 refine Ts ?_
 refine Td [14] [0, 0, 0] mo ?_
 refine Db 0 1 ?_
 refine Dq 1 ?_
 refine Dq 2 ?_
 refine Db 3 1 ?_
 refine Dq 4 ?_
 refine Db 5 1 ?_
 obtain ⟨x543, h544, H545⟩ := bnd H370
 refine D.addr 0 rfl (idx_lt h544) fun b546 o547 e548 => ?_
 subst e548
 refine Dy 6 (Yl.ia h544 rfl rfl rfl rfl rfl rfl) ?_
 refine D.el 0 rfl (idx_some h544).2 ?_
 rintro ⟨a549, c550⟩
 refine Dy 7 (Yl.ldc 0 0 rfl rfl rfl rfl) ?_
 refine Dq 8 ?_
 refine Db 9 1 ?_
 refine Dq 10 ?_
 refine Dq 11 ?_
 obtain ⟨r553, h554, H555⟩ := bnd H545
 refine Dk [] [1] (c_ref09_Put h554) fun ⟨a556, c557⟩ => ?_
 obtain ⟨r559, h560, H561⟩ := bnd H555
 refine Dk [] [3, 0] (c_ref11_set h560) fun ⟨a562, c563⟩ => ?_
 refine Dt 1 ?_
 refine Dn ?_
 refine Et (Ts (Tr ?_))
 refine Lq 1 ?_
 refine Lb 0 ?_
 refine Lq 3 ?_
 refine Lt 0 ?_
 refine Ln (Et (Ts (Tr ?_)))
 refine Lq 1 ?_
 refine Lb 0 ?_
 refine Lq 2 ?_
 refine Lb 0 ?_
 refine Lq 2 ?_
 refine Lt 0 ?_
 refine Ln (Et (Ts (Ts (Tr ?_))))
 refine Lq 1 ?_
 refine Lb 0 ?_
 refine Ln (Et ?_)
 obtain ⟨e569, H570, H571⟩ := bnd H561
 refine Tjh (η := Unit) (fun _ => []) [2, 4, 8] (fun h => [Ch.box g1 31 (bx31 e569 a562 c563)]) [2, 1] (fun h => [Im.sl tyRef09Row a562 c563 e569.g.l]) ?_ ?_
 ·refine Tb H570 (fun H572 => ?_) fun H572 => ?_
  ·refine Tr ?_
   refine Lq 1 ?_
   refine Lb 0 ?_
   refine Lq 2 ?_
   refine Lt 0 ?_
   refine Ln ?_
   obtain rfl := sm H572
   exact Eg () trivial [0, 1, 0] [0] 0
  refine Tk ?_
  obtain rfl := sm H572
  exact Eg () trivial [0, 1, 0] [0] 0
 rintro ⟨⟩
 refine Ts (Tr ?_)
 refine Lb 0 ?_
 refine Lq 1 ?_
 refine Lt 1 ?_
 refine Lq 1 ?_
 refine Ln (Et (Tv ?_))
 obtain rfl := sm H571
 exact Eo ((a562, c563), (a361, c362)) [2] [0] (.cell 0 rfl rfl rfl (.tmp rfl .nil))

theorem c_ref11_num {l : List Int} {i : Int} {d : Int} {r : Int} (H : p_ref11_num l i d = some r) : CT G 42 [.slice A0 l.length C0, .int .i64 i, .int .i64 d] [] [Im.sl (Ty.int .i64) A0 C0 l] (fun _ : Unit => .int .i64 r) (fun h => []) (fun h => []) := by
 delta p_ref11_num at H
 refine CT.of Go.Proofs.Tryz.func42 (by kernel_rfl) rfl rfl rfl fun K => ?_
 refine Ts (Tr ?_)
 refine Lq 1 ?_
 refine Ln (Et (Ts (Ts ?_)))
 obtain ⟨e18, H19, H20⟩ := bnd H
 refine Tj0 [(17, .bool e18)] [0, 1, 2] [] [] ?_ ?_
 ·refine Tr ?_
  refine Lq 5 ?_
  refine Lw 11 H19 (fun H21 => ?_) fun H21 => ?_
  ·refine Lq 2 ?_
   obtain ⟨x22, h23, H24⟩ := bnd H21
   refine L.addr 0 rfl (idx_lt h23) fun b25 o26 e27 => ?_
   subst e27
   refine Ly (Yl.ia h23 rfl rfl rfl rfl rfl rfl) ?_
   refine L.el 0 rfl (idx_some h23).2 ?_
   rintro _
   refine Lc 0 0 ?_
   refine Lq 2 ?_
   refine Ln ?_
   obtain rfl := sm H24
   exact Eg0 [] 1
  refine Lq 6 ?_
  refine Ln ?_
  obtain rfl := sm H21
  exact Eg0 [] 0
 refine Tb H20 (fun H37 => ?_) fun H37 => ?_
 ·refine Ts (Tr ?_)
  refine Lq 2 ?_
  obtain ⟨x38, h39, H40⟩ := bnd H37
  refine L.addr 0 rfl (idx_lt h39) fun b41 o42 e43 => ?_
  subst e43
  refine Ly (Yl.ia h39 rfl rfl rfl rfl rfl rfl) ?_
  refine L.el 0 rfl (idx_some h39).2 ?_
  rintro _
  refine Lc 0 0 ?_
  refine Lq 2 ?_
  refine Ln (Et (Tv (Er ?_)))
  obtain rfl := sm H40
  exact Eo1 () [] []
 refine Tk (Et (Ts (Tr ?_)))
 refine Lq 2 ?_
 refine Ln (Et (Tv ?_))
 obtain rfl := sm H37
 exact Eo1 () [] []

theorem c_ref09_Erase {r_ : Ref09Row} {from_ : Int} {to : Int} {style : Int} {r : Ref09Row} (H : p_ref09_Erase r_ from_ to style = some r) : CT G 122 [.agg #[.slice A0 r_.l.length C0, .bool r_.wrapped], .int .i64 from_, .int .i64 to, .int .i64 style] [] [Im.sl tyRef09Cell A0 C0 r_.l] (fun h : (Option Addr × Nat) => .agg #[.slice h.1 r.l.length h.2, .bool r.wrapped]) (fun h => []) (fun h => [Im.sl tyRef09Cell h.1 h.2 r.l]) := by
 delta p_ref09_Erase at H
 refine CT.of Go.Proofs.Tryz.func122 (by kernel_rfl) rfl rfl rfl fun K => ?_
 refine Ts (Tr ?_)
 refine Lx fun g1 => ?_
 refine Ll fun g2 => ?_
 refine Ln (Et (Ts (Tr ?_)))
 refine La [] [] (Ac.bs (ty := tyRef09Cell) (xs := []) .nil rfl rfl rfl rfl rfl rfl rfl) fun g3 => ?_
 refine Lq 1 ?_
 refine Lb 2 ?_
 obtain ⟨_, h5, H6⟩ := bnd H
 refine La [0] [0] (Ac.ap (ty := tyRef09Cell) h5 rfl rfl rfl rfl rfl rfl rfl) ?_
 rintro ⟨a7, c8⟩
 refine Lq 1 ?_
 refine Ln (Et (Ts (Ts (Tr ?_))))
 refine Lq 3 ?_
 refine Ln (Et ?_)
 obtain ⟨e169, H170, H171⟩ := bnd H6
 refine Tj0 [(9, .slice a7 e169.length c8)] [8] [Ch.arr tyRef09Cell 109 a7 c8 e169] [1, 2] ?_ ?_
 ·refine Tl ?_
  refine Tq (η := Unit) (fun s117 h => [(9, .slice a7 s117.2.length c8), (17, .int .i64 s117.1)]) [1, 2, 3, 8, 16] (fun s117 h => [Ch.arr tyRef09Cell 109 a7 c8 s117.2]) [1, 2] (fun _ _ => []) () [0, 0, 0] [] H170 ?_
  rintro k_ s117 ⟨⟩ z173 H172 hag174 hbr175
  refine Ts (Tr ?_)
  refine Lq 1 ?_
  refine Ln (Et (Ts ?_))
  refine Tb H172 (fun H177 => ?_) fun H177 => ?_
  ·refine Tk (Et (Ts ?_))
   obtain ⟨e208, H209, H210⟩ := bnd H177
   refine Tj0 [(9, .slice a7 e208.length c8)] [1, 2, 3, 8, 16, 17] [Ch.arr tyRef09Cell 109 a7 c8 e208] [1, 2] ?_ ?_
   ·refine Tl (Ts (Tr ?_))
    refine Lq 2 ?_
    refine Ln (Et (Ts ?_))
    obtain ⟨e214, H215, H216⟩ := bnd H209
    refine Tj0 [(27, .bool e214)] [1, 2, 3, 8, 9, 10, 16, 17] [] [1, 2, 0] ?_ ?_
    ·refine Tr ?_
     refine Lq 4 ?_
     refine Lw 23 H215 (fun H217 => ?_) fun H217 => ?_
     ·refine Lq 4 ?_
      refine Ln ?_
      obtain rfl := sm H217
      exact Eg0 [1, 1, 0] 0
     refine Lq 4 ?_
     refine Ln ?_
     obtain rfl := sm H217
     exact Eg0 [1, 1, 0] 0
    refine Tb H216 (fun H218 => ?_) fun H218 => ?_
    ·refine Tr ?_
     refine Lq 4 ?_
     obtain ⟨x219, h220, H221⟩ := bnd H218
     refine L.addro 2 rfl (idx_lt h220) fun b222 e223 => ?_
     subst e223
     refine Ly (Yl.ia h220 rfl rfl rfl rfl rfl rfl) ?_
     refine La [2] [] (Ac.se 0 (Ref09Cell.mk 32 style 0) (idx_some h220).2 rfl rfl rfl rfl rfl rfl (fun _ => ⟨(), rfl, [], rfl⟩)) fun _ => ?_
     refine L.sl 9 (k' := (s117.2.set s117.1.toNat (Ref09Cell.mk 32 style 0)).length) (List.length_set ..) rfl ?_
     refine Ln (Eb ?_)
     obtain rfl := sm H221
     exact Eg0 [0, 0, 0] 0
    refine Tk (Eb ?_)
    obtain rfl := sm H218
    exact Eg0 [2, 0, 0] 0
   refine Tr ?_
   refine Lq 2 ?_
   refine Ln ?_
   obtain rfl := sm H210
   exact Eg (_, ()) (hag174 _ rfl) [0, 0, 0] [] 0
  refine Tx (Ex (Ex (Eh ?_)))
  obtain rfl := sm H177
  have hb := hbr175 _ rfl
  subst e169
  exact Eg0 [0, 0, 0] 0
 refine Ts (Tr ?_)
 refine Lq 1 ?_
 refine L.frz 0 rfl ?_
 obtain ⟨r226, h227, H228⟩ := bnd H171
 refine Lk [] [0] (c_ref09_mend h227) fun ⟨a229, c230⟩ => ?_
 refine Lt 0 ?_
 refine Ln (Et (Tv ?_))
 obtain rfl := sm H228
 exact Eo (a229, c230) [] [0] (.cell 0 rfl rfl rfl .nil)

theorem c_ref11_erase {s_ : Ref11Screen} {y : Int} {from_ : Int} {to : Int} {r : Ref11Screen} (H : p_ref11_erase s_ y from_ to = some r) : CT G 87 [.agg (bx31 s_ A0 C0).toArray, .int .i64 y, .int .i64 from_, .int .i64 to] [] [Im.sl tyRef09Row A0 C0 s_.g.l] (fun h : (Option Addr × Nat) => .agg (bx31 r h.1 h.2).toArray) (fun h => []) (fun h => [Im.sl tyRef09Row h.1 h.2 r.g.l]) := by
 delta p_ref11_erase at H
 refine CT.of Go.Proofs.Tryz.func87 (by kernel_rfl) rfl rfl rfl fun K => ?_
 refine Ts (Tr ?_)
 refine Lx fun g1 => ?_
 refine Ll fun g2 => ?_
 refine Ln (Et (Ts ?_))
 refine Td [20] [0, 0] mo ?_
 refine Dq 0 ?_
 refine Db 1 1 ?_
 refine Dq 2 ?_
 refine Dq 3 ?_
 refine Dq 4 ?_
 refine Db 5 1 ?_
 refine Dq 6 ?_
 obtain ⟨x78, h79, H80⟩ := bnd H
 refine D.addr 0 rfl (idx_lt h79) fun b81 o82 e83 => ?_
 subst e83
 refine Dy 7 (Yl.ia h79 rfl rfl rfl rfl rfl rfl) ?_
 refine D.el 0 rfl (idx_some h79).2 ?_
 rintro ⟨a84, c85⟩
 refine Dy 8 (Yl.ldc 0 0 rfl rfl rfl rfl) ?_
 refine Dq 9 ?_
 refine Dq 10 ?_
 refine Dq 11 ?_
 refine Db 12 1 ?_
 obtain ⟨r88, h89, H90⟩ := bnd H80
 refine Dk [] [] (c_ref08_Num h89) fun ⟨⟩ => ?_
 obtain ⟨r91, h92, H93⟩ := bnd H90
 refine Dk [] [1] (c_ref09_Erase h92) fun ⟨a94, c95⟩ => ?_
 obtain ⟨r97, h98, H99⟩ := bnd H93
 refine Dk [] [3, 0] (c_ref10_Set h98) fun ⟨a100, c101⟩ => ?_
 refine Dq 16 ?_
 refine Dq 17 ?_
 refine Dq 18 ?_
 refine Dq 19 ?_
 refine Dt 1 ?_
 refine Dn ?_
 refine Et (Ts (Tr ?_))
 refine Lb 0 ?_
 refine Lt 1 ?_
 refine Ln (Et (Tv ?_))
 obtain rfl := sm H99
 exact Eo (a100, c101) [] [0] (.cell 0 rfl rfl rfl .nil)

theorem c_ref11_clear {s_ : Ref11Screen} {n_ : Int} {all : Bool} {r : Ref11Screen} (H : p_ref11_clear s_ n_ all = some r) : CT G 86 [.agg (bx31 s_ A0 C0).toArray, .int .i64 n_, .bool all] [] [Im.sl tyRef09Row A0 C0 s_.g.l] (fun h : (Option Addr × Nat) => .agg (bx31 r h.1 h.2).toArray) (fun h => []) (fun h => [Im.sl tyRef09Row h.1 h.2 r.g.l]) := by
 delta p_ref11_clear at H
 refine CT.of Go.Proofs.Tryz.func86 (by kernel_rfl) rfl rfl rfl fun K => ?_
 refine Ts (Tr ?_)
 refine Lx fun g1 => ?_
 refine Ll fun g2 => ?_
 refine Ln (Et (Ts (Ts (Tr ?_))))
 refine Lq 2 ?_
 refine Ln (Et ?_)
 refine Tb H (fun H4 => ?_) fun H4 => ?_
 ·refine Ts (Tr ?_)
  refine Lb 1 ?_
  refine Lt 0 ?_
  refine Ln (Et (Tv (Er ?_)))
  obtain rfl := sm H4
  exact Eo (A0, C0) [] [0] (.cell 0 rfl rfl rfl .nil)
 refine Tk (Et (Ts (Ts (Tr ?_))))
 refine Lq 2 ?_
 refine Lb 1 ?_
 refine Lq 2 ?_
 refine Ln (Et ?_)
 obtain ⟨e286, H287, H288⟩ := bnd H4
 refine Tjh (η := (Option Addr × Nat)) (fun _ => []) [1, 3, 6] (fun h => (fun a283 c284 => [Ch.box g1 31 (bx31 e286 a283 c284)]) h.1 h.2) [0] (fun h => (fun a283 c284 => [Im.sl tyRef09Row a283 c284 e286.g.l]) h.1 h.2) ?_ ?_
 ·refine Tl ?_
  refine Tq (η := (Option Addr × Nat)) (fun s194 h => (fun a190 c191 => [(17, .int .i64 s194.2)]) h.1 h.2) [1, 2, 3, 6, 16] (fun s194 h => (fun a190 c191 => [Ch.box g1 31 (bx31 s194.1 a190 c191)]) h.1 h.2) [0] (fun s194 h => (fun a190 c191 => [Im.sl tyRef09Row a190 c191 s194.1.g.l]) h.1 h.2) (A0, C0) [1, 0] [0] H287 ?_
  rintro k_ s194 ⟨a190, c191⟩ z290 H289 hag291 hbr292
  refine Ts (Tr ?_)
  refine Lq 1 ?_
  refine Ln (Et (Ts ?_))
  refine Tb H289 (fun H294 => ?_) fun H294 => ?_
  ·refine Tk (Et (Ts ?_))
   obtain ⟨e351, H352, H353⟩ := bnd H294
   refine Tjh (η := (Option Addr × Nat)) (fun _ => []) [1, 2, 3, 6, 16, 17] (fun h => (fun a348 c349 => [Ch.box g1 31 (bx31 e351 a348 c349)]) h.1 h.2) [1] (fun h => (fun a348 c349 => [Im.sl tyRef09Row a348 c349 e351.g.l]) h.1 h.2) ?_ ?_
   ·refine Tl (Ts (Tr ?_))
    refine Lq 2 ?_
    refine Ln (Et (Ts ?_))
    obtain ⟨e365, H366, H367⟩ := bnd H352
    refine Tj0 [(40, .bool e365)] [1, 2, 3, 6, 7, 16, 17] [] [0, 1] ?_ ?_
    ·refine Tr ?_
     refine Lq 2 ?_
     refine Lw 21 H366 (fun H368 => ?_) fun H368 => ?_
     ·refine Lq 2 ?_
      refine Lb 0 ?_
      refine Lq 2 ?_
      refine Lw 26 H368 (fun H369 => ?_) fun H369 => ?_
      ·refine Lq 4 ?_
       refine Lw 30 H369 (fun H370 => ?_) fun H370 => ?_
       ·refine Lq 10 ?_
        refine Ln ?_
        obtain rfl := sm H370
        exact Eg0 [0, 0] 0
       refine Lq 2 ?_
       refine Lb 0 ?_
       refine Lq 2 ?_
       refine Lw 35 H370 (fun H371 => ?_) fun H371 => ?_
       ·refine Lq 5 ?_
        refine Ln ?_
        obtain rfl := sm H371
        exact Eg0 [0, 0] 0
       refine Lq 5 ?_
       refine Ln ?_
       obtain rfl := sm H371
       exact Eg0 [0, 0] 0
      refine Lq 6 ?_
      refine Lb 0 ?_
      refine Lq 2 ?_
      refine Lw 35 H369 (fun H372 => ?_) fun H372 => ?_
      ·refine Lq 5 ?_
       refine Ln ?_
       obtain rfl := sm H372
       exact Eg0 [0, 0] 0
      refine Lq 5 ?_
      refine Ln ?_
      obtain rfl := sm H372
      exact Eg0 [0, 0] 0
     refine Lq 19 ?_
     refine Ln ?_
     obtain rfl := sm H368
     exact Eg0 [0, 0] 0
    refine Tb H367 (fun H373 => ?_) fun H373 => ?_
    ·refine Tr ?_
     refine Lb 0 ?_
     refine Lq 3 ?_
     refine Lb 0 ?_
     obtain ⟨r374, h375, H376⟩ := bnd H373
     refine Lk [] [0] (c_ref11_erase h375) fun ⟨a377, c378⟩ => ?_
     refine Lt 0 ?_
     refine Ln (Eb ?_)
     obtain rfl := sm H376
     exact Eg (a377, c378) trivial [0, 0] [0] 1
    refine Tk (Eb ?_)
    obtain rfl := sm H373
    exact Eg (a190, c191) trivial [0, 0] [0] 0
   rintro ⟨a348, c349⟩
   refine Tr ?_
   refine Lq 2 ?_
   refine Ln ?_
   obtain rfl := sm H353
   exact Eg (_, (a348, c349)) (hag291 _ rfl) [0, 0] [0] 2
  refine Tx (Ex (Ex (Eh ?_)))
  obtain rfl := sm H294
  have hb := hbr292 _ rfl
  subst e286
  exact Eg (a190, c191) trivial [0, 0] [0] 1
 rintro ⟨a283, c284⟩
 refine Ts (Tr ?_)
 refine Lq 1 ?_
 refine Ln (Et (Ts (Tr ?_)))
 refine Lq 2 ?_
 refine Lb 0 ?_
 refine Lq 1 ?_
 refine Ln (Et (Ts (Ts (Tr ?_))))
 refine Lq 2 ?_
 refine Ln (Et ?_)
 obtain ⟨e383, H384, H385⟩ := bnd H288
 refine Tj0 [(8, .int .i64 e383)] [1, 3, 6, 9] [] [0, 1] ?_ ?_
 ·refine Tb H384 (fun H386 => ?_) fun H386 => ?_
  ·refine Tr ?_
   refine Lq 1 ?_
   refine Lb 0 ?_
   refine Lq 1 ?_
   refine Ln ?_
   obtain rfl := sm H386
   exact Eg0 [0, 0] 0
  refine Tk ?_
  obtain rfl := sm H386
  exact Eg0 [0, 0] 0
 refine Ts (Ts (Tr ?_))
 refine Lq 2 ?_
 refine Ln (Et ?_)
 obtain ⟨e390, H391, H392⟩ := bnd H385
 refine Tj0 [(9, .int .i64 e390)] [3, 6, 8] [] [0, 1] ?_ ?_
 ·refine Tb H391 (fun H393 => ?_) fun H393 => ?_
  ·refine Tr ?_
   refine Lq 1 ?_
   refine Lb 0 ?_
   refine Lq 2 ?_
   refine Ln ?_
   obtain rfl := sm H393
   exact Eg0 [0, 0] 0
  refine Tk ?_
  obtain rfl := sm H393
  exact Eg0 [0, 0] 0
 refine Ts (Tr ?_)
 refine Lb 0 ?_
 refine Lq 1 ?_
 refine Lb 0 ?_
 refine Lq 2 ?_
 obtain ⟨r394, h395, H396⟩ := bnd H392
 refine Lk [] [0] (c_ref11_erase h395) fun ⟨a397, c398⟩ => ?_
 refine Lt 0 ?_
 refine Ln (Et (Ts (Tr ?_)))
 refine Lq 1 ?_
 refine Lt 0 ?_
 refine Ln (Et (Ts (Tr ?_)))
 refine Lb 0 ?_
 refine Lt 1 ?_
 refine Ln (Et (Tv ?_))
 obtain rfl := sm H396
 exact Eo (a397, c398) [] [0] (.cell 0 rfl rfl rfl .nil)

theorem c_ref09_Insert {r_ : Ref09Row} {at_ : Int} {n_ : Int} {style : Int} {r : Ref09Row} (H : p_ref09_Insert r_ at_ n_ style = some r) : CT G 88 [.agg #[.slice A0 r_.l.length C0, .bool r_.wrapped], .int .i64 at_, .int .i64 n_, .int .i64 style] [] [Im.sl tyRef09Cell A0 C0 r_.l] (fun h : (Option Addr × Nat) => .agg #[.slice h.1 r.l.length h.2, .bool r.wrapped]) (fun h => []) (fun h => [Im.sl tyRef09Cell h.1 h.2 r.l]) := by
 delta p_ref09_Insert at H
 refine CT.of Go.Proofs.Tryz.func88 (by kernel_rfl) rfl rfl rfl fun K => ?_
 refine Ts (Tr ?_)
 refine Lx fun g1 => ?_
 refine Ll fun g2 => ?_
 refine Ln (Et (Ts (Ts ?_)))
 obtain ⟨e8, H9, H10⟩ := bnd H
 refine Tj0 [(22, .bool e8)] [1, 2, 3, 4, 8] [] [0, 1] ?_ ?_
 ·refine Tr ?_
  refine Lq 3 ?_
  refine Lw 12 H9 (fun H11 => ?_) fun H11 => ?_
  ·refine Lq 10 ?_
   refine Ln ?_
   obtain rfl := sm H11
   exact Eg0 [0, 0] 0
  refine Lq 2 ?_
  refine Lb 1 ?_
  refine Lq 4 ?_
  refine Lw 19 H11 (fun H12 => ?_) fun H12 => ?_
  ·refine Lq 3 ?_
   refine Ln ?_
   obtain rfl := sm H12
   exact Eg0 [0, 0] 0
  refine Lq 3 ?_
  refine Ln ?_
  obtain rfl := sm H12
  exact Eg0 [0, 0] 0
 refine Tb H10 (fun H20 => ?_) fun H20 => ?_
 ·refine Ts (Tr ?_)
  refine Lq 1 ?_
  refine Lb 1 ?_
  obtain ⟨r21, h22, H23⟩ := bnd H20
  refine Lk [] [0] (c_ref09_mend h22) fun ⟨a24, c25⟩ => ?_
  refine Lt 0 ?_
  refine Ln (Et (Tv (Er ?_)))
  obtain rfl := sm H23
  exact Eo (a24, c25) [] [0] (.cell 0 rfl rfl rfl .nil)
 refine Tk (Et (Ts (Tr ?_)))
 refine Lq 2 ?_
 refine Lb 1 ?_
 refine Lq 5 ?_
 refine Ln (Et (Ts (Tr ?_)))
 refine La [] [] (Ac.bs (ty := tyRef09Cell) (xs := []) .nil rfl rfl rfl rfl rfl rfl rfl) fun g27 => ?_
 refine Lq 1 ?_
 refine Lb 2 ?_
 refine Lq 1 ?_
 obtain ⟨_, h29, H30⟩ := bnd H20
 refine L.rs 0 h29 rfl rfl rfl rfl rfl rfl rfl rfl rfl rfl rfl rfl ?_
 intro a31 c32
 obtain ⟨_, h34, H35⟩ := bnd H30
 refine La [0] [0] (Ac.ap (ty := tyRef09Cell) h34 rfl rfl rfl rfl rfl rfl rfl) ?_
 rintro ⟨a36, c37⟩
 refine Lq 1 ?_
 refine Ln (Et (Ts (Tr ?_)))
 refine Lq 3 ?_
 obtain ⟨r39, h40, H41⟩ := bnd H35
 refine Lk [] [] (c_ref09_Blank h40) fun ⟨a42, c43⟩ => ?_
 refine Lq 1 ?_
 obtain ⟨_, h45, H46⟩ := bnd H41
 refine La [0] [0] (Ac.ap (ty := tyRef09Cell) h45 rfl rfl rfl rfl rfl rfl rfl) ?_
 rintro ⟨a47, c48⟩
 refine Lq 1 ?_
 refine Ln (Et (Ts (Tr ?_)))
 refine Lq 2 ?_
 refine Lb 2 ?_
 refine Lq 2 ?_
 refine Lb 2 ?_
 refine Lq 3 ?_
 obtain ⟨_, h50, H51⟩ := bnd H46
 refine L.rs 2 h50 rfl rfl rfl rfl rfl rfl rfl rfl rfl rfl rfl rfl ?_
 intro a52 c53
 obtain ⟨_, h55, H56⟩ := bnd H51
 refine La [0] [0] (Ac.ap (ty := tyRef09Cell) h55 rfl rfl rfl rfl rfl rfl rfl) ?_
 rintro ⟨a57, c58⟩
 refine Lq 1 ?_
 refine Ln (Et (Ts (Tr ?_)))
 refine Lq 1 ?_
 refine L.frz 0 rfl ?_
 obtain ⟨r61, h62, H63⟩ := bnd H56
 refine Lk [] [0] (c_ref09_mend h62) fun ⟨a64, c65⟩ => ?_
 refine Lt 0 ?_
 refine Ln (Et (Tv ?_))
 obtain rfl := sm H63
 exact Eo (a64, c65) [] [0] (.cell 0 rfl rfl rfl .nil)

theorem c_ref09_Delete {r_ : Ref09Row} {at_ : Int} {n_ : Int} {style : Int} {r : Ref09Row} (H : p_ref09_Delete r_ at_ n_ style = some r) : CT G 89 [.agg #[.slice A0 r_.l.length C0, .bool r_.wrapped], .int .i64 at_, .int .i64 n_, .int .i64 style] [] [Im.sl tyRef09Cell A0 C0 r_.l] (fun h : (Option Addr × Nat) => .agg #[.slice h.1 r.l.length h.2, .bool r.wrapped]) (fun h => []) (fun h => [Im.sl tyRef09Cell h.1 h.2 r.l]) := by
 delta p_ref09_Delete at H
 refine CT.of Go.Proofs.Tryz.func89 (by kernel_rfl) rfl rfl rfl fun K => ?_
 refine Ts (Tr ?_)
 refine Lx fun g1 => ?_
 refine Ll fun g2 => ?_
 refine Ln (Et (Ts (Ts ?_)))
 obtain ⟨e8, H9, H10⟩ := bnd H
 refine Tj0 [(22, .bool e8)] [1, 2, 3, 4, 8] [] [0, 1] ?_ ?_
 ·refine Tr ?_
  refine Lq 3 ?_
  refine Lw 12 H9 (fun H11 => ?_) fun H11 => ?_
  ·refine Lq 10 ?_
   refine Ln ?_
   obtain rfl := sm H11
   exact Eg0 [0, 0] 0
  refine Lq 2 ?_
  refine Lb 1 ?_
  refine Lq 4 ?_
  refine Lw 19 H11 (fun H12 => ?_) fun H12 => ?_
  ·refine Lq 3 ?_
   refine Ln ?_
   obtain rfl := sm H12
   exact Eg0 [0, 0] 0
  refine Lq 3 ?_
  refine Ln ?_
  obtain rfl := sm H12
  exact Eg0 [0, 0] 0
 refine Tb H10 (fun H20 => ?_) fun H20 => ?_
 ·refine Ts (Tr ?_)
  refine Lq 1 ?_
  refine Lb 1 ?_
  obtain ⟨r21, h22, H23⟩ := bnd H20
  refine Lk [] [0] (c_ref09_mend h22) fun ⟨a24, c25⟩ => ?_
  refine Lt 0 ?_
  refine Ln (Et (Tv (Er ?_)))
  obtain rfl := sm H23
  exact Eo (a24, c25) [] [0] (.cell 0 rfl rfl rfl .nil)
 refine Tk (Et (Ts (Tr ?_)))
 refine Lq 2 ?_
 refine Lb 1 ?_
 refine Lq 5 ?_
 refine Ln (Et (Ts (Tr ?_)))
 refine La [] [] (Ac.bs (ty := tyRef09Cell) (xs := []) .nil rfl rfl rfl rfl rfl rfl rfl) fun g27 => ?_
 refine Lq 1 ?_
 refine Lb 2 ?_
 refine Lq 1 ?_
 obtain ⟨_, h29, H30⟩ := bnd H20
 refine L.rs 0 h29 rfl rfl rfl rfl rfl rfl rfl rfl rfl rfl rfl rfl ?_
 intro a31 c32
 obtain ⟨_, h34, H35⟩ := bnd H30
 refine La [0] [0] (Ac.ap (ty := tyRef09Cell) h34 rfl rfl rfl rfl rfl rfl rfl) ?_
 rintro ⟨a36, c37⟩
 refine Lq 1 ?_
 refine Ln (Et (Ts (Tr ?_)))
 refine Lq 2 ?_
 refine Lb 2 ?_
 refine Lq 3 ?_
 obtain ⟨_, h39, H40⟩ := bnd H35
 refine L.rs 1 h39 rfl rfl rfl rfl rfl rfl rfl rfl rfl rfl rfl rfl ?_
 intro a41 c42
 obtain ⟨_, h44, H45⟩ := bnd H40
 refine La [0] [0] (Ac.ap (ty := tyRef09Cell) h44 rfl rfl rfl rfl rfl rfl rfl) ?_
 rintro ⟨a46, c47⟩
 refine Lq 1 ?_
 refine Ln (Et (Ts (Tr ?_)))
 refine Lq 3 ?_
 obtain ⟨r49, h50, H51⟩ := bnd H45
 refine Lk [] [] (c_ref09_Blank h50) fun ⟨a52, c53⟩ => ?_
 refine Lq 1 ?_
 obtain ⟨_, h55, H56⟩ := bnd H51
 refine La [0] [0] (Ac.ap (ty := tyRef09Cell) h55 rfl rfl rfl rfl rfl rfl rfl) ?_
 rintro ⟨a57, c58⟩
 refine L.frz 0 rfl ?_
 obtain ⟨r61, h62, H63⟩ := bnd H56
 refine Lk [] [0] (c_ref09_mend h62) fun ⟨a64, c65⟩ => ?_
 refine Lt 0 ?_
 refine Ln (Et (Tv ?_))
 obtain rfl := sm H63
 exact Eo (a64, c65) [] [0] (.cell 0 rfl rfl rfl .nil)

theorem c_ref08_Set {s_ : Ref08Style} {l : List Int} {r : Ref08Style} (H : p_ref08_Set s_ l = some r) : CT G 90 [.agg #[.int .i64 s_.fore, .int .i64 s_.back, .bool s_.bold, .bool s_.under, .bool s_.inverse], .slice A0 l.length C0] [] [Im.sl (Ty.int .i64) A0 C0 l] (fun _ : Unit => .agg #[.int .i64 r.fore, .int .i64 r.back, .bool r.bold, .bool r.under, .bool r.inverse]) (fun h => []) (fun h => []) := by
 delta p_ref08_Set at H
 refine CT.of Go.Proofs.Tryz.func90 (by kernel_rfl) rfl rfl rfl fun K => ?_
 refine Ts (Tr ?_)
 refine Lx fun g1 => ?_
 refine Ll fun g2 => ?_
 refine Ln (Et (Ts (Ts (Tr ?_))))
 refine Lq 3 ?_
 refine Ln (Et ?_)
 refine Tb H (fun H4 => ?_) fun H4 => ?_
 ·refine Ts (Tr ?_)
  refine Lq 1 ?_
  refine Lt 0 ?_
  refine Ln (Et (Tv (Er ?_)))
  obtain rfl := sm H4
  exact Eo () [] [] (.cell 0 rfl rfl rfl .nil)
 refine Tk (Et (Ts (Tr ?_)))
 refine Lq 1 ?_
 refine Ln (Et (Ts (Ts (Tr ?_))))
 refine Lq 3 ?_
 refine Ln (Et ?_)
 obtain ⟨e1900, H1901, H1902⟩ := bnd H4
 refine Tj0 [] [2, 4] [Ch.box g1 29 [.int .i64 e1900.fore, .int .i64 e1900.back, .bool e1900.bold, .bool e1900.under, .bool e1900.inverse]] [0] ?_ ?_
 ·refine Tl ?_
  refine Tq (η := Unit) (fun s1270 h => [(5, .int .i64 s1270.2.2), (14, .int .i64 s1270.2.1)]) [1, 2, 4, 12, 13] (fun s1270 h => [Ch.box g1 29 [.int .i64 s1270.1.fore, .int .i64 s1270.1.back, .bool s1270.1.bold, .bool s1270.1.under, .bool s1270.1.inverse]]) [0] (fun _ _ => []) () [1, 0] [] H1901 ?_
  rintro k_ s1270 ⟨⟩ z1904 H1903 hag1905 hbr1906
  refine Ts (Tr ?_)
  refine Lq 1 ?_
  refine Ln (Et (Ts ?_))
  refine Tb H1903 (fun H1908 => ?_) fun H1908 => ?_
  ·refine Tk (Et (Ts ?_))
   obtain ⟨e2325, H2326, H2327⟩ := bnd H1908
   refine Tj0 [(5, .int .i64 e2325.1)] [1, 2, 4, 12, 13, 14] [Ch.box g1 29 [.int .i64 e2325.2.fore, .int .i64 e2325.2.back, .bool e2325.2.bold, .bool e2325.2.under, .bool e2325.2.inverse]] [1] ?_ ?_
   ·refine Tl (Ts (Tr ?_))
    refine Lq 1 ?_
    obtain ⟨x2328, h2329, H2330⟩ := bnd H2326
    refine L.addr 0 rfl (idx_lt h2329) fun b2331 o2332 e2333 => ?_
    subst e2333
    refine Ly (Yl.ia h2329 rfl rfl rfl rfl rfl rfl) ?_
    refine L.el 0 rfl (idx_some h2329).2 ?_
    rintro _
    refine Lc 0 0 ?_
    refine Lq 2 ?_
    refine Ln (Et (Ts (Ts (Tr ?_))))
    refine Lq 2 ?_
    refine Ln (Et ?_)
    refine Tb H2330 (fun H2336 => ?_) fun H2336 => ?_
    ·refine Ts (Tr ?_)
     refine Lq 3 ?_
     refine Ln (Et (Tx (Ex (Eh ?_))))
     obtain rfl := sm H2336
     exact Eg0 [0, 0] 1
    refine Tk (Et (Ts (Ts ?_)))
    obtain ⟨e2340, H2341, H2342⟩ := bnd H2336
    refine Tj0 [(28, .bool e2340)] [1, 2, 4, 5, 6, 7, 12, 13, 14] [] [0, 1] ?_ ?_
    ·refine Tr ?_
     refine Lq 3 ?_
     refine Lw 25 H2341 (fun H2343 => ?_) fun H2343 => ?_
     ·refine Lq 3 ?_
      refine Ln ?_
      obtain rfl := sm H2343
      exact Eg0 [0, 0] 0
     refine Lq 3 ?_
     refine Ln ?_
     obtain rfl := sm H2343
     exact Eg0 [0, 0] 0
    refine Tb H2342 (fun H2397 => ?_) fun H2397 => ?_
    ·refine Ts (Ts ?_)
     obtain ⟨e2409, H2410, H2411⟩ := bnd H2397
     refine Tj0 [(41, .bool e2409)] [1, 2, 4, 5, 6, 12, 13, 14] [] [0, 1] ?_ ?_
     ·refine Tr ?_
      refine Lq 6 ?_
      refine Lw 34 H2410 (fun H2412 => ?_) fun H2412 => ?_
      ·refine Lq 3 ?_
       obtain ⟨x2413, h2414, H2415⟩ := bnd H2412
       refine Ly (Yl.ia h2414 rfl rfl rfl rfl rfl rfl) ?_
       refine L.el 1 rfl (idx_some h2414).2 ?_
       rintro _
       refine Lc 0 0 ?_
       refine Lq 2 ?_
       refine Ln ?_
       obtain rfl := sm H2415
       exact Eg0 [0, 0] 1
      refine Lq 7 ?_
      refine Ln ?_
      obtain rfl := sm H2412
      exact Eg0 [0, 0] 0
     obtain ⟨e2420, H2421, H2422⟩ := bnd H2411
     refine Tj0 [(5, .int .i64 e2420)] [1, 2, 4, 6, 12, 13, 14] [] [0, 1] ?_ ?_
     ·refine Tb H2421 (fun H2423 => ?_) fun H2423 => ?_
      ·refine Tr ?_
       refine Lq 1 ?_
       refine Ln ?_
       obtain rfl := sm H2423
       exact Eg0 [0, 0] 0
      refine Tk ?_
      obtain rfl := sm H2423
      exact Eg0 [0, 0] 0
     refine Ts (Ts ?_)
     obtain ⟨e2435, H2436, H2437⟩ := bnd H2422
     refine Tj0 [(54, .bool e2435)] [1, 2, 4, 5, 12, 13, 14] [] [0, 1] ?_ ?_
     ·refine Tr ?_
      refine Lq 6 ?_
      refine Lw 47 H2436 (fun H2438 => ?_) fun H2438 => ?_
      ·refine Lq 3 ?_
       obtain ⟨x2439, h2440, H2441⟩ := bnd H2438
       refine Ly (Yl.ia h2440 rfl rfl rfl rfl rfl rfl) ?_
       refine L.el 1 rfl (idx_some h2440).2 ?_
       rintro _
       refine Lc 0 0 ?_
       refine Lq 2 ?_
       refine Ln ?_
       obtain rfl := sm H2441
       exact Eg0 [0, 0] 1
      refine Lq 7 ?_
      refine Ln ?_
      obtain rfl := sm H2438
      exact Eg0 [0, 0] 0
     obtain ⟨e2446, H2447, H2448⟩ := bnd H2437
     refine Tj0 [(5, .int .i64 e2446)] [1, 2, 4, 12, 13, 14] [] [0, 1] ?_ ?_
     ·refine Tb H2447 (fun H2449 => ?_) fun H2449 => ?_
      ·refine Tr ?_
       refine Lq 1 ?_
       refine Ln ?_
       obtain rfl := sm H2449
       exact Eg0 [0, 0] 0
      refine Tk ?_
      obtain rfl := sm H2449
      exact Eg0 [0, 0] 0
     refine Tx (Ex (Eh ?_))
     obtain rfl := sm H2448
     exact Eg0 [0, 0] 1
    refine Tk (Et (Ts (Ts (Tr ?_))))
    refine Lq 2 ?_
    refine Ln (Et ?_)
    obtain ⟨e2453, H2454, H2455⟩ := bnd H2397
    refine Tj0 [] [1, 2, 4, 5, 7, 12, 13, 14] [Ch.box g1 29 [.int .i64 e2453.fore, .int .i64 e2453.back, .bool e2453.bold, .bool e2453.under, .bool e2453.inverse]] [1] ?_ ?_
    ·refine Tb H2454 (fun H2456 => ?_) fun H2456 => ?_
     ·refine Tr ?_
      refine Lq 1 ?_
      refine Lt 0 ?_
      refine Ln ?_
      obtain rfl := sm H2456
      exact Eg0 [0, 0] 0
     refine Tk ?_
     obtain rfl := sm H2456
     exact Eg0 [0, 0] 0
    refine Ts (Ts ?_)
    obtain ⟨e2460, H2461, H2462⟩ := bnd H2455
    refine Tj0 [(63, .bool e2460)] [1, 2, 4, 5, 7, 12, 13, 14] [] [0, 1] ?_ ?_
    ·refine Tr ?_
     refine Lq 3 ?_
     refine Lw 60 H2461 (fun H2463 => ?_) fun H2463 => ?_
     ·refine Lq 3 ?_
      refine Ln ?_
      obtain rfl := sm H2463
      exact Eg0 [0, 0] 0
     refine Lq 3 ?_
     refine Ln ?_
     obtain rfl := sm H2463
     exact Eg0 [0, 0] 0
    obtain ⟨e2467, H2468, H2469⟩ := bnd H2462
    refine Tj0 [] [1, 2, 4, 5, 7, 12, 13, 14] [Ch.box g1 29 [.int .i64 e2467.fore, .int .i64 e2467.back, .bool e2467.bold, .bool e2467.under, .bool e2467.inverse]] [1] ?_ ?_
    ·refine Tb H2468 (fun H2470 => ?_) fun H2470 => ?_
     ·refine Tr ?_
      refine Lq 3 ?_
      refine Lt 0 ?_
      refine Ln ?_
      obtain rfl := sm H2470
      exact Eg0 [0, 0] 0
     refine Tk ?_
     obtain rfl := sm H2470
     exact Eg0 [0, 0] 0
    refine Ts (Ts ?_)
    obtain ⟨e2474, H2475, H2476⟩ := bnd H2469
    refine Tj0 [(72, .bool e2474)] [1, 2, 4, 5, 7, 12, 13, 14] [] [0, 1] ?_ ?_
    ·refine Tr ?_
     refine Lq 3 ?_
     refine Lw 69 H2475 (fun H2477 => ?_) fun H2477 => ?_
     ·refine Lq 3 ?_
      refine Ln ?_
      obtain rfl := sm H2477
      exact Eg0 [0, 0] 0
     refine Lq 3 ?_
     refine Ln ?_
     obtain rfl := sm H2477
     exact Eg0 [0, 0] 0
    obtain ⟨e2481, H2482, H2483⟩ := bnd H2476
    refine Tj0 [] [1, 2, 4, 5, 7, 12, 13, 14] [Ch.box g1 29 [.int .i64 e2481.fore, .int .i64 e2481.back, .bool e2481.bold, .bool e2481.under, .bool e2481.inverse]] [1] ?_ ?_
    ·refine Tb H2482 (fun H2484 => ?_) fun H2484 => ?_
     ·refine Tr ?_
      refine Lq 3 ?_
      refine Lt 0 ?_
      refine Ln ?_
      obtain rfl := sm H2484
      exact Eg0 [0, 0] 0
     refine Tk ?_
     obtain rfl := sm H2484
     exact Eg0 [0, 0] 0
    refine Ts (Ts ?_)
    obtain ⟨e2488, H2489, H2490⟩ := bnd H2483
    refine Tj0 [(81, .bool e2488)] [1, 2, 4, 5, 7, 12, 13, 14] [] [0, 1] ?_ ?_
    ·refine Tr ?_
     refine Lq 3 ?_
     refine Lw 78 H2489 (fun H2491 => ?_) fun H2491 => ?_
     ·refine Lq 3 ?_
      refine Ln ?_
      obtain rfl := sm H2491
      exact Eg0 [0, 0] 0
     refine Lq 3 ?_
     refine Ln ?_
     obtain rfl := sm H2491
     exact Eg0 [0, 0] 0
    obtain ⟨e2495, H2496, H2497⟩ := bnd H2490
    refine Tj0 [] [1, 2, 4, 5, 7, 12, 13, 14] [Ch.box g1 29 [.int .i64 e2495.fore, .int .i64 e2495.back, .bool e2495.bold, .bool e2495.under, .bool e2495.inverse]] [1] ?_ ?_
    ·refine Tb H2496 (fun H2498 => ?_) fun H2498 => ?_
     ·refine Tr ?_
      refine Lq 3 ?_
      refine Lt 0 ?_
      refine Ln ?_
      obtain rfl := sm H2498
      exact Eg0 [0, 0] 0
     refine Tk ?_
     obtain rfl := sm H2498
     exact Eg0 [0, 0] 0
    refine Ts (Ts ?_)
    obtain ⟨e2502, H2503, H2504⟩ := bnd H2497
    refine Tj0 [(90, .bool e2502)] [1, 2, 4, 5, 7, 12, 13, 14] [] [0, 1] ?_ ?_
    ·refine Tr ?_
     refine Lq 3 ?_
     refine Lw 87 H2503 (fun H2505 => ?_) fun H2505 => ?_
     ·refine Lq 3 ?_
      refine Ln ?_
      obtain rfl := sm H2505
      exact Eg0 [0, 0] 0
     refine Lq 3 ?_
     refine Ln ?_
     obtain rfl := sm H2505
     exact Eg0 [0, 0] 0
    obtain ⟨e2509, H2510, H2511⟩ := bnd H2504
    refine Tj0 [] [1, 2, 4, 5, 7, 12, 13, 14] [Ch.box g1 29 [.int .i64 e2509.fore, .int .i64 e2509.back, .bool e2509.bold, .bool e2509.under, .bool e2509.inverse]] [1] ?_ ?_
    ·refine Tb H2510 (fun H2512 => ?_) fun H2512 => ?_
     ·refine Tr ?_
      refine Lq 3 ?_
      refine Lt 0 ?_
      refine Ln ?_
      obtain rfl := sm H2512
      exact Eg0 [0, 0] 0
     refine Tk ?_
     obtain rfl := sm H2512
     exact Eg0 [0, 0] 0
    refine Ts (Ts (Tr ?_))
    refine Lq 2 ?_
    refine Ln (Et ?_)
    obtain ⟨e2516, H2517, H2518⟩ := bnd H2511
    refine Tj0 [] [1, 2, 4, 5, 7, 12, 13, 14] [Ch.box g1 29 [.int .i64 e2516.fore, .int .i64 e2516.back, .bool e2516.bold, .bool e2516.under, .bool e2516.inverse]] [1] ?_ ?_
    ·refine Tb H2517 (fun H2519 => ?_) fun H2519 => ?_
     ·refine Tr ?_
      refine Lq 1 ?_
      refine Lt 0 ?_
      refine Ln ?_
      obtain rfl := sm H2519
      exact Eg0 [0, 0] 0
     refine Tk ?_
     obtain rfl := sm H2519
     exact Eg0 [0, 0] 0
    refine Ts (Ts ?_)
    obtain ⟨e2523, H2524, H2525⟩ := bnd H2518
    refine Tj0 [(102, .bool e2523)] [1, 2, 4, 5, 7, 12, 13, 14] [] [0, 1] ?_ ?_
    ·refine Tr ?_
     refine Lq 3 ?_
     refine Lw 99 H2524 (fun H2526 => ?_) fun H2526 => ?_
     ·refine Lq 3 ?_
      refine Ln ?_
      obtain rfl := sm H2526
      exact Eg0 [0, 0] 0
     refine Lq 3 ?_
     refine Ln ?_
     obtain rfl := sm H2526
     exact Eg0 [0, 0] 0
    obtain ⟨e2530, H2531, H2532⟩ := bnd H2525
    refine Tj0 [] [1, 2, 4, 5, 7, 12, 13, 14] [Ch.box g1 29 [.int .i64 e2530.fore, .int .i64 e2530.back, .bool e2530.bold, .bool e2530.under, .bool e2530.inverse]] [1] ?_ ?_
    ·refine Tb H2531 (fun H2533 => ?_) fun H2533 => ?_
     ·refine Tr ?_
      refine Lq 3 ?_
      refine Lt 0 ?_
      refine Ln ?_
      obtain rfl := sm H2533
      exact Eg0 [0, 0] 0
     refine Tk ?_
     obtain rfl := sm H2533
     exact Eg0 [0, 0] 0
    refine Ts (Tr ?_)
    refine Lq 2 ?_
    refine Ln (Et ?_)
    refine Tb H2532 (fun H2534 => ?_) fun H2534 => ?_
    ·refine Tr ?_
     refine Lq 1 ?_
     refine Lt 0 ?_
     refine Ln (Eb ?_)
     obtain rfl := sm H2534
     exact Eg0 [0, 0] 1
    refine Tk (Eb ?_)
    obtain rfl := sm H2534
    exact Eg0 [0, 0] 1
   refine Tr ?_
   refine Lq 2 ?_
   refine Ln ?_
   obtain rfl := sm H2327
   exact Eg (_, ()) (hag1905 _ rfl) [0, 0] [] 0
  refine Tx (Ex (Ex (Eh ?_)))
  obtain rfl := sm H1908
  have hb := hbr1906 _ rfl
  subst e1900
  exact Eg0 [0, 0] 0
 refine Ts (Tr ?_)
 refine Lb 0 ?_
 refine Lt 1 ?_
 refine Ln (Et (Tv ?_))
 obtain rfl := sm H1902
 exact Eo () [] [] (.cell 0 rfl rfl rfl .nil)

end Go.Tw.X

set_option maxHeartbeats 2000000
set_option linter.unusedVariables false
set_option linter.unusedSimpArgs false
set_option maxRecDepth 10000
namespace Go.Tw.X
open Go Go.Tw
variable {A0 A1 A2 : Option Addr} {C0 C1 C2 : Nat}
variable {N0 N1 N2 N3 N4 : Nat}
theorem c_ref11_Command {s_ : Ref11Screen} {b : Int} {l : List Int} {r : Ref11Screen × (List Ref09Row)} (H : p_ref11_Command s_ b l = some r) : CT G 41 [.agg (bx31 s_ A0 C0).toArray, .int .i64 b, .slice A1 l.length C1] [] [Im.sl tyRef09Row A0 C0 s_.g.l, Im.sl (Ty.int .i64) A1 C1 l] (fun h : (Option Addr × Nat) × (Option Addr × Nat) => .tuple #[.agg (bx31 r.1 h.1.1 h.1.2).toArray, .slice h.2.1 r.2.length h.2.2]) (fun h => [Ch.arr tyRef09Row 69 h.2.1 h.2.2 r.2]) (fun h => [Im.sl tyRef09Row h.1.1 h.1.2 r.1.g.l]) := by
 delta p_ref11_Command at H
 refine CT.of Go.Proofs.Tryz.func41 (by kernel_rfl) rfl rfl rfl fun K => ?_
 refine Ts (Tr ?_)
 refine Lx fun g1 => ?_
 refine Ll fun g2 => ?_
 refine Lq 1 ?_
 refine Ln (Et (Ts (Tr ?_)))
 refine Lq 1 ?_
 obtain ⟨r3, h4, H5⟩ := bnd H
 refine Lk [] [1] (c_ref11_num h4) fun ⟨⟩ => ?_
 refine Lq 1 ?_
 refine Ln (Et (Ts (Tr ?_)))
 refine Lq 2 ?_
 refine Lb 1 ?_
 refine Lq 2 ?_
 refine Ln (Et (Ts (Tr ?_)))
 refine Lq 1 ?_
 refine Lb 1 ?_
 obtain ⟨r6, h7, H8⟩ := bnd H5
 refine Lk [] [] (c_ref08_Num h7) fun ⟨⟩ => ?_
 refine Lq 1 ?_
 refine Ln (Et (Ts (Ts (Tr ?_))))
 refine Lq 1 ?_
 refine Ln (Et ?_)
 obtain ⟨y754, H755, H756⟩ := bnd H8
 refine Tj (η := Ref11Screen × ((Option Addr × Nat))) (fun h => y754 = .inl h.1) (fun _ => []) [3, 6] (fun h => (fun e753 => (fun a750 c751 => [Ch.box g1 31 (bx31 e753 a750 c751)]) h.2.1 h.2.2) h.1) [0] (fun h => (fun e753 => (fun a750 c751 => [Im.sl tyRef09Row a750 c751 e753.g.l]) h.2.1 h.2.2) h.1) ?_ ?_
 ·refine Tl (Ts (Ts (Tr ?_)))
  refine Lq 2 ?_
  refine Ln (Et ?_)
  obtain ⟨e760, H761, H762⟩ := bnd H755
  refine Tj0 [(25, .bool e760)] [1, 2, 3, 6, 8, 9, 10, 24] [] [0, 1] ?_ ?_
  ·refine Tb H761 (fun H763 => ?_) fun H763 => ?_
   ·refine Tk ?_
    obtain rfl := sm H763
    exact Eg0 [0, 0] 0
   refine Tr ?_
   refine Lq 2 ?_
   refine Ln ?_
   obtain rfl := sm H763
   exact Eg0 [0, 0] 0
  refine Tb H762 (fun H764 => ?_) fun H764 => ?_
  ·refine Ts (Tr ?_)
   refine Lq 1 ?_
   refine Ln (Et (Ts (Ts (Tr ?_))))
   refine Lq 1 ?_
   refine Lb 1 ?_
   refine Lq 1 ?_
   refine Lb 1 ?_
   refine Lq 1 ?_
   refine Ln (Et ?_)
   obtain ⟨e768, H769, H770⟩ := bnd H764
   refine Tj0 [(11, .int .i64 e768)] [1, 3, 6, 8] [] [0, 1] ?_ ?_
   ·refine Tb H769 (fun H771 => ?_) fun H771 => ?_
    ·refine Tr ?_
     refine Lq 1 ?_
     refine Lb 1 ?_
     refine Lq 1 ?_
     refine Ln ?_
     obtain rfl := sm H771
     exact Eg0 [0, 0] 0
    refine Tk ?_
    obtain rfl := sm H771
    exact Eg0 [0, 0] 0
   refine Ts (Tr ?_)
   refine Lb 1 ?_
   refine Lq 1 ?_
   refine Lb 1 ?_
   refine Lq 2 ?_
   refine Lb 1 ?_
   refine Lq 3 ?_
   obtain ⟨r772, h773, H774⟩ := bnd H770
   refine Lk [] [0] (c_ref11_place h773) fun ⟨⟩ => ?_
   refine Lt 1 ?_
   refine Ln (Et (Ts (Tr ?_)))
   refine Lq 2 ?_
   refine Ln (Et ?_)
   refine Tb H774 (fun H776 => ?_) fun H776 => ?_
   ·refine Tr ?_
    refine Lq 1 ?_
    refine Lt 0 ?_
    refine Ln (Eb ?_)
    obtain rfl := sm H776
    exact Eg (_, (A0, C0)) rfl [0, 0] [0] 1
   refine Tk (Eb ?_)
   obtain rfl := sm H776
   exact Eg (_, (A0, C0)) rfl [0, 0] [0] 1
  refine Ts (Ts (Tr ?_))
  refine Lq 2 ?_
  refine Ln (Et ?_)
  obtain ⟨e780, H781, H782⟩ := bnd H764
  refine Tj0 [(48, .bool e780)] [1, 2, 3, 6, 8, 9, 10, 24] [] [0, 1] ?_ ?_
  ·refine Tb H781 (fun H783 => ?_) fun H783 => ?_
   ·refine Tk ?_
    obtain rfl := sm H783
    exact Eg0 [0, 0] 0
   refine Tr ?_
   refine Lq 2 ?_
   refine Ln ?_
   obtain rfl := sm H783
   exact Eg0 [0, 0] 0
  refine Tb H782 (fun H784 => ?_) fun H784 => ?_
  ·refine Ts (Tr ?_)
   refine Lq 3 ?_
   refine Ln (Et (Ts (Ts (Tr ?_))))
   refine Lq 1 ?_
   refine Lb 1 ?_
   refine Lq 1 ?_
   refine Lb 1 ?_
   refine Lq 1 ?_
   refine Ln (Et ?_)
   obtain ⟨e788, H789, H790⟩ := bnd H784
   refine Tj0 [(12, .int .i64 e788)] [1, 3, 6, 8] [] [0, 1] ?_ ?_
   ·refine Tb H789 (fun H791 => ?_) fun H791 => ?_
    ·refine Tr ?_
     refine Lq 1 ?_
     refine Lb 1 ?_
     refine Lq 1 ?_
     refine Ln ?_
     obtain rfl := sm H791
     exact Eg0 [0, 0] 0
    refine Tk ?_
    obtain rfl := sm H791
    exact Eg0 [0, 0] 0
   refine Ts (Tr ?_)
   refine Lb 1 ?_
   refine Lq 1 ?_
   refine Lb 1 ?_
   refine Lq 2 ?_
   refine Lb 1 ?_
   refine Lq 3 ?_
   obtain ⟨r792, h793, H794⟩ := bnd H790
   refine Lk [] [0] (c_ref11_place h793) fun ⟨⟩ => ?_
   refine Lt 1 ?_
   refine Ln (Et (Ts (Tr ?_)))
   refine Lq 2 ?_
   refine Ln (Et ?_)
   refine Tb H794 (fun H796 => ?_) fun H796 => ?_
   ·refine Tr ?_
    refine Lq 1 ?_
    refine Lt 0 ?_
    refine Ln (Eb ?_)
    obtain rfl := sm H796
    exact Eg (_, (A0, C0)) rfl [0, 0] [0] 1
   refine Tk (Eb ?_)
   obtain rfl := sm H796
   exact Eg (_, (A0, C0)) rfl [0, 0] [0] 1
  refine Ts (Tr ?_)
  refine Lq 2 ?_
  refine Ln (Et ?_)
  refine Tb H784 (fun H797 => ?_) fun H797 => ?_
  ·refine Tr ?_
   refine Lb 1 ?_
   refine Lq 1 ?_
   refine Lb 1 ?_
   refine Lq 3 ?_
   refine Lb 1 ?_
   obtain ⟨r798, h799, H800⟩ := bnd H797
   refine Lk [] [0] (c_ref11_place h799) fun ⟨⟩ => ?_
   refine Lt 1 ?_
   refine Ln (Eb ?_)
   obtain rfl := sm H800
   exact Eg (_, (A0, C0)) rfl [0, 0] [0] 1
  refine Ts (Tr ?_)
  refine Lq 2 ?_
  refine Ln (Et ?_)
  refine Tb H797 (fun H802 => ?_) fun H802 => ?_
  ·refine Tr ?_
   refine Lb 1 ?_
   refine Lq 1 ?_
   refine Lb 1 ?_
   refine Lq 3 ?_
   refine Lb 1 ?_
   obtain ⟨r803, h804, H805⟩ := bnd H802
   refine Lk [] [0] (c_ref11_place h804) fun ⟨⟩ => ?_
   refine Lt 1 ?_
   refine Ln (Eb ?_)
   obtain rfl := sm H805
   exact Eg (_, (A0, C0)) rfl [0, 0] [0] 1
  refine Ts (Tr ?_)
  refine Lq 2 ?_
  refine Ln (Et ?_)
  refine Tb H802 (fun H807 => ?_) fun H807 => ?_
  ·refine Tr ?_
   refine Lb 1 ?_
   refine Lq 3 ?_
   refine Lb 1 ?_
   obtain ⟨r808, h809, H810⟩ := bnd H807
   refine Lk [] [0] (c_ref11_place h809) fun ⟨⟩ => ?_
   refine Lt 1 ?_
   refine Ln (Eb ?_)
   obtain rfl := sm H810
   exact Eg (_, (A0, C0)) rfl [0, 0] [0] 1
  refine Ts (Tr ?_)
  refine Lq 2 ?_
  refine Ln (Et ?_)
  refine Tb H807 (fun H812 => ?_) fun H812 => ?_
  ·refine Tr ?_
   refine Lb 1 ?_
   refine Lq 1 ?_
   refine Lb 1 ?_
   refine Lq 2 ?_
   obtain ⟨r813, h814, H815⟩ := bnd H812
   refine Lk [] [0] (c_ref11_place h814) fun ⟨⟩ => ?_
   refine Lt 1 ?_
   refine Ln (Eb ?_)
   obtain rfl := sm H815
   exact Eg (_, (A0, C0)) rfl [0, 0] [0] 1
  refine Ts (Ts (Tr ?_))
  refine Lq 2 ?_
  refine Ln (Et ?_)
  obtain ⟨e820, H821, H822⟩ := bnd H812
  refine Tj0 [(109, .bool e820)] [1, 2, 3, 6, 8, 9, 10, 24] [] [0, 1] ?_ ?_
  ·refine Tb H821 (fun H823 => ?_) fun H823 => ?_
   ·refine Tk ?_
    obtain rfl := sm H823
    exact Eg0 [0, 0] 0
   refine Tr ?_
   refine Lq 2 ?_
   refine Ln ?_
   obtain rfl := sm H823
   exact Eg0 [0, 0] 0
  refine Tb H822 (fun H824 => ?_) fun H824 => ?_
  ·refine Td [7] [0, 0] mo ?_
   refine Db 0 1 ?_
   refine Dq 1 ?_
   refine Dq 4 ?_
   refine Dq 5 ?_
   obtain ⟨r832, h833, H834⟩ := bnd H824
   refine Dk [] [1] (c_ref11_num h833) fun ⟨⟩ => ?_
   refine Dq 3 ?_
   obtain ⟨r835, h836, H837⟩ := bnd H834
   refine Dk [] [0] (c_ref11_place h836) fun ⟨⟩ => ?_
   refine Dt 1 ?_
   refine Dn ?_
   refine Eb ?_
   obtain rfl := sm H837
   exact Eg (_, (A0, C0)) rfl [0, 0] [0] 1
  refine Ts (Tr ?_)
  refine Lq 2 ?_
  refine Ln (Et ?_)
  refine Tb H824 (fun H839 => ?_) fun H839 => ?_
  ·refine Td [4] [0, 0] mo ?_
   refine Db 0 1 ?_
   refine Dq 1 ?_
   obtain ⟨r849, h850, H851⟩ := bnd H839
   refine Dk [] [1] (c_ref11_num h850) fun ⟨⟩ => ?_
   obtain ⟨r852, h853, H854⟩ := bnd H851
   refine Dk [] [0] (c_ref11_clear h853) fun ⟨a855, c856⟩ => ?_
   refine Dt 1 ?_
   refine Dn ?_
   refine Eb ?_
   obtain rfl := sm H854
   exact Eg (_, (a855, c856)) rfl [0, 0] [0] 1
  refine Ts (Tr ?_)
  refine Lq 2 ?_
  refine Ln (Et ?_)
  refine Tb H839 (fun H858 => ?_) fun H858 => ?_
  ·refine Td [4] [0, 0] mo ?_
   refine Db 0 1 ?_
   refine Dq 1 ?_
   obtain ⟨r868, h869, H870⟩ := bnd H858
   refine Dk [] [1] (c_ref11_num h869) fun ⟨⟩ => ?_
   obtain ⟨r871, h872, H873⟩ := bnd H870
   refine Dk [] [0] (c_ref11_clear h872) fun ⟨a874, c875⟩ => ?_
   refine Dt 1 ?_
   refine Dn ?_
   refine Eb ?_
   obtain rfl := sm H873
   exact Eg (_, (a874, c875)) rfl [0, 0] [0] 1
  refine Ts (Tr ?_)
  refine Lq 2 ?_
  refine Ln (Et ?_)
  refine Tb H858 (fun H877 => ?_) fun H877 => ?_
  ·refine Ts (Tr ?_)
   refine Lb 1 ?_
   refine Lq 1 ?_
   refine Lb 1 ?_
   refine Lq 1 ?_
   refine Lb 1 ?_
   refine Lq 1 ?_
   refine Lb 1 ?_
   refine Lq 2 ?_
   obtain ⟨r878, h879, H880⟩ := bnd H877
   refine Lk [] [0] (c_ref11_erase h879) fun ⟨a881, c882⟩ => ?_
   refine Lt 1 ?_
   refine Ln (Et (Tr ?_))
   refine Lq 1 ?_
   refine Lt 0 ?_
   refine Ln (Eb ?_)
   obtain rfl := sm H880
   exact Eg (_, (a881, c882)) rfl [0, 0] [0] 1
  refine Ts (Tr ?_)
  refine Lq 2 ?_
  refine Ln (Et ?_)
  refine Tb H877 (fun H884 => ?_) fun H884 => ?_
  ·refine Ts ?_
   refine Td [14] [0, 0] mo ?_
   refine Db 0 1 ?_
   refine Dq 1 ?_
   refine Dq 2 ?_
   refine Db 3 1 ?_
   refine Dq 4 ?_
   refine Db 5 1 ?_
   obtain ⟨x951, h952, H953⟩ := bnd H884
   refine D.addr 0 rfl (idx_lt h952) fun b954 o955 e956 => ?_
   subst e956
   refine Dy 6 (Yl.ia h952 rfl rfl rfl rfl rfl rfl) ?_
   refine D.el 0 rfl (idx_some h952).2 ?_
   rintro ⟨a957, c958⟩
   refine Dy 7 (Yl.ldc 0 0 rfl rfl rfl rfl) ?_
   refine Dq 8 ?_
   refine Db 9 1 ?_
   refine Dq 10 ?_
   refine Dq 11 ?_
   obtain ⟨r961, h962, H963⟩ := bnd H953
   refine Dk [] [1] (c_ref09_Insert h962) fun ⟨a964, c965⟩ => ?_
   obtain ⟨r967, h968, H969⟩ := bnd H963
   refine Dk [] [3, 0] (c_ref11_set h968) fun ⟨a970, c971⟩ => ?_
   refine Dt 1 ?_
   refine Dn ?_
   refine Et (Tr ?_)
   refine Lq 1 ?_
   refine Lt 0 ?_
   refine Ln (Eb ?_)
   obtain rfl := sm H969
   exact Eg (_, (a970, c971)) rfl [0, 0] [0] 4
  refine Ts (Tr ?_)
  refine Lq 2 ?_
  refine Ln (Et ?_)
  refine Tb H884 (fun H973 => ?_) fun H973 => ?_
  ·refine Ts ?_
   refine Td [14] [0, 0] mo ?_
   refine Db 0 1 ?_
   refine Dq 1 ?_
   refine Dq 2 ?_
   refine Db 3 1 ?_
   refine Dq 4 ?_
   refine Db 5 1 ?_
   obtain ⟨x1040, h1041, H1042⟩ := bnd H973
   refine D.addr 0 rfl (idx_lt h1041) fun b1043 o1044 e1045 => ?_
   subst e1045
   refine Dy 6 (Yl.ia h1041 rfl rfl rfl rfl rfl rfl) ?_
   refine D.el 0 rfl (idx_some h1041).2 ?_
   rintro ⟨a1046, c1047⟩
   refine Dy 7 (Yl.ldc 0 0 rfl rfl rfl rfl) ?_
   refine Dq 8 ?_
   refine Db 9 1 ?_
   refine Dq 10 ?_
   refine Dq 11 ?_
   obtain ⟨r1050, h1051, H1052⟩ := bnd H1042
   refine Dk [] [1] (c_ref09_Delete h1051) fun ⟨a1053, c1054⟩ => ?_
   obtain ⟨r1056, h1057, H1058⟩ := bnd H1052
   refine Dk [] [3, 0] (c_ref11_set h1057) fun ⟨a1059, c1060⟩ => ?_
   refine Dt 1 ?_
   refine Dn ?_
   refine Et (Tr ?_)
   refine Lq 1 ?_
   refine Lt 0 ?_
   refine Ln (Eb ?_)
   obtain rfl := sm H1058
   exact Eg (_, (a1059, c1060)) rfl [0, 0] [0] 4
  refine Ts (Ts (Tr ?_))
  refine Lq 2 ?_
  refine Ln (Et ?_)
  obtain ⟨e1065, H1066, H1067⟩ := bnd H973
  refine Tj0 [(178, .bool e1065)] [1, 2, 3, 6, 8, 9, 10, 24] [] [0, 1] ?_ ?_
  ·refine Tb H1066 (fun H1068 => ?_) fun H1068 => ?_
   ·refine Tk ?_
    obtain rfl := sm H1068
    exact Eg0 [0, 0] 0
   refine Tr ?_
   refine Lq 2 ?_
   refine Ln ?_
   obtain rfl := sm H1068
   exact Eg0 [0, 0] 0
  refine Tb H1067 (fun H1069 => ?_) fun H1069 => ?_
  ·refine Ts ?_
   obtain ⟨e1073, H1074, H1075⟩ := bnd H1069
   refine Tj0 [(192, .bool e1073)] [1, 3, 6, 8, 10] [] [0, 1] ?_ ?_
   ·refine Tr ?_
    refine Lq 1 ?_
    refine Lb 1 ?_
    refine Lq 1 ?_
    refine Lb 1 ?_
    refine Lq 2 ?_
    refine Lw 186 H1074 (fun H1076 => ?_) fun H1076 => ?_
    ·refine Lq 1 ?_
     refine Lb 1 ?_
     refine Lq 1 ?_
     refine Lb 1 ?_
     refine Lq 2 ?_
     refine Ln ?_
     obtain rfl := sm H1076
     exact Eg0 [0, 0] 0
    refine Lq 6 ?_
    refine Ln ?_
    obtain rfl := sm H1076
    exact Eg0 [0, 0] 0
   refine Tb H1075 (fun H1077 => ?_) fun H1077 => ?_
   ·refine Ts (Tr ?_)
    refine Lq 1 ?_
    refine Lb 1 ?_
    refine Lq 3 ?_
    refine Lb 1 ?_
    refine Lq 1 ?_
    refine Lb 1 ?_
    refine Lq 2 ?_
    obtain ⟨r1078, h1079, H1080⟩ := bnd H1077
    refine Lk [] [0] (c_ref10_Move h1079) fun ⟨⟨a1081, c1082⟩, ⟨a1083, c1084⟩⟩ => ?_
    refine Lq 4 ?_
    refine Lt 2 ?_
    refine Ln (Et (Tr ?_))
    refine Lb 0 ?_
    refine Lq 1 ?_
    refine Lb 0 ?_
    obtain ⟨r1087, h1088, H1089⟩ := bnd H1080
    refine Lk [] [0] (c_ref11_place h1088) fun ⟨⟩ => ?_
    refine Lt 0 ?_
    refine Ln (Eb ?_)
    obtain rfl := sm H1089
    exact Eg (_, (a1081, c1082)) rfl [0, 1] [0] 2
   refine Tk (Eb ?_)
   obtain rfl := sm H1077
   exact Eg (_, (A0, C0)) rfl [1, 0] [0] 0
  refine Ts (Tr ?_)
  refine Lq 2 ?_
  refine Ln (Et ?_)
  refine Tb H1069 (fun H1091 => ?_) fun H1091 => ?_
  ·refine Ts (Tr ?_)
   refine Lq 1 ?_
   refine Lt 1 ?_
   refine Ln (Et (Ts (Tr ?_)))
   refine Lb 0 ?_
   refine Lq 1 ?_
   obtain ⟨r1092, h1093, H1094⟩ := bnd H1091
   refine Lk [] [0] (c_ref11_scroll h1093) fun ⟨⟨a1095, c1096⟩, ⟨a1097, c1098⟩⟩ => ?_
   refine Lq 2 ?_
   refine Lt 2 ?_
   refine Lq 1 ?_
   refine Ln (Et (Tv (Ev ?_)))
   obtain ⟨w1101, hz, H1102⟩ := inrs_some H1094
   subst y754
   obtain rfl := (sm H756).symm
   refine Er ?_
   obtain rfl := sm H1102
   exact Eo ((a1095, c1096), (a1097, c1098)) [1] [0] (.cell 0 rfl rfl rfl (.tmp rfl .nil))
  refine Ts (Tr ?_)
  refine Lq 2 ?_
  refine Ln (Et ?_)
  refine Tb H1091 (fun H1103 => ?_) fun H1103 => ?_
  ·refine Ts (Tr ?_)
   refine Lq 1 ?_
   refine Lt 1 ?_
   refine Ln (Et (Tr ?_))
   refine Lq 1 ?_
   refine Lb 0 ?_
   refine Lq 1 ?_
   refine Lb 0 ?_
   refine Lq 1 ?_
   refine Lb 0 ?_
   refine Lq 2 ?_
   obtain ⟨r1104, h1105, H1106⟩ := bnd H1103
   refine Lk [] [0] (c_ref10_Move h1105) fun ⟨⟨a1107, c1108⟩, ⟨a1109, c1110⟩⟩ => ?_
   refine Lq 4 ?_
   refine Lt 1 ?_
   refine Ln (Eb ?_)
   obtain rfl := sm H1106
   exact Eg (_, (a1107, c1108)) rfl [0, 1] [0] 1
  refine Ts (Tr ?_)
  refine Lq 2 ?_
  refine Ln (Et ?_)
  refine Tb H1103 (fun H1113 => ?_) fun H1113 => ?_
  ·refine Tr ?_
   refine Lq 1 ?_
   refine Lb 1 ?_
   refine Lq 1 ?_
   obtain ⟨r1114, h1115, H1116⟩ := bnd H1113
   refine Lk [] [1] (c_ref08_Set h1115) fun ⟨⟩ => ?_
   refine Lq 1 ?_
   refine Lt 1 ?_
   refine Ln (Eb ?_)
   obtain rfl := sm H1116
   exact Eg (_, (A0, C0)) rfl [0, 0] [0] 0
  refine Ts (Tr ?_)
  refine Lq 2 ?_
  refine Ln (Et ?_)
  refine Tb H1113 (fun H1117 => ?_) fun H1117 => ?_
  ·refine Ts (Tr ?_)
   refine Lq 1 ?_
   obtain ⟨r1118, h1119, H1120⟩ := bnd H1117
   refine Lk [] [1] (c_ref11_num h1119) fun ⟨⟩ => ?_
   refine Lq 5 ?_
   refine Ln (Et (Ts (Tr ?_)))
   refine Lq 2 ?_
   obtain ⟨r1121, h1122, H1123⟩ := bnd H1120
   refine Lk [] [1] (c_ref11_num h1122) fun ⟨⟩ => ?_
   refine Lq 5 ?_
   refine Ln (Et (Ts (Tr ?_)))
   refine Lq 3 ?_
   refine Ln (Et ?_)
   refine Tb H1123 (fun H1124 => ?_) fun H1124 => ?_
   ·refine Ts (Tr ?_)
    refine Lq 2 ?_
    refine Lt 1 ?_
    refine Ln (Et (Ts (Tr ?_)))
    refine Lq 2 ?_
    refine Lt 0 ?_
    refine Ln (Et (Tr ?_))
    refine Lb 0 ?_
    obtain ⟨r1125, h1126, H1127⟩ := bnd H1124
    refine Lk [] [0] (c_ref11_place h1126) fun ⟨⟩ => ?_
    refine Lt 0 ?_
    refine Ln (Eb ?_)
    obtain rfl := sm H1127
    exact Eg (_, (A0, C0)) rfl [0, 0] [0] 1
   refine Tk (Eb ?_)
   obtain rfl := sm H1124
   exact Eg (_, (A0, C0)) rfl [1, 0] [0] 0
  refine Tk (Eb ?_)
  obtain rfl := sm H1117
  exact Eg (_, (A0, C0)) rfl [1, 0] [0] 0
 rintro ⟨e753, ⟨a750, c751⟩⟩ hy
 subst hy
 refine Ts (Tr ?_)
 refine Lb 0 ?_
 refine Lt 1 ?_
 refine Lq 1 ?_
 refine Ln (Et (Tv ?_))
 refine E.nil0 tyRef09Row 69 ?_
 obtain rfl := sm H756
 exact Eo ((a750, c751), (none, 0)) [0] [0] (.cell 1 rfl rfl rfl (.tmp rfl .nil))

theorem c_ref11_Do {s_ : Ref11Screen} {a : Ref07Action} {r : Ref11Screen × (List Ref09Row)} (H : p_ref11_Do s_ a = some r) : CT G 14 [.agg (bx31 s_ A0 C0).toArray, .agg (bx37 a A1 C1).toArray] [] [Im.sl tyRef09Row A0 C0 s_.g.l, Im.sl (Ty.int .i64) A1 C1 a.nums] (fun h : (Option Addr × Nat) × (Option Addr × Nat) => .tuple #[.agg (bx31 r.1 h.1.1 h.1.2).toArray, .slice h.2.1 r.2.length h.2.2]) (fun h => [Ch.arr tyRef09Row 69 h.2.1 h.2.2 r.2]) (fun h => [Im.sl tyRef09Row h.1.1 h.1.2 r.1.g.l]) := by
 delta p_ref11_Do at H
 refine CT.of Go.Proofs.Tryz.func14 (by kernel_rfl) rfl rfl rfl fun K => ?_
 refine Ts (Tr ?_)
 refine Lx fun g1 => ?_
 refine Lx fun g2 => ?_
 refine Ll fun g3 => ?_
 refine Lq 1 ?_
 refine Ln (Et (Ts (Ts (Tr ?_))))
 refine Lq 1 ?_
 refine Lb 1 ?_
 refine Ln (Et ?_)
 obtain ⟨y457, H458, H459⟩ := bnd H
 refine Tj (η := Ref11Screen × Unit) (fun h => y457 = .inl h.1) (fun _ => []) [2, 4] (fun h => (fun e456 => [Ch.box g1 31 (bx31 e456 A0 C0)]) h.1) [0, 1] (fun h => (fun e456 => [Im.sl tyRef09Row A0 C0 e456.g.l]) h.1) ?_ ?_
 ·refine Tl (Ts (Tr ?_))
  refine Lq 2 ?_
  refine Ln (Et ?_)
  refine Tb H458 (fun H460 => ?_) fun H460 => ?_
  ·refine Ts (Tr ?_)
   refine Lb 2 ?_
   refine Lq 1 ?_
   refine Lb 1 ?_
   obtain ⟨r461, h462, H463⟩ := bnd H460
   refine Lk [] [0] (c_ref11_show h462) fun ⟨⟨a464, c465⟩, ⟨a466, c467⟩⟩ => ?_
   refine Lq 2 ?_
   refine Lt 1 ?_
   refine Lq 1 ?_
   refine Ln (Et (Tv (Ev ?_)))
   obtain ⟨w470, hz, H471⟩ := inrs_some H463
   subst y457
   obtain rfl := (sm H459).symm
   refine Er ?_
   obtain rfl := sm H471
   exact Eo ((a464, c465), (a466, c467)) [1] [0] (.cell 0 rfl rfl rfl (.tmp rfl .nil))
  refine Ts (Tr ?_)
  refine Lq 2 ?_
  refine Ln (Et ?_)
  refine Tb H460 (fun H472 => ?_) fun H472 => ?_
  ·refine Ts (Tr ?_)
   refine Lq 1 ?_
   refine Lb 1 ?_
   refine Ln (Et (Tl (Ts (Tr ?_))))
   refine Lq 2 ?_
   refine Ln (Et ?_)
   refine Tb H472 (fun H473 => ?_) fun H473 => ?_
   ·refine Ts (Tr ?_)
    refine Lb 2 ?_
    refine Lq 1 ?_
    refine Lb 2 ?_
    refine Lq 2 ?_
    refine Lb 2 ?_
    obtain ⟨r474, h475, H476⟩ := bnd H473
    refine Lk [] [0] (c_ref11_place h475) fun ⟨⟩ => ?_
    refine Lt 0 ?_
    refine Lq 1 ?_
    refine Ln (Et (Tv (Ev (Ev ?_))))
    obtain ⟨w478, hz, H479⟩ := inrs_some H476
    subst y457
    obtain rfl := (sm H459).symm
    refine Er ?_
    refine E.nil0 tyRef09Row 69 ?_
    obtain rfl := sm H479
    exact Eo ((A0, C0), (none, 0)) [0] [0] (.cell 1 rfl rfl rfl (.tmp rfl .nil))
   refine Ts (Tr ?_)
   refine Lq 2 ?_
   refine Ln (Et ?_)
   refine Tb H473 (fun H481 => ?_) fun H481 => ?_
   ·refine Ts (Tr ?_)
    refine Lb 2 ?_
    refine Lq 1 ?_
    refine Lb 2 ?_
    refine Lq 4 ?_
    refine Lb 2 ?_
    obtain ⟨r482, h483, H484⟩ := bnd H481
    refine Lk [] [0] (c_ref11_place h483) fun ⟨⟩ => ?_
    refine Lt 0 ?_
    refine Lq 1 ?_
    refine Ln (Et (Tv (Ev (Ev ?_))))
    obtain ⟨w486, hz, H487⟩ := inrs_some H484
    subst y457
    obtain rfl := (sm H459).symm
    refine Er ?_
    refine E.nil0 tyRef09Row 69 ?_
    obtain rfl := sm H487
    exact Eo ((A0, C0), (none, 0)) [0] [0] (.cell 1 rfl rfl rfl (.tmp rfl .nil))
   refine Ts (Ts (Tr ?_))
   refine Lq 2 ?_
   refine Ln (Et ?_)
   obtain ⟨e494, H495, H496⟩ := bnd H481
   refine Tj0 [(40, .bool e494)] [2, 4, 19] [] [0, 1, 2] ?_ ?_
   ·refine Tb H495 (fun H497 => ?_) fun H497 => ?_
    ·refine Tk ?_
     obtain rfl := sm H497
     exact Eg0 [0, 0, 0] 0
    refine Ts (Tr ?_)
    refine Lq 2 ?_
    refine Ln (Et ?_)
    refine Tb H497 (fun H498 => ?_) fun H498 => ?_
    ·refine Tk ?_
     obtain rfl := sm H498
     exact Eg0 [0, 0, 0] 0
    refine Tr ?_
    refine Lq 2 ?_
    refine Ln ?_
    obtain rfl := sm H498
    exact Eg0 [0, 0, 0] 0
   refine Tb H496 (fun H499 => ?_) fun H499 => ?_
   ·refine Ts (Tr ?_)
    refine Lb 2 ?_
    obtain ⟨r500, h501, H502⟩ := bnd H499
    refine Lk [] [0] (c_ref11_line h501) fun ⟨⟨a503, c504⟩, ⟨a505, c506⟩⟩ => ?_
    refine Lq 2 ?_
    refine Lt 1 ?_
    refine Lq 1 ?_
    refine Ln (Et (Tv (Ev (Ev ?_))))
    obtain ⟨w509, hz, H510⟩ := inrs_some H502
    subst y457
    obtain rfl := (sm H459).symm
    refine Er ?_
    obtain rfl := sm H510
    exact Eo ((a503, c504), (a505, c506)) [1] [0] (.cell 0 rfl rfl rfl (.tmp rfl .nil))
   refine Ts (Tr ?_)
   refine Lq 2 ?_
   refine Ln (Et ?_)
   refine Tb H499 (fun H511 => ?_) fun H511 => ?_
   ·refine Ts (Tr ?_)
    refine Lb 2 ?_
    refine Lq 1 ?_
    refine Lb 2 ?_
    obtain ⟨r512, h513, H514⟩ := bnd H511
    refine Lk [] [0] (c_ref11_place h513) fun ⟨⟩ => ?_
    refine Lt 0 ?_
    refine Lq 1 ?_
    refine Ln (Et (Tv (Ev (Ev ?_))))
    obtain ⟨w516, hz, H517⟩ := inrs_some H514
    subst y457
    obtain rfl := (sm H459).symm
    refine Er ?_
    refine E.nil0 tyRef09Row 69 ?_
    obtain rfl := sm H517
    exact Eo ((A0, C0), (none, 0)) [0] [0] (.cell 1 rfl rfl rfl (.tmp rfl .nil))
   refine Tk (Eb (Eb ?_))
   obtain rfl := sm H511
   exact Eg (_, ()) rfl [2, 0, 0] [0] 0
  refine Ts (Tr ?_)
  refine Lq 2 ?_
  refine Ln (Et ?_)
  refine Tb H472 (fun H519 => ?_) fun H519 => ?_
  ·refine Ts (Tr ?_)
   refine Lq 1 ?_
   refine Lb 1 ?_
   refine Ln (Et (Tl (Ts (Tr ?_))))
   refine Lq 2 ?_
   refine Ln (Et ?_)
   refine Tb H519 (fun H520 => ?_) fun H520 => ?_
   ·refine Ts (Tr ?_)
    refine Lb 2 ?_
    obtain ⟨r521, h522, H523⟩ := bnd H520
    refine Lk [] [0] (c_ref11_line h522) fun ⟨⟨a524, c525⟩, ⟨a526, c527⟩⟩ => ?_
    refine Lq 2 ?_
    refine Lt 1 ?_
    refine Lq 1 ?_
    refine Ln (Et (Tv (Ev (Ev ?_))))
    obtain ⟨w530, hz, H531⟩ := inrs_some H523
    subst y457
    obtain rfl := (sm H459).symm
    refine Er ?_
    obtain rfl := sm H531
    exact Eo ((a524, c525), (a526, c527)) [1] [0] (.cell 0 rfl rfl rfl (.tmp rfl .nil))
   refine Ts (Tr ?_)
   refine Lq 2 ?_
   refine Ln (Et ?_)
   refine Tb H520 (fun H532 => ?_) fun H532 => ?_
   ·refine Ts (Tr ?_)
    refine Lq 1 ?_
    refine Lt 2 ?_
    refine Ln (Et (Ts (Tr ?_)))
    refine Lb 0 ?_
    obtain ⟨r533, h534, H535⟩ := bnd H532
    refine Lk [] [0] (c_ref11_line h534) fun ⟨⟨a536, c537⟩, ⟨a538, c539⟩⟩ => ?_
    refine Lq 2 ?_
    refine Lt 2 ?_
    refine Lq 1 ?_
    refine Ln (Et (Tv (Ev (Ev ?_))))
    obtain ⟨w542, hz, H543⟩ := inrs_some H535
    subst y457
    obtain rfl := (sm H459).symm
    refine Er ?_
    obtain rfl := sm H543
    exact Eo ((a536, c537), (a538, c539)) [1] [0] (.cell 0 rfl rfl rfl (.tmp rfl .nil))
   refine Ts (Tr ?_)
   refine Lq 2 ?_
   refine Ln (Et ?_)
   refine Tb H532 (fun H544 => ?_) fun H544 => ?_
   ·refine Ts (Tr ?_)
    refine Lq 1 ?_
    refine Lt 2 ?_
    refine Ln (Et (Ts (Ts (Tr ?_))))
    refine Lq 1 ?_
    refine Lb 0 ?_
    refine Lq 1 ?_
    refine Lb 0 ?_
    refine Lq 1 ?_
    refine Ln (Et ?_)
    refine Tb H544 (fun H594 => ?_) fun H594 => ?_
    ·refine Ts ?_
     refine Td [14] [0, 0, 0] mo ?_
     refine Dq 0 ?_
     refine Db 1 0 ?_
     refine Dq 2 ?_
     refine Db 3 0 ?_
     refine Dq 4 ?_
     refine Db 5 0 ?_
     refine Dq 6 ?_
     refine Db 7 0 ?_
     obtain ⟨r631, h632, H633⟩ := bnd H594
     refine Dk [] [] (c_ref08_Num h632) fun ⟨⟩ => ?_
     obtain ⟨r634, h635, H636⟩ := bnd H633
     refine Dk [] [0] (c_ref10_Move h635) fun ⟨⟨a637, c638⟩, ⟨a639, c640⟩⟩ => ?_
     refine Dq 10 ?_
     refine Dq 11 ?_
     refine Dq 12 ?_
     refine Dq 13 ?_
     refine Dt 0 ?_
     refine Dn ?_
     refine Et (Ts (Tr ?_))
     refine Lb 0 ?_
     refine Lt 1 ?_
     refine Lq 1 ?_
     refine Ln (Et (Tv (Er (Ev (Ev ?_)))))
     obtain ⟨w643, hz, H644⟩ := inrs_some H636
     subst y457
     obtain rfl := (sm H459).symm
     refine Er ?_
     refine E.nil0 tyRef09Row 69 ?_
     obtain rfl := sm H644
     exact Eo ((a637, c638), (none, 0)) [0] [0] (.cell 1 rfl rfl rfl (.tmp rfl .nil))
    refine Tk (Et (Ts (Tr ?_)))
    refine Lb 0 ?_
    refine Lq 1 ?_
    refine Lb 0 ?_
    refine Lq 1 ?_
    refine Lb 0 ?_
    refine Lq 1 ?_
    obtain ⟨r646, h647, H648⟩ := bnd H594
    refine Lk [] [0] (c_ref11_place h647) fun ⟨⟩ => ?_
    refine Lt 1 ?_
    refine Lq 1 ?_
    refine Ln (Et (Tv (Ev (Ev ?_))))
    obtain ⟨w650, hz, H651⟩ := inrs_some H648
    subst y457
    obtain rfl := (sm H459).symm
    refine Er ?_
    refine E.nil0 tyRef09Row 69 ?_
    obtain rfl := sm H651
    exact Eo ((A0, C0), (none, 0)) [0] [0] (.cell 1 rfl rfl rfl (.tmp rfl .nil))
   refine Ts (Tr ?_)
   refine Lq 2 ?_
   refine Ln (Et ?_)
   refine Tb H544 (fun H653 => ?_) fun H653 => ?_
   ·refine Tr ?_
    refine Lq 1 ?_
    refine Lb 2 ?_
    refine Lq 1 ?_
    refine Lb 2 ?_
    refine Lq 1 ?_
    refine Lb 2 ?_
    refine Lq 1 ?_
    refine Lt 2 ?_
    refine Lq 1 ?_
    refine Lt 0 ?_
    refine Lq 1 ?_
    refine Lt 0 ?_
    refine Ln (Eb (Eb ?_))
    obtain rfl := sm H653
    exact Eg (_, ()) rfl [0, 0, 0] [0] 0
   refine Ts (Tr ?_)
   refine Lq 2 ?_
   refine Ln (Et ?_)
   refine Tb H653 (fun H654 => ?_) fun H654 => ?_
   ·refine Ts (Tr ?_)
    refine Lq 1 ?_
    refine Lb 2 ?_
    refine Lq 1 ?_
    refine Lt 2 ?_
    refine Ln (Et (Ts (Tr ?_)))
    refine Lb 0 ?_
    refine Lq 1 ?_
    refine Lb 0 ?_
    refine Lq 1 ?_
    refine Lb 0 ?_
    obtain ⟨r655, h656, H657⟩ := bnd H654
    refine Lk [] [0] (c_ref11_place h656) fun ⟨⟩ => ?_
    refine Lt 1 ?_
    refine Lq 1 ?_
    refine Ln (Et (Tv (Ev (Ev ?_))))
    obtain ⟨w659, hz, H660⟩ := inrs_some H657
    subst y457
    obtain rfl := (sm H459).symm
    refine Er ?_
    refine E.nil0 tyRef09Row 69 ?_
    obtain rfl := sm H660
    exact Eo ((A0, C0), (none, 0)) [0] [0] (.cell 1 rfl rfl rfl (.tmp rfl .nil))
   refine Ts (Tr ?_)
   refine Lq 2 ?_
   refine Ln (Et ?_)
   refine Tb H654 (fun H662 => ?_) fun H662 => ?_
   ·refine Ts (Tr ?_)
    refine Lq 2 ?_
    refine Lb 2 ?_
    refine Lq 2 ?_
    refine Lb 2 ?_
    refine Lq 1 ?_
    obtain ⟨r663, h664, H665⟩ := bnd H662
    refine Lk [] [] (c_ref11_New h664) fun ⟨a666, c667⟩ => ?_
    refine Lt 0 ?_
    refine Lq 1 ?_
    refine Ln (Et (Tv (Ev (Ev ?_))))
    obtain ⟨w669, hz, H670⟩ := inrs_some H665
    subst y457
    obtain rfl := (sm H459).symm
    refine Er ?_
    refine E.nil0 tyRef09Row 69 ?_
    obtain rfl := sm H670
    exact Eo ((a666, c667), (none, 0)) [0] [0] (.cell 1 rfl rfl rfl (.tmp rfl .nil))
   refine Tk (Eb (Eb ?_))
   obtain rfl := sm H662
   exact Eg (_, ()) rfl [2, 0, 0] [0] 0
  refine Ts (Tr ?_)
  refine Lq 2 ?_
  refine Ln (Et ?_)
  refine Tb H519 (fun H672 => ?_) fun H672 => ?_
  ·refine Ts (Ts (Tr ?_))
   refine Lq 1 ?_
   refine Lb 1 ?_
   refine Lq 1 ?_
   refine Ln (Et ?_)
   refine Tb H672 (fun H683 => ?_) fun H683 => ?_
   ·refine Ts (Tr ?_)
    refine Lb 2 ?_
    refine Lq 1 ?_
    refine Lb 1 ?_
    refine Lq 1 ?_
    refine Lb 1 ?_
    obtain ⟨r684, h685, H686⟩ := bnd H683
    refine Lk [] [0, 1] (c_ref11_Command h685) fun ⟨⟨a687, c688⟩, ⟨a689, c690⟩⟩ => ?_
    refine Lq 2 ?_
    refine Lt 1 ?_
    refine Lq 1 ?_
    refine Ln (Et (Tv (Er (Ev ?_))))
    obtain ⟨w693, hz, H694⟩ := inrs_some H686
    subst y457
    obtain rfl := (sm H459).symm
    refine Er ?_
    obtain rfl := sm H694
    exact Eo ((a687, c688), (a689, c690)) [1] [0] (.cell 0 rfl rfl rfl (.tmp rfl .nil))
   refine Tk (Et (Ts ?_))
   obtain ⟨e706, H707, H708⟩ := bnd H683
   refine Tj0 [(159, .bool e706)] [2, 3, 4] [] [0, 1, 2] ?_ ?_
   ·refine Tr ?_
    refine Lq 1 ?_
    refine Lb 1 ?_
    obtain ⟨r709, h710, H711⟩ := bnd H707
    refine Lk [] [1] (c_ref11_num h710) fun ⟨⟩ => ?_
    refine Lq 2 ?_
    refine Lw 150 H711 (fun H712 => ?_) fun H712 => ?_
    ·refine Lq 1 ?_
     refine Lb 1 ?_
     refine Lq 2 ?_
     refine Lw 154 H712 (fun H713 => ?_) fun H713 => ?_
     ·refine Lq 5 ?_
      refine Ln ?_
      obtain rfl := sm H713
      exact Eg0 [0, 0, 0] 0
     refine Lq 1 ?_
     refine Lb 1 ?_
     refine Lq 3 ?_
     refine Ln ?_
     obtain rfl := sm H713
     exact Eg0 [0, 0, 0] 0
    refine Lq 9 ?_
    refine Ln ?_
    obtain rfl := sm H712
    exact Eg0 [0, 0, 0] 0
   refine Tb H708 (fun H714 => ?_) fun H714 => ?_
   ·refine Tr ?_
    refine Lq 1 ?_
    refine Lb 1 ?_
    refine Lq 2 ?_
    refine Lt 2 ?_
    refine Ln (Eb ?_)
    obtain rfl := sm H714
    exact Eg (_, ()) rfl [0, 0, 0] [0] 0
   refine Tk (Eb ?_)
   obtain rfl := sm H714
   exact Eg (_, ()) rfl [2, 0, 0] [0] 0
  refine Ts (Tr ?_)
  refine Lq 2 ?_
  refine Ln (Et ?_)
  refine Tb H672 (fun H715 => ?_) fun H715 => ?_
  ·refine Tr ?_
   refine Lq 1 ?_
   refine Lb 1 ?_
   refine Lq 1 ?_
   refine Lt 2 ?_
   refine Ln (Eb ?_)
   obtain rfl := sm H715
   exact Eg (_, ()) rfl [0, 0, 0] [0] 0
  refine Tk (Eb ?_)
  obtain rfl := sm H715
  exact Eg (_, ()) rfl [2, 0, 0] [0] 0
 rintro ⟨e456, ⟨⟩⟩ hy
 subst hy
 refine Ts (Tr ?_)
 refine Lb 0 ?_
 refine Lt 1 ?_
 refine Lq 1 ?_
 refine Ln (Et (Tv ?_))
 refine E.nil0 tyRef09Row 69 ?_
 obtain rfl := sm H459
 exact Eo ((A0, C0), (none, 0)) [0] [0] (.cell 1 rfl rfl rfl (.tmp rfl .nil))

theorem c_grid_Grid_Rows {g : GridGrid} {r : (List RowRow) × GridGrid} (H : p_grid_Grid_Rows g = some r) : CT G 17 [.pointer (some ⟨N0, 0, none⟩)] [Ch.box N0 96 [.int .i64 g.w, .slice A0 g.l.length C0], Ch.arr tyRowRow 52 A0 C0 g.l] [] (fun h : (Option Addr × Nat) => .slice h.1 r.1.length h.2) (fun h => [Ch.arr tyRowRow 52 h.1 h.2 r.1, Ch.box N0 96 [.int .i64 r.2.w, .slice A0 r.2.l.length C0], Ch.arr tyRowRow 52 A0 C0 r.2.l]) (fun h => []) := by
 delta p_grid_Grid_Rows at H
 refine CT.of Go.Proofs.Tryz.func17 (by kernel_rfl) rfl rfl rfl fun K => ?_
 refine Ts (Tr ?_)
 refine Lq 1 ?_
 refine Ln (Et (Ts (Tr ?_)))
 refine Lq 3 ?_
 refine Lb 0 ?_
 obtain ⟨r1, h2, H3⟩ := bnd H
 refine Lk [1] [] (c_grid_copies_v2 h2) fun ⟨a4, c5⟩ => ?_
 obtain ⟨_, h8, H9⟩ := bnd H3
 refine L.bx 2 (cs' := [.int .i64 g.w, .slice A0 r1.2.length C0]) (by rw [chk_some h8]) rfl ?_
 refine Lq 1 ?_
 refine Ln (Et (Tv ?_))
 obtain rfl := sm H9
 exact Eo1 (a4, c5) [1, 0, 0] []

theorem c_law11_ScreenOff {w : Int} {text : ByteArray} {r : Bool} (H : p_law11_ScreenOff w text = some r) : CT G 3 [.int .i64 w, .string text] [] [Im.sl tyWideSpan (some ⟨0, 0, none⟩) 13 t_wide_nones, Im.sl tyWideSpan (some ⟨1, 0, none⟩) 14 t_wide_twos] (fun _ : Unit => .bool r) (fun h => []) (fun h => []) := by
 delta p_law11_ScreenOff at H
 refine CT.of Go.Proofs.Tryz.func3 (by kernel_rfl) rfl rfl rfl fun K => ?_
 refine Ts (Tr ?_)
 refine Lq 1 ?_
 refine Ln (Et (Ts (Ts (Tr ?_))))
 obtain ⟨r1, h2, H3⟩ := bnd H
 refine Lk [] [0, 1] (c_law11_awake h2) fun ⟨⟩ => ?_
 refine Lq 1 ?_
 refine Ln (Et ?_)
 refine Tb H3 (fun H5 => ?_) fun H5 => ?_
 ·refine Ts (Tr ?_)
  refine Lq 1 ?_
  refine Ln (Et (Tv (Er ?_)))
  obtain rfl := sm H5
  exact Eo1 () [] []
 refine Tk (Et (Ts (Tr ?_)))
 refine Lq 4 ?_
 refine Ln (Et (Ts (Tr ?_)))
 refine Lq 1 ?_
 obtain ⟨r6, h7, H8⟩ := bnd H5
 refine Lk [] [] (c_screen_New h7) fun ⟨g9, g10, ⟨a11, c12⟩⟩ => ?_
 refine Lq 1 ?_
 refine Ln (Et (Ts (Ts (Tr ?_))))
 refine Lq 1 ?_
 refine Ly (Yl.pn rfl rfl rfl rfl rfl rfl) ?_
 refine Ln (Et ?_)
 refine T.cond rfl (fun h => nomatch h) (fun _ => ?_)
 refine Tk (Et (Ts (Tr ?_)))
 refine Lq 1 ?_
 obtain ⟨r14, h15, H16⟩ := bnd H8
 refine Lk [] [] (c_ref11_New h15) fun ⟨a17, c18⟩ => ?_
 refine Ll fun g20 => ?_
 refine Lt 0 ?_
 refine Ln (Et (Ts (Tr ?_)))
 refine Lq 1 ?_
 refine Ln (Et (Ts (Tr ?_)))
 refine Lq 1 ?_
 obtain ⟨r21, h22, H23⟩ := bnd H16
 refine Lk [] [] (c_law01_Cut h22) fun ⟨⟩ => ?_
 refine Lq 1 ?_
 refine Ln (Et (Ts (Tr ?_)))
 refine Lq 1 ?_
 refine Ln (Et (Ts (Ts (Tr ?_))))
 refine Lq 1 ?_
 refine Ln (Et ?_)
 obtain ⟨e1040, H1041, H1042⟩ := bnd H23
 refine Tjh (η := (Option Addr × Nat) × (Option Addr × Nat) × Nat × (Option Addr × Nat)) (fun h => (fun a1027 c1028 a1032 c1033 g1036 a1037 c1038 => [(7, .slice a1027 e1040.1.length c1028), (8, .string e1040.2.1)]) h.1.1 h.1.2 h.2.1.1 h.2.1.2 h.2.2.1 h.2.2.2.1 h.2.2.2.2) [5] (fun h => (fun a1027 c1028 a1032 c1033 g1036 a1037 c1038 => [Ch.arr tyRowRow 52 a1027 c1028 e1040.1, Ch.arr tyRowRow 52 a1037 c1038 e1040.2.2.2.g.l, Ch.box g20 31 (bx31 e1040.2.2.1 a1032 c1033), Ch.box g9 81 [.pointer (some ⟨g1036, 0, none⟩), .int .i64 e1040.2.2.2.spot.x, .int .i64 e1040.2.2.2.spot.y, .int .i64 e1040.2.2.2.spot.style.fore, .int .i64 e1040.2.2.2.spot.style.back, .bool e1040.2.2.2.spot.style.bold, .bool e1040.2.2.2.spot.style.under, .bool e1040.2.2.2.spot.style.inverse, .int .i64 e1040.2.2.2.saved.x, .int .i64 e1040.2.2.2.saved.y, .int .i64 e1040.2.2.2.saved.style.fore, .int .i64 e1040.2.2.2.saved.style.back, .bool e1040.2.2.2.saved.style.bold, .bool e1040.2.2.2.saved.style.under, .bool e1040.2.2.2.saved.style.inverse, .bool e1040.2.2.2.waiting, .int .i64 e1040.2.2.2.top, .int .i64 e1040.2.2.2.bottom, .bool e1040.2.2.2.wraps, .string e1040.2.2.2.title], Ch.box g1036 96 [.int .i64 e1040.2.2.2.g.w, .slice a1037 e1040.2.2.2.g.l.length c1038]]) h.1.1 h.1.2 h.2.1.1 h.2.1.2 h.2.2.1 h.2.2.2.1 h.2.2.2.2) [] (fun h => (fun a1027 c1028 a1032 c1033 g1036 a1037 c1038 => [Im.sl tyRef09Row a1032 c1033 e1040.2.2.1.g.l]) h.1.1 h.1.2 h.2.1.1 h.2.1.2 h.2.2.1 h.2.2.2.1 h.2.2.2.2) ?_ ?_
 ·refine Tl ?_
  refine T.nil0 tyRowRow 52 ?_
  refine Tq (η := (Option Addr × Nat) × Nat × (Option Addr × Nat) × (Option Addr × Nat)) (fun s709 h => (fun a695 c696 g699 a700 c701 a704 c705 => [(7, .slice a704 s709.2.2.1.length c705), (8, .string s709.2.2.2.1), (9, .int .i64 s709.2.2.2.2)]) h.1.1 h.1.2 h.2.1 h.2.2.1.1 h.2.2.1.2 h.2.2.2.1 h.2.2.2.2) [1, 5, 6] (fun s709 h => (fun a695 c696 g699 a700 c701 a704 c705 => [Ch.arr tyRowRow 52 a700 c701 s709.2.1.g.l, Ch.arr tyRowRow 52 a704 c705 s709.2.2.1, Ch.box g20 31 (bx31 s709.1 a695 c696), Ch.box g9 81 [.pointer (some ⟨g699, 0, none⟩), .int .i64 s709.2.1.spot.x, .int .i64 s709.2.1.spot.y, .int .i64 s709.2.1.spot.style.fore, .int .i64 s709.2.1.spot.style.back, .bool s709.2.1.spot.style.bold, .bool s709.2.1.spot.style.under, .bool s709.2.1.spot.style.inverse, .int .i64 s709.2.1.saved.x, .int .i64 s709.2.1.saved.y, .int .i64 s709.2.1.saved.style.fore, .int .i64 s709.2.1.saved.style.back, .bool s709.2.1.saved.style.bold, .bool s709.2.1.saved.style.under, .bool s709.2.1.saved.style.inverse, .bool s709.2.1.waiting, .int .i64 s709.2.1.top, .int .i64 s709.2.1.bottom, .bool s709.2.1.wraps, .string s709.2.1.title], Ch.box g699 96 [.int .i64 s709.2.1.g.w, .slice a700 s709.2.1.g.l.length c701]]) h.1.1 h.1.2 h.2.1 h.2.2.1.1 h.2.2.1.2 h.2.2.2.1 h.2.2.2.2) [] (fun s709 h => (fun a695 c696 g699 a700 c701 a704 c705 => [Im.sl tyRef09Row a695 c696 s709.1.g.l]) h.1.1 h.1.2 h.2.1 h.2.2.1.1 h.2.2.1.2 h.2.2.2.1 h.2.2.2.2) ((a17, c18), g10, (a11, c12), (none, 0)) [4, 0, 0, 0, 0] [0] H1041 ?_
  rintro k_ s709 ⟨⟨a695, c696⟩, g699, ⟨a700, c701⟩, ⟨a704, c705⟩⟩ z1044 H1043 hag1045 hbr1046
  refine Ts (Ts (Tr ?_))
  refine Lq 4 ?_
  refine Ln (Et ?_)
  refine Tb H1043 (fun H1048 => ?_) fun H1048 => ?_
  ·refine Tk (Et (Ts (Tl (Ts (Tr ?_)))))
   refine Lq 2 ?_
   obtain ⟨b1206, h1207, H1208⟩ := bnd H1048
   refine Ly (Yl.si h1207 rfl rfl rfl rfl rfl) ?_
   refine Lq 4 ?_
   refine Ll fun g1209 => ?_
   refine Lt 0 ?_
   refine Ln (Et (Ts (Ts (Tr ?_))))
   refine Lq 2 ?_
   obtain ⟨b1210, h1211, H1212⟩ := bnd H1208
   refine Ly (Yl.si h1211 rfl rfl rfl rfl rfl) ?_
   refine Lq 1 ?_
   refine Ln (Et ?_)
   obtain ⟨e1293, H1294, H1295⟩ := bnd H1212
   refine Tjh (η := (Option Addr × Nat) × (Option Addr × Nat) × Nat × (Option Addr × Nat)) (fun h => (fun a1280 c1281 a1285 c1286 g1289 a1290 c1291 => [(7, .slice a1280 e1293.1.length c1281), (8, .string e1293.2.1)]) h.1.1 h.1.2 h.2.1.1 h.2.1.2 h.2.2.1 h.2.2.2.1 h.2.2.2.2) [1, 5, 6, 9, 10] (fun h => (fun a1280 c1281 a1285 c1286 g1289 a1290 c1291 => [Ch.arr tyRowRow 52 a1280 c1281 e1293.1, Ch.arr (Ty.int .i64) 3 a1285 c1286 e1293.2.2.1.nums, Ch.arr tyRowRow 52 a1290 c1291 e1293.2.2.2.g.l, Ch.box g1209 37 (bx37 e1293.2.2.1 a1285 c1286), Ch.box g9 81 [.pointer (some ⟨g1289, 0, none⟩), .int .i64 e1293.2.2.2.spot.x, .int .i64 e1293.2.2.2.spot.y, .int .i64 e1293.2.2.2.spot.style.fore, .int .i64 e1293.2.2.2.spot.style.back, .bool e1293.2.2.2.spot.style.bold, .bool e1293.2.2.2.spot.style.under, .bool e1293.2.2.2.spot.style.inverse, .int .i64 e1293.2.2.2.saved.x, .int .i64 e1293.2.2.2.saved.y, .int .i64 e1293.2.2.2.saved.style.fore, .int .i64 e1293.2.2.2.saved.style.back, .bool e1293.2.2.2.saved.style.bold, .bool e1293.2.2.2.saved.style.under, .bool e1293.2.2.2.saved.style.inverse, .bool e1293.2.2.2.waiting, .int .i64 e1293.2.2.2.top, .int .i64 e1293.2.2.2.bottom, .bool e1293.2.2.2.wraps, .string e1293.2.2.2.title], Ch.box g1289 96 [.int .i64 e1293.2.2.2.g.w, .slice a1290 e1293.2.2.2.g.l.length c1291]]) h.1.1 h.1.2 h.2.1.1 h.2.1.2 h.2.2.1 h.2.2.2.1 h.2.2.2.2) [3] (fun _ => []) ?_ ?_
   ·refine Tb H1294 (fun H1296 => ?_) fun H1296 => ?_
    ·refine Ts (Tr ?_)
     refine Lq 1 ?_
     refine Lt 0 ?_
     refine Ln (Et (Ts (Tr ?_)))
     refine Lq 1 ?_
     obtain ⟨_, h1297, H1298⟩ := bnd H1296
     refine Ly (Yl.sa h1297 rfl rfl rfl) ?_
     refine Lq 1 ?_
     refine Ln (Et (Tr ?_))
     refine Lq 3 ?_
     refine L.know [Im.sl (Ty.int .i64) none 0 []] (fun A w _ _ f hf => by rw [List.mem_singleton.1 hf]; exact Im.sl_nil A w) ?_
     obtain ⟨r1300, h1301, H1302⟩ := bnd H1298
     refine Lk [] [0] (c_law11_Own h1301) fun ⟨a1303, c1304⟩ => ?_
     obtain ⟨r1306, h1307, H1308⟩ := bnd H1302
     refine Lk [4, 4, 1] [0, 4, 5] (c_screen_Screen_Do h1307) fun ⟨⟨a1309, c1310⟩, g1311, ⟨a1312, c1313⟩⟩ => ?_
     refine L.frz 0 rfl ?_
     obtain ⟨_, h1317, H1318⟩ := bnd H1308
     refine La [4] [0] (Ac.ap (ty := tyRowRow) h1317 rfl rfl rfl rfl rfl rfl rfl) ?_
     rintro ⟨a1319, c1320⟩
     refine Lq 1 ?_
     refine Ln ?_
     refine E.nil0 (Ty.int .i64) 3 ?_
     obtain rfl := sm H1318
     exact Eg ((a1319, c1320), (none, 0), g1311, (a1312, c1313)) trivial [1, 0, 2, 2, 0, 0, 0] [] 3
    refine Tr ?_
    refine Lq 3 ?_
    obtain ⟨b1323, h1324, H1325⟩ := bnd H1296
    refine Ly (Yl.si h1324 rfl rfl rfl rfl rfl) ?_
    refine Lq 2 ?_
    refine La [] [] (Ac.bs (ty := (Ty.int .u8)) (xs := [(IntKind.u8.wrap (33 + (Go.bits .and .u8 b1323 63)))]) (.cons () [] rfl .nil) rfl rfl rfl rfl rfl rfl rfl) fun g1326 => ?_
    refine Ly (Yl.bs 0 rfl rfl rfl rfl rfl rfl rfl rfl rfl) ?_
    obtain ⟨_, h1328, H1329⟩ := bnd H1325
    refine Ly (Yl.sa h1328 rfl rfl rfl) ?_
    refine Lq 1 ?_
    refine Ln ?_
    refine E.nil0 (Ty.int .i64) 3 ?_
    obtain rfl := sm H1329
    exact Eg ((a704, c705), (none, 0), g699, (a700, c701)) trivial [4, 0, 2, 1, 2, 2, 1] [] 0
   rintro ⟨⟨a1280, c1281⟩, ⟨a1285, c1286⟩, g1289, ⟨a1290, c1291⟩⟩
   refine Ts (Tr ?_)
   refine Lq 2 ?_
   refine Lb 3 ?_
   refine L.frz 1 rfl ?_
   obtain ⟨r1332, h1333, H1334⟩ := bnd H1295
   refine Lk [] [0] (c_law11_Own h1333) fun ⟨a1335, c1336⟩ => ?_
   obtain ⟨r1338, h1339, H1340⟩ := bnd H1334
   refine Lk [3, 3, 1] [0, 4, 5] (c_screen_Screen_Do h1339) fun ⟨⟨a1341, c1342⟩, g1343, ⟨a1344, c1345⟩⟩ => ?_
   refine L.frz 0 rfl ?_
   obtain ⟨_, h1349, H1350⟩ := bnd H1340
   refine La [3] [0] (Ac.ap (ty := tyRowRow) h1349 rfl rfl rfl rfl rfl rfl rfl) ?_
   rintro ⟨a1351, c1352⟩
   refine Lq 1 ?_
   refine Ln (Et (Tr ?_))
   refine Lb 5 ?_
   refine Lb 4 ?_
   obtain ⟨r1354, h1355, H1356⟩ := bnd H1350
   refine Lk [] [3, 2] (c_ref11_Do h1355) fun ⟨⟨a1357, c1358⟩, ⟨a1359, c1360⟩⟩ => ?_
   refine Lq 3 ?_
   refine Lt 6 ?_
   refine Ln (Eb (Et (Tr ?_)))
   refine Lq 3 ?_
   refine Ln ?_
   obtain rfl := sm H1356
   exact Eg (_, ((a1357, c1358), g1343, (a1344, c1345), (a1351, c1352))) (hag1045 _ rfl) [5, 2, 0, 1, 1] [0] 5
  refine Tx (Ex (Ex (Eh ?_)))
  obtain rfl := sm H1048
  have hb := hbr1046 _ rfl
  subst e1040
  exact Eg ((a704, c705), (a695, c696), g699, (a700, c701)) trivial [1, 0, 0, 0, 0] [0] 1
 rintro ⟨⟨a1027, c1028⟩, ⟨a1032, c1033⟩, g1036, ⟨a1037, c1038⟩⟩
 refine Ts (Tr ?_)
 refine Lq 1 ?_
 obtain ⟨r1363, h1364, H1365⟩ := bnd H1042
 refine Lk [3, 3, 1] [] (c_screen_Screen_Cursor h1364) fun ⟨⟩ => ?_
 refine Lq 5 ?_
 refine Ln (Et (Ts (Tr ?_)))
 refine Lq 1 ?_
 obtain ⟨r1366, h1367, H1368⟩ := bnd H1365
 refine Lk [0, 0, 0] [] (c_screen_Screen_Grid h1367) fun ⟨g1369, ⟨a1370, c1371⟩⟩ => ?_
 refine Lq 1 ?_
 refine Ln (Et (Ts (Ts (Tr ?_))))
 refine Lq 1 ?_
 refine Ly (Yl.pn rfl rfl rfl rfl rfl rfl) ?_
 refine Ln (Et ?_)
 refine T.cond rfl (fun h => nomatch h) (fun _ => ?_)
 refine Tk (Et (Ts (Ts (Tr ?_))))
 refine Lq 1 ?_
 obtain ⟨r1374, h1375, H1376⟩ := bnd H1368
 refine Lk [0, 0] [] (c_grid_Grid_Rows h1375) fun ⟨a1377, c1378⟩ => ?_
 refine Lq 2 ?_
 refine Ln (Et ?_)
 obtain ⟨e1590, H1591, H1592⟩ := bnd H1376
 refine Tjh (η := (Option Addr × Nat)) (fun h => (fun a1587 c1588 => [(7, .slice a1587 e1590.length c1588)]) h.1 h.2) [8] (fun h => (fun a1587 c1588 => [Ch.arr tyRowRow 52 a1587 c1588 e1590]) h.1 h.2) [1, 3, 4, 7, 2, 5] (fun _ => []) ?_ ?_
 ·refine Tl ?_
  refine Tq (η := (Option Addr × Nat)) (fun s1522 h => (fun a1518 c1519 => [(7, .slice a1518 s1522.1.length c1519), (93, .int .i64 s1522.2)]) h.1 h.2) [8, 12, 91, 92] (fun s1522 h => (fun a1518 c1519 => [Ch.arr tyRowRow 52 a1518 c1519 s1522.1]) h.1 h.2) [1, 3, 4, 7, 0, 2, 5] (fun _ _ => []) (a1027, c1028) [6, 1, 2, 2, 3, 0, 0, 0] [] H1591 ?_
  rintro k_ s1522 ⟨a1518, c1519⟩ z1594 H1593 hag1595 hbr1596
  refine Ts (Tr ?_)
  refine Lq 1 ?_
  refine Ln (Et (Ts ?_))
  refine Tb H1593 (fun H1598 => ?_) fun H1598 => ?_
  ·refine Tk (Et (Ts ?_))
   obtain ⟨e1639, H1640, H1641⟩ := bnd H1598
   refine Tjh (η := (Option Addr × Nat)) (fun h => (fun a1636 c1637 => [(7, .slice a1636 e1639.length c1637)]) h.1 h.2) [8, 12, 91, 92, 93] (fun h => (fun a1636 c1637 => [Ch.arr tyRowRow 52 a1636 c1637 e1639]) h.1 h.2) [1, 2, 3, 4, 5, 6, 7] (fun _ => []) ?_ ?_
   ·refine Tl (Ts (Tr ?_))
    refine Lq 1 ?_
    obtain ⟨x1642, h1643, H1644⟩ := bnd H1640
    refine L.addro 5 rfl (idx_lt h1643) fun b1645 e1646 => ?_
    subst e1646
    refine Ly (Yl.ia h1643 rfl rfl rfl rfl rfl rfl) ?_
    refine La [5] [] (Ac.lo s1522.2.toNat 0 (v := (fun h : (Option Addr × Nat) => (fun a1647 c1648 => .agg #[.slice a1647 x1642.cells.length c1648, .bool x1642.wrapped]) h.1 h.2)) (idx_some h1643).2 rfl rfl rfl (fun _ => rfl)) ?_
    rintro ⟨a1647, c1648⟩
    refine Ll fun g1650 => ?_
    refine Lq 1 ?_
    refine Lt 0 ?_
    refine Ln (Et (Ts (Tr ?_)))
    refine Lq 3 ?_
    refine Ln (Et ?_)
    refine Tb H1644 (fun H1651 => ?_) fun H1651 => ?_
    ·refine Tr ?_
     refine Lq 1 ?_
     refine Lb 0 ?_
     refine La [] [0] (Ac.bs (ty := tyRowRow) (xs := [x1642]) (.cons (a1647, c1648) [0] rfl .nil) rfl rfl rfl rfl rfl rfl rfl) fun g1652 => ?_
     refine L.frz 0 rfl ?_
     obtain ⟨_, h1655, H1656⟩ := bnd H1651
     refine La [2] [0] (Ac.ap (ty := tyRowRow) h1655 rfl rfl rfl rfl rfl rfl rfl) ?_
     rintro ⟨a1657, c1658⟩
     refine Lq 1 ?_
     refine Ln (Eb ?_)
     obtain rfl := sm H1656
     exact Eg (a1657, c1658) trivial [0, 2, 2, 2, 2, 1, 1, 1] [] 2
    refine Tk (Eb ?_)
    obtain rfl := sm H1651
    exact Eg (a1518, c1519) trivial [2, 2, 2, 2, 2, 1, 1, 1] [] 1
   rintro ⟨a1636, c1637⟩
   refine Tr ?_
   refine Lq 2 ?_
   refine Ln ?_
   obtain rfl := sm H1641
   exact Eg (_, (a1636, c1637)) (hag1595 _ rfl) [0, 0, 0, 0, 0, 0, 0, 0] [] 0
  refine Tx (Ex (Ex (Eh ?_)))
  obtain rfl := sm H1598
  have hb := hbr1596 _ rfl
  subst e1590
  exact Eg (a1518, c1519) trivial [0, 0, 0, 0, 0, 1, 1] [] 0
 rintro ⟨a1587, c1588⟩
 refine Ts (Tr ?_)
 refine Lq 1 ?_
 refine Ln (Et (Ts (Ts (Tr ?_))))
 refine Lq 3 ?_
 refine Ln (Et ?_)
 obtain ⟨e2838, H2839, H2840⟩ := bnd H1592
 refine Tj0 [(16, .string e2838)] [8] [] [1, 2, 3, 4, 5, 6] ?_ ?_
 ·refine Tl ?_
  refine Tq (η := Unit) (fun s2446 h => [(16, .string s2446.2), (108, .int .i64 s2446.1)]) [7, 8, 106, 107] (fun _ _ => []) [1, 2, 3, 4, 0, 5, 6] (fun _ _ => []) () [1, 1, 1, 1, 0, 0, 0] [] H2839 ?_
  rintro k_ s2446 ⟨⟩ z2842 H2841 hag2843 hbr2844
  refine Ts (Tr ?_)
  refine Lq 1 ?_
  refine Ln (Et (Ts ?_))
  refine Tb H2841 (fun H2846 => ?_) fun H2846 => ?_
  ·refine Tk (Et (Ts ?_))
   obtain ⟨e3104, H3105, H3106⟩ := bnd H2846
   refine Tj0 [(16, .string e3104)] [7, 8, 106, 107, 108] [] [0, 1, 2, 3, 4, 5, 6] ?_ ?_
   ·refine Tl (Ts (Tr ?_))
    refine Lq 1 ?_
    obtain ⟨x3107, h3108, H3109⟩ := bnd H3105
    refine L.addro 4 rfl (idx_lt h3108) fun b3110 e3111 => ?_
    subst e3111
    refine Ly (Yl.ia h3108 rfl rfl rfl rfl rfl rfl) ?_
    refine La [4] [] (Ac.lo s2446.1.toNat 0 (v := (fun h : (Option Addr × Nat) => (fun a3112 c3113 => .agg #[.slice a3112 x3107.cells.length c3113, .bool x3107.wrapped]) h.1 h.2)) (idx_some h3108).2 rfl rfl rfl (fun _ => rfl)) ?_
    rintro ⟨a3112, c3113⟩
    refine Ll fun g3115 => ?_
    refine Lq 1 ?_
    refine Lt 0 ?_
    refine Ln (Et (Ts (Ts (Tr ?_))))
    refine Lb 0 ?_
    obtain ⟨r3116, h3117, H3118⟩ := bnd H3109
    refine Lk [] [0] (c_row_Row_Glyphs h3117) fun ⟨a3119, c3120⟩ => ?_
    refine Lq 2 ?_
    refine Ln (Et ?_)
    obtain ⟨e3196, H3197, H3198⟩ := bnd H3118
    refine Tj0 [(16, .string e3196)] [7, 8, 17, 18, 106, 107, 108] [] [1, 3, 4, 5, 6, 2, 7, 8] ?_ ?_
    ·refine Tl ?_
     refine Tq (η := Unit) (fun s3172 h => [(16, .string s3172.2), (116, .int .i64 s3172.1)]) [7, 8, 17, 18, 106, 107, 108, 114, 115] (fun _ _ => []) [1, 3, 4, 5, 6, 0, 2, 7, 8] (fun _ _ => []) () [1, 2, 2, 2, 2, 0, 0, 0, 0] [] H3197 ?_
     rintro k_ s3172 ⟨⟩ z3200 H3199 hag3201 hbr3202
     refine Ts (Tr ?_)
     refine Lq 1 ?_
     refine Ln (Et (Ts ?_))
     refine Tb H3199 (fun H3204 => ?_) fun H3204 => ?_
     ·refine Tk (Et (Ts (Tl (Ts (Tr ?_)))))
      obtain ⟨x3215, h3216, H3217⟩ := bnd H3204
      refine L.addro 5 rfl (idx_lt h3216) fun b3218 e3219 => ?_
      subst e3219
      refine Ly (Yl.ia h3216 rfl rfl rfl rfl rfl rfl) ?_
      refine Ly (Yl.lo (v := .agg #[.int .i32 x3215.rune, .int .i64 x3215.style]) 5 s3172.1.toNat 0 (idx_some h3216).2 rfl rfl rfl rfl (fun _ => rfl)) ?_
      refine Ll fun g3220 => ?_
      refine Lt 0 ?_
      refine Ln (Et (Tr ?_))
      refine Lq 2 ?_
      refine Lb 0 ?_
      refine Lq 1 ?_
      refine La [] [] (Ac.bs (ty := (Ty.int .u8)) (xs := [(IntKind.u8.wrap x3215.rune)]) (.cons () [] rfl .nil) rfl rfl rfl rfl rfl rfl rfl) fun g3221 => ?_
      refine Ly (Yl.bs 0 rfl rfl rfl rfl rfl rfl rfl rfl rfl) ?_
      obtain ⟨_, h3223, H3224⟩ := bnd H3217
      refine Ly (Yl.sa h3223 rfl rfl rfl) ?_
      refine Lq 1 ?_
      refine Ln (Eb (Et (Tr ?_)))
      refine Lq 2 ?_
      refine Ln ?_
      obtain rfl := sm H3224
      exact Eg (_, ()) (hag3201 _ rfl) [2, 2, 2, 2, 2, 2, 2, 2, 2] [] 0
     refine Tx (Ex (Ex (Eh ?_)))
     obtain rfl := sm H3204
     have hb := hbr3202 _ rfl
     subst e3196
     exact Eg0 [0, 0, 0, 0, 0, 1, 1, 1] 0
    refine Ts ?_
    obtain ⟨e3228, H3229, H3230⟩ := bnd H3198
    refine Tj0 [(137, .bool e3228)] [7, 8, 16, 106, 107, 108] [] [0, 1, 2, 3, 4, 5, 6, 7] ?_ ?_
    ·refine Tr ?_
     refine Lq 1 ?_
     refine Lb 0 ?_
     refine Lq 2 ?_
     refine Lw 131 H3229 (fun H3231 => ?_) fun H3231 => ?_
     ·refine Lq 6 ?_
      refine Ln ?_
      obtain rfl := sm H3231
      exact Eg0 [0, 0, 0, 0, 0, 0, 0, 0] 0
     refine Lq 6 ?_
     refine Ln ?_
     obtain rfl := sm H3231
     exact Eg0 [0, 0, 0, 0, 0, 0, 0, 0] 0
    refine Tb H3230 (fun H3232 => ?_) fun H3232 => ?_
    ·refine Tr ?_
     refine Lq 1 ?_
     obtain ⟨_, h3233, H3234⟩ := bnd H3232
     refine Ly (Yl.sa h3233 rfl rfl rfl) ?_
     refine Lq 1 ?_
     refine Ln (Eb ?_)
     obtain rfl := sm H3234
     exact Eg0 [1, 1, 1, 1, 1, 1, 1] 1
    refine Tk (Eb ?_)
    obtain rfl := sm H3232
    exact Eg0 [1, 1, 1, 1, 1, 1, 1] 1
   refine Tr ?_
   refine Lq 2 ?_
   refine Ln ?_
   obtain rfl := sm H3106
   exact Eg (_, ()) (hag2843 _ rfl) [0, 0, 0, 0, 0, 0, 0] [] 0
  refine Tx (Ex (Ex (Eh ?_)))
  obtain rfl := sm H2846
  have hb := hbr2844 _ rfl
  subst e2838
  exact Eg0 [0, 0, 0, 0, 1, 1] 0
 refine Ts (Tr ?_)
 refine Lq 4 ?_
 refine Ln (Et (Tv ?_))
 obtain rfl := sm H2840
 exact Eo1 () [] []

end Go.Tw.X

set_option maxHeartbeats 2000000
set_option linter.unusedVariables false
set_option linter.unusedSimpArgs false
set_option maxRecDepth 10000
namespace Go.Tw.X
open Go Go.Tw
theorem opn3 : Opn Go.Proofs.Tryz.prog 3 (Ty.int .i64) (inK .i64) := Opn.int (by kernel_rfl)
theorem opn9 : Opn Go.Proofs.Tryz.prog 9 Ty.str (fun s : ByteArray => s.size ≤ maxLen) := Opn.str (by kernel_rfl)
end Go.Tw.X

import Derived.Test.YtmekokacemcfoaaGreatDoorWk1
import Derived.Test.YtmekokacemcfoaaGreatDoorFw2
set_option maxHeartbeats 2000000
set_option linter.unusedVariables false
set_option linter.unusedSimpArgs false
set_option maxRecDepth 10000
namespace Go.Tw.X
open Go Go.Tw
variable {A0 A1 A2 A3 A4 A5 A6 A7 A8 : Option Addr} {C0 C1 C2 C3 C4 C5 C6 C7 C8 : Nat}
variable {N0 N1 N2 N3 N4 : Nat}
theorem l4 {g:aU} {r:aU×aU} (H:fy g=some r):CT G 99 [.pointer (some ⟨N0,0,none⟩)] [Ch.box N0 181 [.int .i64 g.w,.slice A0 g.l.length C0],Ch.arr aD 99 A0 C0 g.l] [] (fun h:Nat×(Option Addr×Nat)=> .pointer (some ⟨h.1,0,none⟩)) (fun h=>[Ch.box h.1 181 [.int .i64 r.1.w,.slice h.2.1 r.1.l.length h.2.2],Ch.arr aD 99 h.2.1 h.2.2 r.1.l,Ch.box N0 181 [.int .i64 r.2.w,.slice A0 r.2.l.length C0],Ch.arr aD 99 A0 C0 r.2.l]) (fun h=>[]):=by
 delta fy at H
 refine Cf Go.Proofs.Tryz.func99 fun K=> ?_
 refine Y2 ?_
 refine Td [] [0] mo ?_
 refine Dq 0 ?_
 refine Dq 1 ?_
 refine Dq 2 ?_
 refine Db 3 0 ?_
 refine Dq 4 ?_
 refine Dq 5 ?_
 refine Dq 6 ?_
 refine Db 7 0 ?_
 have ⟨a,b,c⟩:=bnd H
 refine Dk [0] [] (mM b) fun ⟨d,e⟩=> ?_
 have ⟨_,f,i⟩:=bnd c
 refine Dq 9 ?_
 refine Da [] [] rfl rfl (Ac.box rfl rfl) fun j=> ?_
 refine Dq 11 ?_
 refine Dn ?_
 refine E.bx 0 (cs':=[.int .i64 g.w,.slice A0 a.2.length C0]) (by rw [(dD f)]) rfl ?_
 refine Z0 ?_
 cases i
 exact Eo1 (j,(d,e)) [1,1,0,0] []
theorem nr {s_:aA} {r:aA×aA} (H:eR s_=some r):CT G 55 [.pointer (some ⟨N0,0,none⟩)] [Ch.box N0 132 (bO s_ N1),Ch.box N1 181 [.int .i64 s_.g.w,.slice A0 s_.g.l.length C0],Ch.arr aD 99 A0 C0 s_.g.l] [] (fun h:Nat×Nat×(Option Addr×Nat)=> .pointer (some ⟨h.1,0,none⟩)) (fun h=>[Ch.box h.1 132 (bO r.1 h.2.1),Ch.box h.2.1 181 [.int .i64 r.1.g.w,.slice h.2.2.1 r.1.g.l.length h.2.2.2],Ch.arr aD 99 h.2.2.1 h.2.2.2 r.1.g.l,Ch.box N0 132 (bO r.2 N1),Ch.box N1 181 [.int .i64 r.2.g.w,.slice A0 r.2.g.l.length C0],Ch.arr aD 99 A0 C0 r.2.g.l]) (fun h=>[]):=by
 delta eR at H
 refine Cf Go.Proofs.Tryz.func55 fun K=> ?_
 refine Z2 ?_
 refine Ll fun g1=> ?_
 refine Lt 0 ?_
 refine Z1 ?_
 have ⟨r2,h3,H4⟩:=bnd H
 refine Lk [2,2] [] (l4 h3) fun ⟨g5,⟨a6,c7⟩⟩=> ?_
 refine Z0 ?_
 refine Lt 4 ?_
 refine Z1 ?_
 cases H4
 exact Eo1 (g1,g5,(a6,c7)) [0,0,0,2,0,0] []
theorem nX {m_:aV} {r:aA×aV} (H:ft m_=some r):CT G 25 [.pointer (some ⟨N0,0,none⟩)] [Ch.box N0 37 (lJ m_ N1 N2 N3),Ch.box N1 93 [.slice A0 m_.book.l.length C0,.slice A1 m_.book.bG.length C1,.slice A2 m_.book.begun.length C2],Ch.arr (Ty.slice aJ) 38 A0 C0 m_.book.l,Ch.arr (Ty.int .i64) 3 A1 C1 m_.book.bG,Ch.arr aJ 77 A2 C2 m_.book.begun,Ch.box N2 85 (gm m_.parser A3 C3),Ch.opt (m_.parser.state == (3:Int)) (Ty.int .i64) 3 A3 C3 m_.parser.order.aY,Ch.box N3 132 (bO m_.aN N4),Ch.box N4 181 [.int .i64 m_.aN.g.w,.slice A5 m_.aN.g.l.length C5],Ch.arr aD 99 A5 C5 m_.aN.g.l] [] (fun h:Nat×Nat×(Option Addr×Nat)×(Option Addr×Nat)=> .pointer (some ⟨h.1,0,none⟩)) (fun h=>[Ch.box h.1 132 (bO r.1 h.2.1),Ch.box h.2.1 181 [.int .i64 r.1.g.w,.slice h.2.2.1.1 r.1.g.l.length h.2.2.1.2],Ch.arr aD 99 h.2.2.1.1 h.2.2.1.2 r.1.g.l,Ch.box N0 37 (lJ r.2 N1 N2 N3),Ch.box N1 93 [.slice A0 r.2.book.l.length C0,.slice A1 r.2.book.bG.length C1,.slice A2 r.2.book.begun.length C2],Ch.arr (Ty.slice aJ) 38 A0 C0 r.2.book.l,Ch.arr (Ty.int .i64) 3 A1 C1 r.2.book.bG,Ch.arr aJ 77 A2 C2 r.2.book.begun,Ch.box N2 85 (gm r.2.parser A3 C3),Ch.opt (r.2.parser.state == (3:Int)) (Ty.int .i64) 3 A3 C3 r.2.parser.order.aY,Ch.box N3 132 (bO r.2.aN N4),Ch.box N4 181 [.int .i64 r.2.aN.g.w,.slice A5 r.2.aN.g.l.length C5],Ch.arr aD 99 A5 C5 r.2.aN.g.l]) (fun h=>[]):=by
 delta ft at H
 refine Cf Go.Proofs.Tryz.func25 fun K=> ?_
 refine Z2 ?_
 have ⟨r1,h2,H3⟩:=bnd H
 refine Lk [7,7,7] [] (nr h2) fun ⟨g4,g5,⟨a6,c7⟩⟩=> ?_
 refine Z0 ?_
 cases H3
 exact Eo1 (g4,g5,(a6,c7),(none,0)) [0,0,0,3,3,3,3,3,3,3,0,0,0] []
theorem qC {b:bQ} {i:Int} {r:(List aI)×Bool} (H:gX b i=some r):CT G 13 [.pointer (some ⟨N0,0,none⟩),.int .i64 i] [Ch.box N0 93 [.slice A0 b.l.length C0,.slice A1 b.bG.length C1,.slice A2 b.begun.length C2],Ch.arr (Ty.slice aJ) 38 A0 C0 b.l,Ch.arr (Ty.int .i64) 3 A1 C1 b.bG,Ch.arr aJ 77 A2 C2 b.begun] [] (fun h:(Option Addr×Nat)=> .tuple #[.slice h.1 r.1.length h.2,.bool r.2]) (fun h=>[Ch.arr aJ 77 h.1 h.2 r.1,Ch.box N0 93 [.slice A0 b.l.length C0,.slice A1 b.bG.length C1,.slice A2 b.begun.length C2],Ch.arr (Ty.slice aJ) 38 A0 C0 b.l,Ch.arr (Ty.int .i64) 3 A1 C1 b.bG,Ch.arr aJ 77 A2 C2 b.begun]) (fun h=>[]):=by
 delta gX at H
 refine Cf Go.Proofs.Tryz.func13 fun K=> ?_
 refine Y3 ?_
 have ⟨e4,H5,H6⟩:=bnd H
 refine Tj0 [(16,.bool e4)] [0,1] [] [0,1,2,3] ?_ ?_
 ·refine Z0 ?_
  refine Lw 8 H5 (fun H7=> ?_) fun H7=> ?_
  ·refine Z0 ?_
   cases H7
   exact Eg0 [0,0,0,0] 0
  refine Z0 ?_
  cases H7
  exact Eg0 [0,0,0,0] 0
 refine Tb H6 (fun H9=> ?_) fun H9=> ?_
 ·refine Z1 ?_
  refine E.iK aJ 77 ?_
  cases H9
  exact Eo (none,0) [0,0,0,0,0] [] (.tmp rfl (.tmp rfl .nil))
 refine Z1 ?_
 have ⟨e,a,f⟩:=bnd H9
 refine L.kc 1 rfl (dC a) fun o g=> ?_
 subst g
 refine Ly (Yl.ia a rfl rfl rfl rfl rfl rfl) ?_
 refine La [1] [] (Ac.lo i.toNat 0 (v:=(fun h:(Option Addr×Nat)=>(fun c d=> .slice c e.length d) h.1 h.2)) (bC a).2 rfl rfl rfl (fun _=>rfl)) ?_
 rintro ⟨c,d⟩
 have ⟨p,j,k⟩:=bnd f
 refine Lk [] [0] (gP c d j) fun ⟨m,n⟩=> ?_
 refine Z0 ?_
 cases k
 exact Eo (m,n) [0,1,0,0,0] [] (.tmp rfl (.tmp rfl .nil))
theorem nY {s_:aA} {r:aU×aA} (H:fp s_=some r):CT G 67 [.pointer (some ⟨N0,0,none⟩)] [Ch.box N0 132 (bO s_ N1),Ch.box N1 181 [.int .i64 s_.g.w,.slice A0 s_.g.l.length C0],Ch.arr aD 99 A0 C0 s_.g.l] [] (fun h:Nat×(Option Addr×Nat)=> .pointer (some ⟨h.1,0,none⟩)) (fun h=>[Ch.box h.1 181 [.int .i64 r.1.w,.slice h.2.1 r.1.l.length h.2.2],Ch.arr aD 99 h.2.1 h.2.2 r.1.l,Ch.box N0 132 (bO r.2 N1),Ch.box N1 181 [.int .i64 r.2.g.w,.slice A0 r.2.g.l.length C0],Ch.arr aD 99 A0 C0 r.2.g.l]) (fun h=>[]):=by
 delta fp at H
 refine Cf Go.Proofs.Tryz.func67 fun K=> ?_
 refine Z2 ?_
 have ⟨r1,h2,H3⟩:=bnd H
 refine Lk [1,1] [] (l4 h2) fun ⟨g4,⟨a5,c6⟩⟩=> ?_
 refine Z0 ?_
 cases H3
 exact Eo1 (g4,(a5,c6)) [0,0,2,0,0] []
theorem ns {s_:aA} {r:ByteArray} (H:gg s_=some r):CT G 68 [.pointer (some ⟨N0,0,none⟩)] [Ch.box N0 132 (bO s_ N1),Ch.box N1 181 [.int .i64 s_.g.w,.slice A0 s_.g.l.length C0],Ch.arr aD 99 A0 C0 s_.g.l] [] (fun _:Unit=> .string r) (fun h=>[Ch.box N0 132 (bO s_ N1),Ch.box N1 181 [.int .i64 s_.g.w,.slice A0 s_.g.l.length C0],Ch.arr aD 99 A0 C0 s_.g.l]) (fun h=>[]):=by
 delta gg at H
 refine Cf Go.Proofs.Tryz.func68 fun K=> ?_
 refine Z2 ?_
 cases H
 exact Eo1 () [0,0,0] []
theorem qD {g:aU} {r:(List aE)×aU} (H:gY g=some r):CT G 69 [.pointer (some ⟨N0,0,none⟩)] [Ch.box N0 181 [.int .i64 g.w,.slice A0 g.l.length C0],Ch.arr aD 99 A0 C0 g.l] [] (fun h:(Option Addr×Nat)=> .slice h.1 r.1.length h.2) (fun h=>[Ch.arr aD 99 h.1 h.2 r.1,Ch.box N0 181 [.int .i64 r.2.w,.slice A0 r.2.l.length C0],Ch.arr aD 99 A0 C0 r.2.l]) (fun h=>[]):=by
 delta gY at H
 refine Cf Go.Proofs.Tryz.func69 fun K=> ?_
 refine Z2 ?_
 have ⟨r1,h2,H3⟩:=bnd H
 refine Lk [1] [] (mM h2) fun ⟨a4,c5⟩=> ?_
 have ⟨_,h8,H9⟩:=bnd H3
 refine L.bx 2 (cs':=[.int .i64 g.w,.slice A0 r1.2.length C0]) (by rw [dD h8]) rfl ?_
 refine Z0 ?_
 cases H9
 exact Eo1 (a4,c5) [1,0,0] []
theorem gu {b:bQ} {r:Int} (H:dL b=some r):CT G 12 [.pointer (some ⟨N0,0,none⟩)] [Ch.box N0 93 [.slice A0 b.l.length C0,.slice A1 b.bG.length C1,.slice A2 b.begun.length C2],Ch.arr (Ty.slice aJ) 38 A0 C0 b.l,Ch.arr (Ty.int .i64) 3 A1 C1 b.bG,Ch.arr aJ 77 A2 C2 b.begun] [] (fun _:Unit=> .int .i64 r) (fun h=>[Ch.box N0 93 [.slice A0 b.l.length C0,.slice A1 b.bG.length C1,.slice A2 b.begun.length C2],Ch.arr (Ty.slice aJ) 38 A0 C0 b.l,Ch.arr (Ty.int .i64) 3 A1 C1 b.bG,Ch.arr aJ 77 A2 C2 b.begun]) (fun h=>[]):=by
 delta dL at H
 refine Cf Go.Proofs.Tryz.func12 fun K=> ?_
 refine Z2 ?_
 cases H
 exact Eo1 () [0,0,0,0] []
theorem pZ {b:bQ} {n_:Int} {r:Int} (H:gy b n_=some r):CT G 70 [.pointer (some ⟨N0,0,none⟩),.int .i64 n_] [Ch.box N0 93 [.slice A0 b.l.length C0,.slice A1 b.bG.length C1,.slice A2 b.begun.length C2],Ch.arr (Ty.slice aJ) 38 A0 C0 b.l,Ch.arr (Ty.int .i64) 3 A1 C1 b.bG,Ch.arr aJ 77 A2 C2 b.begun] [] (fun _:Unit=> .int .i64 r) (fun h=>[Ch.box N0 93 [.slice A0 b.l.length C0,.slice A1 b.bG.length C1,.slice A2 b.begun.length C2],Ch.arr (Ty.slice aJ) 38 A0 C0 b.l,Ch.arr (Ty.int .i64) 3 A1 C1 b.bG,Ch.arr aJ 77 A2 C2 b.begun]) (fun h=>[]):=by
 delta gy at H
 refine Cf Go.Proofs.Tryz.func70 fun K=> ?_
 refine Y2 ?_
 refine Td [] [0,0,0,0] mo ?_
 refine Dq 0 ?_
 refine Dq 1 ?_
 refine Dq 2 ?_
 refine Db 3 0 ?_
 refine Dq 4 ?_
 refine Dq 5 ?_
 refine Dq 6 ?_
 refine Dq 7 ?_
 refine Db 8 0 ?_
 refine Dq 9 ?_
 refine Dq 10 ?_
 refine Dq 11 ?_
 have ⟨c,a,d⟩:=bnd H
 refine D.kc 2 rfl (dC a) fun f e=> ?_
 subst e
 refine Dy 12 (Yl.ia a rfl rfl rfl rfl rfl rfl) ?_
 refine Dy 13 (Yl.lo (v:= .int .i64 c) 2 ((imax 0 (dt n_ (b.l.length:Int))).toNat) 0 (bC a).2 rfl rfl rfl rfl (fun _=>rfl)) ?_
 refine Dq 14 ?_
 refine Dn ?_
 refine Z0 ?_
 cases d
 exact Eo1 () [0,0,0,0] []
theorem lN {s_:List aI} (a_0:Option Addr) (c_0:Nat) {r:List aI} (H:bX s_=some r):CT G 31 [.slice a_0 s_.length c_0] [Ch.arr aJ 77 a_0 c_0 s_] [] (fun h:(Option Addr×Nat)=> .slice h.1 r.length h.2) (fun h=>[Ch.arr aJ 77 h.1 h.2 r,Ch.arr aJ 77 a_0 c_0 s_]) (fun h=>[]):=by
  delta bX at H
  refine Cf Go.Proofs.Tryz.func31 fun K=> ?_
  have ⟨_,h0,H⟩:=bnd H
  have hr:=Option.some.inj H
  refine T.seq (T.region (L.q 1 rfl (L.nil (E.then (T.seq (T.seq (T.region ?_)))))))
  refine L.cap 0 rfl fun hle=> ?_
  have hv:=Dw (ty:=aJ) (a0:=a_0) hle
  rw [← wV s_] at h0 hr
  refine L.sl 0 (k':=(cut s_ 0 (s_.length:Int)).length) (by rw [wV]) rfl ?_
  refine L.q 1 rfl ?_
  refine L.EG 0 hv rfl rfl rfl rfl rfl rfl rfl rfl rfl (fun hx=> ?_) ?_
  · refine L.nil (E.then (T.cond rfl (fun _=> ?_) (fun h=>nomatch h)))
    refine T.seq (T.region (L.q 1 rfl (L.nil (E.then (T.ret (E.nt ?_))))))
    rw [hx] at hr
    subst r
    refine E.iK aJ 77 ?_
    exact E.ret (none,0) [0,0] [] (.tmp rfl .nil) rfl rfl rfl
  · refine L.nil (E.then (T.cond rfl (fun h=>nomatch h) (fun _=> ?_)))
    refine T.skip (E.then (T.seq (T.region ?_)))
    refine L.a [] [] (Ac.bs (ty:=aJ) (xs:=[]) .nil rfl rfl rfl rfl rfl rfl rfl) rfl rfl rfl rfl rfl ?_
    intro g1
    refine L.q 1 rfl ?_
    refine L.a [0,0] [] (Ac.apv (ty:=aJ) hv h0 rfl rfl rfl rfl rfl rfl rfl) rfl rfl rfl rfl rfl ?_
    rintro ⟨a1,c1⟩
    refine L.q 1 rfl ?_
    refine L.nil (E.then (T.ret ?_))
    subst r
    exact E.ret (a1,c1) [0,0] [] (.tmp rfl .nil) rfl rfl rfl
theorem p3 {b:bQ} {r:(List aI)} (H:gA b=some r):CT G 71 [.pointer (some ⟨N0,0,none⟩)] [Ch.box N0 93 [.slice A0 b.l.length C0,.slice A1 b.bG.length C1,.slice A2 b.begun.length C2],Ch.arr (Ty.slice aJ) 38 A0 C0 b.l,Ch.arr (Ty.int .i64) 3 A1 C1 b.bG,Ch.arr aJ 77 A2 C2 b.begun] [] (fun h:(Option Addr×Nat)=> .slice h.1 r.length h.2) (fun h=>[Ch.arr aJ 77 h.1 h.2 r,Ch.box N0 93 [.slice A0 b.l.length C0,.slice A1 b.bG.length C1,.slice A2 b.begun.length C2],Ch.arr (Ty.slice aJ) 38 A0 C0 b.l,Ch.arr (Ty.int .i64) 3 A1 C1 b.bG,Ch.arr aJ 77 A2 C2 b.begun]) (fun h=>[]):=by
 delta gA at H
 refine Cf Go.Proofs.Tryz.func71 fun K=> ?_
 refine Z2 ?_
 have ⟨r1,h2,H3⟩:=bnd H
 refine Lk [3] [] (lN A2 C2 h2) fun ⟨a4,c5⟩=> ?_
 refine Z0 ?_
 cases H3
 exact Eo1 (a4,c5) [0,1,1,1,0] []
theorem m9 {s_:aA} {r:Int×Int} (H:fP s_=some r):CT G 72 [.pointer (some ⟨N0,0,none⟩)] [Ch.box N0 132 (bO s_ N1),Ch.box N1 181 [.int .i64 s_.g.w,.slice A0 s_.g.l.length C0],Ch.arr aD 99 A0 C0 s_.g.l] [] (fun _:Unit=> .tuple #[.int .i64 r.1,.int .i64 r.2]) (fun h=>[Ch.box N0 132 (bO s_ N1),Ch.box N1 181 [.int .i64 s_.g.w,.slice A0 s_.g.l.length C0],Ch.arr aD 99 A0 C0 s_.g.l]) (fun h=>[]):=by
 delta fP at H
 refine Cf Go.Proofs.Tryz.func72 fun K=> ?_
 refine Y2 ?_
 refine Td [] [0,0,0] mo ?_
 refine Dq 0 ?_
 refine Dq 1 ?_
 refine Dq 2 ?_
 refine Dq 3 ?_
 refine Db 4 0 ?_
 refine Dq 5 ?_
 refine Dq 6 ?_
 refine Dq 7 ?_
 refine Dq 8 ?_
 refine Db 9 0 ?_
 refine Dq 10 ?_
 refine Dq 11 ?_
 refine Dn ?_
 refine Z0 ?_
 cases H
 exact Eo () [0,0,0] [] (.tmp rfl (.tmp rfl .nil))
theorem y4 {k:Int} {s_:aA} {b:bQ} {r:ej×aA} (H:n5 k s_ b=some r):CT G 32 [.int .i64 k,.pointer (some ⟨N0,0,none⟩),.pointer (some ⟨N2,0,none⟩)] [Ch.box N0 132 (bO s_ N1),Ch.box N1 181 [.int .i64 s_.g.w,.slice A0 s_.g.l.length C0],Ch.arr aD 99 A0 C0 s_.g.l,Ch.box N2 93 [.slice A1 b.l.length C1,.slice A2 b.bG.length C2,.slice A3 b.begun.length C3],Ch.arr (Ty.slice aJ) 38 A1 C1 b.l,Ch.arr (Ty.int .i64) 3 A2 C2 b.bG,Ch.arr aJ 77 A3 C3 b.begun] [] (fun h:(Option Addr×Nat)×(Option Addr×Nat)=> .agg (Bj r.1 h.1.1 h.1.2 h.2.1 h.2.2).toArray) (fun h=>[Ch.box N0 132 (bO r.2 N1),Ch.box N1 181 [.int .i64 r.2.g.w,.slice A0 r.2.g.l.length C0],Ch.arr aD 99 A0 C0 r.2.g.l,Ch.box N2 93 [.slice A1 b.l.length C1,.slice A2 b.bG.length C2,.slice A3 b.begun.length C3],Ch.arr (Ty.slice aJ) 38 A1 C1 b.l,Ch.arr (Ty.int .i64) 3 A2 C2 b.bG,Ch.arr aJ 77 A3 C3 b.begun]) (fun h=>[Im.sl aD h.1.1 h.1.2 r.1.rows,Im.sl aJ h.2.1 h.2.2 r.1.begun]):=by
 delta n5 at H
 refine Cf Go.Proofs.Tryz.func32 fun K=> ?_
 refine Z1 ?_
 refine Ll fun g1=> ?_
 refine Z1 ?_
 have ⟨r2,h3,H4⟩:=bnd H
 refine Lk [1,1,1] [] (nY h3) fun ⟨g5,⟨a6,c7⟩⟩=> ?_
 refine Z1 ?_
 have ⟨B,a,c⟩:=bnd H4
 refine Lk [2,2,2] [] (ns a) fun ⟨⟩=> ?_
 refine Z0 ?_
 have ⟨C,d,e⟩:=bnd c
 refine Lk [3,3] [] (qD d) fun ⟨f,i⟩=> ?_
 refine Z0 ?_
 have ⟨F,j,m⟩:=bnd e
 refine Lk [7,7,7,7] [] (gu j) fun ⟨⟩=> ?_
 refine Z0 ?_
 have ⟨I,n,o⟩:=bnd m
 refine Lk [0,0,0,0] [] (gu n) fun ⟨⟩=> ?_
 have ⟨J,p,q⟩:=bnd o
 refine Lk [0,0,0,0] [] (pZ p) fun ⟨⟩=> ?_
 refine Z0 ?_
 have ⟨M,s,t⟩:=bnd q
 refine Lk [0,0,0,0] [] (p3 s) fun ⟨u,v⟩=> ?_
 refine Z0 ?_
 refine Ll fun N=> ?_
 refine Lt 0 ?_
 refine Z1 ?_
 have ⟨O,x,y⟩:=bnd t
 refine Lk [7,7] [] (eu x) fun ⟨⟩=> ?_
 refine Z0 ?_
 refine Lt 2 ?_
 refine Z0 ?_
 refine Lt 0 ?_
 refine Z1 ?_
 have ⟨P,z,A⟩:=bnd y
 refine Lk [9,9,9] [] (m9 z) fun ⟨⟩=> ?_
 refine Z0 ?_
 refine Lt 3 ?_
 refine Z0 ?_
 refine Lt 0 ?_
 refine Z1 ?_
 refine Lt 12 ?_
 refine Z0 ?_
 refine E.frz 12 rfl ?_
 refine E.frz 7 rfl ?_
 cases A
 exact Eo ((f,i),(u,v)) [2,2,2,4,4,4,4] [1,0] (.cell 0 rfl rfl rfl .nil)
theorem lO {m_:aV} {r:ej×aV} (H:eV m_=some r):CT G 14 [.pointer (some ⟨N0,0,none⟩)] [Ch.box N0 37 (lJ m_ N1 N2 N3),Ch.box N1 93 [.slice A0 m_.book.l.length C0,.slice A1 m_.book.bG.length C1,.slice A2 m_.book.begun.length C2],Ch.arr (Ty.slice aJ) 38 A0 C0 m_.book.l,Ch.arr (Ty.int .i64) 3 A1 C1 m_.book.bG,Ch.arr aJ 77 A2 C2 m_.book.begun,Ch.box N2 85 (gm m_.parser A3 C3),Ch.opt (m_.parser.state == (3:Int)) (Ty.int .i64) 3 A3 C3 m_.parser.order.aY,Ch.box N3 132 (bO m_.aN N4),Ch.box N4 181 [.int .i64 m_.aN.g.w,.slice A5 m_.aN.g.l.length C5],Ch.arr aD 99 A5 C5 m_.aN.g.l] [] (fun h:(Option Addr×Nat)×(Option Addr×Nat)×(Option Addr×Nat)=> .agg (Bj r.1 h.1.1 h.1.2 h.2.1.1 h.2.1.2).toArray) (fun h=>[Ch.box N0 37 (lJ r.2 N1 N2 N3),Ch.box N1 93 [.slice A0 r.2.book.l.length C0,.slice A1 r.2.book.bG.length C1,.slice A2 r.2.book.begun.length C2],Ch.arr (Ty.slice aJ) 38 A0 C0 r.2.book.l,Ch.arr (Ty.int .i64) 3 A1 C1 r.2.book.bG,Ch.arr aJ 77 A2 C2 r.2.book.begun,Ch.box N2 85 (gm r.2.parser A3 C3),Ch.opt (r.2.parser.state == (3:Int)) (Ty.int .i64) 3 A3 C3 r.2.parser.order.aY,Ch.box N3 132 (bO r.2.aN N4),Ch.box N4 181 [.int .i64 r.2.aN.g.w,.slice A5 r.2.aN.g.l.length C5],Ch.arr aD 99 A5 C5 r.2.aN.g.l]) (fun h=>[Im.sl aD h.1.1 h.1.2 r.1.rows,Im.sl aJ h.2.1.1 h.2.1.2 r.1.begun]):=by
 delta eV at H
 refine Cf Go.Proofs.Tryz.func14 fun K=> ?_
 refine Z1 ?_
 refine Ll fun g1=> ?_
 refine Y1 ?_
 refine Td [14] [0,0,4,4] mo ?_
 refine Dq 0 ?_
 refine Dq 1 ?_
 refine Dq 2 ?_
 refine Db 3 1 ?_
 refine Dq 4 ?_
 refine Dq 5 ?_
 refine Dq 6 ?_
 refine Dq 7 ?_
 refine Db 8 1 ?_
 refine Dq 9 ?_
 refine Dq 10 ?_
 refine Dq 11 ?_
 refine Db 12 1 ?_
 have ⟨i,a,b⟩:=bnd H
 refine Dk [4,4,4,0,0,0,0] [] (y4 a) fun ⟨⟨c,d⟩,⟨e,f⟩⟩=> ?_
 refine Dt 0 ?_
 refine Dn ?_
 refine Z0 ?_
 cases b
 exact Eo ((c,d),(e,f),(none,0)) [1,6,6,6,6,1,1,1,1,1] [0,1] (.cell 0 rfl rfl rfl .nil)
theorem ng {m_:aV} {r:Int} (H:ir m_=some r):CT G 22 [.pointer (some ⟨N0,0,none⟩)] [Ch.box N0 37 (lJ m_ N1 N2 N3),Ch.box N1 93 [.slice A0 m_.book.l.length C0,.slice A1 m_.book.bG.length C1,.slice A2 m_.book.begun.length C2],Ch.arr (Ty.slice aJ) 38 A0 C0 m_.book.l,Ch.arr (Ty.int .i64) 3 A1 C1 m_.book.bG,Ch.arr aJ 77 A2 C2 m_.book.begun,Ch.box N2 85 (gm m_.parser A3 C3),Ch.opt (m_.parser.state == (3:Int)) (Ty.int .i64) 3 A3 C3 m_.parser.order.aY,Ch.box N3 132 (bO m_.aN N4),Ch.box N4 181 [.int .i64 m_.aN.g.w,.slice A5 m_.aN.g.l.length C5],Ch.arr aD 99 A5 C5 m_.aN.g.l] [] (fun _:Unit=> .int .i64 r) (fun h=>[Ch.box N0 37 (lJ m_ N1 N2 N3),Ch.box N1 93 [.slice A0 m_.book.l.length C0,.slice A1 m_.book.bG.length C1,.slice A2 m_.book.begun.length C2],Ch.arr (Ty.slice aJ) 38 A0 C0 m_.book.l,Ch.arr (Ty.int .i64) 3 A1 C1 m_.book.bG,Ch.arr aJ 77 A2 C2 m_.book.begun,Ch.box N2 85 (gm m_.parser A3 C3),Ch.opt (m_.parser.state == (3:Int)) (Ty.int .i64) 3 A3 C3 m_.parser.order.aY,Ch.box N3 132 (bO m_.aN N4),Ch.box N4 181 [.int .i64 m_.aN.g.w,.slice A5 m_.aN.g.l.length C5],Ch.arr aD 99 A5 C5 m_.aN.g.l]) (fun h=>[]):=by
 delta ir at H
 refine Cf Go.Proofs.Tryz.func22 fun K=> ?_
 refine Z2 ?_
 cases H
 exact Eo1 () [0,0,0,0,0,0,0,0,0,0] []
theorem s5 {r:Bool} (H:jj=some r):CT G 7 [] [] [Im.sl bR (some ⟨0,0,none⟩) 13 bZ,Im.sl bR (some ⟨1,0,none⟩) 14 cC,Im.sl (Ty.int .u32) (some ⟨2,0,none⟩) 16 dI,Im.sl cN (some ⟨3,0,none⟩) 8 bJ] (fun _:Unit=> .bool r) (fun h=>[]) (fun h=>[]):=by
 delta jj at H
 refine Cf Go.Proofs.Tryz.func7 fun K=> ?_
 refine Z2 ?_
 refine La [] [] (Ac.bs (ty:=pQ) (xs:=[(dw.mk 0 (ByteArray.mk #[97,13,10,98]) 0 0),(dw.mk 1 (ByteArray.mk #[]) 0 0),(dw.mk 1 (ByteArray.mk #[]) 4 2)]) (.cons () [] rfl (.cons () [] rfl (.cons () [] rfl .nil))) rfl rfl rfl rfl rfl rfl rfl) fun g1=> ?_
 refine L.frz 0 rfl ?_
 have ⟨r4,h5,H6⟩:=bnd H
 refine Lk [] [0,1,2,3,4] (vB h5) fun ⟨g7,g8,⟨a9,B⟩,⟨C,F⟩,⟨I,J⟩,M,⟨N,O⟩,⟨P,Q⟩,R,S,⟨U,V⟩⟩=> ?_
 refine Z2 ?_
 refine Ly (Yl.pn rfl rfl rfl rfl rfl rfl) ?_
 refine Z0 ?_
 have ⟨W,j,k⟩:=bnd H6
 refine Lk [0,0,0,0,0,0,0,0,0,0] [] (nX j) fun ⟨X,Y,⟨Z,aa⟩,⟨ab,ac⟩⟩=> ?_
 refine Ly (Yl.pn rfl rfl rfl rfl rfl rfl) ?_
 refine Z0 ?_
 refine T.cond rfl (fun h=>nomatch h) (fun _=> ?_)
 refine Z1 ?_
 have ⟨ad,l,m⟩:=bnd k
 refine Lk [4,4,4,4] [] (qC l) fun ⟨ae,af⟩=> ?_
 refine Z1 ?_
 have ⟨ag,n,o⟩:=bnd m
 refine Lk [8,1,1,1,1,4,4,4,4,4] [] (lO n) fun ⟨⟨ah,ai⟩,⟨aj,ak⟩,⟨al,am⟩⟩=> ?_
 refine Ll fun an=> ?_
 refine Lt 0 ?_
 refine Y1 ?_
 have ⟨p,q,s⟩:=bnd o
 refine Tj0 [(0,.bool p)] [] [] [0,1,2,6,8,9,12,13,3,4,5,7,10,14] ?_ ?_
 ·refine Z0 ?_
  have ⟨ao,t,u⟩:=bnd q
  refine Lk [1,1,1,1,1,1,1,1,1,1] [] (ng t) fun ⟨⟩=> ?_
  refine Z0 ?_
  refine Lw 30 u (fun a=> ?_) fun a=> ?_
  ·refine Z0 ?_
   have ⟨ap,w,x⟩:=bnd a
   refine Lk [1,1,1,1] [] (gu w) fun ⟨⟩=> ?_
   refine Z0 ?_
   refine Lw 38 x (fun b=> ?_) fun b=> ?_
   ·refine Z0 ?_
    refine Lw 41 b (fun c=> ?_) fun c=> ?_
    ·refine Z0 ?_
     refine Lw 46 c (fun d=> ?_) fun d=> ?_
     ·refine Z0 ?_
      have ⟨y,e,z⟩:=bnd d
      refine L.kc 11 rfl (dC e) fun aq A=> ?_
      subst A
      refine Ly (Yl.ia e rfl rfl rfl rfl rfl rfl) ?_
      refine Z0 ?_
      refine Ly (Yl.lo (v:= .int .i32 y.rune) 11 ((0:Int).toNat) 0 (bC e).2 rfl rfl rfl rfl (fun _=>rfl)) ?_
      refine Z0 ?_
      refine Lw 53 z (fun f=> ?_) fun f=> ?_
      ·refine Z0 ?_
       refine Lb 10 ?_
       refine Z0 ?_
       refine Lw 58 f (fun g=> ?_) fun g=> ?_
       ·refine Z0 ?_
        refine Lb 10 ?_
        refine Z0 ?_
        refine Lw 63 g (fun i=> ?_) fun i=> ?_
        ·refine Z0 ?_
         refine Lb 10 ?_
         refine Z0 ?_
         cases i
         exact Eg0 [10,4,0,3,4,4,6,6,0,0,0,0,0,1] 0
        refine Z0 ?_
        cases i
        exact Eg0 [10,4,0,3,4,4,6,6,0,0,0,0,0,1] 0
       refine Z0 ?_
       cases g
       exact Eg0 [10,4,0,3,4,4,6,6,0,0,0,0,0,1] 0
      refine Z0 ?_
      cases f
      exact Eg0 [10,4,0,3,4,4,6,6,0,0,0,0,0,1] 0
     refine Z0 ?_
     cases d
     exact Eg0 [10,4,0,3,4,4,6,6,0,0,0,0,0,1] 0
    refine Z0 ?_
    cases c
    exact Eg0 [10,4,0,3,4,4,6,6,0,0,0,0,0,1] 0
   refine Z0 ?_
   cases b
   exact Eg0 [10,4,0,3,4,4,6,6,0,0,0,0,0,1] 0
  refine Z0 ?_
  cases a
  exact Eg0 [10,0,0,3,4,4,6,6,0,0,0,0,0,1] 0
 refine Z0 ?_
 cases s
 exact Eo1 () [] []
theorem vC {s_:ByteArray} {n_:Int} {r:ByteArray} (H:kI s_ n_=some r):CT G 8 [.string s_,.int .i64 n_] [] [] (fun _:Unit=> .string r) (fun h=>[]) (fun h=>[]):=by
 delta kI at H
 refine Cf Go.Proofs.Tryz.func8 fun K=> ?_
 refine Z3 ?_
 refine Tb H (fun H4=> ?_) fun H4=> ?_
 ·refine Z1 ?_
  have ⟨_,h5,H6⟩:=bnd H4
  refine Ly (Yl.sc h5 rfl rfl rfl rfl rfl rfl) ?_
  refine Z0 ?_
  cases H6
  exact Eo1 () [] []
 refine Z1 ?_
 cases H4
 exact Eo1 () [] []
theorem vD {e:cI} {r:cI} (H:kL e=some r):CT G 17 [.agg (Bk e).toArray] [] [] (fun _:Unit=> .agg (Bk r).toArray) (fun h=>[]) (fun h=>[]):=by
 delta kL at H
 refine Cf Go.Proofs.Tryz.func17 fun K=> ?_
 refine Z1 ?_
 refine Lx fun g1=> ?_
 refine Ll fun g2=> ?_
 refine Z1 ?_
 have ⟨r3,h4,H5⟩:=bnd H
 refine Lk [] [] (vC h4) fun ⟨⟩=> ?_
 refine Z0 ?_
 refine Lt 1 ?_
 refine Y2 ?_
 have ⟨e9,f,g⟩:=bnd H5
 refine Tj0 [(14,.bool e9)] [1,2] [] [0,1] ?_ ?_
 ·refine Z0 ?_
  refine Lw 10 f (fun a=> ?_) fun a=> ?_
  ·refine Z0 ?_
   cases a
   exact Eg0 [0,0] 0
  refine Z0 ?_
  cases a
  exact Eg0 [0,0] 0
 have ⟨i,j,k⟩:=bnd g
 refine Tj0 [] [1,2] [Ch.box g1 64 (Bk i)] [1] ?_ ?_
 ·refine Tb j (fun b=> ?_) fun b=> ?_
  ·refine Z0 ?_
   refine Lt 0 ?_
   refine Z0 ?_
   cases b
   exact Eg0 [0,0] 0
  refine Z0 ?_
  cases b
  exact Eg0 [0,0] 0
 refine Y2 ?_
 have ⟨l,m,n⟩:=bnd k
 refine Tj0 [(23,.bool l)] [1,2] [] [0,1] ?_ ?_
 ·refine Z0 ?_
  refine Lw 19 m (fun c=> ?_) fun c=> ?_
  ·refine Z0 ?_
   cases c
   exact Eg0 [0,0] 0
  refine Z0 ?_
  cases c
  exact Eg0 [0,0] 0
 have ⟨o,p,q⟩:=bnd n
 refine Tj0 [] [1,2] [Ch.box g1 64 (Bk o)] [1] ?_ ?_
 ·refine Tb p (fun d=> ?_) fun d=> ?_
  ·refine Z0 ?_
   refine Lt 0 ?_
   refine Z0 ?_
   cases d
   exact Eg0 [0,0] 0
  refine Z0 ?_
  cases d
  exact Eg0 [0,0] 0
 refine Z1 ?_
 refine Lt 1 ?_
 refine Z0 ?_
 cases q
 exact Eo () [] [] (.cell 0 rfl rfl rfl .nil)
theorem s6 {e:cI} {r:Int} (H:iD e=some r):CT G 21 [.agg (Bk e).toArray] [] [] (fun _:Unit=> .int .i64 r) (fun h=>[]) (fun h=>[]):=by
 delta iD at H
 refine Cf Go.Proofs.Tryz.func21 fun K=> ?_
 refine Z1 ?_
 refine Lx fun g1=> ?_
 refine Z2 ?_
 refine Tb H (fun H5=> ?_) fun H5=> ?_
 ·refine Z2 ?_
  refine Tb H5 (fun H7=> ?_) fun H7=> ?_
  ·refine Z1 ?_
   cases H7
   exact Eo1 () [] []
  refine Z1 ?_
  cases H7
  exact Eo1 () [] []
 refine Z2 ?_
 refine Tb H5 (fun H9=> ?_) fun H9=> ?_
 ·refine Z1 ?_
  cases H9
  exact Eo1 () [] []
 refine Y2 ?_
 have ⟨f,g,i⟩:=bnd H9
 refine Tj0 [(30,.bool f)] [] [] [0] ?_ ?_
 ·refine Z0 ?_
  refine Lw 16 g (fun a=> ?_) fun a=> ?_
  ·refine Z0 ?_
   cases a
   exact Eg0 [0] 0
  refine Z0 ?_
  refine Lw 21 a (fun b=> ?_) fun b=> ?_
  ·refine Z0 ?_
   cases b
   exact Eg0 [0] 0
  refine Z0 ?_
  refine Lw 26 b (fun c=> ?_) fun c=> ?_
  ·refine Z0 ?_
   cases c
   exact Eg0 [0] 0
  refine Z0 ?_
  cases c
  exact Eg0 [0] 0
 refine Tb i (fun d=> ?_) fun d=> ?_
 ·refine Z1 ?_
  cases d
  exact Eo1 () [] []
 refine Z1 ?_
 cases d
 exact Eo1 () [] []
end Go.Tw.X
set_option maxHeartbeats 2000000
set_option linter.unusedVariables false
set_option linter.unusedSimpArgs false
set_option maxRecDepth 10000
namespace Go.Tw.X
open Go Go.Tw
variable {A0 A1 A2 A3 A4 A5 A6 A7 A8 : Option Addr} {C0 C1 C2 C3 C4 C5 C6 C7 C8 : Nat}
variable {N0 N1 N2 N3 N4 : Nat}
theorem p4 {s_:ej} {r:Bool} (H:gG s_=some r):CT G 45 [.agg (Bj s_ A0 C0 A1 C1).toArray] [] [Im.sl aD A0 C0 s_.rows,Im.sl aJ A1 C1 s_.begun] (fun _:Unit=> .bool r) (fun h=>[]) (fun h=>[]):=by
 delta gG at H
 refine Cf Go.Proofs.Tryz.func45 fun K=> ?_
 refine Z1 ?_
 refine Lx fun g1=> ?_
 refine Y1 ?_
 have ⟨k,l,m⟩:=bnd H
 refine Tj0 [(2,.bool k)] [] [] [0] ?_ ?_
 ·refine Z0 ?_
  refine Lw 6 l (fun a=> ?_) fun a=> ?_
  ·refine Z0 ?_
   refine Lw 11 a (fun b=> ?_) fun b=> ?_
   ·refine Z0 ?_
    refine Lw 16 b (fun c=> ?_) fun c=> ?_
    ·refine Z0 ?_
     refine Lw 21 c (fun d=> ?_) fun d=> ?_
     ·refine Z0 ?_
      refine Lw 26 d (fun e=> ?_) fun e=> ?_
      ·refine Z0 ?_
       refine Lw 31 e (fun f=> ?_) fun f=> ?_
       ·refine Z0 ?_
        refine Lw 37 f (fun g=> ?_) fun g=> ?_
        ·refine Z0 ?_
         refine Lw 42 g (fun i=> ?_) fun i=> ?_
         ·refine Z0 ?_
          refine Lw 47 i (fun j=> ?_) fun j=> ?_
          ·refine Z0 ?_
           cases j
           exact Eg0 [0] 0
          refine Z0 ?_
          cases j
          exact Eg0 [0] 0
         refine Z0 ?_
         cases i
         exact Eg0 [0] 0
        refine Z0 ?_
        cases g
        exact Eg0 [0] 0
       refine Z0 ?_
       cases f
       exact Eg0 [0] 0
      refine Z0 ?_
      cases e
      exact Eg0 [0] 0
     refine Z0 ?_
     cases d
     exact Eg0 [0] 0
    refine Z0 ?_
    cases c
    exact Eg0 [0] 0
   refine Z0 ?_
   cases b
   exact Eg0 [0] 0
  refine Z0 ?_
  cases a
  exact Eg0 [0] 0
 refine Z0 ?_
 cases m
 exact Eo1 () [] []
theorem eF {n_:Int} {lo:Int} {hi:Int} {r:Bool} (H:dq n_ lo hi=some r):CT G 94 [.int .i64 n_,.int .i64 lo,.int .i64 hi] [] [] (fun _:Unit=> .bool r) (fun h=>[]) (fun h=>[]):=by
 delta dq at H
 refine Cf Go.Proofs.Tryz.func94 fun K=> ?_
 refine Y2 ?_
 have ⟨e4,H5,H6⟩:=bnd H
 refine Tj0 [(6,.bool e4)] [] [] [] ?_ ?_
 ·refine Z0 ?_
  refine Lw 10 H5 (fun H7=> ?_) fun H7=> ?_
  ·refine Z0 ?_
   cases H7
   exact Eg0 [] 0
  refine Z0 ?_
  cases H7
  exact Eg0 [] 0
 refine Z0 ?_
 cases H6
 exact Eo1 () [] []
theorem p5 {s_:ej} {r:Bool} (H:gH s_=some r):CT G 46 [.agg (Bj s_ A0 C0 A1 C1).toArray] [] [Im.sl aD A0 C0 s_.rows,Im.sl aJ A1 C1 s_.begun] (fun _:Unit=> .bool r) (fun h=>[]) (fun h=>[]):=by
 delta gH at H
 refine Cf Go.Proofs.Tryz.func46 fun K=> ?_
 refine Z1 ?_
 refine Lx fun g1=> ?_
 refine Y1 ?_
 have ⟨k,l,m⟩:=bnd H
 refine Tj0 [(2,.bool k)] [] [] [0] ?_ ?_
 ·refine Z0 ?_
  have ⟨C,n,o⟩:=bnd l
  refine Lk [] [] (eF n) fun ⟨⟩=> ?_
  refine Z0 ?_
  refine Lw 6 o (fun a=> ?_) fun a=> ?_
  ·refine Z0 ?_
   have ⟨F,p,q⟩:=bnd a
   refine Lk [] [] (eF p) fun ⟨⟩=> ?_
   refine Z0 ?_
   refine Lw 11 q (fun b=> ?_) fun b=> ?_
   ·refine Z0 ?_
    have ⟨I,s,t⟩:=bnd b
    refine Lk [] [] (eF s) fun ⟨⟩=> ?_
    refine Z0 ?_
    refine Lw 16 t (fun c=> ?_) fun c=> ?_
    ·refine Z0 ?_
     have ⟨J,u,v⟩:=bnd c
     refine Lk [] [] (eF u) fun ⟨⟩=> ?_
     refine Z0 ?_
     refine Lw 24 v (fun d=> ?_) fun d=> ?_
     ·refine Z0 ?_
      have ⟨M,w,x⟩:=bnd d
      refine Lk [] [] (eF w) fun ⟨⟩=> ?_
      refine Z0 ?_
      refine Lw 32 x (fun e=> ?_) fun e=> ?_
      ·refine Z0 ?_
       refine Lw 40 e (fun f=> ?_) fun f=> ?_
       ·refine Z0 ?_
        refine Lw 46 f (fun g=> ?_) fun g=> ?_
        ·refine Z0 ?_
         have ⟨N,y,z⟩:=bnd g
         refine Lk [] [] (eF y) fun ⟨⟩=> ?_
         refine Z0 ?_
         refine Lw 51 z (fun i=> ?_) fun i=> ?_
         ·refine Z0 ?_
          have ⟨O,A,B⟩:=bnd i
          refine Lk [] [] (eF A) fun ⟨⟩=> ?_
          refine Z0 ?_
          refine Lw 56 B (fun j=> ?_) fun j=> ?_
          ·refine Z0 ?_
           cases j
           exact Eg0 [0] 0
          refine Z0 ?_
          cases j
          exact Eg0 [0] 0
         refine Z0 ?_
         cases i
         exact Eg0 [0] 0
        refine Z0 ?_
        cases g
        exact Eg0 [0] 0
       refine Z0 ?_
       cases f
       exact Eg0 [0] 0
      refine Z0 ?_
      cases e
      exact Eg0 [0] 0
     refine Z0 ?_
     cases d
     exact Eg0 [0] 0
    refine Z0 ?_
    cases c
    exact Eg0 [0] 0
   refine Z0 ?_
   cases b
   exact Eg0 [0] 0
  refine Z0 ?_
  cases a
  exact Eg0 [0] 0
 refine Z0 ?_
 cases m
 exact Eo1 () [] []
theorem p6 {r_:Int} {aK:Int} {r:Bool} (H:jc r_ aK=some r):CT G 49 [.int .i32 r_,.int .i64 aK] [] [] (fun _:Unit=> .bool r) (fun h=>[]) (fun h=>[]):=by
 delta jc at H
 refine Cf Go.Proofs.Tryz.func49 fun K=> ?_
 refine Y2 ?_
 have ⟨b,c,d⟩:=bnd H
 refine Tj0 [(4,.bool b)] [] [] [] ?_ ?_
 ·refine Z0 ?_
  have ⟨j,e,f⟩:=bnd c
  refine Lk [] [] (eF e) fun ⟨⟩=> ?_
  refine Z0 ?_
  refine Lw 8 f (fun a=> ?_) fun a=> ?_
  ·refine Z0 ?_
   have ⟨k,g,i⟩:=bnd a
   refine Lk [] [] (eF g) fun ⟨⟩=> ?_
   refine Z0 ?_
   cases i
   exact Eg0 [] 0
  refine Z0 ?_
  cases a
  exact Eg0 [] 0
 refine Z0 ?_
 cases d
 exact Eo1 () [] []
theorem oI {g:aI} {r:Bool} (H:fK g=some r):CT G 48 [.agg #[.int .i32 g.rune,.int .i64 g.aK]] [] [] (fun _:Unit=> .bool r) (fun h=>[]) (fun h=>[]):=by
 delta fK at H
 refine Cf Go.Proofs.Tryz.func48 fun K=> ?_
 refine Z1 ?_
 refine Lx fun g1=> ?_
 refine Z1 ?_
 have ⟨r2,h3,H4⟩:=bnd H
 refine Lk [] [] (p6 h3) fun ⟨⟩=> ?_
 refine Z0 ?_
 cases H4
 exact Eo1 () [] []
theorem iz {s_:List aI} {r:Int} (H:cL s_=some r):CT G 95 [.slice A0 s_.length C0,.func (.func 48) #[] #[]] [] [Im.sl aJ A0 C0 s_] (fun _:Unit=> .int .i64 r) (fun h=>[]) (fun h=>[]):=by
 delta cL at H
 refine Cf Go.Proofs.Tryz.func95 fun K=> ?_
 refine Z3 ?_
 have ⟨a,i,e⟩:=bnd H
 refine Tj (η:=Unit×Unit) (fun h=>a = .inl h.1) (fun _=>[]) [] (fun _=>[]) [] (fun _=>[]) ?_ ?_
 ·refine Yl0 ?_
  refine Tq (η:=Unit) (fun f h=>[(8,.int .i64 f)]) [0,1,7] (fun _ _=>[]) [] (fun _ _=>[]) () [] [] i ?_
  rintro k_ f ⟨⟩ j k l g
  refine Y2 ?_
  refine Tb k (fun b=> ?_) fun b=> ?_
  ·refine Z1 ?_
   refine Zl ?_
   refine Z2 ?_
   have ⟨s,c,m⟩:=bnd b
   refine L.addr 0 rfl (dC c) fun t u n=> ?_
   subst n
   refine Ly (Yl.ia c rfl rfl rfl rfl rfl rfl) ?_
   refine L.el 0 rfl (bC c).2 ?_
   rintro _
   refine Lc 0 0 ?_
   have ⟨v,o,p⟩:=bnd m
   refine Lk [] [] (oI o) fun ⟨⟩=> ?_
   refine Z0 ?_
   refine Tb p (fun d=> ?_) fun d=> ?_
   ·refine Z1 ?_
    obtain ⟨w,hz,q⟩:=iY d
    subst j
    have hb:=g _ rfl
    subst a
    obtain rfl:=(sm e).symm
    refine Z0 ?_
    cases q
    exact Eo1 () [] []
   refine Z0 ?_
   cases d
   exact Eg (_,()) (l _ rfl) [] [] 1
  refine Z0 ?_
  cases b
  have hb:=g _ rfl
  subst a
  exact Eg (_,()) rfl [] [] 0
 rintro ⟨x,⟨⟩⟩ hy
 subst hy
 refine Z1 ?_
 cases e
 exact Eo1 () [] []
theorem hH {s_:List aI} {r:Bool} (H:bY s_=some r):CT G 47 [.slice A0 s_.length C0,.func (.func 48) #[] #[]] [] [Im.sl aJ A0 C0 s_] (fun _:Unit=> .bool r) (fun h=>[]) (fun h=>[]):=by
 delta bY at H
 refine Cf Go.Proofs.Tryz.func47 fun K=> ?_
 refine Z2 ?_
 have ⟨r1,h2,H3⟩:=bnd H
 refine Lk [] [0] (iz h2) fun ⟨⟩=> ?_
 refine Z0 ?_
 cases H3
 exact Eo1 () [] []
theorem vE {c:aG} {r:Bool} (H:kG c=some r):CT G 52 [.agg #[.int .i32 c.rune,.int .i64 c.aK,.int .i64 c.part]] [] [] (fun _:Unit=> .bool r) (fun h=>[]) (fun h=>[]):=by
 delta kG at H
 refine Cf Go.Proofs.Tryz.func52 fun K=> ?_
 refine Z1 ?_
 refine Lx fun g1=> ?_
 refine Y1 ?_
 have ⟨b,d,e⟩:=bnd H
 refine Tj0 [(2,.bool b)] [] [] [0] ?_ ?_
 ·refine Z0 ?_
  have ⟨k,f,g⟩:=bnd d
  refine Lk [] [] (p6 f) fun ⟨⟩=> ?_
  refine Z0 ?_
  refine Lw 8 g (fun a=> ?_) fun a=> ?_
  ·refine Z0 ?_
   have ⟨l,i,j⟩:=bnd a
   refine Lk [] [] (eF i) fun ⟨⟩=> ?_
   refine Z0 ?_
   cases j
   exact Eg0 [0] 0
  refine Z0 ?_
  cases a
  exact Eg0 [0] 0
 refine Z0 ?_
 cases e
 exact Eo1 () [] []
theorem oJ {c:aG} {r:Bool} (H:fL c=some r):CT G 51 [.agg #[.int .i32 c.rune,.int .i64 c.aK,.int .i64 c.part]] [] [] (fun _:Unit=> .bool r) (fun h=>[]) (fun h=>[]):=by
 delta fL at H
 refine Cf Go.Proofs.Tryz.func51 fun K=> ?_
 refine Z1 ?_
 refine Lx fun g1=> ?_
 refine Z1 ?_
 have ⟨r2,h3,H4⟩:=bnd H
 refine Lk [] [] (vE h3) fun ⟨⟩=> ?_
 refine Z0 ?_
 cases H4
 exact Eo1 () [] []
theorem iG {s_:List aG} {r:Int} (H:cM s_=some r):CT G 96 [.slice A0 s_.length C0,.func (.func 51) #[] #[]] [] [Im.sl aT A0 C0 s_] (fun _:Unit=> .int .i64 r) (fun h=>[]) (fun h=>[]):=by
 delta cM at H
 refine Cf Go.Proofs.Tryz.func96 fun K=> ?_
 refine Z3 ?_
 have ⟨a,i,e⟩:=bnd H
 refine Tj (η:=Unit×Unit) (fun h=>a = .inl h.1) (fun _=>[]) [] (fun _=>[]) [] (fun _=>[]) ?_ ?_
 ·refine Yl0 ?_
  refine Tq (η:=Unit) (fun f h=>[(8,.int .i64 f)]) [0,1,7] (fun _ _=>[]) [] (fun _ _=>[]) () [] [] i ?_
  rintro k_ f ⟨⟩ j k l g
  refine Y2 ?_
  refine Tb k (fun b=> ?_) fun b=> ?_
  ·refine Z1 ?_
   refine Zl ?_
   refine Z2 ?_
   have ⟨s,c,m⟩:=bnd b
   refine L.addr 0 rfl (dC c) fun t u n=> ?_
   subst n
   refine Ly (Yl.ia c rfl rfl rfl rfl rfl rfl) ?_
   refine L.el 0 rfl (bC c).2 ?_
   rintro _
   refine Lc 0 0 ?_
   have ⟨v,o,p⟩:=bnd m
   refine Lk [] [] (oJ o) fun ⟨⟩=> ?_
   refine Z0 ?_
   refine Tb p (fun d=> ?_) fun d=> ?_
   ·refine Z1 ?_
    obtain ⟨w,hz,q⟩:=iY d
    subst j
    have hb:=g _ rfl
    subst a
    obtain rfl:=(sm e).symm
    refine Z0 ?_
    cases q
    exact Eo1 () [] []
   refine Z0 ?_
   cases d
   exact Eg (_,()) (l _ rfl) [] [] 1
  refine Z0 ?_
  cases b
  have hb:=g _ rfl
  subst a
  exact Eg (_,()) rfl [] [] 0
 rintro ⟨x,⟨⟩⟩ hy
 subst hy
 refine Z1 ?_
 cases e
 exact Eo1 () [] []
theorem hP {s_:List aG} {r:Bool} (H:bU s_=some r):CT G 50 [.slice A0 s_.length C0,.func (.func 51) #[] #[]] [] [Im.sl aT A0 C0 s_] (fun _:Unit=> .bool r) (fun h=>[]) (fun h=>[]):=by
 delta bU at H
 refine Cf Go.Proofs.Tryz.func50 fun K=> ?_
 refine Z2 ?_
 have ⟨r1,h2,H3⟩:=bnd H
 refine Lk [] [0] (iG h2) fun ⟨⟩=> ?_
 refine Z0 ?_
 cases H3
 exact Eo1 () [] []
theorem p7 {s_:ej} {r:Int} (H:gI s_=some r):CT G 23 [.agg (Bj s_ A0 C0 A1 C1).toArray] [] [Im.sl aD A0 C0 s_.rows,Im.sl aJ A1 C1 s_.begun] (fun _:Unit=> .int .i64 r) (fun h=>[]) (fun h=>[]):=by
 delta gI at H
 refine Cf Go.Proofs.Tryz.func23 fun K=> ?_
 refine Z1 ?_
 refine Lx fun g1=> ?_
 refine Z2 ?_
 have ⟨r2,h3,H4⟩:=bnd H
 refine Lk [] [0,1] (p4 h3) fun ⟨⟩=> ?_
 refine Z0 ?_
 refine Tb H4 (fun H6=> ?_) fun H6=> ?_
 ·refine Z1 ?_
  cases H6
  exact Eo1 () [] []
 refine Y2 ?_
 have ⟨l,m,n⟩:=bnd H6
 refine Tj0 [(14,.bool l)] [1] [] [0] ?_ ?_
 ·refine Z0 ?_
  have ⟨J,o,p⟩:=bnd m
  refine Lk [] [0,1] (p5 o) fun ⟨⟩=> ?_
  refine Z0 ?_
  refine Lw 10 p (fun a=> ?_) fun a=> ?_
  ·refine Z0 ?_
   cases a
   exact Eg0 [0] 0
  refine Z0 ?_
  have ⟨M,q,s⟩:=bnd a
  refine Lk [] [1] (hH q) fun ⟨⟩=> ?_
  refine Z0 ?_
  cases s
  exact Eg0 [0] 0
 refine Tb n (fun b=> ?_) fun b=> ?_
 ·refine Z1 ?_
  cases b
  exact Eo1 () [] []
 refine Z2 ?_
 have ⟨c,t,i⟩:=bnd b
 refine Tj (η:=Unit×Unit) (fun h=>c = .inl h.1) (fun _=>[]) [] (fun _=>[]) [0] (fun _=>[]) ?_ ?_
 ·refine Yl0 ?_
  refine Tq (η:=Unit) (fun j h=>[(18,.int .i64 j)]) [1,16,17] (fun _ _=>[]) [0] (fun _ _=>[]) () [0] [] t ?_
  rintro k_ j ⟨⟩ u v w k
  refine Y2 ?_
  refine Tb v (fun d=> ?_) fun d=> ?_
  ·refine Z1 ?_
   refine Zl ?_
   refine Z1 ?_
   have ⟨N,e,x⟩:=bnd d
   refine L.addr 0 rfl (dC e) fun O P y=> ?_
   subst y
   refine Ly (Yl.ia e rfl rfl rfl rfl rfl rfl) ?_
   refine L.el 0 rfl (bC e).2 ?_
   rintro ⟨Q,R⟩
   refine Lc 0 0 ?_
   refine Ll fun S=> ?_
   refine Lt 0 ?_
   refine Y1 ?_
   have ⟨z,A,B⟩:=bnd x
   refine Tj0 [(32,.bool z)] [1,16,17,18] [] [0,1] ?_ ?_
   ·refine Z0 ?_
    refine Lw 28 A (fun f=> ?_) fun f=> ?_
    ·refine Z0 ?_
     cases f
     exact Eg0 [0,0] 0
    refine Z0 ?_
    have ⟨U,C,F⟩:=bnd f
    refine Lk [] [1] (hP C) fun ⟨⟩=> ?_
    refine Z0 ?_
    cases F
    exact Eg0 [0,0] 0
   refine Tb B (fun g=> ?_) fun g=> ?_
   ·refine Z1 ?_
    obtain ⟨V,hz,I⟩:=iY g
    subst u
    have hb:=k _ rfl
    subst c
    obtain rfl:=(sm i).symm
    refine Z0 ?_
    cases I
    exact Eo1 () [] []
   refine Z0 ?_
   cases g
   exact Eg (_,()) (w _ rfl) [1] [] 2
  refine Z0 ?_
  cases d
  have hb:=k _ rfl
  subst c
  exact Eg (_,()) rfl [0] [] 0
 rintro ⟨W,⟨⟩⟩ hy
 subst hy
 refine Z1 ?_
 cases i
 exact Eo1 () [] []
theorem oK {l:List cI} {r:Bool} (H:gR l=some r):CT G 5 [.slice A0 l.length C0] [] [Im.sl jZ A0 C0 l,Im.sl bR (some ⟨0,0,none⟩) 13 bZ,Im.sl bR (some ⟨1,0,none⟩) 14 cC,Im.sl (Ty.int .u32) (some ⟨2,0,none⟩) 16 dI,Im.sl cN (some ⟨3,0,none⟩) 8 bJ] (fun _:Unit=> .bool r) (fun h=>[]) (fun h=>[]):=by
 delta gR at H
 refine Cf Go.Proofs.Tryz.func5 fun K=> ?_
 refine Z3 ?_
 have ⟨r1,h2,H3⟩:=bnd H
 refine Lk [] [1,2,3,4] (s5 h2) fun ⟨⟩=> ?_
 refine Z0 ?_
 refine Tb H3 (fun H5=> ?_) fun H5=> ?_
 ·refine Z1 ?_
  cases H5
  exact Eo1 () [] []
 refine Z1 ?_
 have ⟨r6,h7,H8⟩:=bnd H5
 refine Lk [] [] (qQ h7) fun ⟨g9,q,⟨ag,ah⟩,⟨ai,aj⟩,⟨ak,al⟩,s,⟨am,an⟩,⟨b3,b4⟩,t,ao,⟨ap,aq⟩⟩=> ?_
 refine Z2 ?_
 refine Ly (Yl.pn rfl rfl rfl rfl rfl rfl) ?_
 refine Z0 ?_
 refine T.cond rfl (fun h=>nomatch h) (fun _=> ?_)
 refine Z3 ?_
 have ⟨u,ar,v⟩:=bnd H8
 refine Tj (η:=aV×((Option Addr×Nat)×(Option Addr×Nat)×(Option Addr×Nat)×(Option Addr×Nat)×Nat×(Option Addr×Nat))) (fun h=>u = .inl h.1) (fun _=>[]) [] (fun h=>(fun b=>(fun x y z A B C F I J M N=>[Ch.arr (Ty.slice aJ) 38 x y b.book.l,Ch.arr (Ty.int .i64) 3 z A b.book.bG,Ch.arr aJ 77 B C b.book.begun,Ch.opt (b.parser.state == (3:Int)) (Ty.int .i64) 3 F I b.parser.order.aY,Ch.arr aD 99 M N b.aN.g.l,Ch.box g9 37 (lJ b q s t),Ch.box q 93 [.slice x b.book.l.length y,.slice z b.book.bG.length A,.slice B b.book.begun.length C],Ch.box s 85 (gm b.parser F I),Ch.box t 132 (bO b.aN J),Ch.box J 181 [.int .i64 b.aN.g.w,.slice M b.aN.g.l.length N]]) h.2.1.1 h.2.1.2 h.2.2.1.1 h.2.2.1.2 h.2.2.2.1.1 h.2.2.2.1.2 h.2.2.2.2.1.1 h.2.2.2.2.1.2 h.2.2.2.2.2.1 h.2.2.2.2.2.2.1 h.2.2.2.2.2.2.2) h.1) [] (fun _=>[]) ?_ ?_
 ·refine Yl0 ?_
  refine Tq (η:=(Option Addr×Nat)×(Option Addr×Nat)×(Option Addr×Nat)×(Option Addr×Nat)×Nat×(Option Addr×Nat)) (fun a h=>(fun c d e f i j k m n o p=>[(4,.int .i64 a.2.1),(5,.int .i64 a.2.2.1),(6,.int .i64 a.2.2.2)]) h.1.1 h.1.2 h.2.1.1 h.2.1.2 h.2.2.1.1 h.2.2.1.2 h.2.2.2.1.1 h.2.2.2.1.2 h.2.2.2.2.1 h.2.2.2.2.2.1 h.2.2.2.2.2.2) [0,3] (fun a h=>(fun c d e f i j k m n o p=>[Ch.arr (Ty.slice aJ) 38 c d a.1.book.l,Ch.arr (Ty.int .i64) 3 e f a.1.book.bG,Ch.arr aJ 77 i j a.1.book.begun,Ch.opt (a.1.parser.state == (3:Int)) (Ty.int .i64) 3 k m a.1.parser.order.aY,Ch.arr aD 99 o p a.1.aN.g.l,Ch.box g9 37 (lJ a.1 q s t),Ch.box q 93 [.slice c a.1.book.l.length d,.slice e a.1.book.bG.length f,.slice i a.1.book.begun.length j],Ch.box s 85 (gm a.1.parser k m),Ch.box t 132 (bO a.1.aN n),Ch.box n 181 [.int .i64 a.1.aN.g.w,.slice o a.1.aN.g.l.length p]]) h.1.1 h.1.2 h.2.1.1 h.2.1.2 h.2.2.1.1 h.2.2.1.2 h.2.2.2.1.1 h.2.2.2.1.2 h.2.2.2.2.1 h.2.2.2.2.2.1 h.2.2.2.2.2.2) [] (fun _ _=>[]) ((ag,ah),(ai,aj),(ak,al),(am,an),ao,(ap,aq)) [2,2,2,3,5,0,0,0,0,0] [] ar ?_
  rintro k_ a ⟨⟨c,d⟩,⟨e,f⟩,⟨i,j⟩,⟨k,m⟩,n,⟨o,p⟩⟩ af au av O
  refine Y2 ?_
  have ⟨aw,ax,ay⟩:=bnd au
  refine Tj0 [(22,.bool aw)] [0,3,4,5,6] [] [5,6,7,8,9,0,1,2,3,4] ?_ ?_
  ·refine Z0 ?_
   refine Lw 19 ax (fun P=> ?_) fun P=> ?_
   ·refine Z0 ?_
    cases P
    exact Eg0 [5,5,5,5,5,0,0,0,0,0] 0
   refine Z0 ?_
   cases P
   exact Eg0 [5,5,5,5,5,0,0,0,0,0] 0
  refine Tb ay (fun Q=> ?_) fun Q=> ?_
  ·refine Z1 ?_
   refine Zl ?_
   refine Z1 ?_
   have ⟨b5,R,az⟩:=bnd Q
   refine L.addr 0 rfl (dC R) fun b6 b7 a0=> ?_
   subst a0
   refine Ly (Yl.ia R rfl rfl rfl rfl rfl rfl) ?_
   refine L.el 0 rfl (bC R).2 ?_
   rintro _
   refine Lc 0 0 ?_
   have ⟨b8,a1,a2⟩:=bnd az
   refine Lk [] [] (vD a1) fun ⟨⟩=> ?_
   refine Ll fun b9=> ?_
   refine Lt 0 ?_
   refine Z1 ?_
   have ⟨ca,a3,a4⟩:=bnd a2
   refine Lk [1,1,4,4,4,1,3,1,1,1] [2,3,4,5] (mL a3) fun ⟨⟨a5,a6⟩,⟨a7,a8⟩,⟨a9,ba⟩,⟨bb,bc⟩,⟨cb,cc⟩,bd,⟨be,bf⟩⟩=> ?_
   refine Z2 ?_
   refine Lb 10 ?_
   have ⟨cd,bg,bh⟩:=bnd a4
   refine Lk [] [] (s6 bg) fun ⟨⟩=> ?_
   refine Z0 ?_
   refine Tb bh (fun S=> ?_) fun S=> ?_
   ·refine Z1 ?_
    obtain ⟨ce,hz,bi⟩:=iY S
    subst af
    have hb:=O _ rfl
    subst u
    obtain rfl:=(sm v).symm
    refine Z0 ?_
    cases bi
    exact Eo1 () [] []
   refine Z2 ?_
   have ⟨bj,bk,bl⟩:=bnd S
   refine Tj0 [(4,.int .i64 bj)] [0,3,5,6,7,8] [] [0,1,5,7,8,10,2,3,4,6,9] ?_ ?_
   ·refine Tb bk (fun U=> ?_) fun U=> ?_
    ·refine Z0 ?_
     cases U
     exact Eg0 [0,0,3,4,4,5,0,0,0,0,0] 0
    refine Z0 ?_
    cases U
    exact Eg0 [0,0,3,4,4,5,0,0,0,0,0] 0
   refine Z1 ?_
   have ⟨cf,bm,bn⟩:=bnd bl
   refine Lk [0,0,4,4,4,0,3,0,0,1] [] (lO bm) fun ⟨⟨cg,ch⟩,⟨ci,cj⟩,⟨ck,cl⟩⟩=> ?_
   refine Ll fun cm=> ?_
   refine Lt 0 ?_
   refine Y2 ?_
   have ⟨bo,bp,bq⟩:=bnd bn
   refine Tj0 [(102,.bool bo)] [0,3,4,6] [] [0,1,2,6,8,9,11,3,4,5,7,10] ?_ ?_
   ·refine Td [] [0,0,0,0,0,0,0,0,0,0,0,0] mo ?_
    refine Dq 0 ?_
    refine Dq 2 ?_
    have ⟨cn,br,bs⟩:=bnd bp
    refine D.one rfl rfl rfl (Dp.ab [1,1,1,1,1,1,1,1,1,1] [] [10,0,0,0,0,0,0,0,0,0,0,0] (Ac.call (ng br) rfl rfl rfl rfl) rfl rfl rfl rfl rfl rfl (fun _=>rfl) ?_)
    rintro ⟨⟩
    refine Dq 3 ?_
    refine Dq 4 ?_
    refine D.cs 49 bs rfl (fun hc V=> ?_) (fun hc V=> ?_)
    ·refine Ds 5 ?_
     refine Ds 6 ?_
     refine Ds 7 ?_
     refine Ds 8 ?_
     refine Ds 9 ?_
     refine Dq 10 ?_
     refine Dq 11 ?_
     refine Ds 12 ?_
     refine Ds 13 ?_
     refine Ds 14 ?_
     refine Ds 15 ?_
     refine Ds 16 ?_
     refine Ds 17 ?_
     refine Ds 18 ?_
     refine Dq 19 ?_
     refine Dq 20 ?_
     refine Ds 21 ?_
     refine Ds 22 ?_
     refine Ds 23 ?_
     refine Ds 24 ?_
     refine Ds 25 ?_
     refine Ds 26 ?_
     refine Ds 27 ?_
     refine Ds 28 ?_
     refine Dq 29 ?_
     refine Dq 30 ?_
     refine Ds 31 ?_
     refine Ds 32 ?_
     refine Ds 33 ?_
     refine Dq 34 ?_
     refine Dq 35 ?_
     refine Ds 36 ?_
     refine Ds 37 ?_
     refine Ds 38 ?_
     refine Ds 39 ?_
     refine Ds 40 ?_
     refine Ds 41 ?_
     refine Ds 42 ?_
     refine Ds 43 ?_
     refine Ds 44 ?_
     refine Ds 45 ?_
     refine Ds 46 ?_
     refine Ds 47 ?_
     refine Ds 48 ?_
     refine Ds 49 ?_
     refine Ds 50 ?_
     refine Ds 51 ?_
     refine Ds 52 ?_
     refine Ds 53 ?_
     refine Ds 54 ?_
     refine Ds 55 ?_
     refine Ds 56 ?_
     refine Dq 57 ?_
     refine Dn ?_
     cases V
     exact Eg0 [0,0,0,3,4,4,5,0,0,0,0,0] 0
    refine Dq 5 ?_
    refine Db 6 0 ?_
    refine Dq 7 ?_
    refine Dq 8 ?_
    refine Dq 9 ?_
    refine Dq 10 ?_
    refine Dq 11 ?_
    refine D.cs 56 V rfl (fun hc W=> ?_) (fun hc W=> ?_)
    ·refine Ds 12 ?_
     refine Ds 13 ?_
     refine Ds 14 ?_
     refine Ds 15 ?_
     refine Ds 16 ?_
     refine Ds 17 ?_
     refine Ds 18 ?_
     refine Dq 19 ?_
     refine Dq 20 ?_
     refine Ds 21 ?_
     refine Ds 22 ?_
     refine Ds 23 ?_
     refine Ds 24 ?_
     refine Ds 25 ?_
     refine Ds 26 ?_
     refine Ds 27 ?_
     refine Ds 28 ?_
     refine Dq 29 ?_
     refine Dq 30 ?_
     refine Ds 31 ?_
     refine Ds 32 ?_
     refine Ds 33 ?_
     refine Dq 34 ?_
     refine Dq 35 ?_
     refine Ds 36 ?_
     refine Ds 37 ?_
     refine Ds 38 ?_
     refine Ds 39 ?_
     refine Ds 40 ?_
     refine Ds 41 ?_
     refine Ds 42 ?_
     refine Ds 43 ?_
     refine Ds 44 ?_
     refine Ds 45 ?_
     refine Ds 46 ?_
     refine Ds 47 ?_
     refine Ds 48 ?_
     refine Ds 49 ?_
     refine Ds 50 ?_
     refine Ds 51 ?_
     refine Ds 52 ?_
     refine Ds 53 ?_
     refine Ds 54 ?_
     refine Ds 55 ?_
     refine Ds 56 ?_
     refine Dq 57 ?_
     refine Dn ?_
     cases W
     exact Eg0 [0,0,0,3,4,4,5,0,0,0,0,0] 0
    refine Dq 12 ?_
    refine Dq 13 ?_
    refine Dq 14 ?_
    refine Db 15 1 ?_
    refine Dq 17 ?_
    have ⟨co,bt,bu⟩:=bnd W
    refine D.one rfl rfl rfl (Dp.ab [2,2,2,2] [] [4,4,0,0,0,0,0,0,0,0,0,0] (Ac.call (gu bt) rfl rfl rfl rfl) rfl rfl rfl rfl rfl rfl (fun _=>rfl) ?_)
    rintro ⟨⟩
    refine Dq 18 ?_
    refine Dq 19 ?_
    refine Dq 20 ?_
    refine D.cs 65 bu rfl (fun hc X=> ?_) (fun hc X=> ?_)
    ·refine Ds 21 ?_
     refine Ds 22 ?_
     refine Ds 23 ?_
     refine Ds 24 ?_
     refine Ds 25 ?_
     refine Ds 26 ?_
     refine Ds 27 ?_
     refine Ds 28 ?_
     refine Dq 29 ?_
     refine Dq 30 ?_
     refine Ds 31 ?_
     refine Ds 32 ?_
     refine Ds 33 ?_
     refine Dq 34 ?_
     refine Dq 35 ?_
     refine Ds 36 ?_
     refine Ds 37 ?_
     refine Ds 38 ?_
     refine Ds 39 ?_
     refine Ds 40 ?_
     refine Ds 41 ?_
     refine Ds 42 ?_
     refine Ds 43 ?_
     refine Ds 44 ?_
     refine Ds 45 ?_
     refine Ds 46 ?_
     refine Ds 47 ?_
     refine Ds 48 ?_
     refine Ds 49 ?_
     refine Ds 50 ?_
     refine Ds 51 ?_
     refine Ds 52 ?_
     refine Ds 53 ?_
     refine Ds 54 ?_
     refine Ds 55 ?_
     refine Ds 56 ?_
     refine Dq 57 ?_
     refine Dn ?_
     cases X
     exact Eg0 [0,0,0,3,4,4,5,0,0,0,0,0] 0
    refine Dq 21 ?_
    refine Db 22 0 ?_
    refine Dq 23 ?_
    refine Dq 24 ?_
    refine Dq 25 ?_
    refine Db 26 1 ?_
    have ⟨cp,bv,bw⟩:=bnd X
    refine D.one rfl rfl rfl (Dp.ab [2,2,2,2] [] [4,4,0,0,0,0,0,0,0,0,0,0] (Ac.call (gu bv) rfl rfl rfl rfl) rfl rfl rfl rfl rfl rfl (fun _=>rfl) ?_)
    rintro ⟨⟩
    refine Dq 28 ?_
    refine Dq 29 ?_
    refine Dq 30 ?_
    refine D.cs 75 bw rfl (fun hc Y=> ?_) (fun hc Y=> ?_)
    ·refine Ds 31 ?_
     refine Ds 32 ?_
     refine Ds 33 ?_
     refine Dq 34 ?_
     refine Dq 35 ?_
     refine Ds 36 ?_
     refine Ds 37 ?_
     refine Ds 38 ?_
     refine Ds 39 ?_
     refine Ds 40 ?_
     refine Ds 41 ?_
     refine Ds 42 ?_
     refine Ds 43 ?_
     refine Ds 44 ?_
     refine Ds 45 ?_
     refine Ds 46 ?_
     refine Ds 47 ?_
     refine Ds 48 ?_
     refine Ds 49 ?_
     refine Ds 50 ?_
     refine Ds 51 ?_
     refine Ds 52 ?_
     refine Ds 53 ?_
     refine Ds 54 ?_
     refine Ds 55 ?_
     refine Ds 56 ?_
     refine Dq 57 ?_
     refine Dn ?_
     cases Y
     exact Eg0 [0,0,0,3,4,4,5,0,0,0,0,0] 0
    refine Db 31 0 ?_
    have ⟨cq,bx,bz⟩:=bnd Y
    refine Dk [] [0,1] (p7 bx) fun ⟨⟩=> ?_
    refine Dq 33 ?_
    refine Dq 34 ?_
    refine Dq 35 ?_
    refine D.cs 80 bz rfl (fun hc Z=> ?_) (fun hc Z=> ?_)
    ·refine Ds 36 ?_
     refine Ds 37 ?_
     refine Ds 38 ?_
     refine Ds 39 ?_
     refine Ds 40 ?_
     refine Ds 41 ?_
     refine Ds 42 ?_
     refine Ds 43 ?_
     refine Ds 44 ?_
     refine Ds 45 ?_
     refine Ds 46 ?_
     refine Ds 47 ?_
     refine Ds 48 ?_
     refine Ds 49 ?_
     refine Ds 50 ?_
     refine Ds 51 ?_
     refine Ds 52 ?_
     refine Ds 53 ?_
     refine Ds 54 ?_
     refine Ds 55 ?_
     refine Ds 56 ?_
     refine Dq 57 ?_
     refine Dn ?_
     cases Z
     exact Eg0 [0,0,0,3,4,4,5,0,0,0,0,0] 0
    refine Dq 36 ?_
    refine Dq 37 ?_
    refine Dq 38 ?_
    refine D.cs 83 Z rfl (fun hc aa=> ?_) (fun hc aa=> ?_)
    ·refine Dq 39 ?_
     refine Db 40 11 ?_
     refine Dq 41 ?_
     refine Dq 42 ?_
     refine Dq 43 ?_
     refine D.cs 88 aa rfl (fun hc ac=> ?_) (fun hc ac=> ?_)
     ·refine Dq 44 ?_
      refine Db 45 0 ?_
      refine Dq 46 ?_
      refine Db 47 11 ?_
      refine Dq 48 ?_
      refine Dq 49 ?_
      refine D.cs 94 ac rfl (fun hc ad=> ?_) (fun hc ad=> ?_)
      ·refine Ds 50 ?_
       refine Ds 51 ?_
       refine Ds 52 ?_
       refine Ds 53 ?_
       refine Ds 54 ?_
       refine Dq 55 ?_
       refine Dq 56 ?_
       refine Dq 57 ?_
       refine Dn ?_
       cases ad
       exact Eg0 [0,0,0,3,4,4,5,0,0,0,0,0] 0
      refine Dq 50 ?_
      refine Db 51 0 ?_
      refine Dq 52 ?_
      refine Db 53 11 ?_
      refine Dq 54 ?_
      refine Dq 55 ?_
      refine Dq 56 ?_
      refine Dq 57 ?_
      refine Dn ?_
      cases ad
      exact Eg0 [0,0,0,3,4,4,5,0,0,0,0,0] 0
     refine Ds 44 ?_
     refine Ds 45 ?_
     refine Ds 46 ?_
     refine Ds 47 ?_
     refine Ds 48 ?_
     refine Ds 49 ?_
     refine Ds 50 ?_
     refine Ds 51 ?_
     refine Ds 52 ?_
     refine Ds 53 ?_
     refine Ds 54 ?_
     refine Ds 55 ?_
     refine Dq 56 ?_
     refine Dq 57 ?_
     refine Dn ?_
     cases ac
     exact Eg0 [0,0,0,3,4,4,5,0,0,0,0,0] 0
    refine Ds 39 ?_
    refine Ds 40 ?_
    refine Ds 41 ?_
    refine Dq 42 ?_
    refine Dq 43 ?_
    refine Ds 44 ?_
    refine Ds 45 ?_
    refine Ds 46 ?_
    refine Ds 47 ?_
    refine Ds 48 ?_
    refine Ds 49 ?_
    refine Ds 50 ?_
    refine Ds 51 ?_
    refine Ds 52 ?_
    refine Ds 53 ?_
    refine Ds 54 ?_
    refine Ds 55 ?_
    refine Dq 56 ?_
    refine Dq 57 ?_
    refine Dn ?_
    cases aa
    exact Eg0 [0,0,0,3,4,4,5,0,0,0,0,0] 0
   refine Tb bq (fun ae=> ?_) fun ae=> ?_
   ·refine Z1 ?_
    obtain ⟨cr,hz,b0⟩:=iY ae
    subst af
    have hb:=O _ rfl
    subst u
    obtain rfl:=(sm v).symm
    refine Z0 ?_
    cases b0
    exact Eo1 () [] []
   refine Z0 ?_
   have ⟨ct,b1,b2⟩:=bnd ae
   refine Lk [2,6,6,6] [] (gu b1) fun ⟨⟩=> ?_
   refine Z0 ?_
   cases b2
   exact Eg (_,((a5,a6),(a7,a8),(a9,ba),(bb,bc),bd,(be,bf))) (av _ rfl) [1,1,1,7,7,2,0,1,1,1] [] 3
  refine Z0 ?_
  cases Q
  have hb:=O _ rfl
  subst u
  exact Eg (_,((c,d),(e,f),(i,j),(k,m),n,(o,p))) rfl [5,5,5,5,5,0,0,0,0,0] [] 0
 rintro ⟨b,⟨⟨x,y⟩,⟨z,A⟩,⟨B,C⟩,⟨F,I⟩,J,⟨M,N⟩⟩⟩ hy
 subst hy
 refine Z1 ?_
 cases v
 exact Eo1 () [] []
end Go.Tw.X
set_option maxHeartbeats 2000000
set_option linter.unusedVariables false
set_option linter.unusedSimpArgs false
set_option maxRecDepth 10000
namespace Go.Tw.X
open Go Go.Tw
theorem Ey {P:Program} {α β:Type} {t:TypeId} {ty:Ty α} {ty':Ty β} {wf:α→Prop} {wf':β→Prop} (h:Opn P t ty wf) (g:α→β) (gh:ty.Hid→ty'.Hid) (h1: ∀ y hh,ty'.cs (g y) (gh hh)=ty.cs y hh) (h2: ∀ y hh,ty'.im (g y) (gh hh)=ty.im y hh) (h3: ∀ y,wf y→wf' (g y)):Opn P t ty' wf':=Opn.to g gh h h1 h2 h3
theorem F5:Opn Go.Proofs.Tryz.prog 9 Ty.str (fun s:ByteArray=>s.size≤maxLen):=Opn.str (by kernel_rfl)
theorem Ez:Opn Go.Proofs.Tryz.prog 3 (Ty.int .i64) (inK .i64):=Opn.int (by kernel_rfl)
theorem Fw:Opn Go.Proofs.Tryz.prog 64 jZ k8:=Ey (β:=cI) (ty':=jZ) (wf':=k8) (Opn.struct (fs:=[(3,0),(9,1),(3,2),(3,3)]) (by kernel_rfl) (by kernel_rfl) (.cons Ez (by kernel_rfl) (.cons F5 (by kernel_rfl) (.cons Ez (by kernel_rfl) (.cons Ez (by kernel_rfl) .nil))))) (fun y=>⟨y.1,y.2.1,y.2.2.1,y.2.2.2.1⟩) (fun h=>()) (fun _ _=>rfl) (fun _ _=>rfl) (fun y h=>h)
theorem Fy:Opn Go.Proofs.Tryz.prog 47 (Ty.slice jZ) (fun xs:List cI=> ∀ x∈xs,k8 x):=Opn.slice (by kernel_rfl) Fw (by kernel_rfl) (by decide)
end Go.Tw.X

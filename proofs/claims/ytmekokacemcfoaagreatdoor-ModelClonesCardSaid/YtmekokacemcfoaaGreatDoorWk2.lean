import Derived.Test.YtmekokacemcfoaaGreatDoorWk1
import Derived.Test.YtmekokacemcfoaaGreatDoorFw2
set_option maxHeartbeats 2000000
set_option linter.unusedVariables false
set_option linter.unusedSimpArgs false
set_option maxRecDepth 10000
namespace Go.Tw.X
open Go Go.Tw
variable {A0 A1 A2 A3 A4 A5 A6 A7 A8 : Option Addr} {C0 C1 C2 C3 C4 C5 C6 C7 C8 : Nat}
variable {N0 N1 N2 N3 N4 : Nat}
theorem om {g:aX} {r:aX×aX} (H:hP g=some r):CT G 99 [.pointer (some ⟨N0,0,none⟩)] [Ch.box N0 181 [.int .i64 g.w,.slice A0 g.l.length C0],Ch.arr aC 99 A0 C0 g.l] [] (fun h:Nat×(Option Addr×Nat)=> .pointer (some ⟨h.1,0,none⟩)) (fun h=>[Ch.box h.1 181 [.int .i64 r.1.w,.slice h.2.1 r.1.l.length h.2.2],Ch.arr aC 99 h.2.1 h.2.2 r.1.l,Ch.box N0 181 [.int .i64 r.2.w,.slice A0 r.2.l.length C0],Ch.arr aC 99 A0 C0 r.2.l]) (fun h=>[]):=by
 delta hP at H
 refine Cf Go.Proofs.Tryz.func99 fun K=> ?_
 refine Y2 ?_
 refine Td [] [0] mo ?_
 refine Dq 0 ?_
 refine Dq 1 ?_
 refine Dq 2 ?_
 refine Db 3 0 ?_
 refine Dq 4 ?_
 refine Dq 5 ?_
 refine Dq 6 ?_
 refine Db 7 0 ?_
 have ⟨a,b,c⟩:=bnd H
 refine Dk [0] [] (o3 b) fun ⟨d,e⟩=> ?_
 have ⟨_,f,i⟩:=bnd c
 refine Dq 9 ?_
 refine Da [] [] rfl rfl (Ac.box rfl rfl) fun j=> ?_
 refine Dq 11 ?_
 refine Dn ?_
 refine E.bx 0 (cs':=[.int .i64 g.w,.slice A0 a.2.length C0]) (by rw [(dW f)]) rfl ?_
 refine Z0 ?_
 cases i
 exact Eo1 (j,(d,e)) [1,1,0,0] []
theorem mv {s_:aB} {r:aB×aB} (H:eW s_=some r):CT G 55 [.pointer (some ⟨N0,0,none⟩)] [Ch.box N0 132 (bO s_ N1),Ch.box N1 181 [.int .i64 s_.g.w,.slice A0 s_.g.l.length C0],Ch.arr aC 99 A0 C0 s_.g.l] [] (fun h:Nat×Nat×(Option Addr×Nat)=> .pointer (some ⟨h.1,0,none⟩)) (fun h=>[Ch.box h.1 132 (bO r.1 h.2.1),Ch.box h.2.1 181 [.int .i64 r.1.g.w,.slice h.2.2.1 r.1.g.l.length h.2.2.2],Ch.arr aC 99 h.2.2.1 h.2.2.2 r.1.g.l,Ch.box N0 132 (bO r.2 N1),Ch.box N1 181 [.int .i64 r.2.g.w,.slice A0 r.2.g.l.length C0],Ch.arr aC 99 A0 C0 r.2.g.l]) (fun h=>[]):=by
 delta eW at H
 refine Cf Go.Proofs.Tryz.func55 fun K=> ?_
 refine Z2 ?_
 refine Ll fun g1=> ?_
 refine Lt 0 ?_
 refine Z1 ?_
 have ⟨r2,h3,H4⟩:=bnd H
 refine Lk [2,2] [] (om h3) fun ⟨g5,⟨a6,c7⟩⟩=> ?_
 refine Z0 ?_
 refine Lt 4 ?_
 refine Z1 ?_
 cases H4
 exact Eo1 (g1,g5,(a6,c7)) [0,0,0,2,0,0] []
theorem m9 {m_:aT} {r:aB×aT} (H:fL m_=some r):CT G 25 [.pointer (some ⟨N0,0,none⟩)] [Ch.box N0 37 (kQ m_ N1 N2 N3),Ch.box N1 93 [.slice A0 m_.book.l.length C0,.slice A1 m_.book.bE.length C1,.slice A2 m_.book.begun.length C2],Ch.arr (Ty.slice aG) 38 A0 C0 m_.book.l,Ch.arr (Ty.int .i64) 3 A1 C1 m_.book.bE,Ch.arr aG 77 A2 C2 m_.book.begun,Ch.box N2 85 (eG m_.parser A3 C3),Ch.opt (m_.parser.state == (3:Int)) (Ty.int .i64) 3 A3 C3 m_.parser.order.bA,Ch.box N3 132 (bO m_.aN N4),Ch.box N4 181 [.int .i64 m_.aN.g.w,.slice A5 m_.aN.g.l.length C5],Ch.arr aC 99 A5 C5 m_.aN.g.l] [] (fun h:Nat×Nat×(Option Addr×Nat)×(Option Addr×Nat)=> .pointer (some ⟨h.1,0,none⟩)) (fun h=>[Ch.box h.1 132 (bO r.1 h.2.1),Ch.box h.2.1 181 [.int .i64 r.1.g.w,.slice h.2.2.1.1 r.1.g.l.length h.2.2.1.2],Ch.arr aC 99 h.2.2.1.1 h.2.2.1.2 r.1.g.l,Ch.box N0 37 (kQ r.2 N1 N2 N3),Ch.box N1 93 [.slice A0 r.2.book.l.length C0,.slice A1 r.2.book.bE.length C1,.slice A2 r.2.book.begun.length C2],Ch.arr (Ty.slice aG) 38 A0 C0 r.2.book.l,Ch.arr (Ty.int .i64) 3 A1 C1 r.2.book.bE,Ch.arr aG 77 A2 C2 r.2.book.begun,Ch.box N2 85 (eG r.2.parser A3 C3),Ch.opt (r.2.parser.state == (3:Int)) (Ty.int .i64) 3 A3 C3 r.2.parser.order.bA,Ch.box N3 132 (bO r.2.aN N4),Ch.box N4 181 [.int .i64 r.2.aN.g.w,.slice A5 r.2.aN.g.l.length C5],Ch.arr aC 99 A5 C5 r.2.aN.g.l]) (fun h=>[]):=by
 delta fL at H
 refine Cf Go.Proofs.Tryz.func25 fun K=> ?_
 refine Z2 ?_
 have ⟨r1,h2,H3⟩:=bnd H
 refine Lk [7,7,7] [] (mv h2) fun ⟨g4,g5,⟨a6,c7⟩⟩=> ?_
 refine Z0 ?_
 cases H3
 exact Eo1 (g4,g5,(a6,c7),(none,0)) [0,0,0,3,3,3,3,3,3,3,0,0,0] []
theorem o4 {b:bU} {i:Int} {r:(List aH)×Bool} (H:iJ b i=some r):CT G 13 [.pointer (some ⟨N0,0,none⟩),.int .i64 i] [Ch.box N0 93 [.slice A0 b.l.length C0,.slice A1 b.bE.length C1,.slice A2 b.begun.length C2],Ch.arr (Ty.slice aG) 38 A0 C0 b.l,Ch.arr (Ty.int .i64) 3 A1 C1 b.bE,Ch.arr aG 77 A2 C2 b.begun] [] (fun h:(Option Addr×Nat)=> .tuple #[.slice h.1 r.1.length h.2,.bool r.2]) (fun h=>[Ch.arr aG 77 h.1 h.2 r.1,Ch.box N0 93 [.slice A0 b.l.length C0,.slice A1 b.bE.length C1,.slice A2 b.begun.length C2],Ch.arr (Ty.slice aG) 38 A0 C0 b.l,Ch.arr (Ty.int .i64) 3 A1 C1 b.bE,Ch.arr aG 77 A2 C2 b.begun]) (fun h=>[]):=by
 delta iJ at H
 refine Cf Go.Proofs.Tryz.func13 fun K=> ?_
 refine Y3 ?_
 have ⟨e4,H5,H6⟩:=bnd H
 refine Tj0 [(16,.bool e4)] [0,1] [] [0,1,2,3] ?_ ?_
 ·refine Z0 ?_
  refine Lw 8 H5 (fun H7=> ?_) fun H7=> ?_
  ·refine Z0 ?_
   cases H7
   exact Eg0 [0,0,0,0] 0
  refine Z0 ?_
  cases H7
  exact Eg0 [0,0,0,0] 0
 refine Tb H6 (fun H9=> ?_) fun H9=> ?_
 ·refine Z1 ?_
  refine E.fR aG 77 ?_
  cases H9
  exact Eo (none,0) [0,0,0,0,0] [] (.tmp rfl (.tmp rfl .nil))
 refine Z1 ?_
 have ⟨e,a,f⟩:=bnd H9
 refine L.jd 1 rfl (bX a) fun o g=> ?_
 subst g
 refine Ly (Yl.ia a rfl rfl rfl rfl rfl rfl) ?_
 refine La [1] [] (Ac.lo i.toNat 0 (v:=(fun h:(Option Addr×Nat)=>(fun c d=> .slice c e.length d) h.1 h.2)) (aV a).2 rfl rfl rfl (fun _=>rfl)) ?_
 rintro ⟨c,d⟩
 have ⟨p,j,k⟩:=bnd f
 refine Lk [] [0] (jD c d j) fun ⟨m,n⟩=> ?_
 refine Z0 ?_
 cases k
 exact Eo (m,n) [0,1,0,0,0] [] (.tmp rfl (.tmp rfl .nil))
theorem na {s_:aB} {r:aX×aB} (H:fH s_=some r):CT G 67 [.pointer (some ⟨N0,0,none⟩)] [Ch.box N0 132 (bO s_ N1),Ch.box N1 181 [.int .i64 s_.g.w,.slice A0 s_.g.l.length C0],Ch.arr aC 99 A0 C0 s_.g.l] [] (fun h:Nat×(Option Addr×Nat)=> .pointer (some ⟨h.1,0,none⟩)) (fun h=>[Ch.box h.1 181 [.int .i64 r.1.w,.slice h.2.1 r.1.l.length h.2.2],Ch.arr aC 99 h.2.1 h.2.2 r.1.l,Ch.box N0 132 (bO r.2 N1),Ch.box N1 181 [.int .i64 r.2.g.w,.slice A0 r.2.g.l.length C0],Ch.arr aC 99 A0 C0 r.2.g.l]) (fun h=>[]):=by
 delta fH at H
 refine Cf Go.Proofs.Tryz.func67 fun K=> ?_
 refine Z2 ?_
 have ⟨r1,h2,H3⟩:=bnd H
 refine Lk [1,1] [] (om h2) fun ⟨g4,⟨a5,c6⟩⟩=> ?_
 refine Z0 ?_
 cases H3
 exact Eo1 (g4,(a5,c6)) [0,0,2,0,0] []
theorem mw {s_:aB} {r:ByteArray} (H:eU s_=some r):CT G 68 [.pointer (some ⟨N0,0,none⟩)] [Ch.box N0 132 (bO s_ N1),Ch.box N1 181 [.int .i64 s_.g.w,.slice A0 s_.g.l.length C0],Ch.arr aC 99 A0 C0 s_.g.l] [] (fun _:Unit=> .string r) (fun h=>[Ch.box N0 132 (bO s_ N1),Ch.box N1 181 [.int .i64 s_.g.w,.slice A0 s_.g.l.length C0],Ch.arr aC 99 A0 C0 s_.g.l]) (fun h=>[]):=by
 delta eU at H
 refine Cf Go.Proofs.Tryz.func68 fun K=> ?_
 refine Z2 ?_
 cases H
 exact Eo1 () [0,0,0] []
theorem o6 {g:aX} {r:(List aE)×aX} (H:iM g=some r):CT G 69 [.pointer (some ⟨N0,0,none⟩)] [Ch.box N0 181 [.int .i64 g.w,.slice A0 g.l.length C0],Ch.arr aC 99 A0 C0 g.l] [] (fun h:(Option Addr×Nat)=> .slice h.1 r.1.length h.2) (fun h=>[Ch.arr aC 99 h.1 h.2 r.1,Ch.box N0 181 [.int .i64 r.2.w,.slice A0 r.2.l.length C0],Ch.arr aC 99 A0 C0 r.2.l]) (fun h=>[]):=by
 delta iM at H
 refine Cf Go.Proofs.Tryz.func69 fun K=> ?_
 refine Z2 ?_
 have ⟨r1,h2,H3⟩:=bnd H
 refine Lk [1] [] (o3 h2) fun ⟨a4,c5⟩=> ?_
 have ⟨_,h8,H9⟩:=bnd H3
 refine L.bx 2 (cs':=[.int .i64 g.w,.slice A0 r1.2.length C0]) (by rw [dW h8]) rfl ?_
 refine Z0 ?_
 cases H9
 exact Eo1 (a4,c5) [1,0,0] []
theorem lE {b:bU} {r:Int} (H:fZ b=some r):CT G 12 [.pointer (some ⟨N0,0,none⟩)] [Ch.box N0 93 [.slice A0 b.l.length C0,.slice A1 b.bE.length C1,.slice A2 b.begun.length C2],Ch.arr (Ty.slice aG) 38 A0 C0 b.l,Ch.arr (Ty.int .i64) 3 A1 C1 b.bE,Ch.arr aG 77 A2 C2 b.begun] [] (fun _:Unit=> .int .i64 r) (fun h=>[Ch.box N0 93 [.slice A0 b.l.length C0,.slice A1 b.bE.length C1,.slice A2 b.begun.length C2],Ch.arr (Ty.slice aG) 38 A0 C0 b.l,Ch.arr (Ty.int .i64) 3 A1 C1 b.bE,Ch.arr aG 77 A2 C2 b.begun]) (fun h=>[]):=by
 delta fZ at H
 refine Cf Go.Proofs.Tryz.func12 fun K=> ?_
 refine Z2 ?_
 cases H
 exact Eo1 () [0,0,0,0] []
theorem sN {b:bU} {n_:Int} {r:Int} (H:jg b n_=some r):CT G 70 [.pointer (some ⟨N0,0,none⟩),.int .i64 n_] [Ch.box N0 93 [.slice A0 b.l.length C0,.slice A1 b.bE.length C1,.slice A2 b.begun.length C2],Ch.arr (Ty.slice aG) 38 A0 C0 b.l,Ch.arr (Ty.int .i64) 3 A1 C1 b.bE,Ch.arr aG 77 A2 C2 b.begun] [] (fun _:Unit=> .int .i64 r) (fun h=>[Ch.box N0 93 [.slice A0 b.l.length C0,.slice A1 b.bE.length C1,.slice A2 b.begun.length C2],Ch.arr (Ty.slice aG) 38 A0 C0 b.l,Ch.arr (Ty.int .i64) 3 A1 C1 b.bE,Ch.arr aG 77 A2 C2 b.begun]) (fun h=>[]):=by
 delta jg at H
 refine Cf Go.Proofs.Tryz.func70 fun K=> ?_
 refine Y2 ?_
 refine Td [] [0,0,0,0] mo ?_
 refine Dq 0 ?_
 refine Dq 1 ?_
 refine Dq 2 ?_
 refine Db 3 0 ?_
 refine Dq 4 ?_
 refine Dq 5 ?_
 refine Dq 6 ?_
 refine Dq 7 ?_
 refine Db 8 0 ?_
 refine Dq 9 ?_
 refine Dq 10 ?_
 refine Dq 11 ?_
 have ⟨c,a,d⟩:=bnd H
 refine D.jd 2 rfl (bX a) fun f e=> ?_
 subst e
 refine Dy 12 (Yl.ia a rfl rfl rfl rfl rfl rfl) ?_
 refine Dy 13 (Yl.lo (v:= .int .i64 c) 2 ((imax 0 (dQ n_ (b.l.length:Int))).toNat) 0 (aV a).2 rfl rfl rfl rfl (fun _=>rfl)) ?_
 refine Dq 14 ?_
 refine Dn ?_
 refine Z0 ?_
 cases d
 exact Eo1 () [0,0,0,0] []
theorem kU {s_:List aH} (a_0:Option Addr) (c_0:Nat) {r:List aH} (H:cB s_=some r):CT G 31 [.slice a_0 s_.length c_0] [Ch.arr aG 77 a_0 c_0 s_] [] (fun h:(Option Addr×Nat)=> .slice h.1 r.length h.2) (fun h=>[Ch.arr aG 77 h.1 h.2 r,Ch.arr aG 77 a_0 c_0 s_]) (fun h=>[]):=by
  delta cB at H
  refine Cf Go.Proofs.Tryz.func31 fun K=> ?_
  have ⟨_,h0,H⟩:=bnd H
  have hr:=Option.some.inj H
  refine T.seq (T.region (L.q 1 rfl (L.nil (E.then (T.seq (T.seq (T.region ?_)))))))
  refine L.cap 0 rfl fun hle=> ?_
  have hv:=zb (ty:=aG) (a0:=a_0) hle
  rw [← qp s_] at h0 hr
  refine L.sl 0 (k':=(cut s_ 0 (s_.length:Int)).length) (by rw [qp]) rfl ?_
  refine L.q 1 rfl ?_
  refine L.E1 0 hv rfl rfl rfl rfl rfl rfl rfl rfl rfl (fun hx=> ?_) ?_
  · refine L.nil (E.then (T.cond rfl (fun _=> ?_) (fun h=>nomatch h)))
    refine T.seq (T.region (L.q 1 rfl (L.nil (E.then (T.ret (E.mP ?_))))))
    rw [hx] at hr
    subst r
    refine E.fR aG 77 ?_
    exact E.ret (none,0) [0,0] [] (.tmp rfl .nil) rfl rfl rfl
  · refine L.nil (E.then (T.cond rfl (fun h=>nomatch h) (fun _=> ?_)))
    refine T.skip (E.then (T.seq (T.region ?_)))
    refine L.a [] [] (Ac.bs (ty:=aG) (xs:=[]) .nil rfl rfl rfl rfl rfl rfl rfl) rfl rfl rfl rfl rfl ?_
    intro g1
    refine L.q 1 rfl ?_
    refine L.a [0,0] [] (Ac.apv (ty:=aG) hv h0 rfl rfl rfl rfl rfl rfl rfl) rfl rfl rfl rfl rfl ?_
    rintro ⟨a1,c1⟩
    refine L.q 1 rfl ?_
    refine L.nil (E.then (T.ret ?_))
    subst r
    exact E.ret (a1,c1) [0,0] [] (.tmp rfl .nil) rfl rfl rfl
theorem sO {b:bU} {r:(List aH)} (H:jh b=some r):CT G 71 [.pointer (some ⟨N0,0,none⟩)] [Ch.box N0 93 [.slice A0 b.l.length C0,.slice A1 b.bE.length C1,.slice A2 b.begun.length C2],Ch.arr (Ty.slice aG) 38 A0 C0 b.l,Ch.arr (Ty.int .i64) 3 A1 C1 b.bE,Ch.arr aG 77 A2 C2 b.begun] [] (fun h:(Option Addr×Nat)=> .slice h.1 r.length h.2) (fun h=>[Ch.arr aG 77 h.1 h.2 r,Ch.box N0 93 [.slice A0 b.l.length C0,.slice A1 b.bE.length C1,.slice A2 b.begun.length C2],Ch.arr (Ty.slice aG) 38 A0 C0 b.l,Ch.arr (Ty.int .i64) 3 A1 C1 b.bE,Ch.arr aG 77 A2 C2 b.begun]) (fun h=>[]):=by
 delta jh at H
 refine Cf Go.Proofs.Tryz.func71 fun K=> ?_
 refine Z2 ?_
 have ⟨r1,h2,H3⟩:=bnd H
 refine Lk [3] [] (kU A2 C2 h2) fun ⟨a4,c5⟩=> ?_
 refine Z0 ?_
 cases H3
 exact Eo1 (a4,c5) [0,1,1,1,0] []
theorem mi {s_:aB} {r:Int×Int} (H:eO s_=some r):CT G 72 [.pointer (some ⟨N0,0,none⟩)] [Ch.box N0 132 (bO s_ N1),Ch.box N1 181 [.int .i64 s_.g.w,.slice A0 s_.g.l.length C0],Ch.arr aC 99 A0 C0 s_.g.l] [] (fun _:Unit=> .tuple #[.int .i64 r.1,.int .i64 r.2]) (fun h=>[Ch.box N0 132 (bO s_ N1),Ch.box N1 181 [.int .i64 s_.g.w,.slice A0 s_.g.l.length C0],Ch.arr aC 99 A0 C0 s_.g.l]) (fun h=>[]):=by
 delta eO at H
 refine Cf Go.Proofs.Tryz.func72 fun K=> ?_
 refine Y2 ?_
 refine Td [] [0,0,0] mo ?_
 refine Dq 0 ?_
 refine Dq 1 ?_
 refine Dq 2 ?_
 refine Dq 3 ?_
 refine Db 4 0 ?_
 refine Dq 5 ?_
 refine Dq 6 ?_
 refine Dq 7 ?_
 refine Dq 8 ?_
 refine Db 9 0 ?_
 refine Dq 10 ?_
 refine Dq 11 ?_
 refine Dn ?_
 refine Z0 ?_
 cases H
 exact Eo () [0,0,0] [] (.tmp rfl (.tmp rfl .nil))
theorem Ca {k:Int} {s_:aB} {b:bU} {r:jq×aB} (H:qs k s_ b=some r):CT G 32 [.int .i64 k,.pointer (some ⟨N0,0,none⟩),.pointer (some ⟨N2,0,none⟩)] [Ch.box N0 132 (bO s_ N1),Ch.box N1 181 [.int .i64 s_.g.w,.slice A0 s_.g.l.length C0],Ch.arr aC 99 A0 C0 s_.g.l,Ch.box N2 93 [.slice A1 b.l.length C1,.slice A2 b.bE.length C2,.slice A3 b.begun.length C3],Ch.arr (Ty.slice aG) 38 A1 C1 b.l,Ch.arr (Ty.int .i64) 3 A2 C2 b.bE,Ch.arr aG 77 A3 C3 b.begun] [] (fun h:(Option Addr×Nat)×(Option Addr×Nat)=> .agg (HG r.1 h.1.1 h.1.2 h.2.1 h.2.2).toArray) (fun h=>[Ch.box N0 132 (bO r.2 N1),Ch.box N1 181 [.int .i64 r.2.g.w,.slice A0 r.2.g.l.length C0],Ch.arr aC 99 A0 C0 r.2.g.l,Ch.box N2 93 [.slice A1 b.l.length C1,.slice A2 b.bE.length C2,.slice A3 b.begun.length C3],Ch.arr (Ty.slice aG) 38 A1 C1 b.l,Ch.arr (Ty.int .i64) 3 A2 C2 b.bE,Ch.arr aG 77 A3 C3 b.begun]) (fun h=>[Im.sl aC h.1.1 h.1.2 r.1.rows,Im.sl aG h.2.1 h.2.2 r.1.begun]):=by
 delta qs at H
 refine Cf Go.Proofs.Tryz.func32 fun K=> ?_
 refine Z1 ?_
 refine Ll fun g1=> ?_
 refine Z1 ?_
 have ⟨r2,h3,H4⟩:=bnd H
 refine Lk [1,1,1] [] (na h3) fun ⟨g5,⟨a6,c7⟩⟩=> ?_
 refine Z1 ?_
 have ⟨B,a,c⟩:=bnd H4
 refine Lk [2,2,2] [] (mw a) fun ⟨⟩=> ?_
 refine Z0 ?_
 have ⟨C,d,e⟩:=bnd c
 refine Lk [3,3] [] (o6 d) fun ⟨f,i⟩=> ?_
 refine Z0 ?_
 have ⟨F,j,m⟩:=bnd e
 refine Lk [7,7,7,7] [] (lE j) fun ⟨⟩=> ?_
 refine Z0 ?_
 have ⟨I,n,o⟩:=bnd m
 refine Lk [0,0,0,0] [] (lE n) fun ⟨⟩=> ?_
 have ⟨J,p,q⟩:=bnd o
 refine Lk [0,0,0,0] [] (sN p) fun ⟨⟩=> ?_
 refine Z0 ?_
 have ⟨M,s,t⟩:=bnd q
 refine Lk [0,0,0,0] [] (sO s) fun ⟨u,v⟩=> ?_
 refine Z0 ?_
 refine Ll fun N=> ?_
 refine Lt 0 ?_
 refine Z1 ?_
 have ⟨O,x,y⟩:=bnd t
 refine Lk [7,7] [] (eQ x) fun ⟨⟩=> ?_
 refine Z0 ?_
 refine Lt 2 ?_
 refine Z0 ?_
 refine Lt 0 ?_
 refine Z1 ?_
 have ⟨P,z,A⟩:=bnd y
 refine Lk [9,9,9] [] (mi z) fun ⟨⟩=> ?_
 refine Z0 ?_
 refine Lt 3 ?_
 refine Z0 ?_
 refine Lt 0 ?_
 refine Z1 ?_
 refine Lt 12 ?_
 refine Z0 ?_
 refine E.frz 12 rfl ?_
 refine E.frz 7 rfl ?_
 cases A
 exact Eo ((f,i),(u,v)) [2,2,2,4,4,4,4] [1,0] (.cell 0 rfl rfl rfl .nil)
theorem n5 {m_:aT} {r:jq×aT} (H:gM m_=some r):CT G 14 [.pointer (some ⟨N0,0,none⟩)] [Ch.box N0 37 (kQ m_ N1 N2 N3),Ch.box N1 93 [.slice A0 m_.book.l.length C0,.slice A1 m_.book.bE.length C1,.slice A2 m_.book.begun.length C2],Ch.arr (Ty.slice aG) 38 A0 C0 m_.book.l,Ch.arr (Ty.int .i64) 3 A1 C1 m_.book.bE,Ch.arr aG 77 A2 C2 m_.book.begun,Ch.box N2 85 (eG m_.parser A3 C3),Ch.opt (m_.parser.state == (3:Int)) (Ty.int .i64) 3 A3 C3 m_.parser.order.bA,Ch.box N3 132 (bO m_.aN N4),Ch.box N4 181 [.int .i64 m_.aN.g.w,.slice A5 m_.aN.g.l.length C5],Ch.arr aC 99 A5 C5 m_.aN.g.l] [] (fun h:(Option Addr×Nat)×(Option Addr×Nat)×(Option Addr×Nat)=> .agg (HG r.1 h.1.1 h.1.2 h.2.1.1 h.2.1.2).toArray) (fun h=>[Ch.box N0 37 (kQ r.2 N1 N2 N3),Ch.box N1 93 [.slice A0 r.2.book.l.length C0,.slice A1 r.2.book.bE.length C1,.slice A2 r.2.book.begun.length C2],Ch.arr (Ty.slice aG) 38 A0 C0 r.2.book.l,Ch.arr (Ty.int .i64) 3 A1 C1 r.2.book.bE,Ch.arr aG 77 A2 C2 r.2.book.begun,Ch.box N2 85 (eG r.2.parser A3 C3),Ch.opt (r.2.parser.state == (3:Int)) (Ty.int .i64) 3 A3 C3 r.2.parser.order.bA,Ch.box N3 132 (bO r.2.aN N4),Ch.box N4 181 [.int .i64 r.2.aN.g.w,.slice A5 r.2.aN.g.l.length C5],Ch.arr aC 99 A5 C5 r.2.aN.g.l]) (fun h=>[Im.sl aC h.1.1 h.1.2 r.1.rows,Im.sl aG h.2.1.1 h.2.1.2 r.1.begun]):=by
 delta gM at H
 refine Cf Go.Proofs.Tryz.func14 fun K=> ?_
 refine Z1 ?_
 refine Ll fun g1=> ?_
 refine Y1 ?_
 refine Td [14] [0,0,4,4] mo ?_
 refine Dq 0 ?_
 refine Dq 1 ?_
 refine Dq 2 ?_
 refine Db 3 1 ?_
 refine Dq 4 ?_
 refine Dq 5 ?_
 refine Dq 6 ?_
 refine Dq 7 ?_
 refine Db 8 1 ?_
 refine Dq 9 ?_
 refine Dq 10 ?_
 refine Dq 11 ?_
 refine Db 12 1 ?_
 have ⟨i,a,b⟩:=bnd H
 refine Dk [4,4,4,0,0,0,0] [] (Ca a) fun ⟨⟨c,d⟩,⟨e,f⟩⟩=> ?_
 refine Dt 0 ?_
 refine Dn ?_
 refine Z0 ?_
 cases b
 exact Eo ((c,d),(e,f),(none,0)) [1,6,6,6,6,1,1,1,1,1] [0,1] (.cell 0 rfl rfl rfl .nil)
theorem pD {m_:aT} {r:Int} (H:kf m_=some r):CT G 22 [.pointer (some ⟨N0,0,none⟩)] [Ch.box N0 37 (kQ m_ N1 N2 N3),Ch.box N1 93 [.slice A0 m_.book.l.length C0,.slice A1 m_.book.bE.length C1,.slice A2 m_.book.begun.length C2],Ch.arr (Ty.slice aG) 38 A0 C0 m_.book.l,Ch.arr (Ty.int .i64) 3 A1 C1 m_.book.bE,Ch.arr aG 77 A2 C2 m_.book.begun,Ch.box N2 85 (eG m_.parser A3 C3),Ch.opt (m_.parser.state == (3:Int)) (Ty.int .i64) 3 A3 C3 m_.parser.order.bA,Ch.box N3 132 (bO m_.aN N4),Ch.box N4 181 [.int .i64 m_.aN.g.w,.slice A5 m_.aN.g.l.length C5],Ch.arr aC 99 A5 C5 m_.aN.g.l] [] (fun _:Unit=> .int .i64 r) (fun h=>[Ch.box N0 37 (kQ m_ N1 N2 N3),Ch.box N1 93 [.slice A0 m_.book.l.length C0,.slice A1 m_.book.bE.length C1,.slice A2 m_.book.begun.length C2],Ch.arr (Ty.slice aG) 38 A0 C0 m_.book.l,Ch.arr (Ty.int .i64) 3 A1 C1 m_.book.bE,Ch.arr aG 77 A2 C2 m_.book.begun,Ch.box N2 85 (eG m_.parser A3 C3),Ch.opt (m_.parser.state == (3:Int)) (Ty.int .i64) 3 A3 C3 m_.parser.order.bA,Ch.box N3 132 (bO m_.aN N4),Ch.box N4 181 [.int .i64 m_.aN.g.w,.slice A5 m_.aN.g.l.length C5],Ch.arr aC 99 A5 C5 m_.aN.g.l]) (fun h=>[]):=by
 delta kf at H
 refine Cf Go.Proofs.Tryz.func22 fun K=> ?_
 refine Z2 ?_
 cases H
 exact Eo1 () [0,0,0,0,0,0,0,0,0,0] []
theorem vQ {r:Bool} (H:ln=some r):CT G 7 [] [] [Im.sl bZ (some ⟨0,0,none⟩) 13 cJ,Im.sl bZ (some ⟨1,0,none⟩) 14 cT,Im.sl (Ty.int .u32) (some ⟨2,0,none⟩) 16 eL,Im.sl dD (some ⟨3,0,none⟩) 8 bR] (fun _:Unit=> .bool r) (fun h=>[]) (fun h=>[]):=by
 delta ln at H
 refine Cf Go.Proofs.Tryz.func7 fun K=> ?_
 refine Z2 ?_
 refine La [] [] (Ac.bs (ty:=sD) (xs:=[(dU.mk 0 (ByteArray.mk #[97,13,10,98]) 0 0),(dU.mk 1 (ByteArray.mk #[]) 0 0),(dU.mk 1 (ByteArray.mk #[]) 4 2)]) (.cons () [] rfl (.cons () [] rfl (.cons () [] rfl .nil))) rfl rfl rfl rfl rfl rfl rfl) fun g1=> ?_
 refine L.frz 0 rfl ?_
 have ⟨r4,h5,H6⟩:=bnd H
 refine Lk [] [0,1,2,3,4] (yR h5) fun ⟨g7,g8,⟨a9,B⟩,⟨C,F⟩,⟨I,J⟩,M,⟨N,O⟩,⟨P,Q⟩,R,S,⟨U,V⟩⟩=> ?_
 refine Z2 ?_
 refine Ly (Yl.pn rfl rfl rfl rfl rfl rfl) ?_
 refine Z0 ?_
 have ⟨W,j,k⟩:=bnd H6
 refine Lk [0,0,0,0,0,0,0,0,0,0] [] (m9 j) fun ⟨X,Y,⟨Z,aa⟩,⟨ab,ac⟩⟩=> ?_
 refine Ly (Yl.pn rfl rfl rfl rfl rfl rfl) ?_
 refine Z0 ?_
 refine T.cond rfl (fun h=>nomatch h) (fun _=> ?_)
 refine Z1 ?_
 have ⟨ad,l,m⟩:=bnd k
 refine Lk [4,4,4,4] [] (o4 l) fun ⟨ae,af⟩=> ?_
 refine Z1 ?_
 have ⟨ag,n,o⟩:=bnd m
 refine Lk [8,1,1,1,1,4,4,4,4,4] [] (n5 n) fun ⟨⟨ah,ai⟩,⟨aj,ak⟩,⟨al,am⟩⟩=> ?_
 refine Ll fun an=> ?_
 refine Lt 0 ?_
 refine Y1 ?_
 have ⟨p,q,s⟩:=bnd o
 refine Tj0 [(0,.bool p)] [] [] [0,1,2,6,8,9,12,13,3,4,5,7,10,14] ?_ ?_
 ·refine Z0 ?_
  have ⟨ao,t,u⟩:=bnd q
  refine Lk [1,1,1,1,1,1,1,1,1,1] [] (pD t) fun ⟨⟩=> ?_
  refine Z0 ?_
  refine Lw 30 u (fun a=> ?_) fun a=> ?_
  ·refine Z0 ?_
   have ⟨ap,w,x⟩:=bnd a
   refine Lk [1,1,1,1] [] (lE w) fun ⟨⟩=> ?_
   refine Z0 ?_
   refine Lw 38 x (fun b=> ?_) fun b=> ?_
   ·refine Z0 ?_
    refine Lw 41 b (fun c=> ?_) fun c=> ?_
    ·refine Z0 ?_
     refine Lw 46 c (fun d=> ?_) fun d=> ?_
     ·refine Z0 ?_
      have ⟨y,e,z⟩:=bnd d
      refine L.jd 11 rfl (bX e) fun aq A=> ?_
      subst A
      refine Ly (Yl.ia e rfl rfl rfl rfl rfl rfl) ?_
      refine Z0 ?_
      refine Ly (Yl.lo (v:= .int .i32 y.rune) 11 ((0:Int).toNat) 0 (aV e).2 rfl rfl rfl rfl (fun _=>rfl)) ?_
      refine Z0 ?_
      refine Lw 53 z (fun f=> ?_) fun f=> ?_
      ·refine Z0 ?_
       refine Lb 10 ?_
       refine Z0 ?_
       refine Lw 58 f (fun g=> ?_) fun g=> ?_
       ·refine Z0 ?_
        refine Lb 10 ?_
        refine Z0 ?_
        refine Lw 63 g (fun i=> ?_) fun i=> ?_
        ·refine Z0 ?_
         refine Lb 10 ?_
         refine Z0 ?_
         cases i
         exact Eg0 [10,4,0,3,4,4,6,6,0,0,0,0,0,1] 0
        refine Z0 ?_
        cases i
        exact Eg0 [10,4,0,3,4,4,6,6,0,0,0,0,0,1] 0
       refine Z0 ?_
       cases g
       exact Eg0 [10,4,0,3,4,4,6,6,0,0,0,0,0,1] 0
      refine Z0 ?_
      cases f
      exact Eg0 [10,4,0,3,4,4,6,6,0,0,0,0,0,1] 0
     refine Z0 ?_
     cases d
     exact Eg0 [10,4,0,3,4,4,6,6,0,0,0,0,0,1] 0
    refine Z0 ?_
    cases c
    exact Eg0 [10,4,0,3,4,4,6,6,0,0,0,0,0,1] 0
   refine Z0 ?_
   cases b
   exact Eg0 [10,4,0,3,4,4,6,6,0,0,0,0,0,1] 0
  refine Z0 ?_
  cases a
  exact Eg0 [10,0,0,3,4,4,6,6,0,0,0,0,0,1] 0
 refine Z0 ?_
 cases s
 exact Eo1 () [] []
theorem yS {s_:ByteArray} {n_:Int} {r:ByteArray} (H:mT s_ n_=some r):CT G 8 [.string s_,.int .i64 n_] [] [] (fun _:Unit=> .string r) (fun h=>[]) (fun h=>[]):=by
 delta mT at H
 refine Cf Go.Proofs.Tryz.func8 fun K=> ?_
 refine Z3 ?_
 refine Tb H (fun H4=> ?_) fun H4=> ?_
 ·refine Z1 ?_
  have ⟨_,h5,H6⟩:=bnd H4
  refine Ly (Yl.sc h5 rfl rfl rfl rfl rfl rfl) ?_
  refine Z0 ?_
  cases H6
  exact Eo1 () [] []
 refine Z1 ?_
 cases H4
 exact Eo1 () [] []
theorem nE {n_:Int} {r:Int} (H:jt n_=some r):CT G 114 [.int .i64 n_] [] [] (fun _:Unit=> .int .i64 r) (fun h=>[]) (fun h=>[]):=by
 delta jt at H
 refine Cf Go.Proofs.Tryz.func114 fun K=> ?_
 refine Z2 ?_
 cases H
 exact Eo1 () [] []
theorem sP {n_:Int} {lo:Int} {hi:Int} {r:Int} (H:jV n_ lo hi=some r):CT G 166 [.int .i64 n_,.int .i64 lo,.int .i64 hi] [] [] (fun _:Unit=> .int .i64 r) (fun h=>[]) (fun h=>[]):=by
 delta jV at H
 refine Cf Go.Proofs.Tryz.func166 fun K=> ?_
 refine Z3 ?_
 refine Tb H (fun H2=> ?_) fun H2=> ?_
 ·refine Z1 ?_
  cases H2
  exact Eo1 () [] []
 refine Z2 ?_
 refine Tb H2 (fun H4=> ?_) fun H4=> ?_
 ·refine Z1 ?_
  cases H4
  exact Eo1 () [] []
 refine Z1 ?_
 cases H4
 exact Eo1 () [] []
theorem kr {w:Int} {aM:Int} {r:aR} (H:fA w aM=some r):CT G 115 [.int .i64 w,.int .i64 aM] [] [] (fun h:(Option Addr×Nat)=> .agg #[.slice h.1 r.l.length h.2,.bool r.wrapped]) (fun h=>[]) (fun h=>[Im.sl bD h.1 h.2 r.l]):=by
 delta fA at H
 refine Cf Go.Proofs.Tryz.func115 fun K=> ?_
 refine Z1 ?_
 refine Ll fun g1=> ?_
 refine Z1 ?_
 refine La [] [] (Ac.bs (ty:=bD) (xs:=[]) .nil rfl rfl rfl rfl rfl rfl rfl) fun g2=> ?_
 refine Z2 ?_
 have ⟨f,i,j⟩:=bnd H
 refine Tjh (η:=(Option Addr×Nat)) (fun h=>(fun a b=>[(5,.slice a f.length b)]) h.1 h.2) [4] (fun h=>(fun a b=>[Ch.arr bD 225 a b f]) h.1 h.2) [1] (fun _=>[]) ?_ ?_
 ·refine Yl0 ?_
  refine Tq (η:=(Option Addr×Nat)) (fun c h=>(fun d e=>[(5,.slice d c.1.length e),(6,.int .i64 c.2)]) h.1 h.2) [0,1,4] (fun c h=>(fun d e=>[Ch.arr bD 225 d e c.1]) h.1 h.2) [1] (fun _ _=>[]) ((some ⟨g2,0,none⟩),0) [0,0] [] i ?_
  rintro k_ c ⟨d,e⟩ v k m n
  refine Z2 ?_
  have ⟨x,o,p⟩:=bnd k
  refine Lk [] [] (sP o) fun ⟨⟩=> ?_
  refine Z0 ?_
  refine Tb p (fun g=> ?_) fun g=> ?_
  ·refine Z1 ?_
   refine Zl ?_
   refine La [] [] (Ac.bs (ty:=bD) (xs:=[(aP.mk 32 aM 0)]) (.cons () [] rfl .nil) rfl rfl rfl rfl rfl rfl rfl) fun y=> ?_
   refine L.frz 0 rfl ?_
   have ⟨_,q,s⟩:=bnd g
   refine La [0] [0] (Ac.ap (ty:=bD) q rfl rfl rfl rfl rfl rfl rfl) ?_
   rintro ⟨t,u⟩
   refine Z0 ?_
   cases s
   exact Eg (_,(t,u)) (m _ rfl) [0,0] [] 1
  refine Z0 ?_
  cases g
  have hb:=n _ rfl
  subst f
  exact Eg (d,e) trivial [0,0] [] 0
 rintro ⟨a,b⟩
 refine Z1 ?_
 refine Lt 1 ?_
 refine Z0 ?_
 refine E.frz 1 rfl ?_
 cases j
 exact Eo (a,b) [] [0] (.cell 0 rfl rfl rfl .nil)
theorem yT {w:Int} {h_:Int} {r:cH} (H:mU w h_=some r):CT G 74 [.int .i64 w,.int .i64 h_] [] [] (fun h:(Option Addr×Nat)=> .agg #[.int .i64 r.w,.slice h.1 r.l.length h.2]) (fun h=>[]) (fun h=>[Im.sl aL h.1 h.2 r.l]):=by
 delta mU at H
 refine Cf Go.Proofs.Tryz.func74 fun K=> ?_
 refine Z1 ?_
 refine Ll fun g1=> ?_
 refine Z1 ?_
 have ⟨r2,h3,H4⟩:=bnd H
 refine Lk [] [] (nE h3) fun ⟨⟩=> ?_
 refine Z0 ?_
 refine Ll fun g5=> ?_
 refine Lt 0 ?_
 refine Z2 ?_
 have ⟨d,i,j⟩:=bnd H4
 refine Tjh (η:=(Option Addr×Nat)) (fun _=>[]) [4,5] (fun h=>(fun e f=>[Ch.arr aL 156 e f d.l,Ch.box g5 50 [.int .i64 d.w,.slice e d.l.length f]]) h.1 h.2) [1] (fun _=>[]) ?_ ?_
 ·refine Yl0 ?_
  refine T.fR aL 156 ?_
  refine Tq (η:=(Option Addr×Nat)) (fun a h=>(fun b c=>[(6,.int .i64 a.2)]) h.1 h.2) [1,4,5] (fun a h=>(fun b c=>[Ch.arr aL 156 b c a.1.l,Ch.box g5 50 [.int .i64 a.1.w,.slice b a.1.l.length c]]) h.1 h.2) [2] (fun _ _=>[]) (none,0) [0,0,0] [] i ?_
  rintro k_ a ⟨b,c⟩ B k m n
  refine Z2 ?_
  have ⟨C,o,p⟩:=bnd k
  refine Lk [] [] (nE o) fun ⟨⟩=> ?_
  refine Z0 ?_
  refine Tb p (fun g=> ?_) fun g=> ?_
  ·refine Z1 ?_
   refine Yl0 ?_
   refine Td [8] [1,1] mo ?_
   refine Dq 0 ?_
   refine Db 1 0 ?_
   refine Dq 2 ?_
   refine Db 3 0 ?_
   have ⟨q,s,t⟩:=bnd g
   refine Dk [] [] (kr s) fun ⟨u,v⟩=> ?_
   refine Da [] [0] rfl rfl (Ac.bs (ty:=aL) (xs:=[q]) (.cons (u,v) [0] rfl .nil) rfl rfl rfl rfl rfl rfl rfl) fun F=> ?_
   refine D.frz 0 rfl ?_
   have ⟨_,x,y⟩:=bnd t
   refine Da [0] [0] rfl rfl (Ac.ap (ty:=aL) x rfl rfl rfl rfl rfl rfl rfl) ?_
   rintro ⟨z,A⟩
   refine Dq 7 ?_
   refine Dt 0 ?_
   refine Dn ?_
   refine Z0 ?_
   cases y
   exact Eg (_,(z,A)) (m _ rfl) [2,0,0] [] 2
  refine Z0 ?_
  cases g
  have hb:=n _ rfl
  subst d
  exact Eg (b,c) trivial [0,0,0] [] 0
 rintro ⟨e,f⟩
 refine Z1 ?_
 refine Lt 2 ?_
 refine Z0 ?_
 refine E.frz 1 rfl ?_
 cases j
 exact Eo (e,f) [] [0] (.cell 0 rfl rfl rfl .nil)
theorem tV {w:Int} {h_:Int} {r:aK} (H:lO w h_=some r):CT G 36 [.int .i64 w,.int .i64 h_] [] [] (fun h:(Option Addr×Nat)=> .agg (lJ r h.1 h.2).toArray) (fun h=>[]) (fun h=>[Im.sl aL h.1 h.2 r.g.l]):=by
 delta lO at H
 refine Cf Go.Proofs.Tryz.func36 fun K=> ?_
 refine Z1 ?_
 refine Ll fun g1=> ?_
 refine Z1 ?_
 have ⟨r2,h3,H4⟩:=bnd H
 refine Lk [] [] (yT h3) fun ⟨a5,c6⟩=> ?_
 refine Ll fun g8=> ?_
 refine Lt 0 ?_
 refine Z1 ?_
 refine Lt 1 ?_
 refine Z0 ?_
 cases H4
 exact Eo (a5,c6) [] [0] (.cell 0 rfl rfl rfl .nil)
theorem yU {w:Int} {h_:Int} {r:bC} (H:mY w h_=some r):CT G 16 [.int .i64 w,.int .i64 h_] [] [] (fun h:(Option Addr×Nat)×(Option Addr×Nat)×(Option Addr×Nat)=> .agg (p9 r h.1.1 h.1.2 h.2.1.1 h.2.1.2 h.2.2.1 h.2.2.2).toArray) (fun h=>[]) (fun h=>[Im.sl aL h.1.1 h.1.2 r.s.g.l,Im.sl (Ty.slice aU) h.2.1.1 h.2.1.2 r.b.l,Im.sl aU h.2.2.1 h.2.2.2 r.b.begun]):=by
 delta mY at H
 refine Cf Go.Proofs.Tryz.func16 fun K=> ?_
 refine Z1 ?_
 refine Ll fun g1=> ?_
 refine Z1 ?_
 have ⟨r2,h3,H4⟩:=bnd H
 refine Lk [] [] (tV h3) fun ⟨a5,c6⟩=> ?_
 refine Z0 ?_
 refine L.rv 8 (.agg #[.int .i64 r2.g.w,.slice a5 r2.g.l.length c6,.int .i64 r2.x,.int .i64 r2.y,.int .i64 r2.s.fC,.int .i64 r2.s.back,.bool r2.s.bold,.bool r2.s.under,.bool r2.s.cO,.int .i64 r2.sX,.int .i64 r2.sY,.int .i64 r2.sS.fC,.int .i64 r2.sS.back,.bool r2.sS.bold,.bool r2.sS.under,.bool r2.sS.cO,.bool r2.waiting,.int .i64 r2.top,.int .i64 r2.aI,.bool r2.aY,.string r2.title,.slice none 0 0,.slice none 0 0,.string (ByteArray.mk #[]),.int .i64 0,.int .i64 0]) rfl ?_
 refine Lt 0 ?_
 refine Z0 ?_
 refine E.lT [Im.sl (Ty.slice aU) none 0 []] (fun A w _ _ f hf=>by rw [List.mem_singleton.1 hf]; exact Im.lU A w) ?_
 refine E.lT [Im.sl aU none 0 []] (fun A w _ _ f hf=>by rw [List.mem_singleton.1 hf]; exact Im.lU A w) ?_
 cases H4
 exact Eo ((a5,c6),(none,0),(none,0)) [] [2,1,0] (.cell 0 rfl rfl rfl .nil)
theorem tW {e:cL} {r:cL} (H:lP e=some r):CT G 17 [.agg (B9 e).toArray] [] [] (fun _:Unit=> .agg (B9 r).toArray) (fun h=>[]) (fun h=>[]):=by
 delta lP at H
 refine Cf Go.Proofs.Tryz.func17 fun K=> ?_
 refine Z1 ?_
 refine Lx fun g1=> ?_
 refine Ll fun g2=> ?_
 refine Z1 ?_
 have ⟨r3,h4,H5⟩:=bnd H
 refine Lk [] [] (yS h4) fun ⟨⟩=> ?_
 refine Z0 ?_
 refine Lt 1 ?_
 refine Y2 ?_
 have ⟨e9,f,g⟩:=bnd H5
 refine Tj0 [(14,.bool e9)] [1,2] [] [0,1] ?_ ?_
 ·refine Z0 ?_
  refine Lw 10 f (fun a=> ?_) fun a=> ?_
  ·refine Z0 ?_
   cases a
   exact Eg0 [0,0] 0
  refine Z0 ?_
  cases a
  exact Eg0 [0,0] 0
 have ⟨i,j,k⟩:=bnd g
 refine Tj0 [] [1,2] [Ch.box g1 64 (B9 i)] [1] ?_ ?_
 ·refine Tb j (fun b=> ?_) fun b=> ?_
  ·refine Z0 ?_
   refine Lt 0 ?_
   refine Z0 ?_
   cases b
   exact Eg0 [0,0] 0
  refine Z0 ?_
  cases b
  exact Eg0 [0,0] 0
 refine Y2 ?_
 have ⟨l,m,n⟩:=bnd k
 refine Tj0 [(23,.bool l)] [1,2] [] [0,1] ?_ ?_
 ·refine Z0 ?_
  refine Lw 19 m (fun c=> ?_) fun c=> ?_
  ·refine Z0 ?_
   cases c
   exact Eg0 [0,0] 0
  refine Z0 ?_
  cases c
  exact Eg0 [0,0] 0
 have ⟨o,p,q⟩:=bnd n
 refine Tj0 [] [1,2] [Ch.box g1 64 (B9 o)] [1] ?_ ?_
 ·refine Tb p (fun d=> ?_) fun d=> ?_
  ·refine Z0 ?_
   refine Lt 0 ?_
   refine Z0 ?_
   cases d
   exact Eg0 [0,0] 0
  refine Z0 ?_
  cases d
  exact Eg0 [0,0] 0
 refine Z1 ?_
 refine Lt 1 ?_
 refine Z0 ?_
 cases q
 exact Eo () [] [] (.cell 0 rfl rfl rfl .nil)
theorem vR {e:cL} {r:Int} (H:ll e=some r):CT G 21 [.agg (B9 e).toArray] [] [] (fun _:Unit=> .int .i64 r) (fun h=>[]) (fun h=>[]):=by
 delta ll at H
 refine Cf Go.Proofs.Tryz.func21 fun K=> ?_
 refine Z1 ?_
 refine Lx fun g1=> ?_
 refine Z2 ?_
 refine Tb H (fun H5=> ?_) fun H5=> ?_
 ·refine Z2 ?_
  refine Tb H5 (fun H7=> ?_) fun H7=> ?_
  ·refine Z1 ?_
   cases H7
   exact Eo1 () [] []
  refine Z1 ?_
  cases H7
  exact Eo1 () [] []
 refine Z2 ?_
 refine Tb H5 (fun H9=> ?_) fun H9=> ?_
 ·refine Z1 ?_
  cases H9
  exact Eo1 () [] []
 refine Y2 ?_
 have ⟨f,g,i⟩:=bnd H9
 refine Tj0 [(30,.bool f)] [] [] [0] ?_ ?_
 ·refine Z0 ?_
  refine Lw 16 g (fun a=> ?_) fun a=> ?_
  ·refine Z0 ?_
   cases a
   exact Eg0 [0] 0
  refine Z0 ?_
  refine Lw 21 a (fun b=> ?_) fun b=> ?_
  ·refine Z0 ?_
   cases b
   exact Eg0 [0] 0
  refine Z0 ?_
  refine Lw 26 b (fun c=> ?_) fun c=> ?_
  ·refine Z0 ?_
   cases c
   exact Eg0 [0] 0
  refine Z0 ?_
  cases c
  exact Eg0 [0] 0
 refine Tb i (fun d=> ?_) fun d=> ?_
 ·refine Z1 ?_
  cases d
  exact Eo1 () [] []
 refine Z1 ?_
 cases d
 exact Eo1 () [] []
theorem iD {l:List aP} {r:aR} (H:eC l=some r):CT G 167 [.slice A0 l.length C0] [] [Im.sl bD A0 C0 l] (fun h:(Option Addr×Nat)=> .agg #[.slice h.1 r.l.length h.2,.bool r.wrapped]) (fun h=>[]) (fun h=>[Im.sl bD h.1 h.2 r.l]):=by
 delta eC at H
 refine Cf Go.Proofs.Tryz.func167 fun K=> ?_
 refine Z1 ?_
 refine Ll fun g1=> ?_
 refine Z1 ?_
 refine La [] [] (Ac.bs (ty:=bD) (xs:=[]) .nil rfl rfl rfl rfl rfl rfl rfl) fun g2=> ?_
 refine Z2 ?_
 have ⟨g,u,w⟩:=bnd H
 refine Tjh (η:=(Option Addr×Nat)) (fun h=>(fun b c=>[(3,.slice b g.length c)]) h.1 h.2) [2] (fun h=>(fun b c=>[Ch.arr bD 225 b c g]) h.1 h.2) [1] (fun _=>[]) ?_ ?_
 ·refine Yl0 ?_
  refine Tq (η:=(Option Addr×Nat)) (fun a h=>(fun d e=>[(3,.slice d a.2.length e),(10,.int .i64 a.1)]) h.1 h.2) [0,2,8,9] (fun a h=>(fun d e=>[Ch.arr bD 225 d e a.2]) h.1 h.2) [1] (fun _ _=>[]) ((some ⟨g2,0,none⟩),0) [0,0] [] u ?_
  rintro k_ a ⟨d,e⟩ X x y z
  refine Y2 ?_
  refine Tb x (fun i=> ?_) fun i=> ?_
  ·refine Z1 ?_
   refine Zl ?_
   refine Z1 ?_
   have ⟨Y,j,A⟩:=bnd i
   refine L.addr 0 rfl (bX j) fun Z aa B=> ?_
   subst B
   refine Ly (Yl.ia j rfl rfl rfl rfl rfl rfl) ?_
   refine L.el 0 rfl (aV j).2 ?_
   rintro _
   refine Lc 0 0 ?_
   refine Ll fun C=> ?_
   refine Z0 ?_
   refine Lt 0 ?_
   refine Z3 ?_
   have ⟨F,I,J⟩:=bnd A
   refine Tj0 [(6,.bool F)] [0,2,3,5,8,9,10] [] [0,2,1] ?_ ?_
   ·refine Zl ?_
    refine Z1 ?_
    refine Tb I (fun k=> ?_) fun k=> ?_
    ·refine Z0 ?_
     refine Lw 24 k (fun m=> ?_) fun m=> ?_
     ·refine Z0 ?_
      cases m
      exact Eg0 [0,1,0] 0
     refine Z0 ?_
     have ⟨ab,t,M⟩:=bnd m
     refine Ly (Yl.ia t rfl rfl rfl rfl rfl rfl) ?_
     refine L.el 1 rfl (aV t).2 ?_
     rintro _
     refine Z0 ?_
     refine Lc 0 2 ?_
     refine Z0 ?_
     cases M
     exact Eg0 [0,1,0] 1
    refine Z1 ?_
    refine Tb k (fun n=> ?_) fun n=> ?_
    ·refine Z0 ?_
     refine Lw 37 n (fun o=> ?_) fun o=> ?_
     ·refine Z0 ?_
      cases o
      exact Eg0 [0,1,0] 0
     refine Z0 ?_
     have ⟨N,p,O⟩:=bnd o
     refine L.jd 1 rfl (bX p) fun ac P=> ?_
     subst P
     refine Ly (Yl.ia p rfl rfl rfl rfl rfl rfl) ?_
     refine Z0 ?_
     refine Ly (Yl.lo (v:= .int .i64 N.part) 1 ((IntKind.i64.wrap (a.1 - 1)).toNat) 2 (aV p).2 rfl rfl rfl rfl (fun _=>rfl)) ?_
     refine Z0 ?_
     cases O
     exact Eg0 [0,1,0] 0
    refine Z1 ?_
    refine Tb n (fun q=> ?_) fun q=> ?_
    ·refine Z0 ?_
     cases q
     exact Eg0 [0,1,0] 0
    refine Z0 ?_
    cases q
    exact Eg0 [0,1,0] 0
   refine Z2 ?_
   have ⟨f,Q,R⟩:=bnd J
   refine Tj0 [] [0,2,3,5,8,9,10] [Ch.box C 225 [.int .i64 f.rune,.int .i64 f.aM,.int .i64 f.part]] [1,2] ?_ ?_
   ·refine Tb Q (fun s=> ?_) fun s=> ?_
    ·refine Z0 ?_
     refine Lt 0 ?_
     refine Z0 ?_
     cases s
     exact Eg0 [0,0,0] 0
    refine Z0 ?_
    cases s
    exact Eg0 [0,0,0] 0
   refine Z0 ?_
   refine La [] [] (Ac.bs (ty:=bD) (xs:=[f]) (.cons () [] rfl .nil) rfl rfl rfl rfl rfl rfl rfl) fun ad=> ?_
   refine L.frz 0 rfl ?_
   have ⟨_,S,U⟩:=bnd R
   refine La [2] [0] (Ac.ap (ty:=bD) S rfl rfl rfl rfl rfl rfl rfl) ?_
   rintro ⟨V,W⟩
   refine Z0 ?_
   cases U
   exact Eg (_,(V,W)) (y _ rfl) [0,1] [] 2
  refine Z0 ?_
  cases i
  have hb:=z _ rfl
  subst g
  exact Eg (d,e) trivial [0,0] [] 0
 rintro ⟨b,c⟩
 refine Z1 ?_
 refine Lt 1 ?_
 refine Z0 ?_
 refine E.frz 1 rfl ?_
 cases w
 exact Eo (b,c) [] [0] (.cell 0 rfl rfl rfl .nil)
theorem qj {r_:aR} {w:Int} {r:aR} (H:iS r_ w=some r):CT G 116 [.agg #[.slice A0 r_.l.length C0,.bool r_.wrapped],.int .i64 w] [] [Im.sl bD A0 C0 r_.l] (fun h:(Option Addr×Nat)=> .agg #[.slice h.1 r.l.length h.2,.bool r.wrapped]) (fun h=>[]) (fun h=>[Im.sl bD h.1 h.2 r.l]):=by
 delta iS at H
 refine Cf Go.Proofs.Tryz.func116 fun K=> ?_
 refine Z1 ?_
 refine Lx fun g1=> ?_
 refine Ll fun g2=> ?_
 refine Z1 ?_
 have ⟨r3,h4,H5⟩:=bnd H
 refine Lk [] [] (sP h4) fun ⟨⟩=> ?_
 refine Z2 ?_
 refine Tb H5 (fun H7=> ?_) fun H7=> ?_
 ·refine Z1 ?_
  refine Lt 0 ?_
  refine Z0 ?_
  cases H7
  exact Eo (A0,C0) [] [0] (.cell 0 rfl rfl rfl .nil)
 refine Z1 ?_
 refine La [] [] (Ac.bs (ty:=bD) (xs:=[]) .nil rfl rfl rfl rfl rfl rfl rfl) fun g8=> ?_
 refine Z0 ?_
 have ⟨_,a,b⟩:=bnd H7
 refine L.rs 0 a rfl rfl rfl rfl rfl rfl rfl rfl rfl rfl rfl rfl ?_
 intro o p
 have ⟨_,c,d⟩:=bnd b
 refine La [0] [0] (Ac.ap (ty:=bD) c rfl rfl rfl rfl rfl rfl rfl) ?_
 rintro ⟨q,s⟩
 refine Z1 ?_
 have ⟨t,e,f⟩:=bnd d
 refine Lk [] [] (kr e) fun ⟨u,v⟩=> ?_
 refine Z0 ?_
 have ⟨_,g,i⟩:=bnd f
 refine La [0] [0] (Ac.ap (ty:=bD) g rfl rfl rfl rfl rfl rfl rfl) ?_
 rintro ⟨x,y⟩
 refine L.frz 0 rfl ?_
 have ⟨z,j,k⟩:=bnd i
 refine Lk [] [0] (iD j) fun ⟨m,n⟩=> ?_
 refine Lt 0 ?_
 refine Z0 ?_
 cases k
 exact Eo (m,n) [] [0] (.cell 0 rfl rfl rfl .nil)
end Go.Tw.X
set_option maxHeartbeats 2000000
set_option linter.unusedVariables false
set_option linter.unusedSimpArgs false
set_option maxRecDepth 10000
namespace Go.Tw.X
open Go Go.Tw
variable {A0 A1 A2 A3 A4 A5 A6 A7 A8 : Option Addr} {C0 C1 C2 C3 C4 C5 C6 C7 C8 : Nat}
variable {N0 N1 N2 N3 N4 : Nat}
theorem vu {g:cH} {w:Int} {h_:Int} {off:Int} {r:cH×(List aR)} (H:kF g w h_ off=some r):CT G 75 [.agg #[.int .i64 g.w,.slice A0 g.l.length C0],.int .i64 w,.int .i64 h_,.int .i64 off] [] [Im.sl aL A0 C0 g.l] (fun h:(Option Addr×Nat)×(Option Addr×Nat)=> .tuple #[.agg #[.int .i64 r.1.w,.slice h.1.1 r.1.l.length h.1.2],.slice h.2.1 r.2.length h.2.2]) (fun h=>[]) (fun h=>[Im.sl aL h.1.1 h.1.2 r.1.l,Im.sl aL h.2.1 h.2.2 r.2]):=by
 delta kF at H
 refine Cf Go.Proofs.Tryz.func75 fun K=> ?_
 refine Z1 ?_
 refine Lx fun g1=> ?_
 refine Ll fun g2=> ?_
 refine Z2 ?_
 have ⟨r3,h4,H5⟩:=bnd H
 refine Lk [] [] (nE h4) fun ⟨⟩=> ?_
 refine Z0 ?_
 refine Ll fun g6=> ?_
 refine Lt 0 ?_
 refine Z2 ?_
 have ⟨d,p,q⟩:=bnd H5
 refine Tjh (η:=(Option Addr×Nat)) (fun _=>[]) [3,4,8,10] (fun h=>(fun e f=>[Ch.arr aL 156 e f d.l,Ch.box g6 50 [.int .i64 d.w,.slice e d.l.length f]]) h.1 h.2) [1,2] (fun _=>[]) ?_ ?_
 ·refine Yl0 ?_
  refine T.fR aL 156 ?_
  refine Tq (η:=(Option Addr×Nat)) (fun a h=>(fun b c=>[(11,.int .i64 a.2)]) h.1 h.2) [2,3,4,8,10] (fun a h=>(fun b c=>[Ch.arr aL 156 b c a.1.l,Ch.box g6 50 [.int .i64 a.1.w,.slice b a.1.l.length c]]) h.1 h.2) [2,3] (fun _ _=>[]) (none,0) [0,0,0,0] [] p ?_
  rintro k_ a ⟨b,c⟩ af s t u
  refine Z2 ?_
  have ⟨ag,v,x⟩:=bnd s
  refine Lk [] [] (nE v) fun ⟨⟩=> ?_
  refine Z0 ?_
  refine Tb x (fun k=> ?_) fun k=> ?_
  ·refine Y1 ?_
   have ⟨m,y,z⟩:=bnd k
   refine Tjh (η:=(Option Addr×Nat)) (fun _=>[]) [2,3,4,8,10,11] (fun h=>(fun i j=>[Ch.arr aL 156 i j m.l,Ch.box g6 50 [.int .i64 m.w,.slice i m.l.length j]]) h.1 h.2) [2,3] (fun _=>[]) ?_ ?_
   ·refine Zl ?_
    refine Z1 ?_
    refine Tb y (fun n=> ?_) fun n=> ?_
    ·refine Td [15] [1,1,1] mo ?_
     refine Dq 0 ?_
     refine Db 1 0 ?_
     refine Dq 2 ?_
     refine Db 3 2 ?_
     refine Dq 4 ?_
     refine Dq 5 ?_
     refine Dq 6 ?_
     have ⟨ah,o,A⟩:=bnd n
     refine D.addr 0 rfl (bX o) fun ai aj B=> ?_
     subst B
     refine Dy 7 (Yl.ia o rfl rfl rfl rfl rfl rfl) ?_
     refine D.el 0 rfl (aV o).2 ?_
     rintro ⟨ak,al⟩
     refine Dy 8 (Yl.ldc 0 0 rfl rfl rfl rfl) ?_
     refine Dq 9 ?_
     refine Db 10 0 ?_
     have ⟨C,F,I⟩:=bnd A
     refine Dk [] [1] (qj F) fun ⟨J,M⟩=> ?_
     refine Da [] [0] rfl rfl (Ac.bs (ty:=aL) (xs:=[C]) (.cons (J,M) [0] rfl .nil) rfl rfl rfl rfl rfl rfl rfl) fun am=> ?_
     refine D.frz 0 rfl ?_
     have ⟨_,N,O⟩:=bnd I
     refine Da [0] [0] rfl rfl (Ac.ap (ty:=aL) N rfl rfl rfl rfl rfl rfl rfl) ?_
     rintro ⟨P,Q⟩
     refine Dq 14 ?_
     refine Dt 0 ?_
     refine Dn ?_
     refine Z0 ?_
     cases O
     exact Eg (P,Q) trivial [3,0,0,0] [] 4
    refine Td [8] [1,1,1] mo ?_
    refine Dq 0 ?_
    refine Db 1 0 ?_
    refine Dq 2 ?_
    refine Db 3 0 ?_
    have ⟨R,S,U⟩:=bnd n
    refine Dk [] [] (kr S) fun ⟨V,W⟩=> ?_
    refine Da [] [0] rfl rfl (Ac.bs (ty:=aL) (xs:=[R]) (.cons (V,W) [0] rfl .nil) rfl rfl rfl rfl rfl rfl rfl) fun an=> ?_
    refine D.frz 0 rfl ?_
    have ⟨_,X,Y⟩:=bnd U
    refine Da [0] [0] rfl rfl (Ac.ap (ty:=aL) X rfl rfl rfl rfl rfl rfl rfl) ?_
    rintro ⟨Z,aa⟩
    refine Dq 7 ?_
    refine Dt 0 ?_
    refine Dn ?_
    refine Z0 ?_
    cases Y
    exact Eg (Z,aa) trivial [3,0,0,0] [] 2
   rintro ⟨i,j⟩
   refine Z0 ?_
   cases z
   exact Eg (_,(i,j)) (t _ rfl) [0,0,0,0] [] 0
  refine Z0 ?_
  cases k
  have hb:=u _ rfl
  subst d
  exact Eg (b,c) trivial [0,0,0,0] [] 0
 rintro ⟨e,f⟩
 refine Y1 ?_
 refine Td [] [0,0,1] mo ?_
 refine Db 0 1 ?_
 refine Dq 1 ?_
 refine Db 2 2 ?_
 refine Dq 3 ?_
 have ⟨_,ab,ac⟩:=bnd q
 refine D.rsl 0 4 ab rfl rfl rfl rfl rfl rfl rfl rfl rfl rfl rfl rfl rfl rfl ?_
 intro ad ae
 refine Da [0] [] rfl rfl (Ac.stb rfl rfl rfl rfl rfl rfl) fun _=> ?_
 refine Dq 6 ?_
 refine Dn ?_
 refine Z0 ?_
 refine E.frz 0 rfl ?_
 cases ac
 exact Eo ((e,f),(ad,ae)) [] [0,1] (.cell 2 rfl rfl rfl (.tmp rfl .nil))
theorem dE {s_:aK} {x_:Int} {y:Int} {r:aK} (H:cI s_ x_ y=some r):CT G 76 [.agg (lJ s_ A0 C0).toArray,.int .i64 x_,.int .i64 y] [] [Im.sl aL A0 C0 s_.g.l] (fun _:Unit=> .agg (lJ r A0 C0).toArray) (fun h=>[]) (fun h=>[Im.sl aL A0 C0 r.g.l]):=by
 delta cI at H
 refine Cf Go.Proofs.Tryz.func76 fun K=> ?_
 refine Z1 ?_
 refine Lx fun g1=> ?_
 refine Ll fun g2=> ?_
 refine Z1 ?_
 refine Lt 1 ?_
 refine Z1 ?_
 refine Lt 0 ?_
 refine Z1 ?_
 refine Lt 0 ?_
 refine Z1 ?_
 refine Lt 1 ?_
 refine Z0 ?_
 cases H
 exact Eo () [] [0] (.cell 0 rfl rfl rfl .nil)
theorem vw {s_:aK} {w:Int} {h_:Int} {r:aK×(List aR)} (H:kI s_ w h_=some r):CT G 37 [.agg (lJ s_ A0 C0).toArray,.int .i64 w,.int .i64 h_] [] [Im.sl aL A0 C0 s_.g.l] (fun h:(Option Addr×Nat)×(Option Addr×Nat)=> .tuple #[.agg (lJ r.1 h.1.1 h.1.2).toArray,.slice h.2.1 r.2.length h.2.2]) (fun h=>[]) (fun h=>[Im.sl aL h.1.1 h.1.2 r.1.g.l,Im.sl aL h.2.1 h.2.2 r.2]):=by
 delta kI at H
 refine Cf Go.Proofs.Tryz.func37 fun K=> ?_
 refine Z1 ?_
 refine Lx fun g1=> ?_
 refine Ll fun g2=> ?_
 refine Z2 ?_
 have ⟨r3,h4,H5⟩:=bnd H
 refine Lk [] [0] (vu h4) fun ⟨⟨a6,c7⟩,⟨a8,c9⟩⟩=> ?_
 refine Z0 ?_
 refine Ll fun c=> ?_
 refine Lt 0 ?_
 refine Z1 ?_
 refine Lt 2 ?_
 refine Z1 ?_
 refine Lt 0 ?_
 refine Z1 ?_
 refine Lt 0 ?_
 refine Z1 ?_
 have ⟨d,a,b⟩:=bnd H5
 refine Lk [] [0] (dE a) fun ⟨⟩=> ?_
 refine Z0 ?_
 refine Lt 2 ?_
 refine Z0 ?_
 cases b
 exact Eo ((a6,c7),(a8,c9)) [] [0,2] (.cell 0 rfl rfl rfl (.tmp rfl .nil))
theorem qk {r_:aR} {r:(List bW)} (H:jP r_=some r):CT G 117 [.agg #[.slice A0 r_.l.length C0,.bool r_.wrapped]] [] [Im.sl bD A0 C0 r_.l] (fun h:(Option Addr×Nat)=> .slice h.1 r.length h.2) (fun h=>[Ch.arr aU 174 h.1 h.2 r]) (fun h=>[]):=by
 delta jP at H
 refine Cf Go.Proofs.Tryz.func117 fun K=> ?_
 refine Z1 ?_
 refine Lx fun g1=> ?_
 refine Y2 ?_
 have ⟨t,x,y⟩:=bnd H
 refine Tj0 [(3,.int .i64 t)] [1] [] [0] ?_ ?_
 ·refine Yl0 ?_
  refine Tq (η:=Unit) (fun u h=>[(3,.int .i64 u)]) [1] (fun _ _=>[]) [0] (fun _ _=>[]) () [0] [] x ?_
  rintro k_ u ⟨⟩ ah z A B
  refine Y2 ?_
  have ⟨C,F,I⟩:=bnd z
  refine Tj0 [(26,.bool C)] [1,3] [] [0] ?_ ?_
  ·refine Z0 ?_
   refine Lw 12 F (fun i=> ?_) fun i=> ?_
   ·refine Z0 ?_
    refine Lw 17 i (fun j=> ?_) fun j=> ?_
    ·refine Z0 ?_
     have ⟨ai,k,J⟩:=bnd j
     refine L.addr 0 rfl (bX k) fun aj ak M=> ?_
     subst M
     refine Ly (Yl.ia k rfl rfl rfl rfl rfl rfl) ?_
     refine L.el 0 rfl (aV k).2 ?_
     rintro _
     refine Lc 0 0 ?_
     refine Z0 ?_
     cases J
     exact Eg0 [0] 1
    refine Z0 ?_
    cases j
    exact Eg0 [0] 0
   refine Z0 ?_
   cases i
   exact Eg0 [0] 0
  refine Tb I (fun m=> ?_) fun m=> ?_
  ·refine Zl ?_
   cases m
   exact Eg (_,()) (A _ rfl) [0] [] 0
  refine Z0 ?_
  cases m
  have hb:=B _ rfl
  subst t
  exact Eg0 [0] 0
 refine Z1 ?_
 refine La [] [] (Ac.bs (ty:=aU) (xs:=[]) .nil rfl rfl rfl rfl rfl rfl rfl) fun N=> ?_
 refine Z2 ?_
 have ⟨_,O,P⟩:=bnd y
 refine L.rs 0 O rfl rfl rfl rfl rfl rfl rfl rfl rfl rfl rfl rfl ?_
 intro al am
 refine Z0 ?_
 have ⟨n,Q,R⟩:=bnd P
 refine Tjh (η:=(Option Addr×Nat)) (fun h=>(fun c d=>[(4,.slice c n.length d)]) h.1 h.2) [] (fun h=>(fun c d=>[Ch.arr aU 174 c d n]) h.1 h.2) [1] (fun _=>[]) ?_ ?_
 ·refine Yl0 ?_
  refine Tq (η:=(Option Addr×Nat)) (fun e h=>(fun a b=>[(4,.slice a e.2.length b),(35,.int .i64 e.1)]) h.1 h.2) [33,34] (fun e h=>(fun a b=>[Ch.arr aU 174 a b e.2]) h.1 h.2) [1] (fun _ _=>[]) ((some ⟨N,0,none⟩),0) [0,0] [] Q ?_
  rintro k_ e ⟨a,b⟩ an S U V
  refine Y2 ?_
  refine Tb S (fun o=> ?_) fun o=> ?_
  ·refine Y1 ?_
   have ⟨v,W,X⟩:=bnd o
   refine Tjh (η:=(Option Addr×Nat)) (fun h=>(fun f g=>[(4,.slice f v.length g)]) h.1 h.2) [33,34,35] (fun h=>(fun f g=>[Ch.arr aU 174 f g v]) h.1 h.2) [1] (fun _=>[]) ?_ ?_
   ·refine Zl ?_
    refine Z1 ?_
    have ⟨w,p,Y⟩:=bnd W
    refine L.addr 0 rfl (bX p) fun ao aq Z=> ?_
    subst Z
    refine Ly (Yl.ia p rfl rfl rfl rfl rfl rfl) ?_
    refine L.el 0 rfl (aV p).2 ?_
    rintro _
    refine Lc 0 0 ?_
    refine Ll fun ar=> ?_
    refine Lt 0 ?_
    refine Y1 ?_
    have ⟨aa,ab,ac⟩:=bnd Y
    refine Tj0 [(46,.bool aa)] [4,6,33,34,35] [] [0,2,1] ?_ ?_
    ·refine Z0 ?_
     refine Lw 42 ab (fun q=> ?_) fun q=> ?_
     ·refine Z0 ?_
      cases q
      exact Eg0 [0,1,0] 0
     refine Z0 ?_
     cases q
     exact Eg0 [0,1,0] 0
    refine Tb ac (fun s=> ?_) fun s=> ?_
    ·refine Z0 ?_
     refine La [] [] (Ac.bs (ty:=aU) (xs:=[(bW.mk w.rune w.aM)]) (.cons () [] rfl .nil) rfl rfl rfl rfl rfl rfl rfl) fun au=> ?_
     refine L.frz 0 rfl ?_
     have ⟨_,ad,ae⟩:=bnd s
     refine La [2] [0] (Ac.ap (ty:=aU) ad rfl rfl rfl rfl rfl rfl rfl) ?_
     rintro ⟨af,ag⟩
     refine Z0 ?_
     cases ae
     exact Eg (af,ag) trivial [0,1] [] 2
    refine Z0 ?_
    cases s
    exact Eg (a,b) trivial [2,1] [] 1
   rintro ⟨f,g⟩
   refine Z0 ?_
   cases X
   exact Eg (_,(f,g)) (U _ rfl) [0,0] [] 0
  refine Z0 ?_
  cases o
  have hb:=V _ rfl
  subst n
  exact Eg (a,b) trivial [0,0] [] 0
 rintro ⟨c,d⟩
 refine Z1 ?_
 cases R
 exact Eo1 (c,d) [0] []
theorem yV {b:iO} {r_:aR} {r:iO} (H:mX b r_=some r):CT G 77 [.agg #[.slice A0 b.l.length C0,.slice A1 b.begun.length C1],.agg #[.slice A2 r_.l.length C2,.bool r_.wrapped]] [] [Im.sl (Ty.slice aU) A0 C0 b.l,Im.sl aU A1 C1 b.begun,Im.sl bD A2 C2 r_.l] (fun h:(Option Addr×Nat)×(Option Addr×Nat)=> .agg #[.slice h.1.1 r.l.length h.1.2,.slice h.2.1 r.begun.length h.2.2]) (fun h=>[]) (fun h=>[Im.sl (Ty.slice aU) h.1.1 h.1.2 r.l,Im.sl aU h.2.1 h.2.2 r.begun]):=by
 delta mX at H
 refine Cf Go.Proofs.Tryz.func77 fun K=> ?_
 refine Z1 ?_
 refine Lx fun g1=> ?_
 refine Lx fun g2=> ?_
 refine Ll fun g3=> ?_
 refine Y1 ?_
 refine Td [] [0,0,0] mo ?_
 refine Dq 1 ?_
 refine Db 2 2 ?_
 refine Db 4 1 ?_
 refine Da [] [] rfl rfl (Ac.bs (ty:=aU) (xs:=[]) .nil rfl rfl rfl rfl rfl rfl rfl) fun ah=> ?_
 have ⟨_,q,s⟩:=bnd H
 refine Da [0] [1] rfl rfl (Ac.ap (ty:=aU) q rfl rfl rfl rfl rfl rfl rfl) ?_
 rintro ⟨ai,aj⟩
 have ⟨ak,t,u⟩:=bnd s
 refine Dk [] [2] (qk t) fun ⟨al,am⟩=> ?_
 refine D.frz 0 rfl ?_
 have ⟨_,v,x⟩:=bnd u
 refine Da [0] [0] rfl rfl (Ac.ap2 (ty:=aU) v rfl rfl rfl rfl rfl rfl rfl rfl rfl) ?_
 rintro ⟨y,z⟩
 refine Dq 7 ?_
 refine Dn ?_
 refine Z1 ?_
 refine La [] [] (Ac.bs (ty:=(Ty.slice aU)) (xs:=[]) .nil rfl rfl rfl rfl rfl rfl rfl) fun an=> ?_
 refine Z0 ?_
 have ⟨_,B,C⟩:=bnd x
 refine La [0] [1] (Ac.ap (ty:=(Ty.slice aU)) B rfl rfl rfl rfl rfl rfl rfl) ?_
 rintro ⟨F,I⟩
 refine Y1 ?_
 have ⟨e,J,M⟩:=bnd C
 refine Tjh (η:=(Option Addr×Nat)×(Option Addr×Nat)) (fun h=>(fun c d g i=>[(5,.slice c e.1.length d),(6,.slice g e.2.length i)]) h.1.1 h.1.2 h.2.1 h.2.2) [3,4] (fun h=>(fun c d g i=>[Ch.arr (Ty.slice aU) 57 g i e.2]) h.1.1 h.1.2 h.2.1 h.2.2) [1,2,3] (fun h=>(fun c d g i=>[Im.sl aU c d e.1]) h.1.1 h.1.2 h.2.1 h.2.2) ?_ ?_
 ·refine Yl0 ?_
  refine T.frz 4 rfl ?_
  refine Tq (η:=(Option Addr×Nat)×(Option Addr×Nat)) (fun a h=>(fun j k m n=>[(5,.slice j a.1.length k),(6,.slice m a.2.length n)]) h.1.1 h.1.2 h.2.1 h.2.2) [3,4] (fun a h=>(fun j k m n=>[Ch.arr (Ty.slice aU) 57 m n a.2]) h.1.1 h.1.2 h.2.1 h.2.2) [1,2,3] (fun a h=>(fun j k m n=>[Im.sl aU j k a.1]) h.1.1 h.1.2 h.2.1 h.2.2) ((y,z),(F,I)) [0,0,0,0] [0] J ?_
  rintro k_ a ⟨⟨j,k⟩,⟨m,n⟩⟩ ao N O P
  refine Z2 ?_
  refine Tb N (fun o=> ?_) fun o=> ?_
  ·refine Zl ?_
   refine Z1 ?_
   have ⟨_,Q,R⟩:=bnd o
   refine L.rs 0 Q rfl rfl rfl rfl rfl rfl rfl rfl rfl rfl rfl rfl ?_
   intro S U
   refine La [] [0] (Ac.bs (ty:=(Ty.slice aU)) (xs:=[(cut a.1 0 1024)]) (.cons (S,U) [0] rfl .nil) rfl rfl rfl rfl rfl rfl rfl) fun aq=> ?_
   refine L.frz 0 rfl ?_
   have ⟨_,V,W⟩:=bnd R
   refine La [0] [0] (Ac.ap (ty:=(Ty.slice aU)) V rfl rfl rfl rfl rfl rfl rfl) ?_
   rintro ⟨X,Y⟩
   refine Z0 ?_
   have ⟨_,Z,aa⟩:=bnd W
   refine L.rs 2 Z rfl rfl rfl rfl rfl rfl rfl rfl rfl rfl rfl rfl ?_
   intro ab ac
   refine Z0 ?_
   cases aa
   exact Eg (_,((ab,ac),(X,Y))) (O _ rfl) [0,0,0,0] [0] 4
  refine Z0 ?_
  cases o
  have hb:=P _ rfl
  subst e
  exact Eg ((j,k),(m,n)) trivial [0,0,0,0] [0] 2
 rintro ⟨⟨c,d⟩,⟨g,i⟩⟩
 refine Z2 ?_
 refine Tb M (fun p=> ?_) fun p=> ?_
 ·refine Z1 ?_
  refine La [] [0] (Ac.bs (ty:=(Ty.slice aU)) (xs:=[e.1]) (.cons (c,d) [0] rfl .nil) rfl rfl rfl rfl rfl rfl rfl) fun ar=> ?_
  refine L.frz 0 rfl ?_
  have ⟨_,ad,ae⟩:=bnd p
  refine La [0] [0] (Ac.ap (ty:=(Ty.slice aU)) ad rfl rfl rfl rfl rfl rfl rfl) ?_
  rintro ⟨af,ag⟩
  refine Z0 ?_
  refine Lt 1 ?_
  refine Z0 ?_
  refine E.frz 1 rfl ?_
  refine E.lT [Im.sl aU none 0 []] (fun A w _ _ f hf=>by rw [List.mem_singleton.1 hf]; exact Im.lU A w) ?_
  cases ae
  exact Eo ((af,ag),(none,0)) [] [1,0] (.cell 0 rfl rfl rfl .nil)
 refine Z1 ?_
 refine Lt 1 ?_
 refine Z0 ?_
 refine E.frz 1 rfl ?_
 cases p
 exact Eo ((g,i),(c,d)) [] [0,1] (.cell 0 rfl rfl rfl .nil)
theorem tX {m_:bC} {l:List aR} {r:bC} (H:kJ m_ l=some r):CT G 38 [.agg (p9 m_ A0 C0 A1 C1 A2 C2).toArray,.slice A3 l.length C3] [] [Im.sl aL A0 C0 m_.s.g.l,Im.sl (Ty.slice aU) A1 C1 m_.b.l,Im.sl aU A2 C2 m_.b.begun,Im.sl aL A3 C3 l] (fun h:(Option Addr×Nat)×(Option Addr×Nat)=> .agg (p9 r A0 C0 h.1.1 h.1.2 h.2.1 h.2.2).toArray) (fun h=>[]) (fun h=>[Im.sl aL A0 C0 r.s.g.l,Im.sl (Ty.slice aU) h.1.1 h.1.2 r.b.l,Im.sl aU h.2.1 h.2.2 r.b.begun]):=by
 delta kJ at H
 refine Cf Go.Proofs.Tryz.func38 fun K=> ?_
 refine Z1 ?_
 refine Lx fun g1=> ?_
 refine Ll fun g2=> ?_
 refine Z2 ?_
 have ⟨i,q,t⟩:=bnd H
 refine Tjh (η:=(Option Addr×Nat)×(Option Addr×Nat)) (fun _=>[]) [2,4] (fun h=>(fun j k m n=>[Ch.box g1 61 (p9 i A0 C0 j k m n)]) h.1.1 h.1.2 h.2.1 h.2.2) [0] (fun h=>(fun j k m n=>[Im.sl aL A0 C0 i.s.g.l,Im.sl (Ty.slice aU) j k i.b.l,Im.sl aU m n i.b.begun]) h.1.1 h.1.2 h.2.1 h.2.2) ?_ ?_
 ·refine Yl0 ?_
  refine Tq (η:=(Option Addr×Nat)×(Option Addr×Nat)) (fun a h=>(fun c d e f=>[(9,.int .i64 a.2)]) h.1.1 h.1.2 h.2.1 h.2.2) [2,4,7,8] (fun a h=>(fun c d e f=>[Ch.box g1 61 (p9 a.1 A0 C0 c d e f)]) h.1.1 h.1.2 h.2.1 h.2.2) [0] (fun a h=>(fun c d e f=>[Im.sl aL A0 C0 a.1.s.g.l,Im.sl (Ty.slice aU) c d a.1.b.l,Im.sl aU e f a.1.b.begun]) h.1.1 h.1.2 h.2.1 h.2.2) ((A1,C1),(A2,C2)) [1,0] [0,1,2] q ?_
  rintro k_ a ⟨⟨c,d⟩,⟨e,f⟩⟩ J u v w
  refine Y2 ?_
  refine Tb u (fun o=> ?_) fun o=> ?_
  ·refine Z1 ?_
   refine Zl ?_
   refine Z1 ?_
   have ⟨M,p,x⟩:=bnd o
   refine L.addr 6 rfl (bX p) fun N O y=> ?_
   subst y
   refine Ly (Yl.ia p rfl rfl rfl rfl rfl rfl) ?_
   refine L.el 6 rfl (aV p).2 ?_
   rintro ⟨P,Q⟩
   refine Lc 0 0 ?_
   refine Ll fun R=> ?_
   refine Lt 0 ?_
   refine Z0 ?_
   have ⟨S,z,A⟩:=bnd x
   refine Lk [] [3,4,1] (yV z) fun ⟨⟨B,C⟩,⟨F,I⟩⟩=> ?_
   refine Z0 ?_
   refine Lt 1 ?_
   refine Z0 ?_
   cases A
   exact Eg (_,((B,C),(F,I))) (v _ rfl) [0,1] [4,0,1] 7
  refine Z0 ?_
  cases o
  have hb:=w _ rfl
  subst i
  exact Eg ((c,d),(e,f)) trivial [0,0] [0,1,2] 3
 rintro ⟨⟨j,k⟩,⟨m,n⟩⟩
 refine Z1 ?_
 refine Lt 1 ?_
 refine Z0 ?_
 cases t
 exact Eo ((j,k),(m,n)) [] [0,1,2] (.cell 0 rfl rfl rfl .nil)
theorem xz {b:Int} {r:Int×Int×Int} (H:l4 b=some r):CT G 118 [.int .i64 b] [] [] (fun _:Unit=> .tuple #[.int .i64 r.1,.int .i64 r.2.1,.int .i64 r.2.2]) (fun h=>[]) (fun h=>[]):=by
 delta l4 at H
 refine Cf Go.Proofs.Tryz.func118 fun K=> ?_
 refine Y3 ?_
 have ⟨e4,H5,H6⟩:=bnd H
 refine Tj0 [(10,.bool e4)] [0] [] [] ?_ ?_
 ·refine Z0 ?_
  refine Lw 7 H5 (fun H7=> ?_) fun H7=> ?_
  ·refine Z0 ?_
   cases H7
   exact Eg0 [] 0
  refine Z0 ?_
  cases H7
  exact Eg0 [] 0
 refine Tb H6 (fun H9=> ?_) fun H9=> ?_
 ·refine Z1 ?_
  cases H9
  exact Eo () [] [] (.tmp rfl (.tmp rfl (.tmp rfl .nil)))
 refine Z2 ?_
 refine Tb H9 (fun a=> ?_) fun a=> ?_
 ·refine Z1 ?_
  cases a
  exact Eo () [] [] (.tmp rfl (.tmp rfl (.tmp rfl .nil)))
 refine Z2 ?_
 refine Tb a (fun c=> ?_) fun c=> ?_
 ·refine Z1 ?_
  cases c
  exact Eo () [] [] (.tmp rfl (.tmp rfl (.tmp rfl .nil)))
 refine Y2 ?_
 have ⟨k,l,m⟩:=bnd c
 refine Tj0 [(20,.bool k)] [0] [] [] ?_ ?_
 ·refine Z0 ?_
  refine Lw 17 l (fun d=> ?_) fun d=> ?_
  ·refine Z0 ?_
   cases d
   exact Eg0 [] 0
  refine Z0 ?_
  cases d
  exact Eg0 [] 0
 refine Tb m (fun e=> ?_) fun e=> ?_
 ·refine Z1 ?_
  cases e
  exact Eo () [] [] (.tmp rfl (.tmp rfl (.tmp rfl .nil)))
 refine Z2 ?_
 refine Tb e (fun f=> ?_) fun f=> ?_
 ·refine Z1 ?_
  cases f
  exact Eo () [] [] (.tmp rfl (.tmp rfl (.tmp rfl .nil)))
 refine Z2 ?_
 refine Tb f (fun g=> ?_) fun g=> ?_
 ·refine Z1 ?_
  cases g
  exact Eo () [] [] (.tmp rfl (.tmp rfl (.tmp rfl .nil)))
 refine Y2 ?_
 have ⟨n,o,p⟩:=bnd g
 refine Tj0 [(30,.bool n)] [] [] [] ?_ ?_
 ·refine Z0 ?_
  refine Lw 27 o (fun i=> ?_) fun i=> ?_
  ·refine Z0 ?_
   cases i
   exact Eg0 [] 0
  refine Z0 ?_
  cases i
  exact Eg0 [] 0
 refine Tb p (fun j=> ?_) fun j=> ?_
 ·refine Z1 ?_
  cases j
  exact Eo () [] [] (.tmp rfl (.tmp rfl (.tmp rfl .nil)))
 refine Z1 ?_
 cases j
 exact Eo () [] [] (.tmp rfl (.tmp rfl (.tmp rfl .nil)))
theorem vS {s_:ByteArray} {r:(List Int)×Int} (H:lh s_=some r):CT G 78 [.string s_] [] [] (fun h:(Option Addr×Nat)=> .tuple #[.slice h.1 r.1.length h.2,.int .i64 r.2]) (fun h=>[Ch.arr (Ty.int .i64) 3 h.1 h.2 r.1]) (fun h=>[]):=by
 delta lh at H
 refine Cf Go.Proofs.Tryz.func78 fun K=> ?_
 refine Z2 ?_
 refine La [] [] (Ac.bs (ty:=(Ty.int .i64)) (xs:=[]) .nil rfl rfl rfl rfl rfl rfl rfl) fun g1=> ?_
 refine Y2 ?_
 have ⟨n,N,A⟩:=bnd H
 refine Tj (η:=(List Int)×((Option Addr×Nat))) (fun h=>n = .inl h.1) (fun h=>(fun l=>(fun d e=>[(4,.slice d l.length e)]) h.2.1 h.2.2) h.1) [] (fun h=>(fun l=>(fun d e=>[Ch.arr (Ty.int .i64) 3 d e l]) h.2.1 h.2.2) h.1) [] (fun _=>[]) ?_ ?_
 ·refine Yl0 ?_
  refine Tq (η:=(Option Addr×Nat)) (fun f h=>(fun a c=>[(4,.slice a f.1.length c),(5,.int .i64 f.2)]) h.1 h.2) [0] (fun f h=>(fun a c=>[Ch.arr (Ty.int .i64) 3 a c f.1]) h.1 h.2) [] (fun _ _=>[]) ((some ⟨g1,0,none⟩),0) [0] [] N ?_
  rintro k_ f ⟨a,c⟩ O P o B
  refine Z2 ?_
  refine Tb P (fun p=> ?_) fun p=> ?_
  ·refine Zl ?_
   refine Z1 ?_
   have ⟨Q,R,S⟩:=bnd p
   refine Ly (Yl.si R rfl rfl rfl rfl rfl) ?_
   refine Z2 ?_
   refine Tb S (fun q=> ?_) fun q=> ?_
   ·refine Z1 ?_
    refine La [] [] (Ac.bs (ty:=(Ty.int .i64)) (xs:=[(IntKind.i64.wrap Q)]) (.cons () [] rfl .nil) rfl rfl rfl rfl rfl rfl rfl) fun a8=> ?_
    refine L.frz 0 rfl ?_
    have ⟨_,U,V⟩:=bnd q
    refine La [0] [0] (Ac.ap (ty:=(Ty.int .i64)) U rfl rfl rfl rfl rfl rfl rfl) ?_
    rintro ⟨W,X⟩
    refine Z1 ?_
    cases V
    exact Eg (_,(W,X)) (o _ rfl) [0] [] 1
   refine Z1 ?_
   have ⟨Y,Z,aa⟩:=bnd q
   refine Lk [] [] (xz Z) fun ⟨⟩=> ?_
   refine Z2 ?_
   refine Tb aa (fun s=> ?_) fun s=> ?_
   ·refine Z1 ?_
    refine La [] [] (Ac.bs (ty:=(Ty.int .i64)) (xs:=[65533]) (.cons () [] rfl .nil) rfl rfl rfl rfl rfl rfl rfl) fun a9=> ?_
    refine L.frz 0 rfl ?_
    have ⟨_,ab,ac⟩:=bnd s
    refine La [0] [0] (Ac.ap (ty:=(Ty.int .i64)) ab rfl rfl rfl rfl rfl rfl rfl) ?_
    rintro ⟨ad,ae⟩
    refine Z1 ?_
    cases ac
    exact Eg (_,(ad,ae)) (o _ rfl) [0] [] 1
   refine Z1 ?_
   refine La [] [] (Ac.bs (ty:=(Ty.int .i64)) (xs:=[0,32,16,8]) (.cons () [] rfl (.cons () [] rfl (.cons () [] rfl (.cons () [] rfl .nil)))) rfl rfl rfl rfl rfl rfl rfl) fun ba=> ?_
   refine Z0 ?_
   have ⟨C,F,af⟩:=bnd s
   refine Ly (Yl.ia F rfl rfl rfl rfl rfl rfl) ?_
   refine Ly (Yl.lo (v:= .int .i64 C) 0 Y.1.toNat 0 (aV F).2 rfl rfl rfl rfl (fun _=>rfl)) ?_
   have ⟨_,ag,ah⟩:=bnd af
   refine Ly (Yl.rem (b:=C) ag rfl rfl rfl) ?_
   refine Y2 ?_
   have ⟨g,ai,aj⟩:=bnd ah
   refine Tj0 [(10,.int .i64 g.1),(11,.int .i64 g.2)] [0,4,5,7] [] [1] ?_ ?_
   ·refine Yl0 ?_
    refine Tq (η:=Unit) (fun i h=>[(8,.int .i64 i.2.2.1),(9,.int .i64 i.2.2.2),(10,.int .i64 i.1),(11,.int .i64 i.2.1)]) [0,4,5,7] (fun _ _=>[]) [1] (fun _ _=>[]) () [1] [] ai ?_
    rintro k_ i ⟨⟩ bb ak al I
    refine Y2 ?_
    have ⟨am,an,ao⟩:=bnd ak
    refine Tj0 [(59,.bool am)] [0,4,5,7,8,9,10,11] [] [0] ?_ ?_
    ·refine Z0 ?_
     refine Lw 52 an (fun t=> ?_) fun t=> ?_
     ·refine Z0 ?_
      cases t
      exact Eg0 [0] 0
     refine Z0 ?_
     cases t
     exact Eg0 [0] 0
    refine Tb ao (fun u=> ?_) fun u=> ?_
    ·refine Zl ?_
     refine Z1 ?_
     have ⟨bc,aq,ar⟩:=bnd u
     refine Ly (Yl.si aq rfl rfl rfl rfl rfl) ?_
     refine Y2 ?_
     have ⟨au,av,aw⟩:=bnd ar
     refine Tj0 [(73,.bool au)] [0,4,5,7,10,11,12] [] [0] ?_ ?_
     ·refine Z0 ?_
      refine Lw 69 av (fun w=> ?_) fun w=> ?_
      ·refine Z0 ?_
       cases w
       exact Eg0 [0] 0
      refine Z0 ?_
      cases w
      exact Eg0 [0] 0
     refine Tb aw (fun x=> ?_) fun x=> ?_
     ·refine Tx (Ex (E.dN rfl (Ex (Eh ?_))))
      cases x
      have hb:=I _ rfl
      subst g
      exact Eg0 [0] 0
     refine Z3 ?_
     cases x
     exact Eg (_,()) (al _ rfl) [0] [] 0
    refine Z0 ?_
    cases u
    have hb:=I _ rfl
    subst g
    exact Eg0 [0] 0
   refine Z2 ?_
   have ⟨J,ax,M⟩:=bnd aj
   refine Tj (η:=(List Int)×((Option Addr×Nat))) (fun h=>J = .inl h.1) (fun h=>(fun m=>(fun j k=>[(4,.slice j m.length k)]) h.2.1 h.2.2) h.1) [0,5,11] (fun h=>(fun m=>(fun j k=>[Ch.arr (Ty.int .i64) 3 j k m]) h.2.1 h.2.2) h.1) [] (fun _=>[]) ?_ ?_
   ·refine Tb ax (fun y=> ?_) fun y=> ?_
    ·refine Z0 ?_
     refine La [] [] (Ac.bs (ty:=(Ty.int .i64)) (xs:=[g.1]) (.cons () [] rfl .nil) rfl rfl rfl rfl rfl rfl rfl) fun bd=> ?_
     refine L.frz 0 rfl ?_
     have ⟨_,ay,az⟩:=bnd y
     refine La [0] [0] (Ac.ap (ty:=(Ty.int .i64)) ay rfl rfl rfl rfl rfl rfl rfl) ?_
     rintro ⟨a0,a1⟩
     refine Z0 ?_
     cases az
     exact Eg (_,(a0,a1)) rfl [0] [] 1
    refine Z1 ?_
    refine Tb y (fun z=> ?_) fun z=> ?_
    ·refine Z1 ?_
     obtain ⟨be,hz,a2⟩:=cD z
     subst J
     obtain rfl:=(sm M).symm
     refine Z0 ?_
     obtain ⟨bf,hz,a3⟩:=gI a2
     subst O
     have hb:=B _ rfl
     subst n
     obtain rfl:=(sm A).symm
     refine Z0 ?_
     cases a3
     exact Eo (a,c) [0] [] (.tmp rfl (.tmp rfl .nil))
    refine Z0 ?_
    refine La [] [] (Ac.bs (ty:=(Ty.int .i64)) (xs:=[65533]) (.cons () [] rfl .nil) rfl rfl rfl rfl rfl rfl rfl) fun bg=> ?_
    refine L.frz 0 rfl ?_
    have ⟨_,a4,a5⟩:=bnd z
    refine La [0] [0] (Ac.ap (ty:=(Ty.int .i64)) a4 rfl rfl rfl rfl rfl rfl rfl) ?_
    rintro ⟨a6,a7⟩
    refine Z0 ?_
    cases a5
    exact Eg (_,(a6,a7)) rfl [0] [] 1
   rintro ⟨m,⟨j,k⟩⟩ hy
   subst hy
   refine Z0 ?_
   cases M
   exact Eg (_,(j,k)) (o _ rfl) [0] [] 0
  refine Z0 ?_
  cases p
  have hb:=B _ rfl
  subst n
  exact Eg (_,(a,c)) rfl [0] [] 0
 rintro ⟨l,⟨d,e⟩⟩ hy
 subst hy
 refine Z1 ?_
 cases A
 exact Eo (d,e) [0] [] (.tmp rfl (.tmp rfl .nil))
theorem vx {l:List Int} {r:(List aO)} (H:kG l=some r):CT G 79 [.slice A0 l.length C0] [] [Im.sl (Ty.int .i64) A0 C0 l] (fun h:(Option Addr×Nat)=> .slice h.1 r.length h.2) (fun h=>[Ch.arr bQ 110 h.1 h.2 r]) (fun h=>[]):=by
 delta kG at H
 refine Cf Go.Proofs.Tryz.func79 fun K=> ?_
 refine Z2 ?_
 refine La [] [] (Ac.bs (ty:=bQ) (xs:=[]) .nil rfl rfl rfl rfl rfl rfl rfl) fun g1=> ?_
 refine Z2 ?_
 have ⟨g,k,m⟩:=bnd H
 refine Tjh (η:=(Option Addr×Nat)) (fun h=>(fun a b=>[(3,.slice a g.length b)]) h.1 h.2) [] (fun h=>(fun a b=>[Ch.arr bQ 110 a b g]) h.1 h.2) [] (fun _=>[]) ?_ ?_
 ·refine Yl0 ?_
  refine Tq (η:=(Option Addr×Nat)) (fun c h=>(fun d e=>[(3,.slice d c.1.length e),(9,.int .i64 c.2)]) h.1 h.2) [7,8] (fun c h=>(fun d e=>[Ch.arr bQ 110 d e c.1]) h.1 h.2) [] (fun _ _=>[]) ((some ⟨g1,0,none⟩),0) [0] [] k ?_
  rintro k_ c ⟨d,e⟩ z n o p
  refine Y2 ?_
  refine Tb n (fun i=> ?_) fun i=> ?_
  ·refine Z1 ?_
   refine Zl ?_
   refine Z1 ?_
   have ⟨q,j,s⟩:=bnd i
   refine L.addr 0 rfl (bX j) fun B C t=> ?_
   subst t
   refine Ly (Yl.ia j rfl rfl rfl rfl rfl rfl) ?_
   refine L.el 0 rfl (aV j).2 ?_
   rintro _
   refine Lc 0 0 ?_
   refine Z0 ?_
   refine L.lT [Im.sl (Ty.int .i64) none 0 []] (fun A w _ _ f hf=>by rw [List.mem_singleton.1 hf]; exact Im.lU A w) ?_
   refine La [] [0] (Ac.bs (ty:=bQ) (xs:=[(aO.mk 1 q 0 false ([]:List Int) (ByteArray.mk #[]))]) (.cons (none,0) [0] rfl .nil) rfl rfl rfl rfl rfl rfl rfl) fun F=> ?_
   refine L.frz 0 rfl ?_
   have ⟨_,u,v⟩:=bnd s
   refine La [0] [0] (Ac.ap (ty:=bQ) u rfl rfl rfl rfl rfl rfl rfl) ?_
   rintro ⟨x,y⟩
   refine Z0 ?_
   cases v
   exact Eg (_,(x,y)) (o _ rfl) [0] [] 3
  refine Z0 ?_
  cases i
  have hb:=p _ rfl
  subst g
  exact Eg (d,e) trivial [0] [] 0
 rintro ⟨a,b⟩
 refine Z1 ?_
 cases m
 exact Eo1 (a,b) [0] []
theorem ql {s_:ByteArray} {r:(List aO)} (H:jR s_=some r):CT G 80 [.string s_] [] [] (fun h:(Option Addr×Nat)=> .slice h.1 r.length h.2) (fun h=>[Ch.arr bQ 110 h.1 h.2 r]) (fun h=>[]):=by
 delta jR at H
 refine Cf Go.Proofs.Tryz.func80 fun K=> ?_
 refine Z3 ?_
 have ⟨e8,H9,g⟩:=bnd H
 refine Tj0 [(0,.string e8)] [] [] [] ?_ ?_
 ·refine Tb H9 (fun a=> ?_) fun a=> ?_
  ·refine Z0 ?_
   have ⟨_,i,j⟩:=bnd a
   refine Ly (Yl.sc i rfl rfl rfl rfl rfl rfl) ?_
   refine Z0 ?_
   cases j
   exact Eg0 [] 0
  refine Z0 ?_
  cases a
  exact Eg0 [] 0
 refine Y2 ?_
 have ⟨k,l,m⟩:=bnd g
 refine Tj0 [(25,.bool k)] [0] [] [] ?_ ?_
 ·refine Z0 ?_
  refine Lw 11 l (fun b=> ?_) fun b=> ?_
  ·refine Z0 ?_
   have ⟨B,n,o⟩:=bnd b
   refine Ly (Yl.si n rfl rfl rfl rfl rfl) ?_
   refine Z0 ?_
   refine Lw 15 o (fun c=> ?_) fun c=> ?_
   ·refine Z0 ?_
    have ⟨C,p,q⟩:=bnd c
    refine Ly (Yl.si p rfl rfl rfl rfl rfl) ?_
    refine Z0 ?_
    cases q
    exact Eg0 [] 0
   refine Z0 ?_
   have ⟨F,s,t⟩:=bnd c
   refine Ly (Yl.si s rfl rfl rfl rfl rfl) ?_
   refine Z0 ?_
   refine Lw 21 t (fun d=> ?_) fun d=> ?_
   ·refine Z0 ?_
    have ⟨I,u,v⟩:=bnd d
    refine Ly (Yl.si u rfl rfl rfl rfl rfl) ?_
    refine Z0 ?_
    cases v
    exact Eg0 [] 0
   refine Z0 ?_
   cases d
   exact Eg0 [] 0
  refine Z0 ?_
  cases b
  exact Eg0 [] 0
 refine Tb m (fun e=> ?_) fun e=> ?_
 ·refine Z1 ?_
  have ⟨_,x,y⟩:=bnd e
  refine Ly (Yl.sc x rfl rfl rfl rfl rfl rfl) ?_
  refine Z0 ?_
  refine L.lT [Im.sl (Ty.int .i64) none 0 []] (fun A w _ _ f hf=>by rw [List.mem_singleton.1 hf]; exact Im.lU A w) ?_
  refine La [] [0] (Ac.bs (ty:=bQ) (xs:=[(aO.mk 5 0 0 false ([]:List Int) (mB e8 2 (e8.size:Int)))]) (.cons (none,0) [0] rfl .nil) rfl rfl rfl rfl rfl rfl rfl) fun z=> ?_
  refine Z0 ?_
  cases y
  exact Eo1 ((some ⟨z,0,none⟩),1) [0] []
 refine Z1 ?_
 refine E.fR bQ 110 ?_
 cases e
 exact Eo1 (none,0) [0] []
theorem vT {s_:ByteArray} {last:Int} {r:(List aO)} (H:lj s_ last=some r):CT G 81 [.string s_,.int .i64 last] [] [] (fun h:(Option Addr×Nat)=> .slice h.1 r.length h.2) (fun h=>[Ch.arr bQ 110 h.1 h.2 r]) (fun h=>[]):=by
 delta lj at H
 refine Cf Go.Proofs.Tryz.func81 fun K=> ?_
 refine Z2 ?_
 refine Ll fun g1=> ?_
 refine Lt 0 ?_
 refine Y2 ?_
 have ⟨N,O,P⟩:=bnd H
 refine Tj0 [(16,.bool N)] [0,5] [] [0] ?_ ?_
 ·refine Z0 ?_
  refine Lw 12 O (fun p=> ?_) fun p=> ?_
  ·refine Z0 ?_
   have ⟨a5,Q,R⟩:=bnd p
   refine Ly (Yl.si Q rfl rfl rfl rfl rfl) ?_
   refine Z0 ?_
   cases R
   exact Eg0 [0] 0
  refine Z0 ?_
  cases p
  exact Eg0 [0] 0
 have ⟨j,S,U⟩:=bnd P
 refine Tjh (η:=(Option Addr×Nat)) (fun h=>(fun d e=>[(0,.string j.1)]) h.1 h.2) [5] (fun h=>(fun d e=>[Ch.arr (Ty.int .i64) 3 d e j.2.bA,Ch.box g1 110 (wD j.2 d e)]) h.1 h.2) [] (fun _=>[]) ?_ ?_
 ·refine Tb S (fun q=> ?_) fun q=> ?_
  ·refine Z1 ?_
   refine Lt 0 ?_
   refine Z0 ?_
   have ⟨_,V,W⟩:=bnd q
   refine Ly (Yl.sc V rfl rfl rfl rfl rfl rfl) ?_
   refine Z0 ?_
   refine E.fR (Ty.int .i64) 3 ?_
   cases W
   exact Eg (none,0) trivial [0,0] [] 0
  refine Z0 ?_
  refine E.fR (Ty.int .i64) 3 ?_
  cases q
  exact Eg (none,0) trivial [0,0] [] 0
 rintro ⟨d,e⟩
 refine Z2 ?_
 refine Tb U (fun s=> ?_) fun s=> ?_
 ·refine Z1 ?_
  refine L.frz 0 rfl ?_
  refine La [] [0] (Ac.bs (ty:=bQ) (xs:=[j.2]) (.cons (d,e) [0] rfl .nil) rfl rfl rfl rfl rfl rfl rfl) fun X=> ?_
  refine Z0 ?_
  cases s
  exact Eo1 ((some ⟨X,0,none⟩),1) [0] []
 refine Z3 ?_
 have ⟨t,Y,C⟩:=bnd s
 refine Tj (η:=aO×((Option Addr×Nat))) (fun h=>t = .inl h.1) (fun _=>[]) [5] (fun h=>(fun k=>(fun l m=>[Ch.arr (Ty.int .i64) 3 l m k.bA,Ch.box g1 110 (wD k l m)]) h.2.1 h.2.2) h.1) [] (fun _=>[]) ?_ ?_
 ·refine Yl0 ?_
  refine Tq (η:=(Option Addr×Nat)) (fun a h=>(fun b c=>[(6,.int .i64 a.2.1),(7,.int .i64 a.2.2)]) h.1 h.2) [0,5] (fun a h=>(fun b c=>[Ch.arr (Ty.int .i64) 3 b c a.1.bA,Ch.box g1 110 (wD a.1 b c)]) h.1 h.2) [] (fun _ _=>[]) (d,e) [0,0] [] Y ?_
  rintro k_ a ⟨b,c⟩ Z aa ab F
  refine Z2 ?_
  refine Tb aa (fun u=> ?_) fun u=> ?_
  ·refine Y1 ?_
   have ⟨I,ac,J⟩:=bnd u
   refine Tj (η:=(Int×aO)×((Option Addr×Nat))) (fun h=>I = .inl h.1) (fun h=>(fun f=>(fun g i=>[(6,.int .i64 f.1)]) h.2.1 h.2.2) h.1) [0,5,7] (fun h=>(fun f=>(fun g i=>[Ch.arr (Ty.int .i64) 3 g i f.2.bA,Ch.box g1 110 (wD f.2 g i)]) h.2.1 h.2.2) h.1) [] (fun _=>[]) ?_ ?_
   ·refine Zl ?_
    refine Y2 ?_
    have ⟨ad,ae,af⟩:=bnd ac
    refine Tj0 [(45,.bool ad)] [0,5,6,7] [] [1,0] ?_ ?_
    ·refine Z0 ?_
     refine Lw 34 ae (fun v=> ?_) fun v=> ?_
     ·refine Z0 ?_
      have ⟨a6,ag,ah⟩:=bnd v
      refine Ly (Yl.si ag rfl rfl rfl rfl rfl) ?_
      refine Z0 ?_
      refine Lw 40 ah (fun w=> ?_) fun w=> ?_
      ·refine Z0 ?_
       have ⟨a7,ai,aj⟩:=bnd w
       refine Ly (Yl.si ai rfl rfl rfl rfl rfl) ?_
       refine Z0 ?_
       cases aj
       exact Eg0 [1,0] 0
      refine Z0 ?_
      cases w
      exact Eg0 [1,0] 0
     refine Z0 ?_
     cases v
     exact Eg0 [1,0] 0
    refine Tb af (fun x=> ?_) fun x=> ?_
    ·refine Z1 ?_
     have ⟨a8,ak,al⟩:=bnd x
     refine Ly (Yl.si ak rfl rfl rfl rfl rfl) ?_
     refine Z0 ?_
     cases al
     exact Eg (_,(b,c)) rfl [1,0] [] 0
    refine Y2 ?_
    have ⟨am,an,ao⟩:=bnd x
    refine Tj0 [(70,.bool am)] [0,5,6,7] [] [0,1] ?_ ?_
    ·refine Z0 ?_
     refine Lw 59 an (fun y=> ?_) fun y=> ?_
     ·refine Z0 ?_
      have ⟨a9,aq,ar⟩:=bnd y
      refine Ly (Yl.si aq rfl rfl rfl rfl rfl) ?_
      refine Z0 ?_
      refine Lw 65 ar (fun z=> ?_) fun z=> ?_
      ·refine Z0 ?_
       have ⟨ba,au,av⟩:=bnd z
       refine Ly (Yl.si au rfl rfl rfl rfl rfl) ?_
       refine Z0 ?_
       cases av
       exact Eg0 [0,0] 0
      refine Z0 ?_
      cases z
      exact Eg0 [0,0] 0
     refine Z0 ?_
     cases y
     exact Eg0 [0,0] 0
    refine Tb ao (fun A=> ?_) fun A=> ?_
    ·refine Z1 ?_
     obtain ⟨bb,hz,aw⟩:=cD A
     subst I
     obtain rfl:=(sm J).symm
     refine Z0 ?_
     obtain ⟨bc,hz,ax⟩:=gI aw
     subst Z
     have hb:=F _ rfl
     subst t
     obtain rfl:=(sm C).symm
     refine Z0 ?_
     refine E.fR bQ 110 ?_
     cases ax
     exact Eo1 (none,0) [0] []
    refine Z2 ?_
    have ⟨M,ay,az⟩:=bnd A
    refine Tjh (η:=(Option Addr×Nat)) (fun _=>[]) [0,5,7] (fun h=>(fun n o=>[Ch.arr (Ty.int .i64) 3 n o M.bA,Ch.box g1 110 (wD M n o)]) h.1 h.2) [] (fun _=>[]) ?_ ?_
    ·refine Tb ay (fun B=> ?_) fun B=> ?_
     ·refine Z0 ?_
      refine La [] [] (Ac.bs (ty:=(Ty.int .i64)) (xs:=[a.2.1]) (.cons () [] rfl .nil) rfl rfl rfl rfl rfl rfl rfl) fun bd=> ?_
      refine L.frz 0 rfl ?_
      have ⟨_,a0,a1⟩:=bnd B
      refine La [1] [0] (Ac.ap (ty:=(Ty.int .i64)) a0 rfl rfl rfl rfl rfl rfl rfl) ?_
      rintro ⟨a2,a3⟩
      refine Z0 ?_
      refine Lt 1 ?_
      refine Z0 ?_
      cases a1
      exact Eg (a2,a3) trivial [1,0] [] 1
     refine Z0 ?_
     cases B
     exact Eg (b,c) trivial [1,0] [] 0
    rintro ⟨n,o⟩
    refine Z0 ?_
    cases az
    exact Eg (_,(n,o)) rfl [0,0] [] 0
   rintro ⟨f,⟨g,i⟩⟩ hy
   subst hy
   refine Z0 ?_
   cases J
   exact Eg (_,(g,i)) (ab _ rfl) [0,0] [] 0
  refine Z0 ?_
  cases u
  have hb:=F _ rfl
  subst t
  exact Eg (_,(b,c)) rfl [0,0] [] 0
 rintro ⟨k,⟨l,m⟩⟩ hy
 subst hy
 refine Z1 ?_
 refine L.frz 0 rfl ?_
 refine La [] [0] (Ac.bs (ty:=bQ) (xs:=[k]) (.cons (l,m) [0] rfl .nil) rfl rfl rfl rfl rfl rfl rfl) fun a4=> ?_
 refine Z0 ?_
 cases C
 exact Eo1 ((some ⟨a4,0,none⟩),1) [0] []
theorem xA {s_:ByteArray} {r:(List aO)} (H:l6 s_=some r):CT G 39 [.string s_] [] [] (fun h:(Option Addr×Nat)=> .slice h.1 r.length h.2) (fun h=>[Ch.arr bQ 110 h.1 h.2 r]) (fun h=>[]):=by
 delta l6 at H
 refine Cf Go.Proofs.Tryz.func39 fun K=> ?_
 refine Z2 ?_
 refine La [] [] (Ac.bs (ty:=bQ) (xs:=[]) .nil rfl rfl rfl rfl rfl rfl rfl) fun g1=> ?_
 refine Z3 ?_
 refine Y1 ?_
 have ⟨q,av,u⟩:=bnd H
 refine Tj (η:=(List aO)×((Option Addr×Nat))) (fun h=>q = .inl h.1) (fun h=>(fun s=>(fun j k=>[(3,.slice j s.length k)]) h.2.1 h.2.2) h.1) [] (fun h=>(fun s=>(fun j k=>[Ch.arr bQ 110 j k s]) h.2.1 h.2.2) h.1) [] (fun _=>[]) ?_ ?_
 ·refine Yl0 ?_
  refine Tq (η:=(Option Addr×Nat)) (fun d h=>(fun g i=>[(3,.slice g d.1.length i),(4,.int .i64 d.2.1),(5,.int .i64 d.2.2.1),(6,.string d.2.2.2)]) h.1 h.2) [0] (fun d h=>(fun g i=>[Ch.arr bQ 110 g i d.1]) h.1 h.2) [] (fun _ _=>[]) ((some ⟨g1,0,none⟩),0) [0] [] av ?_
  rintro k_ d ⟨g,i⟩ ai aw c v
  refine Z2 ?_
  refine Tb aw (fun x=> ?_) fun x=> ?_
  ·refine Zl ?_
   refine Z2 ?_
   have ⟨aj,ax,ak⟩:=bnd x
   refine Tj (η:=((List aO)×Int)×((Option Addr×Nat))) (fun h=>aj = .inl h.1) (fun h=>(fun l=>(fun a b=>[(3,.slice a l.1.length b),(5,.int .i64 l.2)]) h.2.1 h.2.2) h.1) [0,4,6] (fun h=>(fun l=>(fun a b=>[Ch.arr bQ 110 a b l.1]) h.2.1 h.2.2) h.1) [] (fun _=>[]) ?_ ?_
   ·refine Tb ax (fun y=> ?_) fun y=> ?_
    ·refine Y2 ?_
     have ⟨al,ay,az⟩:=bnd y
     refine Tj0 [(7,.int .i64 al)] [0,3,4,5,6] [] [0] ?_ ?_
     ·refine Yl0 ?_
      refine Tq (η:=Unit) (fun am h=>[(7,.int .i64 am)]) [0,3,4,5,6] (fun _ _=>[]) [0] (fun _ _=>[]) () [0] [] ay ?_
      rintro k_ am ⟨⟩ c2 a0 a1 a2
      refine Y2 ?_
      have ⟨a3,a4,a5⟩:=bnd a0
      refine Tj0 [(34,.bool a3)] [0,3,4,5,6,7] [] [0] ?_ ?_
      ·refine Z0 ?_
       refine Lw 23 a4 (fun z=> ?_) fun z=> ?_
       ·refine Z0 ?_
        have ⟨c3,a6,a7⟩:=bnd z
        refine Ly (Yl.si a6 rfl rfl rfl rfl rfl) ?_
        refine Z0 ?_
        refine Lw 29 a7 (fun B=> ?_) fun B=> ?_
        ·refine Z0 ?_
         have ⟨c4,a8,a9⟩:=bnd B
         refine Ly (Yl.si a8 rfl rfl rfl rfl rfl) ?_
         refine Z0 ?_
         cases a9
         exact Eg0 [0] 0
        refine Z0 ?_
        cases B
        exact Eg0 [0] 0
       refine Z0 ?_
       cases z
       exact Eg0 [0] 0
      refine Tb a5 (fun C=> ?_) fun C=> ?_
      ·refine Zl ?_
       cases C
       exact Eg (_,()) (a1 _ rfl) [0] [] 0
      refine Z0 ?_
      cases C
      have hb:=a2 _ rfl
      subst al
      exact Eg0 [0] 0
     refine Z1 ?_
     have ⟨_,ba,bb⟩:=bnd az
     refine Ly (Yl.sc ba rfl rfl rfl rfl rfl rfl) ?_
     have ⟨c5,bc,bd⟩:=bnd bb
     refine Lk [] [] (vS bc) fun ⟨c6,c7⟩=> ?_
     refine Z1 ?_
     refine L.frz 0 rfl ?_
     have ⟨c8,be,bf⟩:=bnd bd
     refine Lk [] [0] (vx be) fun ⟨c9,da⟩=> ?_
     refine L.frz 0 rfl ?_
     have ⟨_,bg,bh⟩:=bnd bf
     refine La [0] [0] (Ac.ap (ty:=bQ) bg rfl rfl rfl rfl rfl rfl rfl) ?_
     rintro ⟨an,ao⟩
     refine Z2 ?_
     refine Tb bh (fun F=> ?_) fun F=> ?_
     ·refine Z1 ?_
      obtain ⟨db,hz,bi⟩:=cD F
      subst aj
      obtain rfl:=(sm ak).symm
      refine Z0 ?_
      obtain ⟨dc,hz,bj⟩:=gI bi
      subst ai
      have hb:=v _ rfl
      subst q
      obtain rfl:=(sm u).symm
      refine Z0 ?_
      cases bj
      exact Eo1 (an,ao) [0] []
     refine Z2 ?_
     have ⟨aq,bk,bl⟩:=bnd F
     refine Tjh (η:=(Option Addr×Nat)) (fun h=>(fun m n=>[(3,.slice m aq.length n)]) h.1 h.2) [0,4,6,7] (fun h=>(fun m n=>[Ch.arr bQ 110 m n aq]) h.1 h.2) [] (fun _=>[]) ?_ ?_
     ·refine Tb bk (fun I=> ?_) fun I=> ?_
      ·refine Z0 ?_
       refine L.lT [Im.sl (Ty.int .i64) none 0 []] (fun A w _ _ f hf=>by rw [List.mem_singleton.1 hf]; exact Im.lU A w) ?_
       refine La [] [0] (Ac.bs (ty:=bQ) (xs:=[(aO.mk 1 65533 0 false ([]:List Int) (ByteArray.mk #[]))]) (.cons (none,0) [0] rfl .nil) rfl rfl rfl rfl rfl rfl rfl) fun dd=> ?_
       refine L.frz 0 rfl ?_
       have ⟨_,bm,bn⟩:=bnd I
       refine La [0] [0] (Ac.ap (ty:=bQ) bm rfl rfl rfl rfl rfl rfl rfl) ?_
       rintro ⟨bo,bp⟩
       refine Z0 ?_
       cases bn
       exact Eg (bo,bp) trivial [0] [] 2
      refine Z0 ?_
      cases I
      exact Eg (an,ao) trivial [0] [] 0
     rintro ⟨m,n⟩
     refine Z0 ?_
     cases bl
     exact Eg (_,(m,n)) rfl [0] [] 2
    refine Z0 ?_
    cases y
    exact Eg (_,(g,i)) rfl [0] [] 0
   rintro ⟨l,⟨a,b⟩⟩ hy
   subst hy
   refine Z1 ?_
   have ⟨t,bq,br⟩:=bnd ak
   refine Ly (Yl.si bq rfl rfl rfl rfl rfl) ?_
   refine Z3 ?_
   refine Tb br (fun J=> ?_) fun J=> ?_
   ·refine Z2 ?_
    have ⟨ar,bt,au⟩:=bnd J
    refine Tj (η:=((List aO)×Int×Int×ByteArray)×((Option Addr×Nat))) (fun h=>ar = .inl h.1) (fun h=>(fun e=>(fun o p=>[(3,.slice o e.1.length p),(4,.int .i64 e.2.1),(5,.int .i64 e.2.2.1),(6,.string e.2.2.2)]) h.2.1 h.2.2) h.1) [0] (fun h=>(fun e=>(fun o p=>[Ch.arr bQ 110 o p e.1]) h.2.1 h.2.2) h.1) [] (fun _=>[]) ?_ ?_
    ·refine Tb bt (fun M=> ?_) fun M=> ?_
     ·refine Z1 ?_
      have ⟨de,bu,bv⟩:=bnd M
      refine Lk [] [] (ql bu) fun ⟨df,dg⟩=> ?_
      refine L.frz 0 rfl ?_
      have ⟨_,bw,bx⟩:=bnd bv
      refine La [0] [0] (Ac.ap (ty:=bQ) bw rfl rfl rfl rfl rfl rfl rfl) ?_
      rintro ⟨bz,b0⟩
      refine Z0 ?_
      cases bx
      exact Eg (_,(bz,b0)) rfl [0] [] 1
     refine Y1 ?_
     have ⟨b1,b2,b3⟩:=bnd M
     refine Tj0 [(80,.bool b1)] [0,3,4,5,6,10] [] [0] ?_ ?_
     ·refine Z0 ?_
      refine Lw 77 b2 (fun N=> ?_) fun N=> ?_
      ·refine Z0 ?_
       cases N
       exact Eg0 [0] 0
      refine Z0 ?_
      cases N
      exact Eg0 [0] 0
     refine Tb b3 (fun O=> ?_) fun O=> ?_
     ·refine Z0 ?_
      cases O
      exact Eg (_,(a,b)) rfl [0] [] 0
     refine Z1 ?_
     refine Tb O (fun P=> ?_) fun P=> ?_
     ·refine Z0 ?_
      refine La [] [] (Ac.bs (ty:=(Ty.int .u8)) (xs:=[(IntKind.u8.wrap (IntKind.i64.wrap t))]) (.cons () [] rfl .nil) rfl rfl rfl rfl rfl rfl rfl) fun dh=> ?_
      refine Ly (Yl.bs 0 rfl rfl rfl rfl rfl rfl rfl rfl rfl) ?_
      have ⟨_,b4,b5⟩:=bnd P
      refine Ly (Yl.sa b4 rfl rfl rfl) ?_
      refine Z0 ?_
      cases b5
      exact Eg (_,(a,b)) rfl [1] [] 0
     refine Z2 ?_
     refine Tb P (fun Q=> ?_) fun Q=> ?_
     ·refine Z1 ?_
      obtain ⟨di,hz,b6⟩:=cD Q
      subst ar
      obtain rfl:=(sm au).symm
      refine Z0 ?_
      obtain ⟨dj,hz,b7⟩:=gI b6
      subst ai
      have hb:=v _ rfl
      subst q
      obtain rfl:=(sm u).symm
      refine Z0 ?_
      cases b7
      exact Eo1 (a,b) [0] []
     refine Z2 ?_
     have ⟨dk,b8,b9⟩:=bnd Q
     refine Ly (Yl.si b8 rfl rfl rfl rfl rfl) ?_
     refine Z0 ?_
     refine Tb b9 (fun R=> ?_) fun R=> ?_
     ·refine Z1 ?_
      have ⟨dl,ca,cb⟩:=bnd R
      refine Lk [] [] (ql ca) fun ⟨dm,dn⟩=> ?_
      refine L.frz 0 rfl ?_
      have ⟨_,cc,cd⟩:=bnd cb
      refine La [0] [0] (Ac.ap (ty:=bQ) cc rfl rfl rfl rfl rfl rfl rfl) ?_
      rintro ⟨ce,cf⟩
      refine Z1 ?_
      cases cd
      exact Eg (_,(ce,cf)) rfl [0] [] 1
     refine Z0 ?_
     cases R
     exact Eg (_,(a,b)) rfl [0] [] 0
    rintro ⟨e,⟨o,p⟩⟩ hy
    subst hy
    refine Z0 ?_
    cases au
    exact Eg (_,(o,p)) (c _ rfl) [0] [] 0
   refine Y2 ?_
   have ⟨cg,ch,ci⟩:=bnd J
   refine Tj0 [(109,.bool cg)] [0,3,4,5,6,10] [] [0] ?_ ?_
   ·refine Z0 ?_
    refine Lw 106 ch (fun S=> ?_) fun S=> ?_
    ·refine Z0 ?_
     cases S
     exact Eg0 [0] 0
    refine Z0 ?_
    cases S
    exact Eg0 [0] 0
   refine Tb ci (fun U=> ?_) fun U=> ?_
   ·refine Z1 ?_
    cases U
    exact Eg (_,(a,b)) (c _ rfl) [0] [] 0
   refine Z2 ?_
   refine Tb U (fun V=> ?_) fun V=> ?_
   ·refine Z1 ?_
    cases V
    exact Eg (_,(a,b)) (c _ rfl) [0] [] 0
   refine Z2 ?_
   refine Tb V (fun W=> ?_) fun W=> ?_
   ·refine Z1 ?_
    refine L.lT [Im.sl (Ty.int .i64) none 0 []] (fun A w _ _ f hf=>by rw [List.mem_singleton.1 hf]; exact Im.lU A w) ?_
    refine La [] [0] (Ac.bs (ty:=bQ) (xs:=[(aO.mk 2 0 (IntKind.i64.wrap t) false ([]:List Int) (ByteArray.mk #[]))]) (.cons (none,0) [0] rfl .nil) rfl rfl rfl rfl rfl rfl rfl) fun dp=> ?_
    refine L.frz 0 rfl ?_
    have ⟨_,cj,ck⟩:=bnd W
    refine La [0] [0] (Ac.ap (ty:=bQ) cj rfl rfl rfl rfl rfl rfl rfl) ?_
    rintro ⟨cl,cm⟩
    refine Z0 ?_
    cases ck
    exact Eg (_,(cl,cm)) (c _ rfl) [0] [] 2
   refine Z2 ?_
   refine Tb W (fun X=> ?_) fun X=> ?_
   ·refine Z0 ?_
    cases X
    exact Eg (_,(a,b)) (c _ rfl) [0] [] 0
   refine Z1 ?_
   refine Zl ?_
   refine Z1 ?_
   refine Tb X (fun Y=> ?_) fun Y=> ?_
   ·refine Z3 ?_
    refine Tb Y (fun Z=> ?_) fun Z=> ?_
    ·refine Z0 ?_
     cases Z
     exact Eg (_,(a,b)) (c _ rfl) [0] [] 0
    refine Z1 ?_
    refine Tb Z (fun aa=> ?_) fun aa=> ?_
    ·refine Z0 ?_
     cases aa
     exact Eg (_,(a,b)) (c _ rfl) [0] [] 0
    refine Z1 ?_
    refine Tb aa (fun ab=> ?_) fun ab=> ?_
    ·refine Z0 ?_
     cases ab
     exact Eg (_,(a,b)) (c _ rfl) [0] [] 0
    refine Z1 ?_
    refine Tb ab (fun ac=> ?_) fun ac=> ?_
    ·refine Z0 ?_
     refine L.lT [Im.sl (Ty.int .i64) none 0 []] (fun A w _ _ f hf=>by rw [List.mem_singleton.1 hf]; exact Im.lU A w) ?_
     refine La [] [0] (Ac.bs (ty:=bQ) (xs:=[(aO.mk 3 0 (IntKind.i64.wrap t) false ([]:List Int) (ByteArray.mk #[]))]) (.cons (none,0) [0] rfl .nil) rfl rfl rfl rfl rfl rfl rfl) fun dq=> ?_
     refine L.frz 0 rfl ?_
     have ⟨_,cn,co⟩:=bnd ac
     refine La [0] [0] (Ac.ap (ty:=bQ) cn rfl rfl rfl rfl rfl rfl rfl) ?_
     rintro ⟨cp,cq⟩
     refine Z0 ?_
     cases co
     exact Eg (_,(cp,cq)) (c _ rfl) [0] [] 2
    refine Z0 ?_
    cases ac
    exact Eg (_,(a,b)) (c _ rfl) [0] [] 0
   refine Z1 ?_
   refine Tb Y (fun ad=> ?_) fun ad=> ?_
   ·refine Z1 ?_
    refine Tb ad (fun ae=> ?_) fun ae=> ?_
    ·refine Z0 ?_
     cases ae
     exact Eg (_,(a,b)) (c _ rfl) [0] [] 0
    refine Z0 ?_
    cases ae
    exact Eg (_,(a,b)) (c _ rfl) [0] [] 0
   refine Z1 ?_
   refine Tb ad (fun af=> ?_) fun af=> ?_
   ·refine Y1 ?_
    have ⟨cr,cs,ct⟩:=bnd af
    refine Tj0 [(148,.bool cr)] [0,3,4,5,6,10] [] [0] ?_ ?_
    ·refine Z0 ?_
     refine Lw 145 cs (fun ag=> ?_) fun ag=> ?_
     ·refine Z0 ?_
      cases ag
      exact Eg0 [0] 0
     refine Z0 ?_
     cases ag
     exact Eg0 [0] 0
    refine Tb ct (fun ah=> ?_) fun ah=> ?_
    ·refine Z0 ?_
     refine La [] [] (Ac.bs (ty:=(Ty.int .u8)) (xs:=[(IntKind.u8.wrap (IntKind.i64.wrap t))]) (.cons () [] rfl .nil) rfl rfl rfl rfl rfl rfl rfl) fun dr=> ?_
     refine Ly (Yl.bs 0 rfl rfl rfl rfl rfl rfl rfl rfl rfl) ?_
     have ⟨_,cu,cv⟩:=bnd ah
     refine Ly (Yl.sa cu rfl rfl rfl) ?_
     refine Z0 ?_
     cases cv
     exact Eg (_,(a,b)) (c _ rfl) [1] [] 0
    refine Z1 ?_
    have ⟨ds,cw,cx⟩:=bnd ah
    refine Lk [] [] (vT cw) fun ⟨dt,du⟩=> ?_
    refine L.frz 0 rfl ?_
    have ⟨_,cy,cz⟩:=bnd cx
    refine La [0] [0] (Ac.ap (ty:=bQ) cy rfl rfl rfl rfl rfl rfl rfl) ?_
    rintro ⟨c0,c1⟩
    refine Z0 ?_
    cases cz
    exact Eg (_,(c0,c1)) (c _ rfl) [0] [] 1
   refine Z0 ?_
   cases af
   exact Eg (_,(a,b)) (c _ rfl) [0] [] 0
  refine Z0 ?_
  cases x
  have hb:=v _ rfl
  subst q
  exact Eg (_,(g,i)) rfl [0] [] 0
 rintro ⟨s,⟨j,k⟩⟩ hy
 subst hy
 refine Z1 ?_
 cases u
 exact Eo1 (j,k) [0] []
theorem vy {r_:Int} {r:Int} (H:mE r_=some r):CT G 119 [.int .i64 r_] [] [] (fun _:Unit=> .int .i64 r) (fun h=>[]) (fun h=>[]):=by
 delta mE at H
 refine Cf Go.Proofs.Tryz.func119 fun K=> ?_
 refine Z2 ?_
 refine La [] [] (Ac.bs (ty:=wC) (xs:=[(bJ.mk 127 159),(bJ.mk 768 879),(bJ.mk 6832 6911),(bJ.mk 7616 7679),(bJ.mk 8203 8207),(bJ.mk 8400 8447),(bJ.mk 55296 57343),(bJ.mk 65024 65039),(bJ.mk 65056 65071),(bJ.mk 65279 65279),(bJ.mk 917760 917999)]) (.cons () [] rfl (.cons () [] rfl (.cons () [] rfl (.cons () [] rfl (.cons () [] rfl (.cons () [] rfl (.cons () [] rfl (.cons () [] rfl (.cons () [] rfl (.cons () [] rfl (.cons () [] rfl .nil))))))))))) rfl rfl rfl rfl rfl rfl rfl) fun g1=> ?_
 refine Z1 ?_
 refine La [] [] (Ac.bs2 (ty:=wC) (xs:=[(bJ.mk 4352 4447),(bJ.mk 11904 12350),(bJ.mk 12353 13311),(bJ.mk 13312 19903),(bJ.mk 19968 40959),(bJ.mk 40960 42191),(bJ.mk 44032 55203),(bJ.mk 63744 64255),(bJ.mk 65072 65135),(bJ.mk 65280 65376),(bJ.mk 65504 65510),(bJ.mk 127744 128591),(bJ.mk 129280 129535),(bJ.mk 131072 262141)]) (.cons () [] rfl (.cons () [] rfl (.cons () [] rfl (.cons () [] rfl (.cons () [] rfl (.cons () [] rfl (.cons () [] rfl (.cons () [] rfl (.cons () [] rfl (.cons () [] rfl (.cons () [] rfl (.cons () [] rfl (.cons () [] rfl (.cons () [] rfl .nil)))))))))))))) rfl rfl rfl rfl rfl rfl rfl rfl) fun g3=> ?_
 refine Y2 ?_
 have ⟨e8,H9,x⟩:=bnd H
 refine Tj0 [(41,.bool e8)] [0,3,4] [] [0,1] ?_ ?_
 ·refine Z0 ?_
  refine Lw 38 H9 (fun a=> ?_) fun a=> ?_
  ·refine Z0 ?_
   cases a
   exact Eg0 [0,0] 0
  refine Z0 ?_
  cases a
  exact Eg0 [0,0] 0
 refine Tb x (fun b=> ?_) fun b=> ?_
 ·refine Z1 ?_
  cases b
  exact Eo1 () [] []
 refine Z2 ?_
 have ⟨c,y,n⟩:=bnd b
 refine Tj (η:=Unit×Unit) (fun h=>c = .inl h.1) (fun _=>[]) [0,4] (fun _=>[]) [0] (fun _=>[]) ?_ ?_
 ·refine Yl0 ?_
  refine Tq (η:=Unit) (fun d h=>[(44,.int .i64 d)]) [0,4,42,43] (fun _ _=>[]) [0,1] (fun _ _=>[]) () [0,0] [] y ?_
  rintro k_ d ⟨⟩ z A B o
  refine Y2 ?_
  refine Tb A (fun e=> ?_) fun e=> ?_
  ·refine Z1 ?_
   refine Zl ?_
   refine Z1 ?_
   have ⟨p,q,C⟩:=bnd e
   refine Ly (Yl.ia q rfl rfl rfl rfl rfl rfl) ?_
   refine Ly (Yl.lo (v:= .agg #[.int .i64 p.e0,.int .i64 p.e1]) 1 d.toNat 0 (aV q).2 rfl rfl rfl rfl (fun _=>rfl)) ?_
   refine Ll fun X=> ?_
   refine Lt 0 ?_
   refine Y1 ?_
   have ⟨F,I,J⟩:=bnd C
   refine Tj0 [(57,.bool F)] [0,4,42,43,44] [] [0,1,2] ?_ ?_
   ·refine Z0 ?_
    refine Lw 52 I (fun f=> ?_) fun f=> ?_
    ·refine Z0 ?_
     cases f
     exact Eg0 [0,0,0] 0
    refine Z0 ?_
    cases f
    exact Eg0 [0,0,0] 0
   refine Tb J (fun g=> ?_) fun g=> ?_
   ·refine Z1 ?_
    obtain ⟨Y,hz,M⟩:=gI g
    subst z
    have hb:=o _ rfl
    subst c
    obtain rfl:=(sm n).symm
    refine Z0 ?_
    cases M
    exact Eo1 () [] []
   refine Z0 ?_
   cases g
   exact Eg (_,()) (B _ rfl) [1,1] [] 0
  refine Z0 ?_
  cases e
  have hb:=o _ rfl
  subst c
  exact Eg (_,()) rfl [0] [] 0
 rintro ⟨Z,⟨⟩⟩ hy
 subst hy
 refine Z2 ?_
 have ⟨i,N,s⟩:=bnd n
 refine Tj (η:=Unit×Unit) (fun h=>i = .inl h.1) (fun _=>[]) [] (fun _=>[]) [] (fun _=>[]) ?_ ?_
 ·refine Yl0 ?_
  refine Tq (η:=Unit) (fun j h=>[(61,.int .i64 j)]) [0,59,60] (fun _ _=>[]) [0] (fun _ _=>[]) () [0] [] N ?_
  rintro k_ j ⟨⟩ O P Q t
  refine Y2 ?_
  refine Tb P (fun k=> ?_) fun k=> ?_
  ·refine Z1 ?_
   refine Zl ?_
   refine Z1 ?_
   have ⟨u,w,R⟩:=bnd k
   refine Ly (Yl.ia w rfl rfl rfl rfl rfl rfl) ?_
   refine Ly (Yl.lo (v:= .agg #[.int .i64 u.e0,.int .i64 u.e1]) 0 j.toNat 0 (aV w).2 rfl rfl rfl rfl (fun _=>rfl)) ?_
   refine Ll fun aa=> ?_
   refine Lt 0 ?_
   refine Y1 ?_
   have ⟨S,U,V⟩:=bnd R
   refine Tj0 [(74,.bool S)] [0,59,60,61] [] [0,1] ?_ ?_
   ·refine Z0 ?_
    refine Lw 69 U (fun l=> ?_) fun l=> ?_
    ·refine Z0 ?_
     cases l
     exact Eg0 [0,0] 0
    refine Z0 ?_
    cases l
    exact Eg0 [0,0] 0
   refine Tb V (fun m=> ?_) fun m=> ?_
   ·refine Z1 ?_
    obtain ⟨ab,hz,W⟩:=gI m
    subst O
    have hb:=t _ rfl
    subst i
    obtain rfl:=(sm s).symm
    refine Z0 ?_
    cases W
    exact Eo1 () [] []
   refine Z0 ?_
   cases m
   exact Eg (_,()) (Q _ rfl) [1] [] 0
  refine Z0 ?_
  cases k
  have hb:=t _ rfl
  subst i
  exact Eg (_,()) rfl [] [] 0
 rintro ⟨ac,⟨⟩⟩ hy
 subst hy
 refine Z1 ?_
 cases s
 exact Eo1 () [] []
theorem yW {s_:bK} {r:Bool} (H:mV s_=some r):CT G 124 [.agg (sE s_).toArray] [] [] (fun _:Unit=> .bool r) (fun h=>[]) (fun h=>[]):=by
 delta mV at H
 refine Cf Go.Proofs.Tryz.func124 fun K=> ?_
 refine Z1 ?_
 refine Lx fun g1=> ?_
 refine Y1 ?_
 have ⟨e9,d,e⟩:=bnd H
 refine Tj0 [(2,.bool e9)] [] [] [0] ?_ ?_
 ·refine Z0 ?_
  refine Lw 6 d (fun a=> ?_) fun a=> ?_
  ·refine Z0 ?_
   refine Lw 11 a (fun b=> ?_) fun b=> ?_
   ·refine Z0 ?_
    refine Lw 16 b (fun c=> ?_) fun c=> ?_
    ·refine Z0 ?_
     cases c
     exact Eg0 [0] 0
    refine Z0 ?_
    cases c
    exact Eg0 [0] 0
   refine Z0 ?_
   cases b
   exact Eg0 [0] 0
  refine Z0 ?_
  cases a
  exact Eg0 [0] 0
 refine Z0 ?_
 cases e
 exact Eo1 () [] []
theorem nd {s_:bK} {r:Int} (H:iF s_=some r):CT G 85 [.agg (sE s_).toArray] [] [] (fun _:Unit=> .int .i64 r) (fun h=>[]) (fun h=>[]):=by
 delta iF at H
 refine Cf Go.Proofs.Tryz.func85 fun K=> ?_
 refine Z1 ?_
 refine Lx fun g1=> ?_
 refine Z2 ?_
 have ⟨r2,h3,H4⟩:=bnd H
 refine Lk [] [] (yW h3) fun ⟨⟩=> ?_
 refine Z0 ?_
 refine Tb H4 (fun H6=> ?_) fun H6=> ?_
 ·refine Z1 ?_
  cases H6
  exact Eo1 () [] []
 refine Z3 ?_
 have ⟨d,e,f⟩:=bnd H6
 refine Tj0 [(3,.int .i64 d)] [1] [] [0] ?_ ?_
 ·refine Tb e (fun a=> ?_) fun a=> ?_
  ·refine Z0 ?_
   cases a
   exact Eg0 [0] 0
  refine Z0 ?_
  cases a
  exact Eg0 [0] 0
 refine Z2 ?_
 have ⟨g,i,j⟩:=bnd f
 refine Tj0 [(3,.int .i64 g)] [1] [] [0] ?_ ?_
 ·refine Tb i (fun b=> ?_) fun b=> ?_
  ·refine Z0 ?_
   cases b
   exact Eg0 [0] 0
  refine Z0 ?_
  cases b
  exact Eg0 [0] 0
 refine Z2 ?_
 have ⟨k,l,m⟩:=bnd j
 refine Tj0 [(3,.int .i64 k)] [] [] [0] ?_ ?_
 ·refine Tb l (fun c=> ?_) fun c=> ?_
  ·refine Z0 ?_
   cases c
   exact Eg0 [0] 0
  refine Z0 ?_
  cases c
  exact Eg0 [0] 0
 refine Z1 ?_
 cases m
 exact Eo1 () [] []
theorem tY {g:cH} {y:Int} {r_:aR} {r:cH×Bool} (H:kE g y r_=some r):CT G 168 [.agg #[.int .i64 g.w,.slice A0 g.l.length C0],.int .i64 y,.agg #[.slice A1 r_.l.length C1,.bool r_.wrapped]] [] [Im.sl aL A0 C0 g.l,Im.sl bD A1 C1 r_.l] (fun h:(Option Addr×Nat)=> .tuple #[.agg #[.int .i64 r.1.w,.slice h.1 r.1.l.length h.2],.bool r.2]) (fun h=>[]) (fun h=>[Im.sl aL h.1 h.2 r.1.l]):=by
 delta kE at H
 refine Cf Go.Proofs.Tryz.func168 fun K=> ?_
 refine Z1 ?_
 refine Lx fun g1=> ?_
 refine Lx fun g2=> ?_
 refine Ll fun g3=> ?_
 refine Y2 ?_
 have ⟨e7,H8,H9⟩:=bnd H
 refine Tj0 [(17,.bool e7)] [1,3,5,6] [] [0,1,2] ?_ ?_
 ·refine Z0 ?_
  refine Lw 11 H8 (fun a=> ?_) fun a=> ?_
  ·refine Z0 ?_
   cases a
   exact Eg0 [0,0,0] 0
  refine Z0 ?_
  cases a
  exact Eg0 [0,0,0] 0
 refine Tb H9 (fun b=> ?_) fun b=> ?_
 ·refine Z1 ?_
  refine Lt 0 ?_
  refine Z0 ?_
  cases b
  exact Eo (A0,C0) [] [0] (.cell 0 rfl rfl rfl (.tmp rfl .nil))
 refine Z1 ?_
 refine La [] [] (Ac.bs (ty:=aL) (xs:=[]) .nil rfl rfl rfl rfl rfl rfl rfl) fun s=> ?_
 refine Z0 ?_
 have ⟨_,e,f⟩:=bnd b
 refine La [0] [0] (Ac.ap (ty:=aL) e rfl rfl rfl rfl rfl rfl rfl) ?_
 rintro ⟨t,i⟩
 refine Z1 ?_
 have ⟨d,j,k⟩:=bnd f
 refine Lk [] [1] (qj j) fun ⟨m,n⟩=> ?_
 have ⟨u,c,o⟩:=bnd k
 refine L.jd 0 rfl (bX c) fun p q=> ?_
 subst q
 refine Ly (Yl.ia c rfl rfl rfl rfl rfl rfl) ?_
 refine La [0] [0] (Ac.se 0 d (aV c).2 rfl rfl rfl rfl rfl rfl (fun _=>⟨(m,n),rfl,[1],rfl⟩)) fun _=> ?_
 refine L.sl 8 (k':=((([]:List aR)++g.l).set y.toNat d).length) (List.length_set ..) rfl ?_
 refine Z1 ?_
 refine Lt 1 ?_
 refine Z0 ?_
 refine E.frz 1 rfl ?_
 cases o
 exact Eo ((some ⟨p,0,none⟩),i) [] [0] (.cell 0 rfl rfl rfl (.tmp rfl .nil))
theorem nf {s_:aK} {r_:aR} {r:aK} (H:hG s_ r_=some r):CT G 120 [.agg (lJ s_ A0 C0).toArray,.agg #[.slice A1 r_.l.length C1,.bool r_.wrapped]] [] [Im.sl aL A0 C0 s_.g.l,Im.sl bD A1 C1 r_.l] (fun h:(Option Addr×Nat)=> .agg (lJ r h.1 h.2).toArray) (fun h=>[]) (fun h=>[Im.sl aL h.1 h.2 r.g.l]):=by
 delta hG at H
 refine Cf Go.Proofs.Tryz.func120 fun K=> ?_
 refine Z1 ?_
 refine Lx fun g1=> ?_
 refine Lx fun g2=> ?_
 refine Ll fun g3=> ?_
 refine Z1 ?_
 have ⟨r4,h5,H6⟩:=bnd H
 refine Lk [] [0,1] (tY h5) fun ⟨a7,c8⟩=> ?_
 refine Z0 ?_
 refine Lt 2 ?_
 refine Z1 ?_
 refine Lt 1 ?_
 refine Z0 ?_
 cases H6
 exact Eo (a7,c8) [] [0] (.cell 0 rfl rfl rfl .nil)
theorem nF {g:cH} {up:Bool} {top:Int} {aI:Int} {n_:Int} {aM:Int} {r:cH×(List aR)} (H:dC g up top aI n_ aM=some r):CT G 84 [.agg #[.int .i64 g.w,.slice A0 g.l.length C0],.bool up,.int .i64 top,.int .i64 aI,.int .i64 n_,.int .i64 aM] [] [Im.sl aL A0 C0 g.l] (fun h:(Option Addr×Nat)×(Option Addr×Nat)=> .tuple #[.agg #[.int .i64 r.1.w,.slice h.1.1 r.1.l.length h.1.2],.slice h.2.1 r.2.length h.2.2]) (fun h=>[Ch.arr aL 156 h.2.1 h.2.2 r.2]) (fun h=>[Im.sl aL h.1.1 h.1.2 r.1.l]):=by
 delta dC at H
 refine Cf Go.Proofs.Tryz.func84 fun K=> ?_
 refine Z1 ?_
 refine Lx fun g1=> ?_
 refine Ll fun g2=> ?_
 refine Z3 ?_
 refine Z1 ?_
 refine La [] [] (Ac.bs (ty:=aL) (xs:=[]) .nil rfl rfl rfl rfl rfl rfl rfl) fun g3=> ?_
 refine Z2 ?_
 refine Tb H (fun H6=> ?_) fun H6=> ?_
 ·refine Z1 ?_
  refine Lt 1 ?_
  refine Z0 ?_
  cases H6
  exact Eo ((A0,C0),((some ⟨g3,0,none⟩),0)) [1] [0] (.cell 0 rfl rfl rfl (.tmp rfl .nil))
 refine Z1 ?_
 refine La [] [] (Ac.bs (ty:=aL) (xs:=[]) .nil rfl rfl rfl rfl rfl rfl rfl) fun g7=> ?_
 refine Z0 ?_
 have ⟨_,h9,ag⟩:=bnd H6
 refine La [0] [0] (Ac.ap (ty:=aL) h9 rfl rfl rfl rfl rfl rfl rfl) ?_
 rintro ⟨d,a⟩
 refine Z1 ?_
 have ⟨p,ah,ai⟩:=bnd ag
 refine Lk [] [] (kr ah) fun ⟨Y,Z⟩=> ?_
 refine Ll fun bo=> ?_
 refine Lt 0 ?_
 refine Z2 ?_
 have ⟨f,aj,ak⟩:=bnd ai
 refine Tjh (η:=(Option Addr×Nat)) (fun h=>(fun i j=>[(15,.slice i f.1.length j),(16,.slice d f.2.length a)]) h.1 h.2) [6,12] (fun h=>(fun i j=>[Ch.arr aL 156 i j f.1,Ch.arr aL 156 d a f.2]) h.1 h.2) [0,3,4] (fun _=>[]) ?_ ?_
 ·refine Yl0 ?_
  refine Tq (η:=(Option Addr×Nat)) (fun e h=>(fun k m=>[(15,.slice k e.1.length m),(16,.slice d e.2.1.length a),(18,.int .i64 e.2.2)]) h.1 h.2) [1,2,3,4,6,12,17] (fun e h=>(fun k m=>[Ch.arr aL 156 k m e.1,Ch.arr aL 156 d a e.2.1]) h.1 h.2) [0,3,4] (fun _ _=>[]) ((some ⟨g3,0,none⟩),0) [2,1,0,0,0] [] aj ?_
  rintro k_ e ⟨k,m⟩ bp al am an
  refine Y2 ?_
  have ⟨ao,aq,ar⟩:=bnd al
  refine Tj0 [(56,.bool ao)] [1,2,3,4,6,12,15,16,17,18] [] [2,3,4,0,1] ?_ ?_
  ·refine Z0 ?_
   refine Lw 50 aq (fun A=> ?_) fun A=> ?_
   ·refine Z0 ?_
    cases A
    exact Eg0 [2,2,2,0,0] 0
   refine Z0 ?_
   cases A
   exact Eg0 [2,2,2,0,0] 0
  refine Tb ar (fun B=> ?_) fun B=> ?_
  ·refine Y1 ?_
   have ⟨q,au,av⟩:=bnd B
   refine Tjh (η:=(Option Addr×Nat)) (fun h=>(fun n o=>[(15,.slice n q.1.length o),(16,.slice d q.2.length a)]) h.1 h.2) [1,2,3,4,6,12,17,18] (fun h=>(fun n o=>[Ch.arr aL 156 n o q.1,Ch.arr aL 156 d a q.2]) h.1 h.2) [0,1,2] (fun _=>[]) ?_ ?_
   ·refine Zl ?_
    refine Z1 ?_
    refine Tb au (fun C=> ?_) fun C=> ?_
    ·refine Z1 ?_
     have ⟨F,I,aw⟩:=bnd C
     refine L.jd 4 rfl (bX I) fun s ax=> ?_
     subst ax
     refine Ly (Yl.ia I rfl rfl rfl rfl rfl rfl) ?_
     refine La [4] [] (Ac.lo ((imax 0 (dQ top (IntKind.i64.wrap ((g.l.length:Int) - 1)))).toNat) 0 (v:=(fun h:(Option Addr×Nat)=>(fun J M=> .agg #[.slice J F.l.length M,.bool F.wrapped]) h.1 h.2)) (aV I).2 rfl rfl rfl (fun _=>rfl)) ?_
     rintro ⟨J,M⟩
     refine La [] [0] (Ac.bs (ty:=aL) (xs:=[F]) (.cons (J,M) [0] rfl .nil) rfl rfl rfl rfl rfl rfl rfl) fun bq=> ?_
     refine L.frz 0 rfl ?_
     have ⟨_,ay,az⟩:=bnd aw
     refine La [4] [0] (Ac.ap (ty:=aL) ay rfl rfl rfl rfl rfl rfl rfl) ?_
     rintro ⟨a0,a1⟩
     refine Z2 ?_
     have ⟨t,a2,a3⟩:=bnd az
     refine Tj0 [(16,.slice (some ⟨s,0,none⟩) t.length a)] [1,2,3,4,6,12,15,17,18] [Ch.arr aL 156 (some ⟨s,0,none⟩) a t] [2,3,4,0] ?_ ?_
     ·refine Yl0 ?_
      refine Tq (η:=Unit) (fun b h=>[(16,.slice (some ⟨s,0,none⟩) b.1.length a),(19,.int .i64 b.2)]) [1,2,3,4,6,12,15,17,18] (fun b h=>[Ch.arr aL 156 (some ⟨s,0,none⟩) a b.1]) [2,3,4,0] (fun _ _=>[]) () [1,1,1,1,0] [] a2 ?_
      rintro k_ b ⟨⟩ br a4 a5 a6
      refine Z2 ?_
      refine Tb a4 (fun N=> ?_) fun N=> ?_
      ·refine Z1 ?_
       refine Zl ?_
       have ⟨u,aa,a7⟩:=bnd N
       refine Ly (Yl.ia aa rfl rfl rfl rfl rfl rfl) ?_
       refine La [0] [] (Ac.lo ((IntKind.i64.wrap (b.2+1)).toNat) 0 (v:=(fun h:(Option Addr×Nat)=>(fun O P=> .agg #[.slice O u.l.length P,.bool u.wrapped]) h.1 h.2)) (aV aa).2 rfl rfl rfl (fun _=>rfl)) ?_
       rintro ⟨O,P⟩
       have ⟨bt,ab,a8⟩:=bnd a7
       refine Ly (Yl.ia ab rfl rfl rfl rfl rfl rfl) ?_
       refine La [0] [0] (Ac.se 0 u (aV ab).2 rfl rfl rfl rfl rfl rfl (fun _=>⟨(O,P),rfl,[1],rfl⟩)) fun _=> ?_
       refine L.sl 16 (k':=(b.1.set b.2.toNat u).length) (List.length_set ..) rfl ?_
       refine Z0 ?_
       cases a8
       exact Eg (_,()) (a5 _ rfl) [0,0,0,0,0] [] 1
      refine Z0 ?_
      cases N
      have hb:=a6 _ rfl
      subst t
      exact Eg0 [0,0,0,0,0] 0
     refine Z0 ?_
     have ⟨bu,ac,a9⟩:=bnd a3
     refine Ly (Yl.ia ac rfl rfl rfl rfl rfl rfl) ?_
     refine La [0] [2] (Ac.se 0 p (aV ac).2 rfl rfl rfl rfl rfl rfl (fun _=>⟨(Y,Z),rfl,[1],rfl⟩)) fun _=> ?_
     refine L.sl 16 (k':=(t.set ((imax 0 (dQ aI (IntKind.i64.wrap ((g.l.length:Int) - 1)))).toNat) p).length) (List.length_set ..) rfl ?_
     refine Z0 ?_
     cases a9
     exact Eg (a0,a1) trivial [4,0,0,0,0] [] 2
    refine Z1 ?_
    have ⟨Q,R,ba⟩:=bnd C
    refine L.jd 4 rfl (bX R) fun x bb=> ?_
    subst bb
    refine Ly (Yl.ia R rfl rfl rfl rfl rfl rfl) ?_
    refine La [4] [] (Ac.lo ((imax 0 (dQ aI (IntKind.i64.wrap ((g.l.length:Int) - 1)))).toNat) 0 (v:=(fun h:(Option Addr×Nat)=>(fun S U=> .agg #[.slice S Q.l.length U,.bool Q.wrapped]) h.1 h.2)) (aV R).2 rfl rfl rfl (fun _=>rfl)) ?_
    rintro ⟨S,U⟩
    refine La [] [0] (Ac.bs (ty:=aL) (xs:=[Q]) (.cons (S,U) [0] rfl .nil) rfl rfl rfl rfl rfl rfl rfl) fun bv=> ?_
    refine L.frz 0 rfl ?_
    have ⟨_,bc,bd⟩:=bnd ba
    refine La [4] [0] (Ac.ap (ty:=aL) bc rfl rfl rfl rfl rfl rfl rfl) ?_
    rintro ⟨be,bf⟩
    refine Z2 ?_
    have ⟨y,bg,bh⟩:=bnd bd
    refine Tj0 [(16,.slice (some ⟨x,0,none⟩) y.length a)] [1,2,3,4,6,12,15,17,18] [Ch.arr aL 156 (some ⟨x,0,none⟩) a y] [2,3,4,0] ?_ ?_
    ·refine Yl0 ?_
     refine Tq (η:=Unit) (fun c h=>[(16,.slice (some ⟨x,0,none⟩) c.1.length a),(20,.int .i64 c.2)]) [1,2,3,4,6,12,15,17,18] (fun c h=>[Ch.arr aL 156 (some ⟨x,0,none⟩) a c.1]) [2,3,4,0] (fun _ _=>[]) () [1,1,1,1,0] [] bg ?_
     rintro k_ c ⟨⟩ bw bi bj bk
     refine Z2 ?_
     refine Tb bi (fun V=> ?_) fun V=> ?_
     ·refine Z1 ?_
      refine Zl ?_
      have ⟨z,ad,bl⟩:=bnd V
      refine Ly (Yl.ia ad rfl rfl rfl rfl rfl rfl) ?_
      refine La [0] [] (Ac.lo ((IntKind.i64.wrap (c.2 - 1)).toNat) 0 (v:=(fun h:(Option Addr×Nat)=>(fun W X=> .agg #[.slice W z.l.length X,.bool z.wrapped]) h.1 h.2)) (aV ad).2 rfl rfl rfl (fun _=>rfl)) ?_
      rintro ⟨W,X⟩
      have ⟨bx,ae,bm⟩:=bnd bl
      refine Ly (Yl.ia ae rfl rfl rfl rfl rfl rfl) ?_
      refine La [0] [0] (Ac.se 0 z (aV ae).2 rfl rfl rfl rfl rfl rfl (fun _=>⟨(W,X),rfl,[1],rfl⟩)) fun _=> ?_
      refine L.sl 16 (k':=(c.1.set c.2.toNat z).length) (List.length_set ..) rfl ?_
      refine Z0 ?_
      cases bm
      exact Eg (_,()) (bj _ rfl) [0,0,0,0,0] [] 1
     refine Z0 ?_
     cases V
     have hb:=bk _ rfl
     subst y
     exact Eg0 [0,0,0,0,0] 0
    refine Z0 ?_
    have ⟨bz,af,bn⟩:=bnd bh
    refine Ly (Yl.ia af rfl rfl rfl rfl rfl rfl) ?_
    refine La [0] [2] (Ac.se 0 p (aV af).2 rfl rfl rfl rfl rfl rfl (fun _=>⟨(Y,Z),rfl,[1],rfl⟩)) fun _=> ?_
    refine L.sl 16 (k':=(y.set ((imax 0 (dQ top (IntKind.i64.wrap ((g.l.length:Int) - 1)))).toNat) p).length) (List.length_set ..) rfl ?_
    refine Z0 ?_
    cases bn
    exact Eg (be,bf) trivial [4,0,0,0,0] [] 2
   rintro ⟨n,o⟩
   refine Z0 ?_
   cases av
   exact Eg (_,(n,o)) (am _ rfl) [0,0,0,0,0] [] 0
  refine Z0 ?_
  cases B
  have hb:=an _ rfl
  subst f
  exact Eg (k,m) trivial [3,3,0,0,0] [] 0
 rintro ⟨i,j⟩
 refine Z1 ?_
 refine Lt 3 ?_
 refine Z0 ?_
 refine E.frz 2 rfl ?_
 cases ak
 exact Eo ((d,a),(i,j)) [1] [0] (.cell 0 rfl rfl rfl (.tmp rfl .nil))
end Go.Tw.X
set_option maxHeartbeats 2000000
set_option linter.unusedVariables false
set_option linter.unusedSimpArgs false
set_option maxRecDepth 10000
namespace Go.Tw.X
open Go Go.Tw
variable {A0 A1 A2 A3 A4 A5 A6 A7 A8 : Option Addr} {C0 C1 C2 C3 C4 C5 C6 C7 C8 : Nat}
variable {N0 N1 N2 N3 N4 : Nat}
theorem qm {s_:aK} {n_:Int} {r:aK×(List aR)} (H:jS s_ n_=some r):CT G 123 [.agg (lJ s_ A0 C0).toArray,.int .i64 n_] [] [Im.sl aL A0 C0 s_.g.l] (fun h:(Option Addr×Nat)×(Option Addr×Nat)=> .tuple #[.agg (lJ r.1 h.1.1 h.1.2).toArray,.slice h.2.1 r.2.length h.2.2]) (fun h=>[Ch.arr aL 156 h.2.1 h.2.2 r.2]) (fun h=>[Im.sl aL h.1.1 h.1.2 r.1.g.l]):=by
 delta jS at H
 refine Cf Go.Proofs.Tryz.func123 fun K=> ?_
 refine Z1 ?_
 refine Lx fun g1=> ?_
 refine Ll fun g2=> ?_
 refine Y1 ?_
 refine Td [15] [0,0] mo ?_
 refine Dq 0 ?_
 refine Db 1 1 ?_
 refine Dq 2 ?_
 refine Db 3 1 ?_
 refine Dq 4 ?_
 refine Db 5 1 ?_
 refine Dq 6 ?_
 refine Dq 7 ?_
 refine Db 8 1 ?_
 refine DF.of rfl ?_
 have ⟨n,e,f⟩:=bnd H
 refine DF.add _ (FSp.ac 9 [] (Ac.call (nd e) rfl rfl rfl rfl) rfl rfl rfl rfl rfl) rfl ?_
 refine DF.add _ (FSp.ac 14 [] (Ac.alloc rfl rfl) rfl rfl rfl rfl rfl) rfl ?_
 refine DF.step 10 rfl rfl rfl rfl rfl ?_
 refine DFp.use 1 rfl rfl rfl ?_
 rintro ⟨⟩
 have ⟨o,i,j⟩:=bnd f
 refine DFp.a [] [0] (Ac.call (nF i) rfl rfl rfl rfl) rfl rfl rfl rfl rfl rfl rfl rfl ?_
 rintro ⟨⟨c,d⟩,⟨k,m⟩⟩
 refine DF.add _ (FSp.q 11 rfl rfl rfl rfl rfl) rfl ?_
 refine DF.add _ (FSp.dep 0 rfl rfl fun _=>FSp.q 12 rfl rfl rfl rfl rfl) rfl ?_
 refine DF.add _ (FSp.dep 1 rfl rfl fun _=>FSp.q 13 rfl rfl rfl rfl rfl) rfl ?_
 refine DF.step 15 rfl rfl rfl rfl rfl ?_
 refine DFp.use 1 rfl rfl rfl ?_
 intro _
 refine DFp.use 1 rfl rfl rfl ?_
 intro _
 refine DFp.use 1 rfl rfl rfl ?_
 intro p
 refine DFp.alf [2] [] (Ac.stb rfl rfl rfl rfl rfl rfl) rfl (E5 (FSp.q 13 rfl rfl rfl rfl rfl) (GS)) rfl rfl rfl rfl rfl rfl rfl rfl ?_
 intro _
 refine DF.add _ (FSp.dep 0 rfl rfl fun _=>FSp.q 16 rfl rfl rfl rfl rfl) rfl ?_
 refine DF.fin rfl rfl rfl rfl rfl ?_
 refine DFe.use ?_
 intro _
 refine DFe.use ?_
 intro _
 refine DFe.nil ?_
 refine Z1 ?_
 refine Lt 2 ?_
 refine Z2 ?_
 refine Tb j (fun b=> ?_) fun b=> ?_
 ·refine Z1 ?_
  refine Lt 2 ?_
  refine Z0 ?_
  refine E.fR aL 156 ?_
  cases b
  exact Eo ((c,d),(none,0)) [0] [0] (.cell 1 rfl rfl rfl (.tmp rfl .nil))
 refine Z1 ?_
 refine Lt 2 ?_
 refine Z0 ?_
 cases b
 exact Eo ((c,d),(k,m)) [3] [0] (.cell 0 rfl rfl rfl (.tmp rfl .nil))
theorem mj {s_:aK} {r:aK×(List aR)} (H:fB s_=some r):CT G 83 [.agg (lJ s_ A0 C0).toArray] [] [Im.sl aL A0 C0 s_.g.l] (fun h:(Option Addr×Nat)×(Option Addr×Nat)=> .tuple #[.agg (lJ r.1 h.1.1 h.1.2).toArray,.slice h.2.1 r.2.length h.2.2]) (fun h=>[Ch.arr aL 156 h.2.1 h.2.2 r.2]) (fun h=>[Im.sl aL h.1.1 h.1.2 r.1.g.l]):=by
 delta fB at H
 refine Cf Go.Proofs.Tryz.func83 fun K=> ?_
 refine Z1 ?_
 refine Lx fun g1=> ?_
 refine Ll fun g2=> ?_
 refine Z1 ?_
 refine Lt 1 ?_
 refine Z2 ?_
 refine Tb H (fun a=> ?_) fun a=> ?_
 ·refine Z1 ?_
  have ⟨m,b,c⟩:=bnd a
  refine Lk [] [0] (qm b) fun ⟨⟨d,e⟩,⟨f,i⟩⟩=> ?_
  refine Z0 ?_
  refine Lt 2 ?_
  refine Z0 ?_
  cases c
  exact Eo ((d,e),(f,i)) [1] [0] (.cell 0 rfl rfl rfl (.tmp rfl .nil))
 refine Z1 ?_
 have ⟨n,j,k⟩:=bnd a
 refine Lk [] [0] (dE j) fun ⟨⟩=> ?_
 refine Lt 1 ?_
 refine Z0 ?_
 refine E.fR aL 156 ?_
 cases k
 exact Eo ((A0,C0),(none,0)) [0] [0] (.cell 1 rfl rfl rfl (.tmp rfl .nil))
theorem xB {r_:aR} {aM:Int} {r:aR} (H:jW r_ aM=some r):CT G 121 [.agg #[.slice A0 r_.l.length C0,.bool r_.wrapped],.int .i64 aM] [] [Im.sl bD A0 C0 r_.l] (fun h:(Option Addr×Nat)=> .agg #[.slice h.1 r.l.length h.2,.bool r.wrapped]) (fun h=>[]) (fun h=>[Im.sl bD h.1 h.2 r.l]):=by
 delta jW at H
 refine Cf Go.Proofs.Tryz.func121 fun K=> ?_
 refine Z1 ?_
 refine Lx fun g1=> ?_
 refine Ll fun g2=> ?_
 refine Z1 ?_
 refine La [] [] (Ac.bs (ty:=bD) (xs:=[]) .nil rfl rfl rfl rfl rfl rfl rfl) fun g3=> ?_
 refine Z0 ?_
 have ⟨_,h5,H6⟩:=bnd H
 refine La [0] [0] (Ac.ap (ty:=bD) h5 rfl rfl rfl rfl rfl rfl rfl) ?_
 rintro ⟨a7,c8⟩
 refine Z2 ?_
 have ⟨c,d,e⟩:=bnd H6
 refine Tj0 [(5,.slice a7 c.length c8)] [4] [Ch.arr bD 225 a7 c8 c] [1,2] ?_ ?_
 ·refine Tb d (fun a=> ?_) fun a=> ?_
  ·refine Z0 ?_
   have ⟨n,b,f⟩:=bnd a
   refine L.jd 0 rfl (bX b) fun o g=> ?_
   subst g
   refine Ly (Yl.ia b rfl rfl rfl rfl rfl rfl) ?_
   refine La [0] [] (Ac.se 0 (aP.mk 32 aM 3) (aV b).2 rfl rfl rfl rfl rfl rfl (fun _=>⟨(),rfl,[],rfl⟩)) fun _=> ?_
   refine L.sl 5 (k':=((([]:List aP)++r_.l).set ((IntKind.i64.wrap (((([]:List aP)++r_.l).length:Int) - 1)).toNat) (aP.mk 32 aM 3)).length) (List.length_set ..) rfl ?_
   refine Z0 ?_
   cases f
   exact Eg0 [0,0,0] 0
  refine Z0 ?_
  cases a
  exact Eg0 [0,0,0] 0
 refine Z1 ?_
 refine L.frz 0 rfl ?_
 have ⟨p,i,j⟩:=bnd e
 refine Lk [] [0] (iD i) fun ⟨k,m⟩=> ?_
 refine Ll fun q=> ?_
 refine Lt 0 ?_
 refine Z1 ?_
 refine Lt 0 ?_
 refine Z1 ?_
 refine Lt 1 ?_
 refine Z0 ?_
 cases j
 exact Eo (k,m) [] [0] (.cell 0 rfl rfl rfl .nil)
theorem yX {r_:aR} {at_:Int} {x_:Int} {aM:Int} {r:aR} (H:lN r_ at_ x_ aM=some r):CT G 122 [.agg #[.slice A0 r_.l.length C0,.bool r_.wrapped],.int .i64 at_,.int .i64 x_,.int .i64 aM] [] [Im.sl bD A0 C0 r_.l] (fun h:(Option Addr×Nat)=> .agg #[.slice h.1 r.l.length h.2,.bool r.wrapped]) (fun h=>[]) (fun h=>[Im.sl bD h.1 h.2 r.l]):=by
 delta lN at H
 refine Cf Go.Proofs.Tryz.func122 fun K=> ?_
 refine Z1 ?_
 refine Lx fun g1=> ?_
 refine Ll fun g2=> ?_
 refine Z1 ?_
 have ⟨r3,h4,H5⟩:=bnd H
 refine Lk [] [] (vy h4) fun ⟨⟩=> ?_
 refine Y2 ?_
 have ⟨t,u,w⟩:=bnd H5
 refine Tj0 [(27,.bool t)] [1,2,3,4,8,9] [] [0,1] ?_ ?_
 ·refine Z0 ?_
  refine Lw 15 u (fun a=> ?_) fun a=> ?_
  ·refine Z0 ?_
   cases a
   exact Eg0 [0,0] 0
  refine Z0 ?_
  refine Lw 19 a (fun b=> ?_) fun b=> ?_
  ·refine Z0 ?_
   cases b
   exact Eg0 [0,0] 0
  refine Z0 ?_
  cases b
  exact Eg0 [0,0] 0
 refine Tb w (fun c=> ?_) fun c=> ?_
 ·refine Z1 ?_
  have ⟨ab,x,y⟩:=bnd c
  refine Lk [] [0] (iD x) fun ⟨z,A⟩=> ?_
  refine Lt 0 ?_
  refine Z0 ?_
  cases y
  exact Eo (z,A) [] [0] (.cell 0 rfl rfl rfl .nil)
 refine Z1 ?_
 refine La [] [] (Ac.bs (ty:=bD) (xs:=[]) .nil rfl rfl rfl rfl rfl rfl rfl) fun ac=> ?_
 refine Z0 ?_
 have ⟨_,B,C⟩:=bnd c
 refine La [0] [0] (Ac.ap (ty:=bD) B rfl rfl rfl rfl rfl rfl rfl) ?_
 rintro ⟨ad,j⟩
 refine Z1 ?_
 have ⟨ae,d,F⟩:=bnd C
 refine L.jd 0 rfl (bX d) fun k I=> ?_
 subst I
 refine Ly (Yl.ia d rfl rfl rfl rfl rfl rfl) ?_
 refine La [0] [] (Ac.se 0 (aP.mk x_ aM 0) (aV d).2 rfl rfl rfl rfl rfl rfl (fun _=>⟨(),rfl,[],rfl⟩)) fun _=> ?_
 refine L.sl 10 (k':=((([]:List aP)++r_.l).set at_.toNat (aP.mk x_ aM 0)).length) (List.length_set ..) rfl ?_
 refine Z2 ?_
 have ⟨m,J,M⟩:=bnd F
 refine Tj0 [(10,.slice (some ⟨k,0,none⟩) m.length j)] [8] [Ch.arr bD 225 (some ⟨k,0,none⟩) j m] [1,2] ?_ ?_
 ·refine Tb J (fun e=> ?_) fun e=> ?_
  ·refine Z1 ?_
   have ⟨af,n,N⟩:=bnd e
   refine Ly (Yl.ia n rfl rfl rfl rfl rfl rfl) ?_
   refine La [0] [] (Ac.se 0 (aP.mk x_ aM 1) (aV n).2 rfl rfl rfl rfl rfl rfl (fun _=>⟨(),rfl,[],rfl⟩)) fun _=> ?_
   refine L.sl 10 (k':=(((([]:List aP)++r_.l).set at_.toNat (aP.mk x_ aM 0)).set at_.toNat (aP.mk x_ aM 1)).length) (List.length_set ..) rfl ?_
   refine Z1 ?_
   have ⟨ag,o,O⟩:=bnd N
   refine Ly (Yl.ia o rfl rfl rfl rfl rfl rfl) ?_
   refine La [0] [] (Ac.se 0 (aP.mk x_ aM 2) (aV o).2 rfl rfl rfl rfl rfl rfl (fun _=>⟨(),rfl,[],rfl⟩)) fun _=> ?_
   refine L.sl 10 (k':=((((([]:List aP)++r_.l).set at_.toNat (aP.mk x_ aM 0)).set at_.toNat (aP.mk x_ aM 1)).set ((IntKind.i64.wrap (at_+1)).toNat) (aP.mk x_ aM 2)).length) (List.length_set ..) rfl ?_
   refine Y1 ?_
   have ⟨P,Q,R⟩:=bnd O
   refine Tj0 [(66,.bool P)] [1,8,10] [] [1,2,0] ?_ ?_
   ·refine Z0 ?_
    refine Lw 58 Q (fun f=> ?_) fun f=> ?_
    ·refine Z0 ?_
     have ⟨S,p,U⟩:=bnd f
     refine Ly (Yl.ia p rfl rfl rfl rfl rfl rfl) ?_
     refine Z0 ?_
     refine Ly (Yl.lo (v:= .int .i64 S.part) 0 ((IntKind.i64.wrap (at_ - 1)).toNat) 2 (aV p).2 rfl rfl rfl rfl (fun _=>rfl)) ?_
     refine Z0 ?_
     cases U
     exact Eg0 [1,1,0] 0
    refine Z0 ?_
    cases f
    exact Eg0 [1,1,0] 0
   refine Tb R (fun g=> ?_) fun g=> ?_
   ·refine Z0 ?_
    have ⟨i,q,V⟩:=bnd g
    refine Ly (Yl.ia q rfl rfl rfl rfl rfl rfl) ?_
    refine Z0 ?_
    refine Ly (Yl.lo (v:= .int .i64 i.aM) 2 ((IntKind.i64.wrap (at_ - 1)).toNat) 1 (aV q).2 rfl rfl rfl rfl (fun _=>rfl)) ?_
    refine Z0 ?_
    have ⟨ah,s,W⟩:=bnd V
    refine Ly (Yl.ia s rfl rfl rfl rfl rfl rfl) ?_
    refine La [2] [] (Ac.se 0 (aP.mk 32 i.aM 0) (aV s).2 rfl rfl rfl rfl rfl rfl (fun _=>⟨(),rfl,[],rfl⟩)) fun _=> ?_
    refine L.sl 10 (k':=(((((([]:List aP)++r_.l).set at_.toNat (aP.mk x_ aM 0)).set at_.toNat (aP.mk x_ aM 1)).set ((IntKind.i64.wrap (at_+1)).toNat) (aP.mk x_ aM 2)).set ((IntKind.i64.wrap (at_ - 1)).toNat) (aP.mk 32 i.aM 0)).length) (List.length_set ..) rfl ?_
    refine Z0 ?_
    cases W
    exact Eg0 [0,0,0] 0
   refine Z0 ?_
   cases g
   exact Eg0 [2,0,0] 0
  refine Z0 ?_
  cases e
  exact Eg0 [0,0,0] 0
 refine Z1 ?_
 refine L.frz 0 rfl ?_
 have ⟨ai,X,Y⟩:=bnd M
 refine Lk [] [0] (iD X) fun ⟨Z,aa⟩=> ?_
 refine Lt 0 ?_
 refine Z0 ?_
 cases Y
 exact Eo (Z,aa) [] [0] (.cell 0 rfl rfl rfl .nil)
theorem xC {s_:aK} {r_:Int} {r:aK×(List aR)} (H:l7 s_ r_=some r):CT G 82 [.agg (lJ s_ A0 C0).toArray,.int .i64 r_] [] [Im.sl aL A0 C0 s_.g.l] (fun h:(Option Addr×Nat)×(Option Addr×Nat)=> .tuple #[.agg (lJ r.1 h.1.1 h.1.2).toArray,.slice h.2.1 r.2.length h.2.2]) (fun h=>[Ch.arr aL 156 h.2.1 h.2.2 r.2]) (fun h=>[Im.sl aL h.1.1 h.1.2 r.1.g.l]):=by
 delta l7 at H
 refine Cf Go.Proofs.Tryz.func82 fun K=> ?_
 refine Z1 ?_
 refine Lx fun g1=> ?_
 refine Ll fun g2=> ?_
 refine Z1 ?_
 have ⟨r3,h4,H5⟩:=bnd H
 refine Lk [] [] (vy h4) fun ⟨⟩=> ?_
 refine Y2 ?_
 have ⟨e9,C,F⟩:=bnd H5
 refine Tj0 [(24,.bool e9)] [1,2,4,6] [] [0,1] ?_ ?_
 ·refine Z0 ?_
  refine Lw 18 C (fun n=> ?_) fun n=> ?_
  ·refine Z0 ?_
   cases n
   exact Eg0 [0,0] 0
  refine Z0 ?_
  cases n
  exact Eg0 [0,0] 0
 refine Tb F (fun o=> ?_) fun o=> ?_
 ·refine Z1 ?_
  refine Lt 0 ?_
  refine Z0 ?_
  refine E.fR aL 156 ?_
  cases o
  exact Eo ((A0,C0),(none,0)) [0] [0] (.cell 1 rfl rfl rfl (.tmp rfl .nil))
 refine Z1 ?_
 have ⟨a9,I,J⟩:=bnd o
 refine Lk [] [] (nd I) fun ⟨⟩=> ?_
 refine Z1 ?_
 refine La [] [] (Ac.bs (ty:=aL) (xs:=[]) .nil rfl rfl rfl rfl rfl rfl rfl) fun M=> ?_
 refine Y2 ?_
 have ⟨N,O,P⟩:=bnd J
 refine Tj0 [(35,.bool N)] [1,2,4,6,7,8] [] [1,2,0] ?_ ?_
 ·refine Z0 ?_
  refine Lw 32 O (fun p=> ?_) fun p=> ?_
  ·refine Z0 ?_
   cases p
   exact Eg0 [1,1,0] 0
  refine Z0 ?_
  cases p
  exact Eg0 [1,1,0] 0
 have ⟨k,Q,R⟩:=bnd P
 refine Tjh (η:=(Option Addr×Nat)×(Option Addr×Nat)) (fun h=>(fun a b c d=>[(8,.slice a k.1.length b)]) h.1.1 h.1.2 h.2.1 h.2.2) [1,2,4,6,7] (fun h=>(fun a b c d=>[Ch.arr aL 156 a b k.1,Ch.box g1 54 (lJ k.2 c d)]) h.1.1 h.1.2 h.2.1 h.2.2) [0] (fun h=>(fun a b c d=>[Im.sl aL c d k.2.g.l]) h.1.1 h.1.2 h.2.1 h.2.2) ?_ ?_
 ·refine Tb Q (fun q=> ?_) fun q=> ?_
  ·refine Z1 ?_
   have ⟨ba,s,S⟩:=bnd q
   refine L.addr 0 rfl (bX s) fun bb bc U=> ?_
   subst U
   refine Ly (Yl.ia s rfl rfl rfl rfl rfl rfl) ?_
   refine L.el 0 rfl (aV s).2 ?_
   rintro ⟨bd,be⟩
   refine Lc 0 0 ?_
   refine Ll fun bf=> ?_
   refine Lt 0 ?_
   refine Z1 ?_
   refine Lt 0 ?_
   refine Z1 ?_
   have ⟨bg,V,W⟩:=bnd S
   refine Lk [] [2,1] (nf V) fun ⟨bh,bi⟩=> ?_
   refine Lt 2 ?_
   refine Z1 ?_
   refine Lt 0 ?_
   refine Z1 ?_
   have ⟨bj,X,Y⟩:=bnd W
   refine Lk [] [0] (mj X) fun ⟨⟨Z,aa⟩,⟨bk,bl⟩⟩=> ?_
   refine Z0 ?_
   refine Ll fun bm=> ?_
   refine Lt 0 ?_
   refine Z1 ?_
   refine Lt 2 ?_
   refine Z0 ?_
   refine L.frz 2 rfl ?_
   have ⟨_,ab,ac⟩:=bnd Y
   refine La [4] [0] (Ac.ap (ty:=aL) ab rfl rfl rfl rfl rfl rfl rfl) ?_
   rintro ⟨ad,ae⟩
   refine Z0 ?_
   cases ac
   exact Eg ((ad,ae),(Z,aa)) trivial [0,0,2] [1] 5
  refine Z0 ?_
  cases q
  exact Eg (((some ⟨M,0,none⟩),0),(A0,C0)) trivial [2,1,0] [0] 0
 rintro ⟨⟨a,b⟩,⟨c,d⟩⟩
 refine Y2 ?_
 have ⟨af,ag,ah⟩:=bnd R
 refine Tj0 [(67,.bool af)] [1,2,4,6,7,8] [] [1,2,0] ?_ ?_
 ·refine Z0 ?_
  refine Lw 59 ag (fun t=> ?_) fun t=> ?_
  ·refine Z0 ?_
   cases t
   exact Eg0 [1,1,0] 0
  refine Z0 ?_
  cases t
  exact Eg0 [1,1,0] 0
 have ⟨m,ai,aj⟩:=bnd ah
 refine Tjh (η:=(Option Addr×Nat)×(Option Addr×Nat)) (fun h=>(fun e f i j=>[(8,.slice e m.1.length f)]) h.1.1 h.1.2 h.2.1 h.2.2) [1,2,4,6,7] (fun h=>(fun e f i j=>[Ch.arr aL 156 e f m.1,Ch.box g1 54 (lJ m.2 i j)]) h.1.1 h.1.2 h.2.1 h.2.2) [1] (fun h=>(fun e f i j=>[Im.sl aL i j m.2.g.l]) h.1.1 h.1.2 h.2.1 h.2.2) ?_ ?_
 ·refine Tb ai (fun u=> ?_) fun u=> ?_
  ·refine Z1 ?_
   refine Tb u (fun v=> ?_) fun v=> ?_
   ·refine Y1 ?_
    refine Td [11] [0,0,0] mo ?_
    refine Db 0 0 ?_
    refine Dq 1 ?_
    refine Dq 2 ?_
    refine Db 3 0 ?_
    refine Dq 4 ?_
    refine Db 5 0 ?_
    have ⟨bn,w,ak⟩:=bnd v
    refine D.addr 0 rfl (bX w) fun bo bp al=> ?_
    subst al
    refine Dy 6 (Yl.ia w rfl rfl rfl rfl rfl rfl) ?_
    refine D.el 0 rfl (aV w).2 ?_
    rintro ⟨bq,br⟩
    refine Dy 7 (Yl.ldc 0 0 rfl rfl rfl rfl) ?_
    refine Dq 8 ?_
    have ⟨bt,am,an⟩:=bnd ak
    refine Dk [] [1] (xB am) fun ⟨bu,bv⟩=> ?_
    have ⟨bw,ao,aq⟩:=bnd an
    refine Dk [] [3,0] (nf ao) fun ⟨bx,bz⟩=> ?_
    refine Dt 0 ?_
    refine Dn ?_
    refine Z1 ?_
    refine Lt 0 ?_
    refine Z1 ?_
    have ⟨b0,ar,au⟩:=bnd aq
    refine Lk [] [0] (mj ar) fun ⟨⟨av,aw⟩,⟨b1,b2⟩⟩=> ?_
    refine Z0 ?_
    refine Ll fun b3=> ?_
    refine Lt 0 ?_
    refine Z1 ?_
    refine Lt 2 ?_
    refine Z0 ?_
    refine L.frz 2 rfl ?_
    have ⟨_,ax,ay⟩:=bnd au
    refine La [3] [0] (Ac.ap (ty:=aL) ax rfl rfl rfl rfl rfl rfl rfl) ?_
    rintro ⟨az,a0⟩
    refine Z0 ?_
    cases ay
    exact Eg ((az,a0),(av,aw)) trivial [0,0,1] [1] 6
   refine Z0 ?_
   refine Lt 0 ?_
   refine Z0 ?_
   cases v
   exact Eg ((a,b),(c,d)) trivial [2,0,0] [0] 0
  refine Z0 ?_
  cases u
  exact Eg ((a,b),(c,d)) trivial [2,0,0] [0] 0
 rintro ⟨⟨e,f⟩,⟨i,j⟩⟩
 refine Y1 ?_
 refine Td [14] [0,0,0] mo ?_
 refine Db 0 1 ?_
 refine Dq 1 ?_
 refine Dq 2 ?_
 refine Db 3 1 ?_
 refine Dq 4 ?_
 refine Db 5 1 ?_
 have ⟨b4,x,a1⟩:=bnd aj
 refine D.addr 0 rfl (bX x) fun b5 b6 a2=> ?_
 subst a2
 refine Dy 6 (Yl.ia x rfl rfl rfl rfl rfl rfl) ?_
 refine D.el 0 rfl (aV x).2 ?_
 rintro ⟨b7,b8⟩
 refine Dy 7 (Yl.ldc 0 0 rfl rfl rfl rfl) ?_
 refine Dq 8 ?_
 refine Db 9 1 ?_
 refine Dq 10 ?_
 refine Dq 11 ?_
 have ⟨b9,a3,a4⟩:=bnd a1
 refine Dk [] [1] (yX a3) fun ⟨ca,cb⟩=> ?_
 have ⟨cc,a5,a6⟩:=bnd a4
 refine Dk [] [3,0] (nf a5) fun ⟨y,z⟩=> ?_
 refine Dt 1 ?_
 refine Dn ?_
 refine Z1 ?_
 refine Lt 0 ?_
 refine Z1 ?_
 refine Lt 0 ?_
 refine Z2 ?_
 have ⟨B,a7,a8⟩:=bnd a6
 refine Tjh (η:=Unit) (fun _=>[]) [2,4,8] (fun h=>[Ch.box g1 54 (lJ B y z)]) [2,1] (fun h=>[Im.sl aL y z B.g.l]) ?_ ?_
 ·refine Tb a7 (fun A=> ?_) fun A=> ?_
  ·refine Z0 ?_
   refine Lt 0 ?_
   refine Z0 ?_
   cases A
   exact Eg () trivial [0,1,0] [0] 0
  refine Z0 ?_
  cases A
  exact Eg () trivial [0,1,0] [0] 0
 rintro ⟨⟩
 refine Z1 ?_
 refine Lt 1 ?_
 refine Z0 ?_
 cases a8
 exact Eo ((y,z),(e,f)) [2] [0] (.cell 0 rfl rfl rfl (.tmp rfl .nil))
theorem kV {l:List Int} {i:Int} {d:Int} {r:Int} (H:dY l i d=some r):CT G 87 [.slice A0 l.length C0,.int .i64 i,.int .i64 d] [] [Im.sl (Ty.int .i64) A0 C0 l] (fun _:Unit=> .int .i64 r) (fun h=>[]) (fun h=>[]):=by
 delta dY at H
 refine Cf Go.Proofs.Tryz.func87 fun K=> ?_
 refine Y3 ?_
 have ⟨f,g,j⟩:=bnd H
 refine Tj0 [(17,.bool f)] [0,1,2] [] [] ?_ ?_
 ·refine Z0 ?_
  refine Lw 11 g (fun a=> ?_) fun a=> ?_
  ·refine Z0 ?_
   have ⟨p,b,k⟩:=bnd a
   refine L.addr 0 rfl (bX b) fun q s m=> ?_
   subst m
   refine Ly (Yl.ia b rfl rfl rfl rfl rfl rfl) ?_
   refine L.el 0 rfl (aV b).2 ?_
   rintro _
   refine Lc 0 0 ?_
   refine Z0 ?_
   cases k
   exact Eg0 [] 1
  refine Z0 ?_
  cases a
  exact Eg0 [] 0
 refine Tb j (fun c=> ?_) fun c=> ?_
 ·refine Z1 ?_
  have ⟨t,e,n⟩:=bnd c
  refine L.addr 0 rfl (bX e) fun u v o=> ?_
  subst o
  refine Ly (Yl.ia e rfl rfl rfl rfl rfl rfl) ?_
  refine L.el 0 rfl (aV e).2 ?_
  rintro _
  refine Lc 0 0 ?_
  refine Z0 ?_
  cases n
  exact Eo1 () [] []
 refine Z1 ?_
 cases c
 exact Eo1 () [] []
theorem vU {r_:aR} {from_:Int} {to:Int} {aM:Int} {r:aR} (H:km r_ from_ to aM=some r):CT G 169 [.agg #[.slice A0 r_.l.length C0,.bool r_.wrapped],.int .i64 from_,.int .i64 to,.int .i64 aM] [] [Im.sl bD A0 C0 r_.l] (fun h:(Option Addr×Nat)=> .agg #[.slice h.1 r.l.length h.2,.bool r.wrapped]) (fun h=>[]) (fun h=>[Im.sl bD h.1 h.2 r.l]):=by
 delta km at H
 refine Cf Go.Proofs.Tryz.func169 fun K=> ?_
 refine Z1 ?_
 refine Lx fun g1=> ?_
 refine Ll fun g2=> ?_
 refine Z1 ?_
 refine La [] [] (Ac.bs (ty:=bD) (xs:=[]) .nil rfl rfl rfl rfl rfl rfl rfl) fun g3=> ?_
 refine Z0 ?_
 have ⟨_,h5,H6⟩:=bnd H
 refine La [0] [0] (Ac.ap (ty:=bD) h5 rfl rfl rfl rfl rfl rfl rfl) ?_
 rintro ⟨a7,c8⟩
 refine Z2 ?_
 have ⟨b,i,j⟩:=bnd H6
 refine Tj0 [(9,.slice a7 b.length c8)] [8] [Ch.arr bD 225 a7 c8 b] [1,2] ?_ ?_
 ·refine Yl0 ?_
  refine Tq (η:=Unit) (fun a h=>[(9,.slice a7 a.2.length c8),(17,.int .i64 a.1)]) [1,2,3,8,16] (fun a h=>[Ch.arr bD 225 a7 c8 a.2]) [1,2] (fun _ _=>[]) () [0,0,0] [] i ?_
  rintro k_ a ⟨⟩ A k m n
  refine Y2 ?_
  refine Tb k (fun c=> ?_) fun c=> ?_
  ·refine Y1 ?_
   have ⟨g,o,p⟩:=bnd c
   refine Tj0 [(9,.slice a7 g.length c8)] [1,2,3,8,16,17] [Ch.arr bD 225 a7 c8 g] [1,2] ?_ ?_
   ·refine Zl ?_
    refine Y2 ?_
    have ⟨q,s,t⟩:=bnd o
    refine Tj0 [(27,.bool q)] [1,2,3,8,9,10,16,17] [] [1,2,0] ?_ ?_
    ·refine Z0 ?_
     refine Lw 23 s (fun d=> ?_) fun d=> ?_
     ·refine Z0 ?_
      cases d
      exact Eg0 [1,1,0] 0
     refine Z0 ?_
     cases d
     exact Eg0 [1,1,0] 0
    refine Tb t (fun e=> ?_) fun e=> ?_
    ·refine Z0 ?_
     have ⟨B,f,u⟩:=bnd e
     refine L.jd 2 rfl (bX f) fun C v=> ?_
     subst v
     refine Ly (Yl.ia f rfl rfl rfl rfl rfl rfl) ?_
     refine La [2] [] (Ac.se 0 (aP.mk 32 aM 0) (aV f).2 rfl rfl rfl rfl rfl rfl (fun _=>⟨(),rfl,[],rfl⟩)) fun _=> ?_
     refine L.sl 9 (k':=(a.2.set a.1.toNat (aP.mk 32 aM 0)).length) (List.length_set ..) rfl ?_
     refine Z0 ?_
     cases u
     exact Eg0 [0,0,0] 0
    refine Z0 ?_
    cases e
    exact Eg0 [2,0,0] 0
   refine Z0 ?_
   cases p
   exact Eg (_,()) (m _ rfl) [0,0,0] [] 0
  refine Z0 ?_
  cases c
  have hb:=n _ rfl
  subst b
  exact Eg0 [0,0,0] 0
 refine Z1 ?_
 refine L.frz 0 rfl ?_
 have ⟨F,w,x⟩:=bnd j
 refine Lk [] [0] (iD w) fun ⟨y,z⟩=> ?_
 refine Lt 0 ?_
 refine Z0 ?_
 cases x
 exact Eo (y,z) [] [0] (.cell 0 rfl rfl rfl .nil)
theorem ou {s_:aK} {y:Int} {from_:Int} {to:Int} {r:aK} (H:iG s_ y from_ to=some r):CT G 126 [.agg (lJ s_ A0 C0).toArray,.int .i64 y,.int .i64 from_,.int .i64 to] [] [Im.sl aL A0 C0 s_.g.l] (fun h:(Option Addr×Nat)=> .agg (lJ r h.1 h.2).toArray) (fun h=>[]) (fun h=>[Im.sl aL h.1 h.2 r.g.l]):=by
 delta iG at H
 refine Cf Go.Proofs.Tryz.func126 fun K=> ?_
 refine Z1 ?_
 refine Lx fun g1=> ?_
 refine Ll fun g2=> ?_
 refine Y1 ?_
 refine Td [20] [0,0] mo ?_
 refine Dq 0 ?_
 refine Db 1 1 ?_
 refine Dq 2 ?_
 refine Dq 3 ?_
 refine Dq 4 ?_
 refine Db 5 1 ?_
 refine Dq 6 ?_
 have ⟨o,a,b⟩:=bnd H
 refine D.addr 0 rfl (bX a) fun p q c=> ?_
 subst c
 refine Dy 7 (Yl.ia a rfl rfl rfl rfl rfl rfl) ?_
 refine D.el 0 rfl (aV a).2 ?_
 rintro ⟨s,t⟩
 refine Dy 8 (Yl.ldc 0 0 rfl rfl rfl rfl) ?_
 refine Dq 9 ?_
 refine Dq 10 ?_
 refine Dq 11 ?_
 refine Db 12 1 ?_
 have ⟨u,d,e⟩:=bnd b
 refine Dk [] [] (nd d) fun ⟨⟩=> ?_
 have ⟨v,f,i⟩:=bnd e
 refine Dk [] [1] (vU f) fun ⟨w,x⟩=> ?_
 have ⟨z,j,k⟩:=bnd i
 refine Dk [] [3,0] (tY j) fun ⟨m,n⟩=> ?_
 refine Dq 16 ?_
 refine Dq 17 ?_
 refine Dq 18 ?_
 refine Dq 19 ?_
 refine Dt 1 ?_
 refine Dn ?_
 refine Z1 ?_
 refine Lt 1 ?_
 refine Z0 ?_
 cases k
 exact Eo (m,n) [] [0] (.cell 0 rfl rfl rfl .nil)
theorem ri {s_:aK} {n_:Int} {all:Bool} {r:aK} (H:ko s_ n_ all=some r):CT G 125 [.agg (lJ s_ A0 C0).toArray,.int .i64 n_,.bool all] [] [Im.sl aL A0 C0 s_.g.l] (fun h:(Option Addr×Nat)=> .agg (lJ r h.1 h.2).toArray) (fun h=>[]) (fun h=>[Im.sl aL h.1 h.2 r.g.l]):=by
 delta ko at H
 refine Cf Go.Proofs.Tryz.func125 fun K=> ?_
 refine Z1 ?_
 refine Lx fun g1=> ?_
 refine Ll fun g2=> ?_
 refine Z2 ?_
 refine Tb H (fun H4=> ?_) fun H4=> ?_
 ·refine Z1 ?_
  refine Lt 0 ?_
  refine Z0 ?_
  cases H4
  exact Eo (A0,C0) [] [0] (.cell 0 rfl rfl rfl .nil)
 refine Z2 ?_
 have ⟨j,w,x⟩:=bnd H4
 refine Tjh (η:=(Option Addr×Nat)) (fun _=>[]) [1,3,6] (fun h=>(fun f i=>[Ch.box g1 54 (lJ j f i)]) h.1 h.2) [0] (fun h=>(fun f i=>[Im.sl aL f i j.g.l]) h.1 h.2) ?_ ?_
 ·refine Yl0 ?_
  refine Tq (η:=(Option Addr×Nat)) (fun c h=>(fun a b=>[(17,.int .i64 c.2)]) h.1 h.2) [1,2,3,6,16] (fun c h=>(fun a b=>[Ch.box g1 54 (lJ c.1 a b)]) h.1 h.2) [0] (fun c h=>(fun a b=>[Im.sl aL a b c.1.g.l]) h.1 h.2) (A0,C0) [1,0] [0] w ?_
  rintro k_ c ⟨a,b⟩ ab y z A
  refine Y2 ?_
  refine Tb y (fun k=> ?_) fun k=> ?_
  ·refine Y1 ?_
   have ⟨v,B,C⟩:=bnd k
   refine Tjh (η:=(Option Addr×Nat)) (fun _=>[]) [1,2,3,6,16,17] (fun h=>(fun d e=>[Ch.box g1 54 (lJ v d e)]) h.1 h.2) [1] (fun h=>(fun d e=>[Im.sl aL d e v.g.l]) h.1 h.2) ?_ ?_
   ·refine Zl ?_
    refine Y2 ?_
    have ⟨F,I,J⟩:=bnd B
    refine Tj0 [(40,.bool F)] [1,2,3,6,7,16,17] [] [0,1] ?_ ?_
    ·refine Z0 ?_
     refine Lw 21 I (fun m=> ?_) fun m=> ?_
     ·refine Z0 ?_
      refine Lw 26 m (fun n=> ?_) fun n=> ?_
      ·refine Z0 ?_
       refine Lw 30 n (fun o=> ?_) fun o=> ?_
       ·refine Z0 ?_
        cases o
        exact Eg0 [0,0] 0
       refine Z0 ?_
       refine Lw 35 o (fun p=> ?_) fun p=> ?_
       ·refine Z0 ?_
        cases p
        exact Eg0 [0,0] 0
       refine Z0 ?_
       cases p
       exact Eg0 [0,0] 0
      refine Z0 ?_
      refine Lw 35 n (fun q=> ?_) fun q=> ?_
      ·refine Z0 ?_
       cases q
       exact Eg0 [0,0] 0
      refine Z0 ?_
      cases q
      exact Eg0 [0,0] 0
     refine Z0 ?_
     cases m
     exact Eg0 [0,0] 0
    refine Tb J (fun s=> ?_) fun s=> ?_
    ·refine Z0 ?_
     have ⟨ac,M,N⟩:=bnd s
     refine Lk [] [0] (ou M) fun ⟨O,P⟩=> ?_
     refine Lt 0 ?_
     refine Z0 ?_
     cases N
     exact Eg (O,P) trivial [0,0] [0] 1
    refine Z0 ?_
    cases s
    exact Eg (a,b) trivial [0,0] [0] 0
   rintro ⟨d,e⟩
   refine Z0 ?_
   cases C
   exact Eg (_,(d,e)) (z _ rfl) [0,0] [0] 2
  refine Z0 ?_
  cases k
  have hb:=A _ rfl
  subst j
  exact Eg (a,b) trivial [0,0] [0] 1
 rintro ⟨f,i⟩
 refine Z3 ?_
 refine Z1 ?_
 have ⟨Q,R,S⟩:=bnd x
 refine Tj0 [(8,.int .i64 Q)] [1,3,6,9] [] [0,1] ?_ ?_
 ·refine Tb R (fun t=> ?_) fun t=> ?_
  ·refine Z0 ?_
   cases t
   exact Eg0 [0,0] 0
  refine Z0 ?_
  cases t
  exact Eg0 [0,0] 0
 refine Z2 ?_
 have ⟨U,V,W⟩:=bnd S
 refine Tj0 [(9,.int .i64 U)] [3,6,8] [] [0,1] ?_ ?_
 ·refine Tb V (fun u=> ?_) fun u=> ?_
  ·refine Z0 ?_
   cases u
   exact Eg0 [0,0] 0
  refine Z0 ?_
  cases u
  exact Eg0 [0,0] 0
 refine Z1 ?_
 have ⟨ad,X,Y⟩:=bnd W
 refine Lk [] [0] (ou X) fun ⟨Z,aa⟩=> ?_
 refine Lt 0 ?_
 refine Z1 ?_
 refine Lt 0 ?_
 refine Z1 ?_
 refine Lt 1 ?_
 refine Z0 ?_
 cases Y
 exact Eo (Z,aa) [] [0] (.cell 0 rfl rfl rfl .nil)
theorem vz {r_:aR} {at_:Int} {n_:Int} {aM:Int} {r:aR} (H:jN r_ at_ n_ aM=some r):CT G 127 [.agg #[.slice A0 r_.l.length C0,.bool r_.wrapped],.int .i64 at_,.int .i64 n_,.int .i64 aM] [] [Im.sl bD A0 C0 r_.l] (fun h:(Option Addr×Nat)=> .agg #[.slice h.1 r.l.length h.2,.bool r.wrapped]) (fun h=>[]) (fun h=>[Im.sl bD h.1 h.2 r.l]):=by
 delta jN at H
 refine Cf Go.Proofs.Tryz.func127 fun K=> ?_
 refine Z1 ?_
 refine Lx fun g1=> ?_
 refine Ll fun g2=> ?_
 refine Y2 ?_
 have ⟨e8,H9,d⟩:=bnd H
 refine Tj0 [(22,.bool e8)] [1,2,3,4,8] [] [0,1] ?_ ?_
 ·refine Z0 ?_
  refine Lw 12 H9 (fun a=> ?_) fun a=> ?_
  ·refine Z0 ?_
   cases a
   exact Eg0 [0,0] 0
  refine Z0 ?_
  refine Lw 19 a (fun b=> ?_) fun b=> ?_
  ·refine Z0 ?_
   cases b
   exact Eg0 [0,0] 0
  refine Z0 ?_
  cases b
  exact Eg0 [0,0] 0
 refine Tb d (fun c=> ?_) fun c=> ?_
 ·refine Z1 ?_
  have ⟨B,e,f⟩:=bnd c
  refine Lk [] [0] (iD e) fun ⟨g,i⟩=> ?_
  refine Lt 0 ?_
  refine Z0 ?_
  cases f
  exact Eo (g,i) [] [0] (.cell 0 rfl rfl rfl .nil)
 refine Z2 ?_
 refine La [] [] (Ac.bs (ty:=bD) (xs:=[]) .nil rfl rfl rfl rfl rfl rfl rfl) fun C=> ?_
 refine Z0 ?_
 have ⟨_,j,k⟩:=bnd c
 refine L.rs 0 j rfl rfl rfl rfl rfl rfl rfl rfl rfl rfl rfl rfl ?_
 intro F I
 have ⟨_,m,n⟩:=bnd k
 refine La [0] [0] (Ac.ap (ty:=bD) m rfl rfl rfl rfl rfl rfl rfl) ?_
 rintro ⟨J,M⟩
 refine Z1 ?_
 have ⟨N,o,p⟩:=bnd n
 refine Lk [] [] (kr o) fun ⟨O,P⟩=> ?_
 refine Z0 ?_
 have ⟨_,q,s⟩:=bnd p
 refine La [0] [0] (Ac.ap (ty:=bD) q rfl rfl rfl rfl rfl rfl rfl) ?_
 rintro ⟨Q,R⟩
 refine Z1 ?_
 have ⟨_,t,u⟩:=bnd s
 refine L.rs 2 t rfl rfl rfl rfl rfl rfl rfl rfl rfl rfl rfl rfl ?_
 intro S U
 have ⟨_,v,w⟩:=bnd u
 refine La [0] [0] (Ac.ap (ty:=bD) v rfl rfl rfl rfl rfl rfl rfl) ?_
 rintro ⟨V,W⟩
 refine Z1 ?_
 refine L.frz 0 rfl ?_
 have ⟨X,x,y⟩:=bnd w
 refine Lk [] [0] (iD x) fun ⟨z,A⟩=> ?_
 refine Lt 0 ?_
 refine Z0 ?_
 cases y
 exact Eo (z,A) [] [0] (.cell 0 rfl rfl rfl .nil)
theorem vA {r_:aR} {at_:Int} {n_:Int} {aM:Int} {r:aR} (H:jO r_ at_ n_ aM=some r):CT G 128 [.agg #[.slice A0 r_.l.length C0,.bool r_.wrapped],.int .i64 at_,.int .i64 n_,.int .i64 aM] [] [Im.sl bD A0 C0 r_.l] (fun h:(Option Addr×Nat)=> .agg #[.slice h.1 r.l.length h.2,.bool r.wrapped]) (fun h=>[]) (fun h=>[Im.sl bD h.1 h.2 r.l]):=by
 delta jO at H
 refine Cf Go.Proofs.Tryz.func128 fun K=> ?_
 refine Z1 ?_
 refine Lx fun g1=> ?_
 refine Ll fun g2=> ?_
 refine Y2 ?_
 have ⟨e8,H9,d⟩:=bnd H
 refine Tj0 [(22,.bool e8)] [1,2,3,4,8] [] [0,1] ?_ ?_
 ·refine Z0 ?_
  refine Lw 12 H9 (fun a=> ?_) fun a=> ?_
  ·refine Z0 ?_
   cases a
   exact Eg0 [0,0] 0
  refine Z0 ?_
  refine Lw 19 a (fun b=> ?_) fun b=> ?_
  ·refine Z0 ?_
   cases b
   exact Eg0 [0,0] 0
  refine Z0 ?_
  cases b
  exact Eg0 [0,0] 0
 refine Tb d (fun c=> ?_) fun c=> ?_
 ·refine Z1 ?_
  have ⟨B,e,f⟩:=bnd c
  refine Lk [] [0] (iD e) fun ⟨g,i⟩=> ?_
  refine Lt 0 ?_
  refine Z0 ?_
  cases f
  exact Eo (g,i) [] [0] (.cell 0 rfl rfl rfl .nil)
 refine Z2 ?_
 refine La [] [] (Ac.bs (ty:=bD) (xs:=[]) .nil rfl rfl rfl rfl rfl rfl rfl) fun C=> ?_
 refine Z0 ?_
 have ⟨_,j,k⟩:=bnd c
 refine L.rs 0 j rfl rfl rfl rfl rfl rfl rfl rfl rfl rfl rfl rfl ?_
 intro F I
 have ⟨_,m,n⟩:=bnd k
 refine La [0] [0] (Ac.ap (ty:=bD) m rfl rfl rfl rfl rfl rfl rfl) ?_
 rintro ⟨J,M⟩
 refine Z1 ?_
 have ⟨_,o,p⟩:=bnd n
 refine L.rs 1 o rfl rfl rfl rfl rfl rfl rfl rfl rfl rfl rfl rfl ?_
 intro N O
 have ⟨_,q,s⟩:=bnd p
 refine La [0] [0] (Ac.ap (ty:=bD) q rfl rfl rfl rfl rfl rfl rfl) ?_
 rintro ⟨P,Q⟩
 refine Z1 ?_
 have ⟨R,t,u⟩:=bnd s
 refine Lk [] [] (kr t) fun ⟨S,U⟩=> ?_
 refine Z0 ?_
 have ⟨_,v,w⟩:=bnd u
 refine La [0] [0] (Ac.ap (ty:=bD) v rfl rfl rfl rfl rfl rfl rfl) ?_
 rintro ⟨V,W⟩
 refine L.frz 0 rfl ?_
 have ⟨X,x,y⟩:=bnd w
 refine Lk [] [0] (iD x) fun ⟨z,A⟩=> ?_
 refine Lt 0 ?_
 refine Z0 ?_
 cases y
 exact Eo (z,A) [] [0] (.cell 0 rfl rfl rfl .nil)
theorem yY {s_:bK} {l:List Int} {r:bK} (H:mW s_ l=some r):CT G 129 [.agg (sE s_).toArray,.slice A0 l.length C0] [] [Im.sl (Ty.int .i64) A0 C0 l] (fun _:Unit=> .agg (sE r).toArray) (fun h=>[]) (fun h=>[]):=by
 delta mW at H
 refine Cf Go.Proofs.Tryz.func129 fun K=> ?_
 refine Z1 ?_
 refine Lx fun g1=> ?_
 refine Ll fun g2=> ?_
 refine Z2 ?_
 refine Tb H (fun H4=> ?_) fun H4=> ?_
 ·refine Z1 ?_
  refine Lt 0 ?_
  refine Z0 ?_
  cases H4
  exact Eo () [] [] (.cell 0 rfl rfl rfl .nil)
 refine Z3 ?_
 have ⟨A,I,J⟩:=bnd H4
 refine Tj0 [] [2,4] [Ch.box g1 52 (sE A)] [0] ?_ ?_
 ·refine Yl0 ?_
  refine Tq (η:=Unit) (fun a h=>[(5,.int .i64 a.2.2),(14,.int .i64 a.2.1)]) [1,2,4,12,13] (fun a h=>[Ch.box g1 52 (sE a.1)]) [0] (fun _ _=>[]) () [1,0] [] I ?_
  rintro k_ a ⟨⟩ bn M N O
  refine Y2 ?_
  refine Tb M (fun b=> ?_) fun b=> ?_
  ·refine Y1 ?_
   have ⟨B,P,Q⟩:=bnd b
   refine Tj0 [(5,.int .i64 B.1)] [1,2,4,12,13,14] [Ch.box g1 52 (sE B.2)] [1] ?_ ?_
   ·refine Zl ?_
    refine Z1 ?_
    have ⟨bo,c,R⟩:=bnd P
    refine L.addr 0 rfl (bX c) fun bp bq S=> ?_
    subst S
    refine Ly (Yl.ia c rfl rfl rfl rfl rfl rfl) ?_
    refine L.el 0 rfl (aV c).2 ?_
    rintro _
    refine Lc 0 0 ?_
    refine Z2 ?_
    refine Tb R (fun d=> ?_) fun d=> ?_
    ·refine Z1 ?_
     cases d
     exact Eg0 [0,0] 1
    refine Y2 ?_
    have ⟨U,V,W⟩:=bnd d
    refine Tj0 [(28,.bool U)] [1,2,4,5,6,7,12,13,14] [] [0,1] ?_ ?_
    ·refine Z0 ?_
     refine Lw 25 V (fun e=> ?_) fun e=> ?_
     ·refine Z0 ?_
      cases e
      exact Eg0 [0,0] 0
     refine Z0 ?_
     cases e
     exact Eg0 [0,0] 0
    refine Tb W (fun f=> ?_) fun f=> ?_
    ·refine Y2 ?_
     have ⟨X,Y,Z⟩:=bnd f
     refine Tj0 [(41,.bool X)] [1,2,4,5,6,12,13,14] [] [0,1] ?_ ?_
     ·refine Z0 ?_
      refine Lw 34 Y (fun g=> ?_) fun g=> ?_
      ·refine Z0 ?_
       have ⟨br,C,aa⟩:=bnd g
       refine Ly (Yl.ia C rfl rfl rfl rfl rfl rfl) ?_
       refine L.el 1 rfl (aV C).2 ?_
       rintro _
       refine Lc 0 0 ?_
       refine Z0 ?_
       cases aa
       exact Eg0 [0,0] 1
      refine Z0 ?_
      cases g
      exact Eg0 [0,0] 0
     have ⟨ab,ac,ad⟩:=bnd Z
     refine Tj0 [(5,.int .i64 ab)] [1,2,4,6,12,13,14] [] [0,1] ?_ ?_
     ·refine Tb ac (fun i=> ?_) fun i=> ?_
      ·refine Z0 ?_
       cases i
       exact Eg0 [0,0] 0
      refine Z0 ?_
      cases i
      exact Eg0 [0,0] 0
     refine Y2 ?_
     have ⟨ae,af,ag⟩:=bnd ad
     refine Tj0 [(54,.bool ae)] [1,2,4,5,12,13,14] [] [0,1] ?_ ?_
     ·refine Z0 ?_
      refine Lw 47 af (fun j=> ?_) fun j=> ?_
      ·refine Z0 ?_
       have ⟨bs,F,ah⟩:=bnd j
       refine Ly (Yl.ia F rfl rfl rfl rfl rfl rfl) ?_
       refine L.el 1 rfl (aV F).2 ?_
       rintro _
       refine Lc 0 0 ?_
       refine Z0 ?_
       cases ah
       exact Eg0 [0,0] 1
      refine Z0 ?_
      cases j
      exact Eg0 [0,0] 0
     have ⟨ai,aj,ak⟩:=bnd ag
     refine Tj0 [(5,.int .i64 ai)] [1,2,4,12,13,14] [] [0,1] ?_ ?_
     ·refine Tb aj (fun k=> ?_) fun k=> ?_
      ·refine Z0 ?_
       cases k
       exact Eg0 [0,0] 0
      refine Z0 ?_
      cases k
      exact Eg0 [0,0] 0
     refine Z0 ?_
     cases ak
     exact Eg0 [0,0] 1
    refine Z2 ?_
    have ⟨al,am,an⟩:=bnd f
    refine Tj0 [] [1,2,4,5,7,12,13,14] [Ch.box g1 52 (sE al)] [1] ?_ ?_
    ·refine Tb am (fun m=> ?_) fun m=> ?_
     ·refine Z0 ?_
      refine Lt 0 ?_
      refine Z0 ?_
      cases m
      exact Eg0 [0,0] 0
     refine Z0 ?_
     cases m
     exact Eg0 [0,0] 0
    refine Y2 ?_
    have ⟨ao,ap,aq⟩:=bnd an
    refine Tj0 [(63,.bool ao)] [1,2,4,5,7,12,13,14] [] [0,1] ?_ ?_
    ·refine Z0 ?_
     refine Lw 60 ap (fun n=> ?_) fun n=> ?_
     ·refine Z0 ?_
      cases n
      exact Eg0 [0,0] 0
     refine Z0 ?_
     cases n
     exact Eg0 [0,0] 0
    have ⟨ar,au,av⟩:=bnd aq
    refine Tj0 [] [1,2,4,5,7,12,13,14] [Ch.box g1 52 (sE ar)] [1] ?_ ?_
    ·refine Tb au (fun o=> ?_) fun o=> ?_
     ·refine Z0 ?_
      refine Lt 0 ?_
      refine Z0 ?_
      cases o
      exact Eg0 [0,0] 0
     refine Z0 ?_
     cases o
     exact Eg0 [0,0] 0
    refine Y2 ?_
    have ⟨aw,ax,ay⟩:=bnd av
    refine Tj0 [(72,.bool aw)] [1,2,4,5,7,12,13,14] [] [0,1] ?_ ?_
    ·refine Z0 ?_
     refine Lw 69 ax (fun p=> ?_) fun p=> ?_
     ·refine Z0 ?_
      cases p
      exact Eg0 [0,0] 0
     refine Z0 ?_
     cases p
     exact Eg0 [0,0] 0
    have ⟨az,a0,a1⟩:=bnd ay
    refine Tj0 [] [1,2,4,5,7,12,13,14] [Ch.box g1 52 (sE az)] [1] ?_ ?_
    ·refine Tb a0 (fun q=> ?_) fun q=> ?_
     ·refine Z0 ?_
      refine Lt 0 ?_
      refine Z0 ?_
      cases q
      exact Eg0 [0,0] 0
     refine Z0 ?_
     cases q
     exact Eg0 [0,0] 0
    refine Y2 ?_
    have ⟨a2,a3,a4⟩:=bnd a1
    refine Tj0 [(81,.bool a2)] [1,2,4,5,7,12,13,14] [] [0,1] ?_ ?_
    ·refine Z0 ?_
     refine Lw 78 a3 (fun s=> ?_) fun s=> ?_
     ·refine Z0 ?_
      cases s
      exact Eg0 [0,0] 0
     refine Z0 ?_
     cases s
     exact Eg0 [0,0] 0
    have ⟨a5,a6,a7⟩:=bnd a4
    refine Tj0 [] [1,2,4,5,7,12,13,14] [Ch.box g1 52 (sE a5)] [1] ?_ ?_
    ·refine Tb a6 (fun t=> ?_) fun t=> ?_
     ·refine Z0 ?_
      refine Lt 0 ?_
      refine Z0 ?_
      cases t
      exact Eg0 [0,0] 0
     refine Z0 ?_
     cases t
     exact Eg0 [0,0] 0
    refine Y2 ?_
    have ⟨a8,a9,ba⟩:=bnd a7
    refine Tj0 [(90,.bool a8)] [1,2,4,5,7,12,13,14] [] [0,1] ?_ ?_
    ·refine Z0 ?_
     refine Lw 87 a9 (fun u=> ?_) fun u=> ?_
     ·refine Z0 ?_
      cases u
      exact Eg0 [0,0] 0
     refine Z0 ?_
     cases u
     exact Eg0 [0,0] 0
    have ⟨bb,bc,bd⟩:=bnd ba
    refine Tj0 [] [1,2,4,5,7,12,13,14] [Ch.box g1 52 (sE bb)] [1] ?_ ?_
    ·refine Tb bc (fun v=> ?_) fun v=> ?_
     ·refine Z0 ?_
      refine Lt 0 ?_
      refine Z0 ?_
      cases v
      exact Eg0 [0,0] 0
     refine Z0 ?_
     cases v
     exact Eg0 [0,0] 0
    refine Z2 ?_
    have ⟨be,bf,bg⟩:=bnd bd
    refine Tj0 [] [1,2,4,5,7,12,13,14] [Ch.box g1 52 (sE be)] [1] ?_ ?_
    ·refine Tb bf (fun w=> ?_) fun w=> ?_
     ·refine Z0 ?_
      refine Lt 0 ?_
      refine Z0 ?_
      cases w
      exact Eg0 [0,0] 0
     refine Z0 ?_
     cases w
     exact Eg0 [0,0] 0
    refine Y2 ?_
    have ⟨bh,bi,bj⟩:=bnd bg
    refine Tj0 [(102,.bool bh)] [1,2,4,5,7,12,13,14] [] [0,1] ?_ ?_
    ·refine Z0 ?_
     refine Lw 99 bi (fun x=> ?_) fun x=> ?_
     ·refine Z0 ?_
      cases x
      exact Eg0 [0,0] 0
     refine Z0 ?_
     cases x
     exact Eg0 [0,0] 0
    have ⟨bk,bl,bm⟩:=bnd bj
    refine Tj0 [] [1,2,4,5,7,12,13,14] [Ch.box g1 52 (sE bk)] [1] ?_ ?_
    ·refine Tb bl (fun y=> ?_) fun y=> ?_
     ·refine Z0 ?_
      refine Lt 0 ?_
      refine Z0 ?_
      cases y
      exact Eg0 [0,0] 0
     refine Z0 ?_
     cases y
     exact Eg0 [0,0] 0
    refine Z1 ?_
    refine Tb bm (fun z=> ?_) fun z=> ?_
    ·refine Z0 ?_
     refine Lt 0 ?_
     refine Z0 ?_
     cases z
     exact Eg0 [0,0] 1
    refine Z0 ?_
    cases z
    exact Eg0 [0,0] 1
   refine Z0 ?_
   cases Q
   exact Eg (_,()) (N _ rfl) [0,0] [] 0
  refine Z0 ?_
  cases b
  have hb:=O _ rfl
  subst A
  exact Eg0 [0,0] 0
 refine Z1 ?_
 refine Lt 1 ?_
 refine Z0 ?_
 cases J
 exact Eo () [] [] (.cell 0 rfl rfl rfl .nil)
theorem ue {s_:aK} {b:Int} {l:List Int} {r:aK×(List aR)} (H:kg s_ b l=some r):CT G 86 [.agg (lJ s_ A0 C0).toArray,.int .i64 b,.slice A1 l.length C1] [] [Im.sl aL A0 C0 s_.g.l,Im.sl (Ty.int .i64) A1 C1 l] (fun h:(Option Addr×Nat)×(Option Addr×Nat)=> .tuple #[.agg (lJ r.1 h.1.1 h.1.2).toArray,.slice h.2.1 r.2.length h.2.2]) (fun h=>[Ch.arr aL 156 h.2.1 h.2.2 r.2]) (fun h=>[Im.sl aL h.1.1 h.1.2 r.1.g.l]):=by
 delta kg at H
 refine Cf Go.Proofs.Tryz.func86 fun K=> ?_
 refine Z1 ?_
 refine Lx fun g1=> ?_
 refine Ll fun g2=> ?_
 refine Z1 ?_
 have ⟨r3,h4,H5⟩:=bnd H
 refine Lk [] [1] (kV h4) fun ⟨⟩=> ?_
 refine Z2 ?_
 have ⟨r6,h7,H8⟩:=bnd H5
 refine Lk [] [] (nd h7) fun ⟨⟩=> ?_
 refine Z2 ?_
 have ⟨S,V,U⟩:=bnd H8
 refine Tj (η:=aK×((Option Addr×Nat))) (fun h=>S = .inl h.1) (fun _=>[]) [3,6] (fun h=>(fun d=>(fun a c=>[Ch.box g1 54 (lJ d a c)]) h.2.1 h.2.2) h.1) [0] (fun h=>(fun d=>(fun a c=>[Im.sl aL a c d.g.l]) h.2.1 h.2.2) h.1) ?_ ?_
 ·refine Zl ?_
  refine Z2 ?_
  have ⟨W,X,Y⟩:=bnd V
  refine Tj0 [(25,.bool W)] [1,2,3,6,8,9,10,24] [] [0,1] ?_ ?_
  ·refine Tb X (fun e=> ?_) fun e=> ?_
   ·refine Z0 ?_
    cases e
    exact Eg0 [0,0] 0
   refine Z0 ?_
   cases e
   exact Eg0 [0,0] 0
  refine Tb Y (fun f=> ?_) fun f=> ?_
  ·refine Z3 ?_
   have ⟨Z,aa,ab⟩:=bnd f
   refine Tj0 [(11,.int .i64 Z)] [1,3,6,8] [] [0,1] ?_ ?_
   ·refine Tb aa (fun i=> ?_) fun i=> ?_
    ·refine Z0 ?_
     cases i
     exact Eg0 [0,0] 0
    refine Z0 ?_
    cases i
    exact Eg0 [0,0] 0
   refine Z1 ?_
   have ⟨cv,ac,ad⟩:=bnd ab
   refine Lk [] [0] (dE ac) fun ⟨⟩=> ?_
   refine Lt 1 ?_
   refine Z1 ?_
   refine Tb ad (fun j=> ?_) fun j=> ?_
   ·refine Z0 ?_
    refine Lt 0 ?_
    refine Z0 ?_
    cases j
    exact Eg (_,(A0,C0)) rfl [0,0] [0] 1
   refine Z0 ?_
   cases j
   exact Eg (_,(A0,C0)) rfl [0,0] [0] 1
  refine Z2 ?_
  have ⟨ae,af,ag⟩:=bnd f
  refine Tj0 [(48,.bool ae)] [1,2,3,6,8,9,10,24] [] [0,1] ?_ ?_
  ·refine Tb af (fun k=> ?_) fun k=> ?_
   ·refine Z0 ?_
    cases k
    exact Eg0 [0,0] 0
   refine Z0 ?_
   cases k
   exact Eg0 [0,0] 0
  refine Tb ag (fun m=> ?_) fun m=> ?_
  ·refine Z3 ?_
   have ⟨ah,ai,aj⟩:=bnd m
   refine Tj0 [(12,.int .i64 ah)] [1,3,6,8] [] [0,1] ?_ ?_
   ·refine Tb ai (fun n=> ?_) fun n=> ?_
    ·refine Z0 ?_
     cases n
     exact Eg0 [0,0] 0
    refine Z0 ?_
    cases n
    exact Eg0 [0,0] 0
   refine Z1 ?_
   have ⟨cw,ak,al⟩:=bnd aj
   refine Lk [] [0] (dE ak) fun ⟨⟩=> ?_
   refine Lt 1 ?_
   refine Z1 ?_
   refine Tb al (fun o=> ?_) fun o=> ?_
   ·refine Z0 ?_
    refine Lt 0 ?_
    refine Z0 ?_
    cases o
    exact Eg (_,(A0,C0)) rfl [0,0] [0] 1
   refine Z0 ?_
   cases o
   exact Eg (_,(A0,C0)) rfl [0,0] [0] 1
  refine Z1 ?_
  refine Tb m (fun p=> ?_) fun p=> ?_
  ·refine Z0 ?_
   have ⟨cx,am,an⟩:=bnd p
   refine Lk [] [0] (dE am) fun ⟨⟩=> ?_
   refine Lt 1 ?_
   refine Z0 ?_
   cases an
   exact Eg (_,(A0,C0)) rfl [0,0] [0] 1
  refine Z1 ?_
  refine Tb p (fun q=> ?_) fun q=> ?_
  ·refine Z0 ?_
   have ⟨cy,ao,ap⟩:=bnd q
   refine Lk [] [0] (dE ao) fun ⟨⟩=> ?_
   refine Lt 1 ?_
   refine Z0 ?_
   cases ap
   exact Eg (_,(A0,C0)) rfl [0,0] [0] 1
  refine Z1 ?_
  refine Tb q (fun s=> ?_) fun s=> ?_
  ·refine Z0 ?_
   have ⟨cz,aq,ar⟩:=bnd s
   refine Lk [] [0] (dE aq) fun ⟨⟩=> ?_
   refine Lt 1 ?_
   refine Z0 ?_
   cases ar
   exact Eg (_,(A0,C0)) rfl [0,0] [0] 1
  refine Z1 ?_
  refine Tb s (fun t=> ?_) fun t=> ?_
  ·refine Z0 ?_
   have ⟨c0,au,av⟩:=bnd t
   refine Lk [] [0] (dE au) fun ⟨⟩=> ?_
   refine Lt 1 ?_
   refine Z0 ?_
   cases av
   exact Eg (_,(A0,C0)) rfl [0,0] [0] 1
  refine Z2 ?_
  have ⟨aw,ax,ay⟩:=bnd t
  refine Tj0 [(109,.bool aw)] [1,2,3,6,8,9,10,24] [] [0,1] ?_ ?_
  ·refine Tb ax (fun u=> ?_) fun u=> ?_
   ·refine Z0 ?_
    cases u
    exact Eg0 [0,0] 0
   refine Z0 ?_
   cases u
   exact Eg0 [0,0] 0
  refine Tb ay (fun v=> ?_) fun v=> ?_
  ·refine Td [7] [0,0] mo ?_
   refine Db 0 1 ?_
   refine Dq 1 ?_
   refine Dq 4 ?_
   refine Dq 5 ?_
   have ⟨c1,az,a0⟩:=bnd v
   refine Dk [] [1] (kV az) fun ⟨⟩=> ?_
   refine Dq 3 ?_
   have ⟨c2,a1,a2⟩:=bnd a0
   refine Dk [] [0] (dE a1) fun ⟨⟩=> ?_
   refine Dt 1 ?_
   refine Dn ?_
   refine Z0 ?_
   cases a2
   exact Eg (_,(A0,C0)) rfl [0,0] [0] 1
  refine Z1 ?_
  refine Tb v (fun w=> ?_) fun w=> ?_
  ·refine Td [4] [0,0] mo ?_
   refine Db 0 1 ?_
   refine Dq 1 ?_
   have ⟨c3,a3,a4⟩:=bnd w
   refine Dk [] [1] (kV a3) fun ⟨⟩=> ?_
   have ⟨c4,a5,a6⟩:=bnd a4
   refine Dk [] [0] (ri a5) fun ⟨a7,a8⟩=> ?_
   refine Dt 1 ?_
   refine Dn ?_
   refine Z0 ?_
   cases a6
   exact Eg (_,(a7,a8)) rfl [0,0] [0] 1
  refine Z1 ?_
  refine Tb w (fun x=> ?_) fun x=> ?_
  ·refine Td [4] [0,0] mo ?_
   refine Db 0 1 ?_
   refine Dq 1 ?_
   have ⟨c5,a9,ba⟩:=bnd x
   refine Dk [] [1] (kV a9) fun ⟨⟩=> ?_
   have ⟨c6,bb,bc⟩:=bnd ba
   refine Dk [] [0] (ri bb) fun ⟨bd,be⟩=> ?_
   refine Dt 1 ?_
   refine Dn ?_
   refine Z0 ?_
   cases bc
   exact Eg (_,(bd,be)) rfl [0,0] [0] 1
  refine Z1 ?_
  refine Tb x (fun y=> ?_) fun y=> ?_
  ·refine Z1 ?_
   have ⟨c7,bf,bg⟩:=bnd y
   refine Lk [] [0] (ou bf) fun ⟨bh,bi⟩=> ?_
   refine Lt 1 ?_
   refine Z0 ?_
   refine Lt 0 ?_
   refine Z0 ?_
   cases bg
   exact Eg (_,(bh,bi)) rfl [0,0] [0] 1
  refine Z1 ?_
  refine Tb y (fun z=> ?_) fun z=> ?_
  ·refine Y1 ?_
   refine Td [14] [0,0] mo ?_
   refine Db 0 1 ?_
   refine Dq 1 ?_
   refine Dq 2 ?_
   refine Db 3 1 ?_
   refine Dq 4 ?_
   refine Db 5 1 ?_
   have ⟨c8,A,bj⟩:=bnd z
   refine D.addr 0 rfl (bX A) fun c9 da bk=> ?_
   subst bk
   refine Dy 6 (Yl.ia A rfl rfl rfl rfl rfl rfl) ?_
   refine D.el 0 rfl (aV A).2 ?_
   rintro ⟨db,dc⟩
   refine Dy 7 (Yl.ldc 0 0 rfl rfl rfl rfl) ?_
   refine Dq 8 ?_
   refine Db 9 1 ?_
   refine Dq 10 ?_
   refine Dq 11 ?_
   have ⟨dd,bl,bm⟩:=bnd bj
   refine Dk [] [1] (vz bl) fun ⟨de,df⟩=> ?_
   have ⟨dg,bn,bo⟩:=bnd bm
   refine Dk [] [3,0] (nf bn) fun ⟨bp,bq⟩=> ?_
   refine Dt 1 ?_
   refine Dn ?_
   refine Z0 ?_
   refine Lt 0 ?_
   refine Z0 ?_
   cases bo
   exact Eg (_,(bp,bq)) rfl [0,0] [0] 4
  refine Z1 ?_
  refine Tb z (fun B=> ?_) fun B=> ?_
  ·refine Y1 ?_
   refine Td [14] [0,0] mo ?_
   refine Db 0 1 ?_
   refine Dq 1 ?_
   refine Dq 2 ?_
   refine Db 3 1 ?_
   refine Dq 4 ?_
   refine Db 5 1 ?_
   have ⟨dh,C,br⟩:=bnd B
   refine D.addr 0 rfl (bX C) fun di dj bs=> ?_
   subst bs
   refine Dy 6 (Yl.ia C rfl rfl rfl rfl rfl rfl) ?_
   refine D.el 0 rfl (aV C).2 ?_
   rintro ⟨dk,dl⟩
   refine Dy 7 (Yl.ldc 0 0 rfl rfl rfl rfl) ?_
   refine Dq 8 ?_
   refine Db 9 1 ?_
   refine Dq 10 ?_
   refine Dq 11 ?_
   have ⟨dm,bt,bu⟩:=bnd br
   refine Dk [] [1] (vA bt) fun ⟨dn,dp⟩=> ?_
   have ⟨dq,bv,bw⟩:=bnd bu
   refine Dk [] [3,0] (nf bv) fun ⟨bx,bz⟩=> ?_
   refine Dt 1 ?_
   refine Dn ?_
   refine Z0 ?_
   refine Lt 0 ?_
   refine Z0 ?_
   cases bw
   exact Eg (_,(bx,bz)) rfl [0,0] [0] 4
  refine Z2 ?_
  have ⟨b0,b1,b2⟩:=bnd B
  refine Tj0 [(178,.bool b0)] [1,2,3,6,8,9,10,24] [] [0,1] ?_ ?_
  ·refine Tb b1 (fun F=> ?_) fun F=> ?_
   ·refine Z0 ?_
    cases F
    exact Eg0 [0,0] 0
   refine Z0 ?_
   cases F
   exact Eg0 [0,0] 0
  refine Tb b2 (fun I=> ?_) fun I=> ?_
  ·refine Y1 ?_
   have ⟨b3,b4,b5⟩:=bnd I
   refine Tj0 [(192,.bool b3)] [1,3,6,8,10] [] [0,1] ?_ ?_
   ·refine Z0 ?_
    refine Lw 186 b4 (fun J=> ?_) fun J=> ?_
    ·refine Z0 ?_
     cases J
     exact Eg0 [0,0] 0
    refine Z0 ?_
    cases J
    exact Eg0 [0,0] 0
   refine Tb b5 (fun M=> ?_) fun M=> ?_
   ·refine Z1 ?_
    have ⟨dr,b6,b7⟩:=bnd M
    refine Lk [] [0] (nF b6) fun ⟨⟨b8,b9⟩,⟨ds,dt⟩⟩=> ?_
    refine Z0 ?_
    refine Lt 2 ?_
    refine Z0 ?_
    have ⟨du,ca,cb⟩:=bnd b7
    refine Lk [] [0] (dE ca) fun ⟨⟩=> ?_
    refine Lt 0 ?_
    refine Z0 ?_
    cases cb
    exact Eg (_,(b8,b9)) rfl [0,1] [0] 2
   refine Z0 ?_
   cases M
   exact Eg (_,(A0,C0)) rfl [1,0] [0] 0
  refine Z1 ?_
  refine Tb I (fun N=> ?_) fun N=> ?_
  ·refine Z1 ?_
   refine Lt 1 ?_
   refine Z1 ?_
   have ⟨dv,cc,cd⟩:=bnd N
   refine Lk [] [0] (qm cc) fun ⟨⟨ce,cf⟩,⟨cg,ch⟩⟩=> ?_
   refine Z0 ?_
   refine Lt 2 ?_
   refine Z0 ?_
   obtain ⟨dw,hz,ci⟩:=cD cd
   subst S
   obtain rfl:=(sm U).symm
   refine Z0 ?_
   cases ci
   exact Eo ((ce,cf),(cg,ch)) [1] [0] (.cell 0 rfl rfl rfl (.tmp rfl .nil))
  refine Z1 ?_
  refine Tb N (fun O=> ?_) fun O=> ?_
  ·refine Z1 ?_
   refine Lt 1 ?_
   refine Z0 ?_
   have ⟨dx,cj,ck⟩:=bnd O
   refine Lk [] [0] (nF cj) fun ⟨⟨cl,cm⟩,⟨dy,dz⟩⟩=> ?_
   refine Z0 ?_
   refine Lt 1 ?_
   refine Z0 ?_
   cases ck
   exact Eg (_,(cl,cm)) rfl [0,1] [0] 1
  refine Z1 ?_
  refine Tb O (fun P=> ?_) fun P=> ?_
  ·refine Z0 ?_
   have ⟨d0,cn,co⟩:=bnd P
   refine Lk [] [1] (yY cn) fun ⟨⟩=> ?_
   refine Z0 ?_
   refine Lt 1 ?_
   refine Z0 ?_
   cases co
   exact Eg (_,(A0,C0)) rfl [0,0] [0] 0
  refine Z1 ?_
  refine Tb P (fun Q=> ?_) fun Q=> ?_
  ·refine Z1 ?_
   have ⟨d1,cp,cq⟩:=bnd Q
   refine Lk [] [1] (kV cp) fun ⟨⟩=> ?_
   refine Z1 ?_
   have ⟨d2,cr,cs⟩:=bnd cq
   refine Lk [] [1] (kV cr) fun ⟨⟩=> ?_
   refine Z1 ?_
   refine Tb cs (fun R=> ?_) fun R=> ?_
   ·refine Z1 ?_
    refine Lt 1 ?_
    refine Z1 ?_
    refine Lt 0 ?_
    refine Z0 ?_
    have ⟨d3,ct,cu⟩:=bnd R
    refine Lk [] [0] (dE ct) fun ⟨⟩=> ?_
    refine Lt 0 ?_
    refine Z0 ?_
    cases cu
    exact Eg (_,(A0,C0)) rfl [0,0] [0] 1
   refine Z0 ?_
   cases R
   exact Eg (_,(A0,C0)) rfl [1,0] [0] 0
  refine Z0 ?_
  cases Q
  exact Eg (_,(A0,C0)) rfl [1,0] [0] 0
 rintro ⟨d,⟨a,c⟩⟩ hy
 subst hy
 refine Z1 ?_
 refine Lt 1 ?_
 refine Z0 ?_
 refine E.fR aL 156 ?_
 cases U
 exact Eo ((a,c),(none,0)) [0] [0] (.cell 1 rfl rfl rfl (.tmp rfl .nil))
theorem zU {s_:aK} {a:aO} {r:aK×(List aR)} (H:kH s_ a=some r):CT G 40 [.agg (lJ s_ A0 C0).toArray,.agg (wD a A1 C1).toArray] [] [Im.sl aL A0 C0 s_.g.l,Im.sl (Ty.int .i64) A1 C1 a.bA] (fun h:(Option Addr×Nat)×(Option Addr×Nat)=> .tuple #[.agg (lJ r.1 h.1.1 h.1.2).toArray,.slice h.2.1 r.2.length h.2.2]) (fun h=>[Ch.arr aL 156 h.2.1 h.2.2 r.2]) (fun h=>[Im.sl aL h.1.1 h.1.2 r.1.g.l]):=by
 delta kH at H
 refine Cf Go.Proofs.Tryz.func40 fun K=> ?_
 refine Z1 ?_
 refine Lx fun g1=> ?_
 refine Lx fun g2=> ?_
 refine Ll fun g3=> ?_
 refine Z2 ?_
 have ⟨b,I,c⟩:=bnd H
 refine Tj (η:=aK×Unit) (fun h=>b = .inl h.1) (fun _=>[]) [2,4] (fun h=>(fun d=>[Ch.box g1 54 (lJ d A0 C0)]) h.1) [0,1] (fun h=>(fun d=>[Im.sl aL A0 C0 d.g.l]) h.1) ?_ ?_
 ·refine Zl ?_
  refine Z1 ?_
  refine Tb I (fun e=> ?_) fun e=> ?_
  ·refine Z1 ?_
   have ⟨bw,J,M⟩:=bnd e
   refine Lk [] [0] (xC J) fun ⟨⟨N,O⟩,⟨P,Q⟩⟩=> ?_
   refine Z0 ?_
   refine Lt 1 ?_
   refine Z0 ?_
   obtain ⟨bx,hz,R⟩:=cD M
   subst b
   obtain rfl:=(sm c).symm
   refine Z0 ?_
   cases R
   exact Eo ((N,O),(P,Q)) [1] [0] (.cell 0 rfl rfl rfl (.tmp rfl .nil))
  refine Z1 ?_
  refine Tb e (fun f=> ?_) fun f=> ?_
  ·refine Z1 ?_
   refine Zl ?_
   refine Z1 ?_
   refine Tb f (fun i=> ?_) fun i=> ?_
   ·refine Z1 ?_
    have ⟨bz,S,U⟩:=bnd i
    refine Lk [] [0] (dE S) fun ⟨⟩=> ?_
    refine Lt 0 ?_
    refine Z0 ?_
    obtain ⟨b0,hz,V⟩:=cD U
    subst b
    obtain rfl:=(sm c).symm
    refine Z0 ?_
    refine E.fR aL 156 ?_
    cases V
    exact Eo ((A0,C0),(none,0)) [0] [0] (.cell 1 rfl rfl rfl (.tmp rfl .nil))
   refine Z1 ?_
   refine Tb i (fun j=> ?_) fun j=> ?_
   ·refine Z1 ?_
    have ⟨b1,W,X⟩:=bnd j
    refine Lk [] [0] (dE W) fun ⟨⟩=> ?_
    refine Lt 0 ?_
    refine Z0 ?_
    obtain ⟨b2,hz,Y⟩:=cD X
    subst b
    obtain rfl:=(sm c).symm
    refine Z0 ?_
    refine E.fR aL 156 ?_
    cases Y
    exact Eo ((A0,C0),(none,0)) [0] [0] (.cell 1 rfl rfl rfl (.tmp rfl .nil))
   refine Z2 ?_
   have ⟨Z,aa,ab⟩:=bnd j
   refine Tj0 [(40,.bool Z)] [2,4,19] [] [0,1,2] ?_ ?_
   ·refine Tb aa (fun k=> ?_) fun k=> ?_
    ·refine Z0 ?_
     cases k
     exact Eg0 [0,0,0] 0
    refine Z1 ?_
    refine Tb k (fun m=> ?_) fun m=> ?_
    ·refine Z0 ?_
     cases m
     exact Eg0 [0,0,0] 0
    refine Z0 ?_
    cases m
    exact Eg0 [0,0,0] 0
   refine Tb ab (fun n=> ?_) fun n=> ?_
   ·refine Z1 ?_
    have ⟨b3,ac,ad⟩:=bnd n
    refine Lk [] [0] (mj ac) fun ⟨⟨ae,af⟩,⟨ag,ah⟩⟩=> ?_
    refine Z0 ?_
    refine Lt 1 ?_
    refine Z0 ?_
    obtain ⟨b4,hz,ai⟩:=cD ad
    subst b
    obtain rfl:=(sm c).symm
    refine Z0 ?_
    cases ai
    exact Eo ((ae,af),(ag,ah)) [1] [0] (.cell 0 rfl rfl rfl (.tmp rfl .nil))
   refine Z1 ?_
   refine Tb n (fun o=> ?_) fun o=> ?_
   ·refine Z1 ?_
    have ⟨b5,aj,ak⟩:=bnd o
    refine Lk [] [0] (dE aj) fun ⟨⟩=> ?_
    refine Lt 0 ?_
    refine Z0 ?_
    obtain ⟨b6,hz,al⟩:=cD ak
    subst b
    obtain rfl:=(sm c).symm
    refine Z0 ?_
    refine E.fR aL 156 ?_
    cases al
    exact Eo ((A0,C0),(none,0)) [0] [0] (.cell 1 rfl rfl rfl (.tmp rfl .nil))
   refine Z0 ?_
   cases o
   exact Eg (_,()) rfl [2,0,0] [0] 0
  refine Z1 ?_
  refine Tb f (fun p=> ?_) fun p=> ?_
  ·refine Z1 ?_
   refine Zl ?_
   refine Z1 ?_
   refine Tb p (fun q=> ?_) fun q=> ?_
   ·refine Z1 ?_
    have ⟨b7,am,an⟩:=bnd q
    refine Lk [] [0] (mj am) fun ⟨⟨ao,ap⟩,⟨aq,ar⟩⟩=> ?_
    refine Z0 ?_
    refine Lt 1 ?_
    refine Z0 ?_
    obtain ⟨b8,hz,au⟩:=cD an
    subst b
    obtain rfl:=(sm c).symm
    refine Z0 ?_
    cases au
    exact Eo ((ao,ap),(aq,ar)) [1] [0] (.cell 0 rfl rfl rfl (.tmp rfl .nil))
   refine Z1 ?_
   refine Tb q (fun s=> ?_) fun s=> ?_
   ·refine Z1 ?_
    refine Lt 2 ?_
    refine Z1 ?_
    have ⟨b9,av,aw⟩:=bnd s
    refine Lk [] [0] (mj av) fun ⟨⟨ax,ay⟩,⟨az,a0⟩⟩=> ?_
    refine Z0 ?_
    refine Lt 2 ?_
    refine Z0 ?_
    obtain ⟨ca,hz,a1⟩:=cD aw
    subst b
    obtain rfl:=(sm c).symm
    refine Z0 ?_
    cases a1
    exact Eo ((ax,ay),(az,a0)) [1] [0] (.cell 0 rfl rfl rfl (.tmp rfl .nil))
   refine Z1 ?_
   refine Tb s (fun t=> ?_) fun t=> ?_
   ·refine Z1 ?_
    refine Lt 2 ?_
    refine Z2 ?_
    refine Tb t (fun u=> ?_) fun u=> ?_
    ·refine Y1 ?_
     refine Td [14] [0,0,0] mo ?_
     refine Dq 0 ?_
     refine Db 1 0 ?_
     refine Dq 2 ?_
     refine Db 3 0 ?_
     refine Dq 4 ?_
     refine Db 5 0 ?_
     refine Dq 6 ?_
     refine Db 7 0 ?_
     have ⟨cb,a2,a3⟩:=bnd u
     refine Dk [] [] (nd a2) fun ⟨⟩=> ?_
     have ⟨cc,a4,a5⟩:=bnd a3
     refine Dk [] [0] (nF a4) fun ⟨⟨a6,a7⟩,⟨cd,ce⟩⟩=> ?_
     refine Dq 10 ?_
     refine Dq 11 ?_
     refine Dq 12 ?_
     refine Dq 13 ?_
     refine Dt 0 ?_
     refine Dn ?_
     refine Z1 ?_
     refine Lt 1 ?_
     refine Z0 ?_
     obtain ⟨cf,hz,a8⟩:=cD a5
     subst b
     obtain rfl:=(sm c).symm
     refine Z0 ?_
     refine E.fR aL 156 ?_
     cases a8
     exact Eo ((a6,a7),(none,0)) [0] [0] (.cell 1 rfl rfl rfl (.tmp rfl .nil))
    refine Z1 ?_
    have ⟨cg,a9,ba⟩:=bnd u
    refine Lk [] [0] (dE a9) fun ⟨⟩=> ?_
    refine Lt 1 ?_
    refine Z0 ?_
    obtain ⟨ch,hz,bb⟩:=cD ba
    subst b
    obtain rfl:=(sm c).symm
    refine Z0 ?_
    refine E.fR aL 156 ?_
    cases bb
    exact Eo ((A0,C0),(none,0)) [0] [0] (.cell 1 rfl rfl rfl (.tmp rfl .nil))
   refine Z1 ?_
   refine Tb t (fun v=> ?_) fun v=> ?_
   ·refine Z0 ?_
    refine Lt 2 ?_
    refine Z0 ?_
    refine Lt 0 ?_
    refine Z0 ?_
    refine Lt 0 ?_
    refine Z0 ?_
    cases v
    exact Eg (_,()) rfl [0,0,0] [0] 0
   refine Z1 ?_
   refine Tb v (fun w=> ?_) fun w=> ?_
   ·refine Z1 ?_
    refine Lt 2 ?_
    refine Z1 ?_
    have ⟨ci,bc,bd⟩:=bnd w
    refine Lk [] [0] (dE bc) fun ⟨⟩=> ?_
    refine Lt 1 ?_
    refine Z0 ?_
    obtain ⟨cj,hz,be⟩:=cD bd
    subst b
    obtain rfl:=(sm c).symm
    refine Z0 ?_
    refine E.fR aL 156 ?_
    cases be
    exact Eo ((A0,C0),(none,0)) [0] [0] (.cell 1 rfl rfl rfl (.tmp rfl .nil))
   refine Z1 ?_
   refine Tb w (fun x=> ?_) fun x=> ?_
   ·refine Z1 ?_
    have ⟨ck,bf,bg⟩:=bnd x
    refine Lk [] [] (tV bf) fun ⟨bh,bi⟩=> ?_
    refine Lt 0 ?_
    refine Z0 ?_
    obtain ⟨cl,hz,bj⟩:=cD bg
    subst b
    obtain rfl:=(sm c).symm
    refine Z0 ?_
    refine E.fR aL 156 ?_
    cases bj
    exact Eo ((bh,bi),(none,0)) [0] [0] (.cell 1 rfl rfl rfl (.tmp rfl .nil))
   refine Z0 ?_
   cases x
   exact Eg (_,()) rfl [2,0,0] [0] 0
  refine Z1 ?_
  refine Tb p (fun y=> ?_) fun y=> ?_
  ·refine Z2 ?_
   refine Tb y (fun z=> ?_) fun z=> ?_
   ·refine Z1 ?_
    have ⟨cm,bk,bl⟩:=bnd z
    refine Lk [] [0,1] (ue bk) fun ⟨⟨bm,bn⟩,⟨bo,bp⟩⟩=> ?_
    refine Z0 ?_
    refine Lt 1 ?_
    refine Z0 ?_
    obtain ⟨cn,hz,bq⟩:=cD bl
    subst b
    obtain rfl:=(sm c).symm
    refine Z0 ?_
    cases bq
    exact Eo ((bm,bn),(bo,bp)) [1] [0] (.cell 0 rfl rfl rfl (.tmp rfl .nil))
   refine Y1 ?_
   have ⟨br,bs,bt⟩:=bnd z
   refine Tj0 [(159,.bool br)] [2,3,4] [] [0,1,2] ?_ ?_
   ·refine Z0 ?_
    have ⟨co,bu,bv⟩:=bnd bs
    refine Lk [] [1] (kV bu) fun ⟨⟩=> ?_
    refine Z0 ?_
    refine Lw 150 bv (fun A=> ?_) fun A=> ?_
    ·refine Z0 ?_
     refine Lw 154 A (fun B=> ?_) fun B=> ?_
     ·refine Z0 ?_
      cases B
      exact Eg0 [0,0,0] 0
     refine Z0 ?_
     cases B
     exact Eg0 [0,0,0] 0
    refine Z0 ?_
    cases A
    exact Eg0 [0,0,0] 0
   refine Tb bt (fun C=> ?_) fun C=> ?_
   ·refine Z0 ?_
    refine Lt 2 ?_
    refine Z0 ?_
    cases C
    exact Eg (_,()) rfl [0,0,0] [0] 0
   refine Z0 ?_
   cases C
   exact Eg (_,()) rfl [2,0,0] [0] 0
  refine Z1 ?_
  refine Tb y (fun F=> ?_) fun F=> ?_
  ·refine Z0 ?_
   refine Lt 2 ?_
   refine Z0 ?_
   cases F
   exact Eg (_,()) rfl [0,0,0] [0] 0
  refine Z0 ?_
  cases F
  exact Eg (_,()) rfl [2,0,0] [0] 0
 rintro ⟨d,⟨⟩⟩ hy
 subst hy
 refine Z1 ?_
 refine Lt 1 ?_
 refine Z0 ?_
 refine E.fR aL 156 ?_
 cases c
 exact Eo ((A0,C0),(none,0)) [0] [0] (.cell 1 rfl rfl rfl (.tmp rfl .nil))
theorem vB {m_:bC} {e:cL} {r:bC×Int} (H:il m_ e=some r):CT G 18 [.agg (p9 m_ A0 C0 A1 C1 A2 C2).toArray,.agg (B9 e).toArray] [] [Im.sl aL A0 C0 m_.s.g.l,Im.sl (Ty.slice aU) A1 C1 m_.b.l,Im.sl aU A2 C2 m_.b.begun] (fun h:(Option Addr×Nat)×(Option Addr×Nat)×(Option Addr×Nat)=> .tuple #[.agg (p9 r.1 h.1.1 h.1.2 h.2.1.1 h.2.1.2 h.2.2.1 h.2.2.2).toArray,.int .i64 r.2]) (fun h=>[]) (fun h=>[Im.sl aL h.1.1 h.1.2 r.1.s.g.l,Im.sl (Ty.slice aU) h.2.1.1 h.2.1.2 r.1.b.l,Im.sl aU h.2.2.1 h.2.2.2 r.1.b.begun]):=by
 delta il at H
 refine Cf Go.Proofs.Tryz.func18 fun K=> ?_
 refine Z1 ?_
 refine Lx fun g1=> ?_
 refine Lx fun g2=> ?_
 refine Ll fun g3=> ?_
 refine Z2 ?_
 have ⟨r4,h5,H6⟩:=bnd H
 refine Lk [] [] (vR h5) fun ⟨⟩=> ?_
 refine Z1 ?_
 refine Tb H6 (fun H8=> ?_) fun H8=> ?_
 ·refine Z1 ?_
  refine Lt 0 ?_
  refine Z0 ?_
  cases H8
  exact Eo ((A0,C0),(A1,C1),(A2,C2)) [] [0,1,2] (.cell 0 rfl rfl rfl (.tmp rfl .nil))
 refine Z2 ?_
 have ⟨B,J,M⟩:=bnd H8
 refine Tjh (η:=(Option Addr×Nat)×(Option Addr×Nat)×(Option Addr×Nat)) (fun _=>[]) [2,4] (fun h=>(fun m n o p q t=>[Ch.box g1 61 (p9 B m n o p q t)]) h.1.1 h.1.2 h.2.1.1 h.2.1.2 h.2.2.1 h.2.2.2) [0,1] (fun h=>(fun m n o p q t=>[Im.sl aL m n B.s.g.l,Im.sl (Ty.slice aU) o p B.b.l,Im.sl aU q t B.b.begun]) h.1.1 h.1.2 h.2.1.1 h.2.1.2 h.2.2.1 h.2.2.2) ?_ ?_
 ·refine Tb J (fun C=> ?_) fun C=> ?_
  ·refine Z1 ?_
   have ⟨ax,N,O⟩:=bnd C
   refine Lk [] [0] (vw N) fun ⟨⟨P,Q⟩,⟨ay,az⟩⟩=> ?_
   refine Z0 ?_
   refine Ll fun a0=> ?_
   refine Lt 0 ?_
   refine Z1 ?_
   refine Lt 3 ?_
   refine Z0 ?_
   have ⟨a1,R,S⟩:=bnd O
   refine Lk [] [0,3,4,1] (tX R) fun ⟨⟨U,V⟩,⟨W,X⟩⟩=> ?_
   refine Lt 0 ?_
   refine Z0 ?_
   cases S
   exact Eg ((P,Q),(U,V),(W,X)) trivial [0,1,1] [0,1,2] 5
  refine Z1 ?_
  have ⟨_,Y,Z⟩:=bnd C
  refine Ly (Yl.sa Y rfl rfl rfl) ?_
  refine Z0 ?_
  refine Lt 2 ?_
  refine Z1 ?_
  have ⟨a2,aa,ab⟩:=bnd Z
  refine Lk [] [] (xA aa) fun ⟨a3,a4⟩=> ?_
  refine Z2 ?_
  refine L.frz 0 rfl ?_
  have ⟨_,ac,ad⟩:=bnd ab
  refine L.rs 0 ac rfl rfl rfl rfl rfl rfl rfl rfl rfl rfl rfl rfl ?_
  intro a5 a6
  refine Z0 ?_
  have ⟨u,ae,af⟩:=bnd ad
  refine Tjh (η:=(Option Addr×Nat)×(Option Addr×Nat)×(Option Addr×Nat)) (fun _=>[]) [2,4,9] (fun h=>(fun v w x y z A=>[Ch.box g1 61 (p9 u v w x y z A)]) h.1.1 h.1.2 h.2.1.1 h.2.1.2 h.2.2.1 h.2.2.2) [1,2] (fun h=>(fun v w x y z A=>[Im.sl aL v w u.s.g.l,Im.sl (Ty.slice aU) x y u.b.l,Im.sl aU z A u.b.begun]) h.1.1 h.1.2 h.2.1.1 h.2.1.2 h.2.2.1 h.2.2.2) ?_ ?_
  ·refine Yl0 ?_
   refine Tq (η:=(Option Addr×Nat)×(Option Addr×Nat)×(Option Addr×Nat)) (fun a h=>(fun c d f i j k=>[(52,.int .i64 a.2)]) h.1.1 h.1.2 h.2.1.1 h.2.1.2 h.2.2.1 h.2.2.2) [2,4,9,50,51] (fun a h=>(fun c d f i j k=>[Ch.box g1 61 (p9 a.1 c d f i j k)]) h.1.1 h.1.2 h.2.1.1 h.2.1.2 h.2.2.1 h.2.2.2) [1,2] (fun a h=>(fun c d f i j k=>[Im.sl aL c d a.1.s.g.l,Im.sl (Ty.slice aU) f i a.1.b.l,Im.sl aU j k a.1.b.begun]) h.1.1 h.1.2 h.2.1.1 h.2.1.2 h.2.2.1 h.2.2.2) ((A0,C0),(A1,C1),(A2,C2)) [0,0,0] [2,3,4] ae ?_
   rintro k_ a ⟨⟨c,d⟩,⟨f,i⟩,⟨j,k⟩⟩ a7 ag ah ai
   refine Y2 ?_
   refine Tb ag (fun F=> ?_) fun F=> ?_
   ·refine Z1 ?_
    refine Zl ?_
    refine Z1 ?_
    have ⟨a8,I,aj⟩:=bnd F
    refine L.addr 3 rfl (bX I) fun a9 ba ak=> ?_
    subst ak
    refine Ly (Yl.ia I rfl rfl rfl rfl rfl rfl) ?_
    refine L.el 3 rfl (aV I).2 ?_
    rintro ⟨bb,bc⟩
    refine Lc 0 0 ?_
    refine Ll fun bd=> ?_
    refine Lt 0 ?_
    refine Z1 ?_
    have ⟨be,al,am⟩:=bnd aj
    refine Lk [] [2,1] (zU al) fun ⟨⟨an,ao⟩,⟨bf,bg⟩⟩=> ?_
    refine Z0 ?_
    refine Ll fun bh=> ?_
    refine Lt 0 ?_
    refine Z1 ?_
    refine Lt 3 ?_
    refine Z0 ?_
    refine L.frz 2 rfl ?_
    have ⟨bi,ap,aq⟩:=bnd am
    refine Lk [] [1,5,6,0] (tX ap) fun ⟨⟨ar,au⟩,⟨av,aw⟩⟩=> ?_
    refine Lt 0 ?_
    refine Z0 ?_
    cases aq
    exact Eg (_,((an,ao),(ar,au),(av,aw))) (ah _ rfl) [0,2,2] [0,1,2] 10
   refine Z0 ?_
   cases F
   have hb:=ai _ rfl
   subst u
   exact Eg ((c,d),(f,i),(j,k)) trivial [0,0,0] [0,1,2] 3
  rintro ⟨⟨v,w⟩,⟨x,y⟩,⟨z,A⟩⟩
  refine Z0 ?_
  refine Lt 0 ?_
  refine Z0 ?_
  cases af
  exact Eg ((v,w),(x,y),(z,A)) trivial [0,0,0] [0,1,2] 5
 rintro ⟨⟨m,n⟩,⟨o,p⟩,⟨q,t⟩⟩
 refine Z1 ?_
 refine Lt 0 ?_
 refine Z1 ?_
 refine Lt 1 ?_
 refine Z0 ?_
 cases M
 exact Eo ((m,n),(o,p),(q,t)) [] [0,1,2] (.cell 0 rfl rfl rfl (.tmp rfl .nil))
end Go.Tw.X
set_option maxHeartbeats 2000000
set_option linter.unusedVariables false
set_option linter.unusedSimpArgs false
set_option maxRecDepth 10000
namespace Go.Tw.X
open Go Go.Tw
variable {A0 A1 A2 A3 A4 A5 A6 A7 A8 : Option Addr} {C0 C1 C2 C3 C4 C5 C6 C7 C8 : Nat}
variable {N0 N1 N2 N3 N4 : Nat}
theorem pA {s_:aB} {r:Int×Int} (H:iC s_=some r):CT G 88 [.pointer (some ⟨N0,0,none⟩)] [Ch.box N0 132 (bO s_ N1),Ch.box N1 181 [.int .i64 s_.g.w,.slice A0 s_.g.l.length C0],Ch.arr aC 99 A0 C0 s_.g.l] [] (fun _:Unit=> .tuple #[.int .i64 r.1,.int .i64 r.2]) (fun h=>[Ch.box N0 132 (bO s_ N1),Ch.box N1 181 [.int .i64 s_.g.w,.slice A0 s_.g.l.length C0],Ch.arr aC 99 A0 C0 s_.g.l]) (fun h=>[]):=by
 delta iC at H
 refine Cf Go.Proofs.Tryz.func88 fun K=> ?_
 refine Y2 ?_
 refine Td [] [0,0,0] mo ?_
 refine Dq 0 ?_
 refine Dq 1 ?_
 refine Dq 2 ?_
 refine Db 3 0 ?_
 refine Dq 4 ?_
 refine Dq 5 ?_
 refine Dq 6 ?_
 refine Db 7 0 ?_
 refine Dq 8 ?_
 refine Dq 9 ?_
 refine Dn ?_
 refine Z0 ?_
 cases H
 exact Eo () [0,0,0] [] (.tmp rfl (.tmp rfl .nil))
theorem vC {l:List Int} {r:ByteArray} (H:kA l=some r):CT G 170 [.slice A0 l.length C0] [] [Im.sl (Ty.int .i32) A0 C0 l] (fun _:Unit=> .string r) (fun h=>[]) (fun h=>[]):=by
 delta kA at H
 refine Cf Go.Proofs.Tryz.func170 fun K=> ?_
 refine Z3 ?_
 refine Z1 ?_
 have ⟨j,w,x⟩:=bnd H
 refine Tjh (η:=(Option Addr×Nat)) (fun h=>(fun g i=>[(3,.slice g j.length i)]) h.1 h.2) [] (fun h=>(fun g i=>[Ch.arr (Ty.int .u8) 5 g i j]) h.1 h.2) [] (fun _=>[]) ?_ ?_
 ·refine Yl0 ?_
  refine T.fR (Ty.int .u8) 5 ?_
  refine Tq (η:=(Option Addr×Nat)) (fun b h=>(fun c d=>[(3,.slice c b.1.length d),(8,.int .i64 b.2)]) h.1 h.2) [6,7] (fun b h=>(fun c d=>[Ch.arr (Ty.int .u8) 5 c d b.1]) h.1 h.2) [] (fun _ _=>[]) (none,0) [0] [] w ?_
  rintro k_ b ⟨c,d⟩ ah y z A
  refine Y2 ?_
  refine Tb y (fun k=> ?_) fun k=> ?_
  ·refine Y1 ?_
   have ⟨v,B,C⟩:=bnd k
   refine Tjh (η:=(Option Addr×Nat)) (fun h=>(fun e f=>[(3,.slice e v.length f)]) h.1 h.2) [6,7,8] (fun h=>(fun e f=>[Ch.arr (Ty.int .u8) 5 e f v]) h.1 h.2) [] (fun _=>[]) ?_ ?_
   ·refine Zl ?_
    refine Z1 ?_
    have ⟨ai,m,F⟩:=bnd B
    refine L.addr 0 rfl (bX m) fun aj ak I=> ?_
    subst I
    refine Ly (Yl.ia m rfl rfl rfl rfl rfl rfl) ?_
    refine L.el 0 rfl (aV m).2 ?_
    rintro _
    refine Lc 0 0 ?_
    refine Y2 ?_
    have ⟨J,M,N⟩:=bnd F
    refine Tj0 [(25,.bool J)] [3,5,6,7,8] [] [0] ?_ ?_
    ·refine Z0 ?_
     refine Lw 14 M (fun n=> ?_) fun n=> ?_
     ·refine Z0 ?_
      cases n
      exact Eg0 [0] 0
     refine Z0 ?_
     refine Lw 18 n (fun o=> ?_) fun o=> ?_
     ·refine Z0 ?_
      cases o
      exact Eg0 [0] 0
     refine Z0 ?_
     refine Lw 21 o (fun p=> ?_) fun p=> ?_
     ·refine Z0 ?_
      cases p
      exact Eg0 [0] 0
     refine Z0 ?_
     cases p
     exact Eg0 [0] 0
    have ⟨a,O,P⟩:=bnd N
    refine Tj0 [(5,.int .i32 a)] [3,6,7,8] [] [0] ?_ ?_
    ·refine Tb O (fun q=> ?_) fun q=> ?_
     ·refine Z0 ?_
      cases q
      exact Eg0 [0] 0
     refine Z0 ?_
     cases q
     exact Eg0 [0] 0
    refine Zl ?_
    refine Z1 ?_
    refine Tb P (fun s=> ?_) fun s=> ?_
    ·refine Z0 ?_
     refine La [] [] (Ac.bs (ty:=(Ty.int .u8)) (xs:=[(IntKind.u8.wrap a)]) (.cons () [] rfl .nil) rfl rfl rfl rfl rfl rfl rfl) fun al=> ?_
     refine L.frz 0 rfl ?_
     have ⟨_,Q,R⟩:=bnd s
     refine La [0] [0] (Ac.ap (ty:=(Ty.int .u8)) Q rfl rfl rfl rfl rfl rfl rfl) ?_
     rintro ⟨S,U⟩
     refine Z0 ?_
     cases R
     exact Eg (S,U) trivial [0] [] 2
    refine Z1 ?_
    refine Tb s (fun t=> ?_) fun t=> ?_
    ·refine Z0 ?_
     refine La [] [] (Ac.bs (ty:=(Ty.int .u8)) (xs:=[(IntKind.u8.wrap (Go.bits .or .i32 192 (a.fdiv (2 ^ (min 6 32))))),(IntKind.u8.wrap (Go.bits .or .i32 128 (Go.bits .and .i32 a 63)))]) (.cons () [] rfl (.cons () [] rfl .nil)) rfl rfl rfl rfl rfl rfl rfl) fun am=> ?_
     refine L.frz 0 rfl ?_
     have ⟨_,V,W⟩:=bnd t
     refine La [0] [0] (Ac.ap (ty:=(Ty.int .u8)) V rfl rfl rfl rfl rfl rfl rfl) ?_
     rintro ⟨X,Y⟩
     refine Z0 ?_
     cases W
     exact Eg (X,Y) trivial [0] [] 2
    refine Z1 ?_
    refine Tb t (fun u=> ?_) fun u=> ?_
    ·refine Z0 ?_
     refine La [] [] (Ac.bs (ty:=(Ty.int .u8)) (xs:=[(IntKind.u8.wrap (Go.bits .or .i32 224 (a.fdiv (2 ^ (min 12 32))))),(IntKind.u8.wrap (Go.bits .or .i32 128 (Go.bits .and .i32 (a.fdiv (2 ^ (min 6 32))) 63))),(IntKind.u8.wrap (Go.bits .or .i32 128 (Go.bits .and .i32 a 63)))]) (.cons () [] rfl (.cons () [] rfl (.cons () [] rfl .nil))) rfl rfl rfl rfl rfl rfl rfl) fun an=> ?_
     refine L.frz 0 rfl ?_
     have ⟨_,Z,aa⟩:=bnd u
     refine La [0] [0] (Ac.ap (ty:=(Ty.int .u8)) Z rfl rfl rfl rfl rfl rfl rfl) ?_
     rintro ⟨ab,ac⟩
     refine Z0 ?_
     cases aa
     exact Eg (ab,ac) trivial [0] [] 2
    refine Z0 ?_
    refine La [] [] (Ac.bs (ty:=(Ty.int .u8)) (xs:=[(IntKind.u8.wrap (Go.bits .or .i32 240 (a.fdiv (2 ^ (min 18 32))))),(IntKind.u8.wrap (Go.bits .or .i32 128 (Go.bits .and .i32 (a.fdiv (2 ^ (min 12 32))) 63))),(IntKind.u8.wrap (Go.bits .or .i32 128 (Go.bits .and .i32 (a.fdiv (2 ^ (min 6 32))) 63))),(IntKind.u8.wrap (Go.bits .or .i32 128 (Go.bits .and .i32 a 63)))]) (.cons () [] rfl (.cons () [] rfl (.cons () [] rfl (.cons () [] rfl .nil)))) rfl rfl rfl rfl rfl rfl rfl) fun ao=> ?_
    refine L.frz 0 rfl ?_
    have ⟨_,ad,ae⟩:=bnd u
    refine La [0] [0] (Ac.ap (ty:=(Ty.int .u8)) ad rfl rfl rfl rfl rfl rfl rfl) ?_
    rintro ⟨af,ag⟩
    refine Z0 ?_
    cases ae
    exact Eg (af,ag) trivial [0] [] 2
   rintro ⟨e,f⟩
   refine Z0 ?_
   cases C
   exact Eg (_,(e,f)) (z _ rfl) [0] [] 0
  refine Z0 ?_
  cases k
  have hb:=A _ rfl
  subst j
  exact Eg (c,d) trivial [0] [] 0
 rintro ⟨g,i⟩
 refine Z1 ?_
 refine Ly (Yl.bs 0 rfl rfl rfl rfl rfl rfl rfl rfl rfl) ?_
 refine Z0 ?_
 cases x
 exact Eo1 () [] []
theorem tE {g:aX} {r:(List ByteArray)} (H:jL g=some r):CT G 130 [.pointer (some ⟨N0,0,none⟩)] [Ch.box N0 181 [.int .i64 g.w,.slice A0 g.l.length C0],Ch.arr aC 99 A0 C0 g.l] [] (fun h:(Option Addr×Nat)=> .slice h.1 r.length h.2) (fun h=>[Ch.arr Ty.str 9 h.1 h.2 r,Ch.box N0 181 [.int .i64 g.w,.slice A0 g.l.length C0],Ch.arr aC 99 A0 C0 g.l]) (fun h=>[]):=by
 delta jL at H
 refine Cf Go.Proofs.Tryz.func130 fun K=> ?_
 refine Z3 ?_
 refine Z1 ?_
 have ⟨n,A,B⟩:=bnd H
 refine Tjh (η:=(Option Addr×Nat)) (fun h=>(fun c d=>[(3,.slice c n.length d)]) h.1 h.2) [] (fun h=>(fun c d=>[Ch.arr Ty.str 9 c d n]) h.1 h.2) [0,1] (fun _=>[]) ?_ ?_
 ·refine Yl0 ?_
  refine T.fR Ty.str 9 ?_
  refine Tq (η:=(Option Addr×Nat)) (fun a h=>(fun e f=>[(3,.slice e a.2.length f),(14,.int .i64 a.1)]) h.1 h.2) [12,13] (fun a h=>(fun e f=>[Ch.arr Ty.str 9 e f a.2]) h.1 h.2) [1,2] (fun _ _=>[]) (none,0) [0,0,0] [] A ?_
  rintro k_ a ⟨e,f⟩ ai C F I
  refine Y2 ?_
  refine Tb C (fun o=> ?_) fun o=> ?_
  ·refine Z1 ?_
   refine Zl ?_
   refine Z1 ?_
   have ⟨x,p,J⟩:=bnd o
   refine L.jd 2 rfl (bX p) fun aj M=> ?_
   subst M
   refine Ly (Yl.ia p rfl rfl rfl rfl rfl rfl) ?_
   refine La [2] [] (Ac.lo a.1.toNat 0 (v:=(fun h:(Option Addr×Nat)=>(fun y z=> .agg #[.slice y x.cells.length z,.bool x.wrapped]) h.1 h.2)) (aV p).2 rfl rfl rfl (fun _=>rfl)) ?_
   rintro ⟨y,z⟩
   refine Ll fun ak=> ?_
   refine Lt 0 ?_
   refine Z3 ?_
   have ⟨al,N,O⟩:=bnd J
   refine Lk [] [0] (oQ N) fun ⟨am,an⟩=> ?_
   refine Z0 ?_
   have ⟨q,P,Q⟩:=bnd O
   refine Tjh (η:=(Option Addr×Nat)) (fun h=>(fun k m=>[(6,.slice k q.length m)]) h.1 h.2) [3,12,13,14] (fun h=>(fun k m=>[Ch.arr (Ty.int .i32) 21 k m q]) h.1 h.2) [1,4,2,3] (fun _=>[]) ?_ ?_
   ·refine Yl0 ?_
    refine T.fR (Ty.int .i32) 21 ?_
    refine Tq (η:=(Option Addr×Nat)) (fun b h=>(fun i j=>[(6,.slice i b.2.length j),(21,.int .i64 b.1)]) h.1 h.2) [3,12,13,14,19,20] (fun b h=>(fun i j=>[Ch.arr (Ty.int .i32) 21 i j b.2]) h.1 h.2) [2,5,1,3,4] (fun _ _=>[]) (none,0) [0,1,3,0,0,0] [] P ?_
    rintro k_ b ⟨i,j⟩ ao R S U
    refine Y2 ?_
    refine Tb R (fun s=> ?_) fun s=> ?_
    ·refine Z1 ?_
     refine Zl ?_
     refine Z1 ?_
     have ⟨t,u,V⟩:=bnd s
     refine L.jd 3 rfl (bX u) fun aq W=> ?_
     subst W
     refine Ly (Yl.ia u rfl rfl rfl rfl rfl rfl) ?_
     refine Ly (Yl.lo (v:= .agg #[.int .i32 t.rune,.int .i64 t.aM]) 3 b.1.toNat 0 (aV u).2 rfl rfl rfl rfl (fun _=>rfl)) ?_
     refine Ll fun ar=> ?_
     refine Lt 0 ?_
     refine Z0 ?_
     refine La [] [] (Ac.bs (ty:=(Ty.int .i32)) (xs:=[t.rune]) (.cons () [] rfl .nil) rfl rfl rfl rfl rfl rfl rfl) fun au=> ?_
     refine L.frz 0 rfl ?_
     have ⟨_,X,Y⟩:=bnd V
     refine La [1] [0] (Ac.ap (ty:=(Ty.int .i32)) X rfl rfl rfl rfl rfl rfl rfl) ?_
     rintro ⟨Z,aa⟩
     refine Z0 ?_
     cases Y
     exact Eg (_,(Z,aa)) (S _ rfl) [0,1,1,1,1,1] [] 1
    refine Z0 ?_
    cases s
    have hb:=U _ rfl
    subst q
    exact Eg (i,j) trivial [0,0,0,1,1] [] 0
   rintro ⟨k,m⟩
   refine Z0 ?_
   have ⟨ab,ac,ad⟩:=bnd Q
   refine L.br (Ac.call (vC ac) rfl rfl rfl rfl) (Bw.ch 0 rfl (Bw.nil)) rfl rfl rfl ?_
   intro _
   refine La [] [] (Ac.bs (ty:=Ty.str) (xs:=[ab]) (.cons () [] rfl .nil) rfl rfl rfl rfl rfl rfl rfl) fun av=> ?_
   refine L.frz 0 rfl ?_
   have ⟨_,ae,af⟩:=bnd ad
   refine La [4] [0] (Ac.ap (ty:=Ty.str) ae rfl rfl rfl rfl rfl rfl rfl) ?_
   rintro ⟨ag,ah⟩
   refine Z0 ?_
   cases af
   exact Eg (_,(ag,ah)) (F _ rfl) [0,2,2] [] 2
  refine Z0 ?_
  cases o
  have hb:=I _ rfl
  subst n
  exact Eg (e,f) trivial [0,0,0] [] 0
 rintro ⟨c,d⟩
 refine Z1 ?_
 cases B
 exact Eo1 (c,d) [0,0,0] []
theorem vD {r_:aE} {x_:aR} {r:Bool} (H:kC r_ x_=some r):CT G 132 [.agg #[.slice A0 r_.cells.length C0,.bool r_.wrapped],.agg #[.slice A1 x_.l.length C1,.bool x_.wrapped]] [] [Im.sl aZ A0 C0 r_.cells,Im.sl bD A1 C1 x_.l] (fun _:Unit=> .bool r) (fun h=>[]) (fun h=>[]):=by
 delta kC at H
 refine Cf Go.Proofs.Tryz.func132 fun K=> ?_
 refine Z1 ?_
 refine Lx fun g1=> ?_
 refine Lx fun g2=> ?_
 refine Y2 ?_
 have ⟨e6,H7,H8⟩:=bnd H
 refine Tj0 [(20,.bool e6)] [2,3] [] [0,1] ?_ ?_
 ·refine Z0 ?_
  refine Lw 14 H7 (fun H9=> ?_) fun H9=> ?_
  ·refine Z0 ?_
   cases H9
   exact Eg0 [0,0] 0
  refine Z0 ?_
  cases H9
  exact Eg0 [0,0] 0
 refine Tb H8 (fun a=> ?_) fun a=> ?_
 ·refine Z1 ?_
  cases a
  exact Eo1 () [] []
 refine Z2 ?_
 have ⟨b,p,j⟩:=bnd a
 refine Tj (η:=Unit×Unit) (fun h=>b = .inl h.1) (fun _=>[]) [] (fun _=>[]) [0,1] (fun _=>[]) ?_ ?_
 ·refine Yl0 ?_
  refine Tq (η:=Unit) (fun k h=>[(24,.int .i64 k)]) [3,22,23] (fun _ _=>[]) [0,1] (fun _ _=>[]) () [0,0] [] p ?_
  rintro k_ k ⟨⟩ q s t m
  refine Y2 ?_
  refine Tb s (fun c=> ?_) fun c=> ?_
  ·refine Z1 ?_
   refine Zl ?_
   refine Z1 ?_
   have ⟨I,d,u⟩:=bnd c
   refine L.addr 0 rfl (bX d) fun J M v=> ?_
   subst v
   refine Ly (Yl.ia d rfl rfl rfl rfl rfl rfl) ?_
   refine L.el 0 rfl (aV d).2 ?_
   rintro _
   refine Lc 0 0 ?_
   refine Ll fun N=> ?_
   refine Z0 ?_
   refine Lt 0 ?_
   refine Y1 ?_
   have ⟨w,x,y⟩:=bnd u
   refine Tj0 [(60,.bool w)] [3,22,23,24] [] [0,1,2] ?_ ?_
   ·refine Td [] [0,0,0] mo ?_
    refine Dq 0 ?_
    refine Db 1 0 ?_
    refine Dq 2 ?_
    refine Dq 3 ?_
    refine Db 4 1 ?_
    refine Dq 5 ?_
    have ⟨O,e,z⟩:=bnd x
    refine D.addr 2 rfl (bX e) fun P Q A=> ?_
    subst A
    refine Dy 6 (Yl.ia e rfl rfl rfl rfl rfl rfl) ?_
    refine D.el 2 rfl (aV e).2 ?_
    rintro _
    refine Dq 7 ?_
    refine Dy 8 (Yl.ldc 0 0 rfl rfl rfl rfl) ?_
    refine Dq 9 ?_
    refine Dq 10 ?_
    refine D.cs 39 z rfl (fun hc f=> ?_) (fun hc f=> ?_)
    ·refine Ds 11 ?_
     refine Ds 12 ?_
     refine Ds 13 ?_
     refine Ds 14 ?_
     refine Ds 15 ?_
     refine Ds 16 ?_
     refine Ds 17 ?_
     refine Ds 18 ?_
     refine Ds 19 ?_
     refine Dq 20 ?_
     refine Dq 21 ?_
     refine Ds 22 ?_
     refine Ds 23 ?_
     refine Ds 24 ?_
     refine Ds 25 ?_
     refine Ds 26 ?_
     refine Ds 27 ?_
     refine Ds 28 ?_
     refine Ds 29 ?_
     refine Ds 30 ?_
     refine Dq 31 ?_
     refine Dn ?_
     cases f
     exact Eg0 [0,0,0] 1
    refine Dq 11 ?_
    refine Db 12 0 ?_
    refine Dq 13 ?_
    refine Db 14 1 ?_
    refine Dq 15 ?_
    have ⟨R,n,B⟩:=bnd f
    refine Dy 16 (Yl.ia n rfl rfl rfl rfl rfl rfl) ?_
    refine D.el 3 rfl (aV n).2 ?_
    rintro _
    refine Dq 17 ?_
    refine Dy 18 (Yl.ldc 0 1 rfl rfl rfl rfl) ?_
    refine Dq 19 ?_
    refine Dq 20 ?_
    refine Dq 21 ?_
    refine D.cs 50 B rfl (fun hc g=> ?_) (fun hc g=> ?_)
    ·refine Ds 22 ?_
     refine Ds 23 ?_
     refine Ds 24 ?_
     refine Ds 25 ?_
     refine Ds 26 ?_
     refine Ds 27 ?_
     refine Ds 28 ?_
     refine Ds 29 ?_
     refine Ds 30 ?_
     refine Dq 31 ?_
     refine Dn ?_
     cases g
     exact Eg0 [0,0,0] 2
    refine Dq 22 ?_
    refine Db 23 0 ?_
    refine Dq 24 ?_
    refine Db 25 1 ?_
    refine Dq 26 ?_
    have ⟨S,o,C⟩:=bnd g
    refine Dy 27 (Yl.ia o rfl rfl rfl rfl rfl rfl) ?_
    refine D.el 4 rfl (aV o).2 ?_
    rintro _
    refine Dq 28 ?_
    refine Dy 29 (Yl.ldc 0 2 rfl rfl rfl rfl) ?_
    refine Dq 30 ?_
    refine Dq 31 ?_
    refine Dn ?_
    cases C
    exact Eg0 [0,0,0] 3
   refine Tb y (fun i=> ?_) fun i=> ?_
   ·refine Z1 ?_
    obtain ⟨U,hz,F⟩:=gI i
    subst q
    have hb:=m _ rfl
    subst b
    obtain rfl:=(sm j).symm
    refine Z0 ?_
    cases F
    exact Eo1 () [] []
   refine Z0 ?_
   cases i
   exact Eg (_,()) (t _ rfl) [1,1] [] 1
  refine Z0 ?_
  cases c
  have hb:=m _ rfl
  subst b
  exact Eg (_,()) rfl [0,0] [] 0
 rintro ⟨V,⟨⟩⟩ hy
 subst hy
 refine Z1 ?_
 cases j
 exact Eo1 () [] []
theorem sQ {l:List aE} {x_:List aR} {r:Bool} (H:gN l x_=some r):CT G 92 [.slice A0 l.length C0,.slice A1 x_.length C1] [] [Im.sl aC A0 C0 l,Im.sl aL A1 C1 x_] (fun _:Unit=> .bool r) (fun h=>[]) (fun h=>[]):=by
 delta gN at H
 refine Cf Go.Proofs.Tryz.func92 fun K=> ?_
 refine Z3 ?_
 refine Tb H (fun H2=> ?_) fun H2=> ?_
 ·refine Z1 ?_
  cases H2
  exact Eo1 () [] []
 refine Z2 ?_
 have ⟨a,j,f⟩:=bnd H2
 refine Tj (η:=Unit×Unit) (fun h=>a = .inl h.1) (fun _=>[]) [] (fun _=>[]) [] (fun _=>[]) ?_ ?_
 ·refine Yl0 ?_
  refine Tq (η:=Unit) (fun g h=>[(13,.int .i64 g)]) [0,1,12] (fun _ _=>[]) [] (fun _ _=>[]) () [] [] j ?_
  rintro k_ g ⟨⟩ k m n i
  refine Y2 ?_
  refine Tb m (fun b=> ?_) fun b=> ?_
  ·refine Z1 ?_
   refine Zl ?_
   refine Y2 ?_
   refine Td [] [] mo ?_
   refine Dq 0 ?_
   refine Dq 1 ?_
   have ⟨w,c,o⟩:=bnd b
   refine D.addr 0 rfl (bX c) fun x y p=> ?_
   subst p
   refine Dy 2 (Yl.ia c rfl rfl rfl rfl rfl rfl) ?_
   refine D.el 0 rfl (aV c).2 ?_
   rintro ⟨z,A⟩
   refine Dy 3 (Yl.ldc 0 0 rfl rfl rfl rfl) ?_
   refine Dq 4 ?_
   refine Dq 5 ?_
   have ⟨B,d,q⟩:=bnd o
   refine D.addr 3 rfl (bX d) fun C F s=> ?_
   subst s
   refine Dy 6 (Yl.ia d rfl rfl rfl rfl rfl rfl) ?_
   refine D.el 3 rfl (aV d).2 ?_
   rintro ⟨I,J⟩
   refine Dy 7 (Yl.ldc 0 0 rfl rfl rfl rfl) ?_
   have ⟨M,t,u⟩:=bnd q
   refine Dk [] [3,1] (vD t) fun ⟨⟩=> ?_
   refine Dq 9 ?_
   refine Dn ?_
   refine Z0 ?_
   refine Tb u (fun e=> ?_) fun e=> ?_
   ·refine Z1 ?_
    obtain ⟨N,hz,v⟩:=gI e
    subst k
    have hb:=i _ rfl
    subst a
    obtain rfl:=(sm f).symm
    refine Z0 ?_
    cases v
    exact Eo1 () [] []
   refine Z0 ?_
   cases e
   exact Eg (_,()) (n _ rfl) [] [] 4
  refine Z0 ?_
  cases b
  have hb:=i _ rfl
  subst a
  exact Eg (_,()) rfl [] [] 0
 rintro ⟨O,⟨⟩⟩ hy
 subst hy
 refine Z1 ?_
 cases f
 exact Eo1 () [] []
theorem vE {r_:Int} {r:ByteArray} (H:kD r_=some r):CT G 172 [.int .i64 r_] [] [] (fun _:Unit=> .string r) (fun h=>[]) (fun h=>[]):=by
 delta kD at H
 refine Cf Go.Proofs.Tryz.func172 fun K=> ?_
 refine Y3 ?_
 have ⟨e8,H9,j⟩:=bnd H
 refine Tj0 [(16,.bool e8)] [0] [] [] ?_ ?_
 ·refine Z0 ?_
  refine Lw 5 H9 (fun b=> ?_) fun b=> ?_
  ·refine Z0 ?_
   cases b
   exact Eg0 [] 0
  refine Z0 ?_
  refine Lw 9 b (fun c=> ?_) fun c=> ?_
  ·refine Z0 ?_
   cases c
   exact Eg0 [] 0
  refine Z0 ?_
  refine Lw 12 c (fun d=> ?_) fun d=> ?_
  ·refine Z0 ?_
   cases d
   exact Eg0 [] 0
  refine Z0 ?_
  cases d
  exact Eg0 [] 0
 have ⟨a,k,l⟩:=bnd j
 refine Tj0 [(0,.int .i64 a)] [] [] [] ?_ ?_
 ·refine Tb k (fun e=> ?_) fun e=> ?_
  ·refine Z0 ?_
   cases e
   exact Eg0 [] 0
  refine Z0 ?_
  cases e
  exact Eg0 [] 0
 refine Z2 ?_
 refine Tb l (fun f=> ?_) fun f=> ?_
 ·refine Z1 ?_
  refine La [] [] (Ac.bs (ty:=(Ty.int .u8)) (xs:=[(IntKind.u8.wrap a)]) (.cons () [] rfl .nil) rfl rfl rfl rfl rfl rfl rfl) fun m=> ?_
  refine Ly (Yl.bs 0 rfl rfl rfl rfl rfl rfl rfl rfl rfl) ?_
  refine Z0 ?_
  cases f
  exact Eo1 () [] []
 refine Z2 ?_
 refine Tb f (fun g=> ?_) fun g=> ?_
 ·refine Z1 ?_
  refine La [] [] (Ac.bs (ty:=(Ty.int .u8)) (xs:=[(IntKind.u8.wrap (IntKind.i64.wrap (192+(IntKind.i64.wrap (a.tdiv 64))))),(IntKind.u8.wrap (IntKind.i64.wrap (128+(a.tmod 64))))]) (.cons () [] rfl (.cons () [] rfl .nil)) rfl rfl rfl rfl rfl rfl rfl) fun n=> ?_
  refine Ly (Yl.bs 0 rfl rfl rfl rfl rfl rfl rfl rfl rfl) ?_
  refine Z0 ?_
  cases g
  exact Eo1 () [] []
 refine Z2 ?_
 refine Tb g (fun i=> ?_) fun i=> ?_
 ·refine Z1 ?_
  refine La [] [] (Ac.bs (ty:=(Ty.int .u8)) (xs:=[(IntKind.u8.wrap (IntKind.i64.wrap (224+(IntKind.i64.wrap (a.tdiv 4096))))),(IntKind.u8.wrap (IntKind.i64.wrap (128+((IntKind.i64.wrap (a.tdiv 64)).tmod 64)))),(IntKind.u8.wrap (IntKind.i64.wrap (128+(a.tmod 64))))]) (.cons () [] rfl (.cons () [] rfl (.cons () [] rfl .nil))) rfl rfl rfl rfl rfl rfl rfl) fun o=> ?_
  refine Ly (Yl.bs 0 rfl rfl rfl rfl rfl rfl rfl rfl rfl) ?_
  refine Z0 ?_
  cases i
  exact Eo1 () [] []
 refine Z1 ?_
 refine La [] [] (Ac.bs (ty:=(Ty.int .u8)) (xs:=[(IntKind.u8.wrap (IntKind.i64.wrap (240+(IntKind.i64.wrap (a.tdiv 262144))))),(IntKind.u8.wrap (IntKind.i64.wrap (128+((IntKind.i64.wrap (a.tdiv 4096)).tmod 64)))),(IntKind.u8.wrap (IntKind.i64.wrap (128+((IntKind.i64.wrap (a.tdiv 64)).tmod 64)))),(IntKind.u8.wrap (IntKind.i64.wrap (128+(a.tmod 64))))]) (.cons () [] rfl (.cons () [] rfl (.cons () [] rfl (.cons () [] rfl .nil)))) rfl rfl rfl rfl rfl rfl rfl) fun p=> ?_
 refine Ly (Yl.bs 0 rfl rfl rfl rfl rfl rfl rfl rfl rfl) ?_
 refine Z0 ?_
 cases i
 exact Eo1 () [] []
theorem xD {r_:aR} {r:ByteArray} (H:l5 r_=some r):CT G 133 [.agg #[.slice A0 r_.l.length C0,.bool r_.wrapped]] [] [Im.sl bD A0 C0 r_.l] (fun _:Unit=> .string r) (fun h=>[]) (fun h=>[]):=by
 delta l5 at H
 refine Cf Go.Proofs.Tryz.func133 fun K=> ?_
 refine Z1 ?_
 refine Lx fun g1=> ?_
 refine Z3 ?_
 have ⟨r2,h3,H4⟩:=bnd H
 refine Lk [] [0] (qk h3) fun ⟨a5,c6⟩=> ?_
 refine Z0 ?_
 have ⟨d,f,g⟩:=bnd H4
 refine Tj0 [(3,.string d)] [] [] [1] ?_ ?_
 ·refine Yl0 ?_
  refine Tq (η:=Unit) (fun a h=>[(3,.string a.1),(9,.int .i64 a.2)]) [7,8] (fun _ _=>[]) [1,0] (fun _ _=>[]) () [1,0] [] f ?_
  rintro k_ a ⟨⟩ t i j k
  refine Y2 ?_
  refine Tb i (fun b=> ?_) fun b=> ?_
  ·refine Z1 ?_
   refine Zl ?_
   refine Z1 ?_
   have ⟨e,c,m⟩:=bnd b
   refine L.jd 1 rfl (bX c) fun u n=> ?_
   subst n
   refine Ly (Yl.ia c rfl rfl rfl rfl rfl rfl) ?_
   refine Ly (Yl.lo (v:= .agg #[.int .i64 e.rune,.int .i64 e.aM]) 1 a.2.toNat 0 (aV c).2 rfl rfl rfl rfl (fun _=>rfl)) ?_
   refine Ll fun w=> ?_
   refine Lt 0 ?_
   refine Z0 ?_
   have ⟨x,o,p⟩:=bnd m
   refine Lk [] [] (vE o) fun ⟨⟩=> ?_
   have ⟨_,q,s⟩:=bnd p
   refine Ly (Yl.sa q rfl rfl rfl) ?_
   refine Z0 ?_
   cases s
   exact Eg (_,()) (j _ rfl) [1,1] [] 0
  refine Z0 ?_
  cases b
  have hb:=k _ rfl
  subst d
  exact Eg0 [0] 0
 refine Z1 ?_
 cases g
 exact Eo1 () [] []
theorem zV {g:aX} {x_:cH} {r:Bool×aX} (H:mF g x_=some r):CT G 89 [.pointer (some ⟨N0,0,none⟩),.agg #[.int .i64 x_.w,.slice A1 x_.l.length C1]] [Ch.box N0 181 [.int .i64 g.w,.slice A0 g.l.length C0],Ch.arr aC 99 A0 C0 g.l] [Im.sl aL A1 C1 x_.l] (fun _:Unit=> .bool r.1) (fun h=>[Ch.box N0 181 [.int .i64 r.2.w,.slice A0 r.2.l.length C0],Ch.arr aC 99 A0 C0 r.2.l]) (fun h=>[]):=by
 delta mF at H
 refine Cf Go.Proofs.Tryz.func89 fun K=> ?_
 refine Z1 ?_
 refine Lx fun g1=> ?_
 refine Z1 ?_
 have ⟨r2,h3,H4⟩:=bnd H
 refine Lk [1,1] [] (eQ h3) fun ⟨⟩=> ?_
 refine Z1 ?_
 have ⟨r5,h6,H7⟩:=bnd H4
 refine Lk [0,0] [] (tE h6) fun ⟨a8,c9⟩=> ?_
 refine Y2 ?_
 have ⟨a,u,x⟩:=bnd H7
 refine Tj0 [(56,.bool a.1)] [0,3,7] [Ch.arr aC 99 A0 C0 a.2.l,Ch.box N0 181 [.int .i64 a.2.w,.slice A0 a.2.l.length C0]] [3,0] ?_ ?_
 ·refine Td [] [0,2] mo ?_
  refine Dq 0 ?_
  refine Dq 1 ?_
  refine Db 2 1 ?_
  refine Dq 3 ?_
  refine Dq 4 ?_
  refine D.cs 21 u rfl (fun hc b=> ?_) (fun hc b=> ?_)
  ·refine Ds 5 ?_
   refine Ds 6 ?_
   refine Ds 7 ?_
   refine Ds 8 ?_
   refine Ds 9 ?_
   refine Dq 10 ?_
   refine Dq 11 ?_
   refine Ds 12 ?_
   refine Ds 13 ?_
   refine Ds 14 ?_
   refine Ds 15 ?_
   refine Ds 16 ?_
   refine Ds 17 ?_
   refine Dq 18 ?_
   refine Dq 19 ?_
   refine Ds 20 ?_
   refine Ds 21 ?_
   refine Ds 22 ?_
   refine Ds 23 ?_
   refine Dq 24 ?_
   refine Dq 25 ?_
   refine Ds 26 ?_
   refine Ds 27 ?_
   refine Ds 28 ?_
   refine Ds 29 ?_
   refine Ds 30 ?_
   refine Dq 31 ?_
   refine Dq 32 ?_
   refine Ds 33 ?_
   refine Ds 34 ?_
   refine Ds 35 ?_
   refine Ds 36 ?_
   refine Ds 37 ?_
   refine Ds 38 ?_
   refine Dq 39 ?_
   refine Dn ?_
   cases b
   exact Eg0 [3,2,1,0] 0
  refine Dq 5 ?_
  refine Dq 6 ?_
  refine Db 7 1 ?_
  refine Dq 8 ?_
  refine Dq 9 ?_
  refine Dq 10 ?_
  refine Dq 11 ?_
  refine D.cs 28 b rfl (fun hc c=> ?_) (fun hc c=> ?_)
  ·refine Ds 12 ?_
   refine Ds 13 ?_
   refine Ds 14 ?_
   refine Ds 15 ?_
   refine Ds 16 ?_
   refine Ds 17 ?_
   refine Dq 18 ?_
   refine Dq 19 ?_
   refine Ds 20 ?_
   refine Ds 21 ?_
   refine Ds 22 ?_
   refine Ds 23 ?_
   refine Dq 24 ?_
   refine Dq 25 ?_
   refine Ds 26 ?_
   refine Ds 27 ?_
   refine Ds 28 ?_
   refine Ds 29 ?_
   refine Ds 30 ?_
   refine Dq 31 ?_
   refine Dq 32 ?_
   refine Ds 33 ?_
   refine Ds 34 ?_
   refine Ds 35 ?_
   refine Ds 36 ?_
   refine Ds 37 ?_
   refine Ds 38 ?_
   refine Dq 39 ?_
   refine Dn ?_
   cases c
   exact Eg0 [3,2,1,0] 0
  refine Dq 12 ?_
  refine Dq 14 ?_
  refine Db 15 1 ?_
  have ⟨ah,y,z⟩:=bnd c
  refine Dk [0,0] [] (o6 y) fun ⟨ai,aj⟩=> ?_
  have ⟨ak,A,B⟩:=bnd z
  refine D.one rfl rfl rfl (Dp.br (Ac.call (sQ A) rfl rfl rfl rfl) (Bw.ch 2 rfl (Bw.im 0 rfl (Bw.nil))) rfl rfl rfl rfl ?_)
  intro _
  refine Dq 17 ?_
  refine Dq 18 ?_
  refine Dq 19 ?_
  refine D.cs 36 B rfl (fun hc d=> ?_) (fun hc d=> ?_)
  ·refine Ds 20 ?_
   refine Ds 21 ?_
   refine Ds 22 ?_
   refine Ds 23 ?_
   refine Dq 24 ?_
   refine Dq 25 ?_
   refine Ds 26 ?_
   refine Ds 27 ?_
   refine Ds 28 ?_
   refine Ds 29 ?_
   refine Ds 30 ?_
   refine Dq 31 ?_
   refine Dq 32 ?_
   refine Ds 33 ?_
   refine Ds 34 ?_
   refine Ds 35 ?_
   refine Ds 36 ?_
   refine Ds 37 ?_
   refine Ds 38 ?_
   refine Dq 39 ?_
   refine Dn ?_
   cases d
   exact Eg0 [4,3,1,0] 0
  refine Dq 20 ?_
  refine Dq 21 ?_
  refine Dq 22 ?_
  refine Dq 23 ?_
  refine Dq 24 ?_
  refine Dq 25 ?_
  refine D.cs 42 d rfl (fun hc e=> ?_) (fun hc e=> ?_)
  ·refine Ds 26 ?_
   refine Ds 27 ?_
   refine Ds 28 ?_
   refine Ds 29 ?_
   refine Ds 30 ?_
   refine Dq 31 ?_
   refine Dq 32 ?_
   refine Ds 33 ?_
   refine Ds 34 ?_
   refine Ds 35 ?_
   refine Ds 36 ?_
   refine Ds 37 ?_
   refine Ds 38 ?_
   refine Dq 39 ?_
   refine Dn ?_
   cases e
   exact Eg0 [4,3,1,0] 0
  refine Dq 26 ?_
  have ⟨al,C,F⟩:=bnd e
  refine D.one rfl rfl rfl (Dp.ab [3,3] [] [2,2] (Ac.call (gy C) rfl rfl rfl rfl) rfl rfl rfl rfl rfl rfl (fun _=>rfl) ?_)
  rintro ⟨am,an⟩
  refine Dq 28 ?_
  refine Dq 29 ?_
  refine Dq 30 ?_
  refine Dq 31 ?_
  refine Dq 32 ?_
  refine D.cs 49 F rfl (fun hc f=> ?_) (fun hc f=> ?_)
  ·refine Ds 33 ?_
   refine Ds 34 ?_
   refine Ds 35 ?_
   refine Ds 36 ?_
   refine Ds 37 ?_
   refine Ds 38 ?_
   refine Dq 39 ?_
   refine Dn ?_
   cases f
   exact Eg0 [3,2,1,0] 1
  refine Dq 33 ?_
  refine Dq 34 ?_
  have ⟨ao,I,J⟩:=bnd f
  refine D.one rfl rfl rfl (Dp.ab [2,2] [] [2,2] (Ac.call (gy I) rfl rfl rfl rfl) rfl rfl rfl rfl rfl rfl (fun _=>rfl) ?_)
  rintro ⟨ap,aq⟩
  refine Dq 36 ?_
  refine Dq 37 ?_
  refine Dq 38 ?_
  refine Dq 39 ?_
  refine Dn ?_
  cases J
  exact Eg0 [3,2,1,0] 2
 refine Tb x (fun i=> ?_) fun i=> ?_
 ·refine Z1 ?_
  cases i
  exact Eo1 () [1,0] []
 refine Z2 ?_
 have ⟨j,M,s⟩:=bnd i
 refine Tj (η:=Unit×Unit) (fun h=>j = .inl h.1) (fun _=>[]) [] (fun _=>[]) [1,2,0] (fun _=>[]) ?_ ?_
 ·refine Yl0 ?_
  refine Tq (η:=Unit) (fun k h=>[(60,.int .i64 k)]) [0,7,58,59] (fun _ _=>[]) [1,2,0,3] (fun _ _=>[]) () [1,1,0,0] [] M ?_
  rintro k_ k ⟨⟩ N O P t
  refine Y2 ?_
  refine Tb O (fun m=> ?_) fun m=> ?_
  ·refine Z1 ?_
   refine Zl ?_
   refine Z1 ?_
   have ⟨ar,n,Q⟩:=bnd m
   refine L.addr 0 rfl (bX n) fun au av R=> ?_
   subst R
   refine Ly (Yl.ia n rfl rfl rfl rfl rfl rfl) ?_
   refine L.el 0 rfl (aV n).2 ?_
   rintro ⟨aw,ax⟩
   refine Lc 0 0 ?_
   refine Ll fun ay=> ?_
   refine Z0 ?_
   refine Lt 0 ?_
   refine Y1 ?_
   have ⟨S,U,V⟩:=bnd Q
   refine Tj0 [(79,.bool S)] [0,7,58,59,60] [] [0,1,2,3,4] ?_ ?_
   ·refine Td [] [0,0,0,0,0] mo ?_
    refine Dq 0 ?_
    refine Dq 1 ?_
    refine Db 3 0 ?_
    have ⟨az,W,X⟩:=bnd U
    refine D.one rfl rfl rfl (Dp.ab [1,2] [] [2,0,1,0,0] (Ac.call (gy W) rfl rfl rfl rfl) rfl rfl rfl rfl rfl rfl (fun _=>rfl) ?_)
    rintro ⟨a0,a1⟩
    have ⟨a2,Y,Z⟩:=bnd X
    refine Dk [] [0,2] (vD Y) fun ⟨⟩=> ?_
    refine Dq 5 ?_
    refine Dq 6 ?_
    refine D.cs 71 Z rfl (fun hc o=> ?_) (fun hc o=> ?_)
    ·refine Ds 7 ?_
     refine Ds 8 ?_
     refine Ds 9 ?_
     refine Ds 10 ?_
     refine Ds 11 ?_
     refine Ds 12 ?_
     refine Ds 13 ?_
     refine Dq 14 ?_
     refine Dn ?_
     cases o
     exact Eg0 [0,0,0,0,0] 1
    refine Dq 7 ?_
    refine Dq 8 ?_
    have ⟨aa,p,ac⟩:=bnd o
    refine D.jd 4 rfl (bX p) fun a3 ad=> ?_
    subst ad
    refine Dy 9 (Yl.ia p rfl rfl rfl rfl rfl rfl) ?_
    refine Dy 10 (Yl.lo (v:= .string aa) 4 k.toNat 0 (aV p).2 rfl rfl rfl rfl (fun _=>rfl)) ?_
    refine Db 11 0 ?_
    have ⟨a4,ae,af⟩:=bnd ac
    refine Dk [] [2] (xD ae) fun ⟨⟩=> ?_
    refine Dq 13 ?_
    refine Dq 14 ?_
    refine Dn ?_
    cases af
    exact Eg0 [0,0,0,0,0] 1
   refine Tb V (fun q=> ?_) fun q=> ?_
   ·refine Z1 ?_
    obtain ⟨a5,hz,ag⟩:=gI q
    subst N
    have hb:=t _ rfl
    subst j
    obtain rfl:=(sm s).symm
    refine Z0 ?_
    cases ag
    exact Eo1 () [1,2] []
   refine Z0 ?_
   cases q
   exact Eg (_,()) (P _ rfl) [1,1,1,1] [] 2
  refine Z0 ?_
  cases m
  have hb:=t _ rfl
  subst j
  exact Eg (_,()) rfl [0,0,0] [] 0
 rintro ⟨a6,⟨⟩⟩ hy
 subst hy
 refine Z1 ?_
 cases s
 exact Eo1 () [0,1] []
theorem o7 {s_:aB} {r:Bool} (H:ig s_=some r):CT G 90 [.pointer (some ⟨N0,0,none⟩)] [Ch.box N0 132 (bO s_ N1),Ch.box N1 181 [.int .i64 s_.g.w,.slice A0 s_.g.l.length C0],Ch.arr aC 99 A0 C0 s_.g.l] [] (fun _:Unit=> .bool r) (fun h=>[Ch.box N0 132 (bO s_ N1),Ch.box N1 181 [.int .i64 s_.g.w,.slice A0 s_.g.l.length C0],Ch.arr aC 99 A0 C0 s_.g.l]) (fun h=>[]):=by
 delta ig at H
 refine Cf Go.Proofs.Tryz.func90 fun K=> ?_
 refine Z2 ?_
 cases H
 exact Eo1 () [0,0,0] []
theorem pL {s_:aB} {r:bG} (H:iX s_=some r):CT G 91 [.pointer (some ⟨N0,0,none⟩)] [Ch.box N0 132 (bO s_ N1),Ch.box N1 181 [.int .i64 s_.g.w,.slice A0 s_.g.l.length C0],Ch.arr aC 99 A0 C0 s_.g.l] [] (fun _:Unit=> .agg (qa r).toArray) (fun h=>[Ch.box N0 132 (bO s_ N1),Ch.box N1 181 [.int .i64 s_.g.w,.slice A0 s_.g.l.length C0],Ch.arr aC 99 A0 C0 s_.g.l]) (fun h=>[]):=by
 delta iX at H
 refine Cf Go.Proofs.Tryz.func91 fun K=> ?_
 refine Z1 ?_
 refine Ll fun g1=> ?_
 refine Z1 ?_
 refine Lt 0 ?_
 refine Z0 ?_
 cases H
 exact Eo () [1,1,1] [] (.cell 0 rfl rfl rfl .nil)
theorem zW {s_:aB} {x_:aK} {r:Bool×aB} (H:nO s_ x_=some r):CT G 41 [.pointer (some ⟨N0,0,none⟩),.agg (lJ x_ A1 C1).toArray] [Ch.box N0 132 (bO s_ N1),Ch.box N1 181 [.int .i64 s_.g.w,.slice A0 s_.g.l.length C0],Ch.arr aC 99 A0 C0 s_.g.l] [Im.sl aL A1 C1 x_.g.l] (fun _:Unit=> .bool r.1) (fun h=>[Ch.box N0 132 (bO r.2 N1),Ch.box N1 181 [.int .i64 r.2.g.w,.slice A0 r.2.g.l.length C0],Ch.arr aC 99 A0 C0 r.2.g.l]) (fun h=>[]):=by
 delta nO at H
 refine Cf Go.Proofs.Tryz.func41 fun K=> ?_
 refine Z1 ?_
 refine Lx fun g1=> ?_
 refine Z1 ?_
 have ⟨r2,h3,H4⟩:=bnd H
 refine Lk [1,1,1] [] (mi h3) fun ⟨⟩=> ?_
 refine Z1 ?_
 have ⟨r5,h6,H7⟩:=bnd H4
 refine Lk [0,0,0] [] (pA h6) fun ⟨⟩=> ?_
 refine Z1 ?_
 have ⟨r8,h9,n⟩:=bnd H7
 refine Lk [0,0,0] [] (na h9) fun ⟨o,⟨k,m⟩⟩=> ?_
 refine Y1 ?_
 have ⟨a,p,q⟩:=bnd n
 refine Tj0 [(4,.bool a.1)] [] [Ch.arr aC 99 k m a.2.l,Ch.box o 181 [.int .i64 a.2.w,.slice k a.2.l.length m]] [2,3,5,4] ?_ ?_
 ·refine Td [] [2,2,2,2] mo ?_
  refine Dq 0 ?_
  refine Dy 1 (Yl.pn rfl rfl rfl rfl rfl rfl) ?_
  refine Dq 2 ?_
  refine Dq 3 ?_
  refine Dq 4 ?_
  refine Db 5 3 ?_
  have ⟨B,s,t⟩:=bnd p
  refine Dk [0,0] [0] (zV s) fun ⟨⟩=> ?_
  refine Dq 7 ?_
  refine Dq 8 ?_
  refine D.cs 30 t rfl (fun hc b=> ?_) (fun hc b=> ?_)
  ·refine Dq 9 ?_
   refine Dq 10 ?_
   refine Db 11 3 ?_
   refine Dq 12 ?_
   refine Dq 13 ?_
   refine Dq 14 ?_
   refine D.cs 36 b rfl (fun hc c=> ?_) (fun hc c=> ?_)
   ·refine Dq 15 ?_
    refine Dq 16 ?_
    refine Db 17 3 ?_
    refine Dq 18 ?_
    refine Dq 19 ?_
    refine Dq 20 ?_
    refine D.cs 42 c rfl (fun hc d=> ?_) (fun hc d=> ?_)
    ·refine Dq 21 ?_
     refine Dq 22 ?_
     refine Db 23 3 ?_
     refine Dq 24 ?_
     refine Dq 25 ?_
     refine Dq 26 ?_
     refine D.cs 48 d rfl (fun hc e=> ?_) (fun hc e=> ?_)
     ·refine Dq 27 ?_
      refine Dq 28 ?_
      refine Db 29 3 ?_
      refine Dq 30 ?_
      refine Dq 31 ?_
      refine Dq 32 ?_
      refine D.cs 54 e rfl (fun hc f=> ?_) (fun hc f=> ?_)
      ·refine Dq 33 ?_
       refine Dq 35 ?_
       refine Db 36 3 ?_
       have ⟨C,u,v⟩:=bnd f
       refine D.one rfl rfl rfl (Dp.ab [0,0,0] [] [0,0,0,0] (Ac.call (o7 u) rfl rfl rfl rfl) rfl rfl rfl rfl rfl rfl (fun _=>rfl) ?_)
       rintro ⟨⟩
       refine Dq 37 ?_
       refine Dq 38 ?_
       refine Dq 39 ?_
       refine D.cs 61 v rfl (fun hc i=> ?_) (fun hc i=> ?_)
       ·refine Dq 40 ?_
        refine Dq 42 ?_
        refine Db 43 3 ?_
        have ⟨F,x,y⟩:=bnd i
        refine D.one rfl rfl rfl (Dp.ab [0,0,0] [] [0,0,0,0] (Ac.call (mw x) rfl rfl rfl rfl) rfl rfl rfl rfl rfl rfl (fun _=>rfl) ?_)
        rintro ⟨⟩
        refine Dq 44 ?_
        refine Dq 45 ?_
        refine Dq 46 ?_
        refine D.cs 68 y rfl (fun hc j=> ?_) (fun hc j=> ?_)
        ·refine Dq 47 ?_
         refine Dq 49 ?_
         refine Db 50 3 ?_
         have ⟨I,z,A⟩:=bnd j
         refine D.one rfl rfl rfl (Dp.ab [0,0,0] [] [0,0,0,0] (Ac.call (pL z) rfl rfl rfl rfl) rfl rfl rfl rfl rfl rfl (fun _=>rfl) ?_)
         rintro ⟨⟩
         refine Dq 51 ?_
         refine Dq 52 ?_
         refine Dq 53 ?_
         refine Dn ?_
         cases A
         exact Eg0 [5,4,0,0,1,0] 0
        refine Ds 47 ?_
        refine Ds 48 ?_
        refine Ds 49 ?_
        refine Ds 50 ?_
        refine Ds 51 ?_
        refine Dq 52 ?_
        refine Dq 53 ?_
        refine Dn ?_
        cases j
        exact Eg0 [5,4,0,0,1,0] 0
       refine Ds 40 ?_
       refine Ds 41 ?_
       refine Ds 42 ?_
       refine Ds 43 ?_
       refine Ds 44 ?_
       refine Dq 45 ?_
       refine Dq 46 ?_
       refine Ds 47 ?_
       refine Ds 48 ?_
       refine Ds 49 ?_
       refine Ds 50 ?_
       refine Ds 51 ?_
       refine Dq 52 ?_
       refine Dq 53 ?_
       refine Dn ?_
       cases i
       exact Eg0 [5,4,0,0,1,0] 0
      refine Ds 33 ?_
      refine Ds 34 ?_
      refine Ds 35 ?_
      refine Ds 36 ?_
      refine Ds 37 ?_
      refine Dq 38 ?_
      refine Dq 39 ?_
      refine Ds 40 ?_
      refine Ds 41 ?_
      refine Ds 42 ?_
      refine Ds 43 ?_
      refine Ds 44 ?_
      refine Dq 45 ?_
      refine Dq 46 ?_
      refine Ds 47 ?_
      refine Ds 48 ?_
      refine Ds 49 ?_
      refine Ds 50 ?_
      refine Ds 51 ?_
      refine Dq 52 ?_
      refine Dq 53 ?_
      refine Dn ?_
      cases f
      exact Eg0 [5,4,0,0,1,0] 0
     refine Ds 27 ?_
     refine Ds 28 ?_
     refine Ds 29 ?_
     refine Ds 30 ?_
     refine Dq 31 ?_
     refine Dq 32 ?_
     refine Ds 33 ?_
     refine Ds 34 ?_
     refine Ds 35 ?_
     refine Ds 36 ?_
     refine Ds 37 ?_
     refine Dq 38 ?_
     refine Dq 39 ?_
     refine Ds 40 ?_
     refine Ds 41 ?_
     refine Ds 42 ?_
     refine Ds 43 ?_
     refine Ds 44 ?_
     refine Dq 45 ?_
     refine Dq 46 ?_
     refine Ds 47 ?_
     refine Ds 48 ?_
     refine Ds 49 ?_
     refine Ds 50 ?_
     refine Ds 51 ?_
     refine Dq 52 ?_
     refine Dq 53 ?_
     refine Dn ?_
     cases e
     exact Eg0 [5,4,0,0,1,0] 0
    refine Ds 21 ?_
    refine Ds 22 ?_
    refine Ds 23 ?_
    refine Ds 24 ?_
    refine Dq 25 ?_
    refine Dq 26 ?_
    refine Ds 27 ?_
    refine Ds 28 ?_
    refine Ds 29 ?_
    refine Ds 30 ?_
    refine Dq 31 ?_
    refine Dq 32 ?_
    refine Ds 33 ?_
    refine Ds 34 ?_
    refine Ds 35 ?_
    refine Ds 36 ?_
    refine Ds 37 ?_
    refine Dq 38 ?_
    refine Dq 39 ?_
    refine Ds 40 ?_
    refine Ds 41 ?_
    refine Ds 42 ?_
    refine Ds 43 ?_
    refine Ds 44 ?_
    refine Dq 45 ?_
    refine Dq 46 ?_
    refine Ds 47 ?_
    refine Ds 48 ?_
    refine Ds 49 ?_
    refine Ds 50 ?_
    refine Ds 51 ?_
    refine Dq 52 ?_
    refine Dq 53 ?_
    refine Dn ?_
    cases d
    exact Eg0 [5,4,0,0,1,0] 0
   refine Ds 15 ?_
   refine Ds 16 ?_
   refine Ds 17 ?_
   refine Ds 18 ?_
   refine Dq 19 ?_
   refine Dq 20 ?_
   refine Ds 21 ?_
   refine Ds 22 ?_
   refine Ds 23 ?_
   refine Ds 24 ?_
   refine Dq 25 ?_
   refine Dq 26 ?_
   refine Ds 27 ?_
   refine Ds 28 ?_
   refine Ds 29 ?_
   refine Ds 30 ?_
   refine Dq 31 ?_
   refine Dq 32 ?_
   refine Ds 33 ?_
   refine Ds 34 ?_
   refine Ds 35 ?_
   refine Ds 36 ?_
   refine Ds 37 ?_
   refine Dq 38 ?_
   refine Dq 39 ?_
   refine Ds 40 ?_
   refine Ds 41 ?_
   refine Ds 42 ?_
   refine Ds 43 ?_
   refine Ds 44 ?_
   refine Dq 45 ?_
   refine Dq 46 ?_
   refine Ds 47 ?_
   refine Ds 48 ?_
   refine Ds 49 ?_
   refine Ds 50 ?_
   refine Ds 51 ?_
   refine Dq 52 ?_
   refine Dq 53 ?_
   refine Dn ?_
   cases c
   exact Eg0 [5,4,0,0,1,0] 0
  refine Ds 9 ?_
  refine Ds 10 ?_
  refine Ds 11 ?_
  refine Ds 12 ?_
  refine Dq 13 ?_
  refine Dq 14 ?_
  refine Ds 15 ?_
  refine Ds 16 ?_
  refine Ds 17 ?_
  refine Ds 18 ?_
  refine Dq 19 ?_
  refine Dq 20 ?_
  refine Ds 21 ?_
  refine Ds 22 ?_
  refine Ds 23 ?_
  refine Ds 24 ?_
  refine Dq 25 ?_
  refine Dq 26 ?_
  refine Ds 27 ?_
  refine Ds 28 ?_
  refine Ds 29 ?_
  refine Ds 30 ?_
  refine Dq 31 ?_
  refine Dq 32 ?_
  refine Ds 33 ?_
  refine Ds 34 ?_
  refine Ds 35 ?_
  refine Ds 36 ?_
  refine Ds 37 ?_
  refine Dq 38 ?_
  refine Dq 39 ?_
  refine Ds 40 ?_
  refine Ds 41 ?_
  refine Ds 42 ?_
  refine Ds 43 ?_
  refine Ds 44 ?_
  refine Dq 45 ?_
  refine Dq 46 ?_
  refine Ds 47 ?_
  refine Ds 48 ?_
  refine Ds 49 ?_
  refine Ds 50 ?_
  refine Ds 51 ?_
  refine Dq 52 ?_
  refine Dq 53 ?_
  refine Dn ?_
  cases b
  exact Eg0 [5,4,0,0,1,0] 0
 refine Z0 ?_
 cases q
 exact Eo1 () [2,2,3] []
theorem qn {n_:Int} {r:ByteArray} (H:ju n_=some r):CT G 203 [.int .i64 n_] [] [] (fun _:Unit=> .string r) (fun h=>[]) (fun h=>[]):=by
 delta ju at H
 refine Cf Go.Proofs.Tryz.func203 fun K=> ?_
 refine Z3 ?_
 refine La [] [] (Ac.bs (ty:=(Ty.int .u8)) (xs:=[]) .nil rfl rfl rfl rfl rfl rfl rfl) fun g1=> ?_
 refine Y1 ?_
 have ⟨b,i,j⟩:=bnd H
 refine Tjh (η:=(Option Addr×Nat)) (fun h=>(fun e f=>[(0,.int .i64 b.1),(3,.slice e b.2.length f)]) h.1 h.2) [] (fun h=>(fun e f=>[Ch.arr (Ty.int .u8) 5 e f b.2]) h.1 h.2) [] (fun _=>[]) ?_ ?_
 ·refine Yl0 ?_
  refine Tq (η:=(Option Addr×Nat)) (fun a h=>(fun c d=>[(0,.int .i64 a.1),(3,.slice c a.2.length d)]) h.1 h.2) [] (fun a h=>(fun c d=>[Ch.arr (Ty.int .u8) 5 c d a.2]) h.1 h.2) [] (fun _ _=>[]) ((some ⟨g1,0,none⟩),0) [0] [] i ?_
  rintro k_ a ⟨c,d⟩ u k l m
  refine Z2 ?_
  refine Tb k (fun g=> ?_) fun g=> ?_
  ·refine Zl ?_
   refine Z1 ?_
   refine La [] [] (Ac.bs (ty:=(Ty.int .u8)) (xs:=[(IntKind.u8.wrap (IntKind.i64.wrap (128+(a.1.tmod 128))))]) (.cons () [] rfl .nil) rfl rfl rfl rfl rfl rfl rfl) fun v=> ?_
   refine L.frz 0 rfl ?_
   have ⟨_,n,o⟩:=bnd g
   refine La [0] [0] (Ac.ap (ty:=(Ty.int .u8)) n rfl rfl rfl rfl rfl rfl rfl) ?_
   rintro ⟨p,q⟩
   refine Z0 ?_
   cases o
   exact Eg (_,(p,q)) (l _ rfl) [0] [] 1
  refine Z0 ?_
  cases g
  have hb:=m _ rfl
  subst b
  exact Eg (c,d) trivial [0] [] 0
 rintro ⟨e,f⟩
 refine Z1 ?_
 refine La [] [] (Ac.bs (ty:=(Ty.int .u8)) (xs:=[(IntKind.u8.wrap b.1)]) (.cons () [] rfl .nil) rfl rfl rfl rfl rfl rfl rfl) fun w=> ?_
 refine L.frz 0 rfl ?_
 have ⟨_,s,t⟩:=bnd j
 refine La [0] [0] (Ac.ap (ty:=(Ty.int .u8)) s rfl rfl rfl rfl rfl rfl rfl) ?_
 rintro ⟨x,y⟩
 refine Ly (Yl.bs 0 rfl rfl rfl rfl rfl rfl rfl rfl rfl) ?_
 refine Z0 ?_
 cases t
 exact Eo1 () [] []
theorem xE {l:List bW} {r:ByteArray} (H:l8 l=some r):CT G 174 [.slice A0 l.length C0] [] [Im.sl aU A0 C0 l] (fun _:Unit=> .string r) (fun h=>[]) (fun h=>[]):=by
 delta l8 at H
 refine Cf Go.Proofs.Tryz.func174 fun K=> ?_
 refine Z2 ?_
 have ⟨r1,h2,H3⟩:=bnd H
 refine Lk [] [] (qn h2) fun ⟨⟩=> ?_
 refine Z2 ?_
 have ⟨d,e,f⟩:=bnd H3
 refine Tj0 [(3,.string d)] [] [] [] ?_ ?_
 ·refine Yl0 ?_
  refine Tq (η:=Unit) (fun a h=>[(3,.string a.2),(11,.int .i64 a.1)]) [9,10] (fun _ _=>[]) [] (fun _ _=>[]) () [] [] e ?_
  rintro k_ a ⟨⟩ w g i j
  refine Y2 ?_
  refine Tb g (fun b=> ?_) fun b=> ?_
  ·refine Z1 ?_
   refine Zl ?_
   refine Z1 ?_
   have ⟨x,c,k⟩:=bnd b
   refine L.addr 0 rfl (bX c) fun y z m=> ?_
   subst m
   refine Ly (Yl.ia c rfl rfl rfl rfl rfl rfl) ?_
   refine L.el 0 rfl (aV c).2 ?_
   rintro _
   refine Lc 0 0 ?_
   refine Ll fun A=> ?_
   refine Lt 0 ?_
   refine Z0 ?_
   refine Td [] [0] mo ?_
   refine Dq 0 ?_
   refine Dq 1 ?_
   refine Db 2 0 ?_
   refine Dq 4 ?_
   refine Db 5 0 ?_
   have ⟨B,n,o⟩:=bnd k
   refine Dk [] [] (qn n) fun ⟨⟩=> ?_
   have ⟨C,p,q⟩:=bnd o
   refine Dk [] [] (qn p) fun ⟨⟩=> ?_
   have ⟨_,s,t⟩:=bnd q
   refine Dy 7 (Yl.sa s rfl rfl rfl) ?_
   have ⟨_,u,v⟩:=bnd t
   refine Dy 8 (Yl.sa u rfl rfl rfl) ?_
   refine Dq 9 ?_
   refine Dn ?_
   refine Z0 ?_
   cases v
   exact Eg (_,()) (i _ rfl) [] [] 1
  refine Z0 ?_
  cases b
  have hb:=j _ rfl
  subst d
  exact Eg0 [] 0
 refine Z1 ?_
 cases f
 exact Eo1 () [] []
theorem zX {s_:ByteArray} {r:Int} (H:nP s_=some r):CT G 173 [.string s_] [] [] (fun _:Unit=> .int .i64 r) (fun h=>[]) (fun h=>[]):=by
 delta nP at H
 refine Cf Go.Proofs.Tryz.func173 fun K=> ?_
 refine Z3 ?_
 refine Z1 ?_
 have ⟨f,i,j⟩:=bnd H
 refine Tj0 [(3,.int .i64 f)] [] [] [] ?_ ?_
 ·refine Yl0 ?_
  refine Tq (η:=Unit) (fun a h=>[(3,.int .i64 a.1),(4,.int .i64 a.2)]) [0] (fun _ _=>[]) [] (fun _ _=>[]) () [] [] i ?_
  rintro k_ a ⟨⟩ y k l m
  refine Z2 ?_
  refine Tb k (fun b=> ?_) fun b=> ?_
  ·refine Z1 ?_
   refine Zl ?_
   refine Z1 ?_
   have ⟨z,n,o⟩:=bnd b
   refine Ly (Yl.si n rfl rfl rfl rfl rfl) ?_
   refine Z1 ?_
   have ⟨g,p,q⟩:=bnd o
   refine T.uO (η:=Unit×Unit) (fun h=>True) (fun h=>[(0,.string s_),(3,.int .i64 g),(4,.int .i64 a.2)]) (fun h=>[]) (fun h=>[]) ?_ ?_
   ·refine Yl0 ?_
    refine Tq (η:=Unit) (fun c h=>[(3,.int .i64 c.1),(5,.int .i64 c.2)]) [0,4] (fun _ _=>[]) [] (fun _ _=>[]) () [] [] p ?_
    rintro k_ c ⟨⟩ A s t u
    refine Z2 ?_
    refine Tb s (fun d=> ?_) fun d=> ?_
    ·refine Y1 ?_
     have ⟨v,w,x⟩:=bnd d
     refine Tj0 [(3,.int .i64 v)] [0,4,5] [] [] ?_ ?_
     ·refine Zl ?_
      refine Z1 ?_
      refine Tb w (fun e=> ?_) fun e=> ?_
      ·refine Z0 ?_
       cases e
       exact Eg0 [] 0
      refine Z0 ?_
      cases e
      exact Eg0 [] 0
     refine Z0 ?_
     cases x
     exact Eg (_,()) (t _ rfl) [] [] 0
    refine Z0 ?_
    cases d
    have hb:=u _ rfl
    subst g
    exact Egx ((),()) trivial [] []
   rintro ⟨_,⟨⟩⟩ _
   refine Z0 ?_
   cases q
   exact Eg (_,()) (l _ rfl) [] [] 0
  refine Z0 ?_
  cases b
  have hb:=m _ rfl
  subst f
  exact Eg0 [] 0
 refine Z1 ?_
 cases j
 exact Eo1 () [] []
theorem vV {b:iO} {n_:Int} {r:Int} (H:lk b n_=some r):CT G 134 [.agg #[.slice A0 b.l.length C0,.slice A1 b.begun.length C1],.int .i64 n_] [] [Im.sl (Ty.slice aU) A0 C0 b.l,Im.sl aU A1 C1 b.begun] (fun _:Unit=> .int .i64 r) (fun h=>[]) (fun h=>[]):=by
 delta lk at H
 refine Cf Go.Proofs.Tryz.func134 fun K=> ?_
 refine Z1 ?_
 refine Lx fun g1=> ?_
 refine Z3 ?_
 have ⟨i,k,m⟩:=bnd H
 refine Tj0 [(5,.int .i64 i)] [] [] [0] ?_ ?_
 ·refine Yl0 ?_
  refine Tq (η:=Unit) (fun a h=>[(5,.int .i64 a.1),(6,.int .i64 a.2)]) [1,2] (fun _ _=>[]) [0] (fun _ _=>[]) () [0] [] k ?_
  rintro k_ a ⟨⟩ J n o p
  refine Y2 ?_
  have ⟨q,s,t⟩:=bnd n
  refine Tj0 [(17,.bool q)] [1,2,5,6] [] [0] ?_ ?_
  ·refine Z0 ?_
   refine Lw 11 s (fun c=> ?_) fun c=> ?_
   ·refine Z0 ?_
    cases c
    exact Eg0 [0] 0
   refine Z0 ?_
   cases c
   exact Eg0 [0] 0
  refine Tb t (fun d=> ?_) fun d=> ?_
  ·refine Z1 ?_
   refine Zl ?_
   refine Z2 ?_
   have ⟨j,u,v⟩:=bnd d
   refine Tj0 [(5,.int .i64 j)] [1,2,6] [] [0] ?_ ?_
   ·refine Yl0 ?_
    refine Tq (η:=Unit) (fun e h=>[(5,.int .i64 e.1),(7,.int .i64 e.2)]) [1,2,6] (fun _ _=>[]) [0] (fun _ _=>[]) () [0] [] u ?_
    rintro k_ e ⟨⟩ M w x y
    refine Z2 ?_
    refine Tb w (fun f=> ?_) fun f=> ?_
    ·refine Z1 ?_
     refine Zl ?_
     cases f
     exact Eg (_,()) (x _ rfl) [0] [] 0
    refine Z0 ?_
    cases f
    have hb:=y _ rfl
    subst j
    exact Eg0 [0] 0
   refine Z0 ?_
   have ⟨N,g,z⟩:=bnd v
   refine L.addr 0 rfl (bX g) fun O P A=> ?_
   subst A
   refine Ly (Yl.ia g rfl rfl rfl rfl rfl rfl) ?_
   refine L.el 0 rfl (aV g).2 ?_
   rintro ⟨Q,R⟩
   refine Lc 0 0 ?_
   have ⟨S,B,C⟩:=bnd z
   refine Lk [] [1] (xE B) fun ⟨⟩=> ?_
   have ⟨U,F,I⟩:=bnd C
   refine Lk [] [] (zX F) fun ⟨⟩=> ?_
   refine Z0 ?_
   cases I
   exact Eg (_,()) (o _ rfl) [0] [] 2
  refine Z0 ?_
  cases d
  have hb:=p _ rfl
  subst i
  exact Eg0 [0] 0
 refine Z1 ?_
 cases m
 exact Eo1 () [] []
theorem zY {k:Int} {s_:aK} {b:iO} {r:k7} (H:pd k s_ b=some r):CT G 93 [.int .i64 k,.agg (lJ s_ A0 C0).toArray,.agg #[.slice A1 b.l.length C1,.slice A2 b.begun.length C2]] [] [Im.sl aL A0 C0 s_.g.l,Im.sl (Ty.slice aU) A1 C1 b.l,Im.sl aU A2 C2 b.begun] (fun _:Unit=> .agg (EL r A0 C0 A2 C2).toArray) (fun h=>[]) (fun h=>[Im.sl aL A0 C0 r.rows,Im.sl aU A2 C2 r.begun]):=by
 delta pd at H
 refine Cf Go.Proofs.Tryz.func93 fun K=> ?_
 refine Z1 ?_
 refine Lx fun g1=> ?_
 refine Lx fun g2=> ?_
 refine Ll fun g3=> ?_
 refine Y1 ?_
 refine Td [28] [0,0,0] mo ?_
 refine Dq 0 ?_
 refine Dq 1 ?_
 refine Dq 2 ?_
 refine Db 3 2 ?_
 refine Dq 4 ?_
 refine Dq 5 ?_
 refine Db 6 2 ?_
 refine Dq 7 ?_
 refine Dq 8 ?_
 refine Db 9 2 ?_
 refine Dq 10 ?_
 refine Db 11 2 ?_
 refine Dq 12 ?_
 refine Db 13 2 ?_
 refine Dq 14 ?_
 refine Dq 15 ?_
 refine Db 16 2 ?_
 refine Dq 17 ?_
 refine Db 18 1 ?_
 refine Dq 19 ?_
 refine Db 20 1 ?_
 refine Dq 21 ?_
 refine Db 22 1 ?_
 refine Dq 23 ?_
 refine Dq 25 ?_
 refine Db 26 1 ?_
 have ⟨d,a,c⟩:=bnd H
 refine Dk [] [1,2] (vV a) fun ⟨⟩=> ?_
 refine Dq 27 ?_
 refine Dt 0 ?_
 refine Dn ?_
 refine Z0 ?_
 cases c
 exact Eo () [] [0,2] (.cell 0 rfl rfl rfl .nil)
theorem xF {m_:bC} {r:k7} (H:ma m_=some r):CT G 43 [.agg (p9 m_ A0 C0 A1 C1 A2 C2).toArray] [] [Im.sl aL A0 C0 m_.s.g.l,Im.sl (Ty.slice aU) A1 C1 m_.b.l,Im.sl aU A2 C2 m_.b.begun] (fun _:Unit=> .agg (EL r A0 C0 A2 C2).toArray) (fun h=>[]) (fun h=>[Im.sl aL A0 C0 r.rows,Im.sl aU A2 C2 r.begun]):=by
 delta ma at H
 refine Cf Go.Proofs.Tryz.func43 fun K=> ?_
 refine Z1 ?_
 refine Lx fun g1=> ?_
 refine Ll fun g2=> ?_
 refine Z1 ?_
 have ⟨r3,h4,H5⟩:=bnd H
 refine Lk [] [0,1,2] (zY h4) fun ⟨⟩=> ?_
 refine Lt 0 ?_
 refine Z0 ?_
 cases H5
 exact Eo () [] [0,1] (.cell 0 rfl rfl rfl .nil)
theorem qo {l:List aH} {x_:List bW} {r:Bool} (H:jQ l x_=some r):CT G 44 [.slice A0 l.length C0,.slice A1 x_.length C1] [] [Im.sl aG A0 C0 l,Im.sl aU A1 C1 x_] (fun _:Unit=> .bool r) (fun h=>[]) (fun h=>[]):=by
 delta jQ at H
 refine Cf Go.Proofs.Tryz.func44 fun K=> ?_
 refine Z3 ?_
 refine Tb H (fun H2=> ?_) fun H2=> ?_
 ·refine Z1 ?_
  cases H2
  exact Eo1 () [] []
 refine Z2 ?_
 have ⟨a,m,g⟩:=bnd H2
 refine Tj (η:=Unit×Unit) (fun h=>a = .inl h.1) (fun _=>[]) [] (fun _=>[]) [] (fun _=>[]) ?_ ?_
 ·refine Yl0 ?_
  refine Tq (η:=Unit) (fun i h=>[(14,.int .i64 i)]) [1,12,13] (fun _ _=>[]) [] (fun _ _=>[]) () [] [] m ?_
  rintro k_ i ⟨⟩ n o p j
  refine Y2 ?_
  refine Tb o (fun b=> ?_) fun b=> ?_
  ·refine Z1 ?_
   refine Zl ?_
   refine Z1 ?_
   have ⟨A,c,q⟩:=bnd b
   refine L.addr 0 rfl (bX c) fun B C s=> ?_
   subst s
   refine Ly (Yl.ia c rfl rfl rfl rfl rfl rfl) ?_
   refine L.el 0 rfl (aV c).2 ?_
   rintro _
   refine Lc 0 0 ?_
   refine Ll fun F=> ?_
   refine Z0 ?_
   refine Lt 0 ?_
   refine Y1 ?_
   have ⟨t,u,v⟩:=bnd q
   refine Tj0 [(37,.bool t)] [1,12,13,14] [] [0] ?_ ?_
   ·refine Td [] [0] mo ?_
    refine Dq 0 ?_
    refine Db 1 0 ?_
    refine Dq 2 ?_
    refine Dq 3 ?_
    refine Dq 4 ?_
    have ⟨I,d,w⟩:=bnd u
    refine D.addr 2 rfl (bX d) fun J M x=> ?_
    subst x
    refine Dy 5 (Yl.ia d rfl rfl rfl rfl rfl rfl) ?_
    refine D.el 2 rfl (aV d).2 ?_
    rintro _
    refine Dq 6 ?_
    refine Dy 7 (Yl.ldc 0 0 rfl rfl rfl rfl) ?_
    refine Dq 8 ?_
    refine Dq 9 ?_
    refine D.cs 28 w rfl (fun hc e=> ?_) (fun hc e=> ?_)
    ·refine Ds 10 ?_
     refine Ds 11 ?_
     refine Ds 12 ?_
     refine Ds 13 ?_
     refine Ds 14 ?_
     refine Ds 15 ?_
     refine Ds 16 ?_
     refine Ds 17 ?_
     refine Dq 18 ?_
     refine Dn ?_
     cases e
     exact Eg0 [0] 1
    refine Dq 10 ?_
    refine Db 11 0 ?_
    refine Dq 12 ?_
    refine Dq 13 ?_
    have ⟨N,k,y⟩:=bnd e
    refine Dy 14 (Yl.ia k rfl rfl rfl rfl rfl rfl) ?_
    refine D.el 3 rfl (aV k).2 ?_
    rintro _
    refine Dq 15 ?_
    refine Dy 16 (Yl.ldc 0 1 rfl rfl rfl rfl) ?_
    refine Dq 17 ?_
    refine Dq 18 ?_
    refine Dn ?_
    cases y
    exact Eg0 [0] 2
   refine Tb v (fun f=> ?_) fun f=> ?_
   ·refine Z1 ?_
    obtain ⟨O,hz,z⟩:=gI f
    subst n
    have hb:=j _ rfl
    subst a
    obtain rfl:=(sm g).symm
    refine Z0 ?_
    cases z
    exact Eo1 () [] []
   refine Z0 ?_
   cases f
   exact Eg (_,()) (p _ rfl) [] [] 1
  refine Z0 ?_
  cases b
  have hb:=j _ rfl
  subst a
  exact Eg (_,()) rfl [] [] 0
 rintro ⟨P,⟨⟩⟩ hy
 subst hy
 refine Z1 ?_
 cases g
 exact Eo1 () [] []
theorem zZ {s_:jq} {x_:k7} {r:Bool} (H:mG s_ x_=some r):CT G 42 [.agg (HG s_ A0 C0 A1 C1).toArray,.agg (EL x_ A2 C2 A3 C3).toArray] [] [Im.sl aC A0 C0 s_.rows,Im.sl aG A1 C1 s_.begun,Im.sl aL A2 C2 x_.rows,Im.sl aU A3 C3 x_.begun] (fun _:Unit=> .bool r) (fun h=>[]) (fun h=>[]):=by
 delta mG at H
 refine Cf Go.Proofs.Tryz.func42 fun K=> ?_
 refine Z1 ?_
 refine Lx fun g1=> ?_
 refine Lx fun g2=> ?_
 refine Y1 ?_
 have ⟨k,l,m⟩:=bnd H
 refine Tj0 [(4,.bool k)] [] [] [0,1] ?_ ?_
 ·refine Tra ?_
  refine Z0 ?_
  refine Lw 10 l (fun a=> ?_) fun a=> ?_
  ·refine Z0 ?_
   refine Lw 17 a (fun b=> ?_) fun b=> ?_
   ·refine Z0 ?_
    refine Lw 24 b (fun c=> ?_) fun c=> ?_
    ·refine Z0 ?_
     refine Lw 31 c (fun d=> ?_) fun d=> ?_
     ·refine Z0 ?_
      refine Lw 38 d (fun e=> ?_) fun e=> ?_
      ·refine Z0 ?_
       refine Lw 45 e (fun f=> ?_) fun f=> ?_
       ·refine Z0 ?_
        refine Lw 52 f (fun g=> ?_) fun g=> ?_
        ·refine Z0 ?_
         refine Lw 59 g (fun i=> ?_) fun i=> ?_
         ·refine Z0 ?_
          have ⟨s,n,o⟩:=bnd i
          refine Lk [] [0,2] (sQ n) fun ⟨⟩=> ?_
          refine Z0 ?_
          refine Lw 66 o (fun j=> ?_) fun j=> ?_
          ·refine Z0 ?_
           have ⟨t,p,q⟩:=bnd j
           refine Lk [] [1,3] (qo p) fun ⟨⟩=> ?_
           refine Z0 ?_
           cases q
           exact Eg0 [0,0] 0
          refine Z0 ?_
          cases j
          exact Eg0 [0,0] 0
         refine Z0 ?_
         cases i
         exact Eg0 [0,0] 0
        refine Z0 ?_
        cases g
        exact Eg0 [0,0] 0
       refine Z0 ?_
       cases f
       exact Eg0 [0,0] 0
      refine Z0 ?_
      cases e
      exact Eg0 [0,0] 0
     refine Z0 ?_
     cases d
     exact Eg0 [0,0] 0
    refine Z0 ?_
    cases c
    exact Eg0 [0,0] 0
   refine Z0 ?_
   cases b
   exact Eg0 [0,0] 0
  refine Z0 ?_
  cases a
  exact Eg0 [0,0] 0
 refine Z0 ?_
 cases m
 exact Eo1 () [] []
theorem vF {m_:aT} {x_:bC} {r:Bool×aT} (H:lG m_ x_=some r):CT G 20 [.pointer (some ⟨N0,0,none⟩),.agg (p9 x_ A6 C6 A7 C7 A8 C8).toArray] [Ch.box N0 37 (kQ m_ N1 N2 N3),Ch.box N1 93 [.slice A0 m_.book.l.length C0,.slice A1 m_.book.bE.length C1,.slice A2 m_.book.begun.length C2],Ch.arr (Ty.slice aG) 38 A0 C0 m_.book.l,Ch.arr (Ty.int .i64) 3 A1 C1 m_.book.bE,Ch.arr aG 77 A2 C2 m_.book.begun,Ch.box N2 85 (eG m_.parser A3 C3),Ch.opt (m_.parser.state == (3:Int)) (Ty.int .i64) 3 A3 C3 m_.parser.order.bA,Ch.box N3 132 (bO m_.aN N4),Ch.box N4 181 [.int .i64 m_.aN.g.w,.slice A5 m_.aN.g.l.length C5],Ch.arr aC 99 A5 C5 m_.aN.g.l] [Im.sl aL A6 C6 x_.s.g.l,Im.sl (Ty.slice aU) A7 C7 x_.b.l,Im.sl aU A8 C8 x_.b.begun] (fun h:(Option Addr×Nat)=> .bool r.1) (fun h=>[Ch.box N0 37 (kQ r.2 N1 N2 N3),Ch.box N1 93 [.slice A0 r.2.book.l.length C0,.slice A1 r.2.book.bE.length C1,.slice A2 r.2.book.begun.length C2],Ch.arr (Ty.slice aG) 38 A0 C0 r.2.book.l,Ch.arr (Ty.int .i64) 3 A1 C1 r.2.book.bE,Ch.arr aG 77 A2 C2 r.2.book.begun,Ch.box N2 85 (eG r.2.parser A3 C3),Ch.opt (r.2.parser.state == (3:Int)) (Ty.int .i64) 3 A3 C3 r.2.parser.order.bA,Ch.box N3 132 (bO r.2.aN N4),Ch.box N4 181 [.int .i64 r.2.aN.g.w,.slice A5 r.2.aN.g.l.length C5],Ch.arr aC 99 A5 C5 r.2.aN.g.l]) (fun h=>[]):=by
 delta lG at H
 refine Cf Go.Proofs.Tryz.func20 fun K=> ?_
 refine Z1 ?_
 refine Lx fun g1=> ?_
 refine Z1 ?_
 have ⟨r2,h3,H4⟩:=bnd H
 refine Lk [1,1,1,1,1,1,1,1,1,1] [] (m9 h3) fun ⟨g5,g6,⟨a7,c8⟩,⟨a9,ae⟩⟩=> ?_
 refine Y2 ?_
 have ⟨a,t,u⟩:=bnd H4
 refine Tj0 [(47,.bool a.1)] [0,3] [Ch.arr aC 99 a7 c8 a.2.1.g.l,Ch.arr (Ty.slice aG) 38 A0 C0 a.2.2.book.l,Ch.arr (Ty.int .i64) 3 A1 C1 a.2.2.book.bE,Ch.arr aG 77 A2 C2 a.2.2.book.begun,Ch.opt (a.2.2.parser.state == (3:Int)) (Ty.int .i64) 3 A3 C3 a.2.2.parser.order.bA,Ch.arr aC 99 A5 C5 a.2.2.aN.g.l,Ch.box g5 132 (bO a.2.1 g6),Ch.box g6 181 [.int .i64 a.2.1.g.w,.slice a7 a.2.1.g.l.length c8],Ch.box N0 37 (kQ a.2.2 N1 N2 N3),Ch.box N1 93 [.slice A0 a.2.2.book.l.length C0,.slice A1 a.2.2.book.bE.length C1,.slice A2 a.2.2.book.begun.length C2],Ch.box N2 85 (eG a.2.2.parser A3 C3),Ch.box N3 132 (bO a.2.2.aN N4),Ch.box N4 181 [.int .i64 a.2.2.aN.g.w,.slice A5 a.2.2.aN.g.l.length C5]] [13] ?_ ?_
 ·refine Td [] [13] mo ?_
  refine Dq 0 ?_
  refine Dy 1 (Yl.pn rfl rfl rfl rfl rfl rfl) ?_
  refine Dq 2 ?_
  refine Dq 3 ?_
  refine Dq 5 ?_
  refine Db 6 0 ?_
  have ⟨af,v,x⟩:=bnd t
  refine D.one rfl rfl rfl (Dp.ab [4,4,4,4,4,4,4,4,4,4] [] [10] (Ac.call (pD v) rfl rfl rfl rfl) rfl rfl rfl rfl rfl rfl (fun _=>rfl) ?_)
  rintro ⟨⟩
  refine Dq 7 ?_
  refine Dq 8 ?_
  refine Dq 9 ?_
  refine D.cs 21 x rfl (fun hc c=> ?_) (fun hc c=> ?_)
  ·refine Ds 10 ?_
   refine Ds 11 ?_
   refine Ds 12 ?_
   refine Ds 13 ?_
   refine Ds 14 ?_
   refine Ds 15 ?_
   refine Ds 16 ?_
   refine Ds 17 ?_
   refine Ds 18 ?_
   refine Ds 19 ?_
   refine Dq 20 ?_
   refine Dq 21 ?_
   refine Ds 22 ?_
   refine Ds 23 ?_
   refine Ds 24 ?_
   refine Ds 25 ?_
   refine Ds 26 ?_
   refine Dq 27 ?_
   refine Dq 28 ?_
   refine Ds 29 ?_
   refine Ds 30 ?_
   refine Ds 31 ?_
   refine Ds 32 ?_
   refine Ds 33 ?_
   refine Ds 34 ?_
   refine Dq 35 ?_
   refine Dn ?_
   cases c
   exact Eg0 [13,3,3,3,4,6,6,6,1,1,1,1,1,0] 0
  refine Dq 10 ?_
  refine Dq 11 ?_
  refine Dq 12 ?_
  refine Dq 15 ?_
  refine Dq 16 ?_
  refine Db 17 0 ?_
  refine Dq 18 ?_
  refine Da [0] [] rfl rfl (Ac.ofY (Yl.ldb 0 rfl rfl rfl rfl)) fun _=> ?_
  have ⟨ag,y,z⟩:=bnd c
  refine D.one rfl rfl rfl (Dp.ab [2,2,2,2] [] [4] (Ac.call (lE y) rfl rfl rfl rfl) rfl rfl rfl rfl rfl rfl (fun _=>rfl) ?_)
  rintro ⟨⟩
  refine Dq 19 ?_
  refine Dq 20 ?_
  refine Dq 21 ?_
  refine D.cs 33 z rfl (fun hc d=> ?_) (fun hc d=> ?_)
  ·refine Ds 22 ?_
   refine Ds 23 ?_
   refine Ds 24 ?_
   refine Ds 25 ?_
   refine Ds 26 ?_
   refine Dq 27 ?_
   refine Dq 28 ?_
   refine Ds 29 ?_
   refine Ds 30 ?_
   refine Ds 31 ?_
   refine Ds 32 ?_
   refine Ds 33 ?_
   refine Ds 34 ?_
   refine Dq 35 ?_
   refine Dn ?_
   cases d
   exact Eg0 [13,2,2,2,4,6,6,6,2,1,1,1,1,0] 0
  refine Dq 22 ?_
  refine Dq 23 ?_
  refine Db 24 0 ?_
  have ⟨ah,A,B⟩:=bnd d
  refine Dk [10,10,10] [0] (zW A) fun ⟨⟩=> ?_
  refine Dq 26 ?_
  refine Dq 27 ?_
  refine Dq 28 ?_
  refine D.cs 40 B rfl (fun hc e=> ?_) (fun hc e=> ?_)
  ·refine Ds 29 ?_
   refine Ds 30 ?_
   refine Ds 31 ?_
   refine Ds 32 ?_
   refine Ds 33 ?_
   refine Ds 34 ?_
   refine Dq 35 ?_
   refine Dn ?_
   cases e
   exact Eg0 [3,4,4,4,6,8,1,1,2,1,1,1,1,0] 0
  refine Dq 29 ?_
  refine Db 31 0 ?_
  have ⟨ai,C,F⟩:=bnd e
  refine Dk [7,3,3,3,3,3,3,3,3,3] [] (n5 C) fun ⟨⟨aj,ak⟩,⟨al,am⟩,⟨an,ao⟩⟩=> ?_
  have ⟨ap,I,J⟩:=bnd F
  refine Dk [] [2,3,4] (xF I) fun ⟨⟩=> ?_
  have ⟨aq,M,N⟩:=bnd J
  refine Dk [] [2,3,0,1] (zZ M) fun ⟨⟩=> ?_
  refine Dq 34 ?_
  refine Dq 35 ?_
  refine Dn ?_
  cases N
  exact Eg0 [13,3,3,3,4,6,6,6,1,1,1,1,1,0] 4
 refine Tb u (fun f=> ?_) fun f=> ?_
 ·refine Z1 ?_
  cases f
  exact Eo1 (none,0) [8,8,1,1,1,5,1,4,4,1] []
 refine Z2 ?_
 refine Lb 13 ?_
 refine Z0 ?_
 have ⟨i,O,o⟩:=bnd f
 refine Tj (η:=Unit×Unit) (fun h=>i = .inl h.1) (fun _=>[]) [] (fun _=>[]) [6,7,8,9,10,11,12,13,0,1,2,3,4,5] (fun _=>[]) ?_ ?_
 ·refine Yl0 ?_
  refine Tq (η:=Unit) (fun p h=>[(52,.int .i64 p)]) [0,50,51] (fun _ _=>[]) [6,7,8,9,10,11,12,13,0,1,2,3,4,5] (fun _ _=>[]) () [6,6,6,6,6,6,6,6,0,0,0,0,0,0] [] O ?_
  rintro k_ p ⟨⟩ P Q R q
  refine Y2 ?_
  refine Tb Q (fun j=> ?_) fun j=> ?_
  ·refine Z1 ?_
   refine Zl ?_
   refine Z1 ?_
   have ⟨ar,k,S⟩:=bnd j
   refine L.addr 1 rfl (bX k) fun au av U=> ?_
   subst U
   refine Ly (Yl.ia k rfl rfl rfl rfl rfl rfl) ?_
   refine L.el 1 rfl (aV k).2 ?_
   rintro ⟨aw,ax⟩
   refine Lc 0 0 ?_
   refine Z1 ?_
   have ⟨ay,V,W⟩:=bnd S
   refine Lk [3,8,8,8] [] (o4 V) fun ⟨az,a0⟩=> ?_
   refine Y1 ?_
   have ⟨X,Y,Z⟩:=bnd W
   refine Tj0 [(73,.bool X)] [0,50,51,52] [] [1,5,6,7,8,9,10,11,2,3,4,12,13,14] ?_ ?_
   ·refine Z0 ?_
    refine Lw 68 Y (fun m=> ?_) fun m=> ?_
    ·refine Z0 ?_
     cases m
     exact Eg0 [1,4,4,4,4,4,4,4,1,1,1,1,1,1] 0
    refine Z0 ?_
    have ⟨a1,aa,ac⟩:=bnd m
    refine L.br (Ac.call (qo aa) rfl rfl rfl rfl) (Bw.ch 0 rfl (Bw.im 1 rfl (Bw.nil))) rfl rfl rfl ?_
    intro _
    refine Z0 ?_
    cases ac
    exact Eg0 [1,4,4,4,4,4,4,4,1,1,1,1,1,1] 0
   refine Tb Z (fun n=> ?_) fun n=> ?_
   ·refine Z1 ?_
    obtain ⟨a2,hz,ad⟩:=gI n
    subst P
    have hb:=q _ rfl
    subst i
    obtain rfl:=(sm o).symm
    refine Z0 ?_
    cases ad
    exact Eo1 (none,0) [3,0,6,6,6,2,6,2,2,4] []
   refine Z0 ?_
   cases n
   exact Eg (_,()) (R _ rfl) [1,1,1,0,0,0,0,0,3,0,0,0,0,0] [] 2
  refine Z0 ?_
  cases j
  have hb:=q _ rfl
  subst i
  exact Eg (_,()) rfl [0,0,0,0,0,0,0,0,0,0,0,0,0,0] [] 0
 rintro ⟨a3,⟨⟩⟩ hy
 subst hy
 refine Z1 ?_
 cases o
 exact Eo1 (none,0) [2,2,7,7,7,2,6,2,2,4] []
end Go.Tw.X
set_option maxHeartbeats 2000000
set_option linter.unusedVariables false
set_option linter.unusedSimpArgs false
set_option maxRecDepth 10000
namespace Go.Tw.X
open Go Go.Tw
variable {A0 A1 A2 A3 A4 A5 A6 A7 A8 : Option Addr} {C0 C1 C2 C3 C4 C5 C6 C7 C8 : Nat}
variable {N0 N1 N2 N3 N4 : Nat}
theorem ng {s_:List (List aH)} (a_0:Option Addr) (c_0:Nat) {r:List (List aH)} (H:fO s_=some r):CT G 97 [.slice a_0 s_.length c_0] [Ch.arr (Ty.slice aG) 38 a_0 c_0 s_] [] (fun h:(Option Addr×Nat)=> .slice h.1 r.length h.2) (fun h=>[Ch.arr (Ty.slice aG) 38 h.1 h.2 r,Ch.arr (Ty.slice aG) 38 a_0 c_0 s_]) (fun h=>[]):=by
  delta fO at H
  refine Cf Go.Proofs.Tryz.func97 fun K=> ?_
  have ⟨_,h0,H⟩:=bnd H
  have hr:=Option.some.inj H
  refine T.seq (T.region (L.q 1 rfl (L.nil (E.then (T.seq (T.seq (T.region ?_)))))))
  refine L.cap 0 rfl fun hle=> ?_
  have hv:=zb (ty:=(Ty.slice aG)) (a0:=a_0) hle
  rw [← qp s_] at h0 hr
  refine L.sl 0 (k':=(cut s_ 0 (s_.length:Int)).length) (by rw [qp]) rfl ?_
  refine L.q 1 rfl ?_
  refine L.E1 0 hv rfl rfl rfl rfl rfl rfl rfl rfl rfl (fun hx=> ?_) ?_
  · refine L.nil (E.then (T.cond rfl (fun _=> ?_) (fun h=>nomatch h)))
    refine T.seq (T.region (L.q 1 rfl (L.nil (E.then (T.ret (E.mP ?_))))))
    rw [hx] at hr
    subst r
    refine E.fR (Ty.slice aG) 38 ?_
    exact E.ret (none,0) [0,0] [] (.tmp rfl .nil) rfl rfl rfl
  · refine L.nil (E.then (T.cond rfl (fun h=>nomatch h) (fun _=> ?_)))
    refine T.skip (E.then (T.seq (T.region ?_)))
    refine L.a [] [] (Ac.bs (ty:=(Ty.slice aG)) (xs:=[]) .nil rfl rfl rfl rfl rfl rfl rfl) rfl rfl rfl rfl rfl ?_
    intro g1
    refine L.q 1 rfl ?_
    refine L.a [0,0] [] (Ac.apv (ty:=(Ty.slice aG)) hv h0 rfl rfl rfl rfl rfl rfl rfl) rfl rfl rfl rfl rfl ?_
    rintro ⟨a1,c1⟩
    refine L.q 1 rfl ?_
    refine L.nil (E.then (T.ret ?_))
    subst r
    exact E.ret (a1,c1) [0,0] [] (.tmp rfl .nil) rfl rfl rfl
theorem rM {s_:List Int} (a_0:Option Addr) (c_0:Nat) {r:List Int} (H:eJ s_=some r):CT G 98 [.slice a_0 s_.length c_0] [] [Im.sl (Ty.int .i64) a_0 c_0 s_] (fun h:(Option Addr×Nat)=> .slice h.1 r.length h.2) (fun h=>[Ch.arr (Ty.int .i64) 3 h.1 h.2 r]) (fun h=>[]):=by
  delta eJ at H
  refine Cf Go.Proofs.Tryz.func98 fun K=> ?_
  have ⟨_,h0,H⟩:=bnd H
  have hr:=Option.some.inj H
  refine T.seq (T.region (L.q 1 rfl (L.nil (E.then (T.seq (T.seq (T.region ?_)))))))
  refine L.q 1 rfl ?_
  refine L.GN 0 rfl rfl rfl rfl rfl rfl rfl rfl rfl (fun ha hx=> ?_) ?_
  · refine L.nil (E.then (T.cond rfl (fun _=> ?_) (fun h=>nomatch h)))
    refine T.seq (T.region (L.q 1 rfl (L.nil (E.then (T.ret (E.mP ?_))))))
    subst hx
    subst r
    refine E.fR (Ty.int .i64) 3 ?_
    exact E.ret (none,0) [0] [] (.tmp rfl .nil) rfl rfl rfl
  · refine L.nil (E.then (T.cond rfl (fun h=>nomatch h) (fun _=> ?_)))
    refine T.skip (E.then (T.seq (T.region ?_)))
    refine L.a [] [] (Ac.bs (ty:=(Ty.int .i64)) (xs:=[]) .nil rfl rfl rfl rfl rfl rfl rfl) rfl rfl rfl rfl rfl ?_
    intro g1
    refine L.q 1 rfl ?_
    refine L.a [0] [0] (Ac.ap (ty:=(Ty.int .i64)) h0 rfl rfl rfl rfl rfl rfl rfl) rfl rfl rfl rfl rfl ?_
    rintro ⟨a1,c1⟩
    refine L.q 1 rfl ?_
    refine L.nil (E.then (T.ret ?_))
    subst r
    exact E.ret (a1,c1) [0] [] (.tmp rfl .nil) rfl rfl rfl
theorem nh {s_:List Int} (a_0:Option Addr) (c_0:Nat) {r:List Int} (H:eJ s_=some r):CT G 98 [.slice a_0 s_.length c_0] [Ch.arr (Ty.int .i64) 3 a_0 c_0 s_] [] (fun h:(Option Addr×Nat)=> .slice h.1 r.length h.2) (fun h=>[Ch.arr (Ty.int .i64) 3 h.1 h.2 r,Ch.arr (Ty.int .i64) 3 a_0 c_0 s_]) (fun h=>[]):=by
  delta eJ at H
  refine Cf Go.Proofs.Tryz.func98 fun K=> ?_
  have ⟨_,h0,H⟩:=bnd H
  have hr:=Option.some.inj H
  refine T.seq (T.region (L.q 1 rfl (L.nil (E.then (T.seq (T.seq (T.region ?_)))))))
  refine L.cap 0 rfl fun hle=> ?_
  have hv:=zb (ty:=(Ty.int .i64)) (a0:=a_0) hle
  rw [← qp s_] at h0 hr
  refine L.sl 0 (k':=(cut s_ 0 (s_.length:Int)).length) (by rw [qp]) rfl ?_
  refine L.q 1 rfl ?_
  refine L.E1 0 hv rfl rfl rfl rfl rfl rfl rfl rfl rfl (fun hx=> ?_) ?_
  · refine L.nil (E.then (T.cond rfl (fun _=> ?_) (fun h=>nomatch h)))
    refine T.seq (T.region (L.q 1 rfl (L.nil (E.then (T.ret (E.mP ?_))))))
    rw [hx] at hr
    subst r
    refine E.fR (Ty.int .i64) 3 ?_
    exact E.ret (none,0) [0,0] [] (.tmp rfl .nil) rfl rfl rfl
  · refine L.nil (E.then (T.cond rfl (fun h=>nomatch h) (fun _=> ?_)))
    refine T.skip (E.then (T.seq (T.region ?_)))
    refine L.a [] [] (Ac.bs (ty:=(Ty.int .i64)) (xs:=[]) .nil rfl rfl rfl rfl rfl rfl rfl) rfl rfl rfl rfl rfl ?_
    intro g1
    refine L.q 1 rfl ?_
    refine L.a [0,0] [] (Ac.apv (ty:=(Ty.int .i64)) hv h0 rfl rfl rfl rfl rfl rfl rfl) rfl rfl rfl rfl rfl ?_
    rintro ⟨a1,c1⟩
    refine L.q 1 rfl ?_
    refine L.nil (E.then (T.ret ?_))
    subst r
    exact E.ret (a1,c1) [0,0] [] (.tmp rfl .nil) rfl rfl rfl
theorem sR {b:bU} {r:bU} (H:ji b=some r):CT G 53 [.pointer (some ⟨N0,0,none⟩)] [Ch.box N0 93 [.slice A0 b.l.length C0,.slice A1 b.bE.length C1,.slice A2 b.begun.length C2],Ch.arr (Ty.slice aG) 38 A0 C0 b.l,Ch.arr (Ty.int .i64) 3 A1 C1 b.bE,Ch.arr aG 77 A2 C2 b.begun] [] (fun h:Nat×(Option Addr×Nat)×(Option Addr×Nat)×(Option Addr×Nat)=> .pointer (some ⟨h.1,0,none⟩)) (fun h=>[Ch.box h.1 93 [.slice h.2.1.1 r.l.length h.2.1.2,.slice h.2.2.1.1 r.bE.length h.2.2.1.2,.slice h.2.2.2.1 r.begun.length h.2.2.2.2],Ch.arr (Ty.slice aG) 38 h.2.1.1 h.2.1.2 r.l,Ch.arr (Ty.int .i64) 3 h.2.2.1.1 h.2.2.1.2 r.bE,Ch.arr aG 77 h.2.2.2.1 h.2.2.2.2 r.begun,Ch.box N0 93 [.slice A0 b.l.length C0,.slice A1 b.bE.length C1,.slice A2 b.begun.length C2],Ch.arr (Ty.slice aG) 38 A0 C0 b.l,Ch.arr (Ty.int .i64) 3 A1 C1 b.bE,Ch.arr aG 77 A2 C2 b.begun]) (fun h=>[]):=by
 delta ji at H
 refine Cf Go.Proofs.Tryz.func53 fun K=> ?_
 refine Y2 ?_
 refine Td [] [0,0,0,0] mo ?_
 refine Dq 0 ?_
 refine Dq 1 ?_
 refine Dq 2 ?_
 refine Db 3 0 ?_
 refine Dq 5 ?_
 refine Dq 6 ?_
 refine Dq 7 ?_
 refine Db 8 0 ?_
 refine Dq 10 ?_
 refine Dq 11 ?_
 refine Dq 12 ?_
 refine Db 13 0 ?_
 have ⟨q,a,c⟩:=bnd H
 refine D.one rfl rfl rfl (Dp.ab [1] [] [2,1,1,1] (Ac.call (ng A0 C0 a) rfl rfl rfl rfl) rfl rfl rfl rfl rfl rfl (fun _=>rfl) ?_)
 rintro ⟨d,e⟩
 have ⟨s,f,g⟩:=bnd c
 refine D.one rfl rfl rfl (Dp.ab [2] [] [2,2,1,1] (Ac.call (nh A1 C1 f) rfl rfl rfl rfl) rfl rfl rfl rfl rfl rfl (fun _=>rfl) ?_)
 rintro ⟨i,j⟩
 have ⟨t,k,m⟩:=bnd g
 refine D.one rfl rfl rfl (Dp.ab [3] [] [2,2,2,1] (Ac.call (kU A2 C2 k) rfl rfl rfl rfl) rfl rfl rfl rfl rfl rfl (fun _=>rfl) ?_)
 rintro ⟨n,o⟩
 refine Dq 15 ?_
 refine Da [] [] rfl rfl (Ac.box rfl rfl) fun p=> ?_
 refine Dq 17 ?_
 refine Dn ?_
 refine Z0 ?_
 cases m
 exact Eo1 (p,(d,e),(i,j),(n,o)) [4,6,5,4,0,0,0,0] []
theorem rN {p:aD} {r:aD} (H:iR p=some r):CT G 54 [.pointer (some ⟨N0,0,none⟩)] [Ch.box N0 85 (eG p A0 C0),Ch.opt (p.state == (3:Int)) (Ty.int .i64) 3 A0 C0 p.order.bA] [] (fun h:Nat×(Option Addr×Nat)×(Option Addr×Nat)=> .pointer (some ⟨h.1,0,none⟩)) (fun h=>[Ch.box h.1 85 (eG r h.2.1.1 h.2.1.2),Ch.opt (r.state == (3:Int)) (Ty.int .i64) 3 h.2.1.1 h.2.1.2 r.order.bA,Ch.box N0 85 (eG p A0 C0),Ch.opt (p.state == (3:Int)) (Ty.int .i64) 3 A0 C0 p.order.bA]) (fun h=>[]):=by
 delta iR at H
 refine Cf Go.Proofs.Tryz.func54 fun K=> ?_
 refine Z2 ?_
 refine Ll fun g1=> ?_
 refine Lt 0 ?_
 refine Z1 ?_
 have ⟨r2,h3,H4⟩:=bnd H
 refine La [2] [] (Ac.opt (Ac.call (rM A0 C0 h3) rfl rfl rfl rfl) (Ac.call (nh A0 C0 h3) rfl rfl rfl rfl)) ?_
 rintro ⟨a5,c6⟩
 refine Z0 ?_
 refine Lt 2 ?_
 refine Z1 ?_
 refine E.zc 1 (p.state == (3:Int)) rfl ?_
 cases H4
 exact Eo1 (g1,(a5,c6),(none,0)) [1,0,1,0] []
theorem nr {m_:aT} {r:aT×aT} (H:iA m_=some r):CT G 24 [.pointer (some ⟨N0,0,none⟩)] [Ch.box N0 37 (kQ m_ N1 N2 N3),Ch.box N1 93 [.slice A0 m_.book.l.length C0,.slice A1 m_.book.bE.length C1,.slice A2 m_.book.begun.length C2],Ch.arr (Ty.slice aG) 38 A0 C0 m_.book.l,Ch.arr (Ty.int .i64) 3 A1 C1 m_.book.bE,Ch.arr aG 77 A2 C2 m_.book.begun,Ch.box N2 85 (eG m_.parser A3 C3),Ch.opt (m_.parser.state == (3:Int)) (Ty.int .i64) 3 A3 C3 m_.parser.order.bA,Ch.box N3 132 (bO m_.aN N4),Ch.box N4 181 [.int .i64 m_.aN.g.w,.slice A5 m_.aN.g.l.length C5],Ch.arr aC 99 A5 C5 m_.aN.g.l] [] (fun h:Nat×Nat×(Option Addr×Nat)×(Option Addr×Nat)×(Option Addr×Nat)×Nat×(Option Addr×Nat)×(Option Addr×Nat)×Nat×Nat×(Option Addr×Nat)×(Option Addr×Nat)=> .pointer (some ⟨h.1,0,none⟩)) (fun h=>[Ch.box h.1 37 (kQ r.1 h.2.1 h.2.2.2.2.2.1 h.2.2.2.2.2.2.2.2.1),Ch.box h.2.1 93 [.slice h.2.2.1.1 r.1.book.l.length h.2.2.1.2,.slice h.2.2.2.1.1 r.1.book.bE.length h.2.2.2.1.2,.slice h.2.2.2.2.1.1 r.1.book.begun.length h.2.2.2.2.1.2],Ch.arr (Ty.slice aG) 38 h.2.2.1.1 h.2.2.1.2 r.1.book.l,Ch.arr (Ty.int .i64) 3 h.2.2.2.1.1 h.2.2.2.1.2 r.1.book.bE,Ch.arr aG 77 h.2.2.2.2.1.1 h.2.2.2.2.1.2 r.1.book.begun,Ch.box h.2.2.2.2.2.1 85 (eG r.1.parser h.2.2.2.2.2.2.1.1 h.2.2.2.2.2.2.1.2),Ch.opt (r.1.parser.state == (3:Int)) (Ty.int .i64) 3 h.2.2.2.2.2.2.1.1 h.2.2.2.2.2.2.1.2 r.1.parser.order.bA,Ch.box h.2.2.2.2.2.2.2.2.1 132 (bO r.1.aN h.2.2.2.2.2.2.2.2.2.1),Ch.box h.2.2.2.2.2.2.2.2.2.1 181 [.int .i64 r.1.aN.g.w,.slice h.2.2.2.2.2.2.2.2.2.2.1.1 r.1.aN.g.l.length h.2.2.2.2.2.2.2.2.2.2.1.2],Ch.arr aC 99 h.2.2.2.2.2.2.2.2.2.2.1.1 h.2.2.2.2.2.2.2.2.2.2.1.2 r.1.aN.g.l,Ch.box N0 37 (kQ r.2 N1 N2 N3),Ch.box N1 93 [.slice A0 r.2.book.l.length C0,.slice A1 r.2.book.bE.length C1,.slice A2 r.2.book.begun.length C2],Ch.arr (Ty.slice aG) 38 A0 C0 r.2.book.l,Ch.arr (Ty.int .i64) 3 A1 C1 r.2.book.bE,Ch.arr aG 77 A2 C2 r.2.book.begun,Ch.box N2 85 (eG r.2.parser A3 C3),Ch.opt (r.2.parser.state == (3:Int)) (Ty.int .i64) 3 A3 C3 r.2.parser.order.bA,Ch.box N3 132 (bO r.2.aN N4),Ch.box N4 181 [.int .i64 r.2.aN.g.w,.slice A5 r.2.aN.g.l.length C5],Ch.arr aC 99 A5 C5 r.2.aN.g.l]) (fun h=>[]):=by
 delta iA at H
 refine Cf Go.Proofs.Tryz.func24 fun K=> ?_
 refine Y2 ?_
 refine Td [] [0,0,0,0,0,0,0] mo ?_
 refine Dq 0 ?_
 refine Dq 1 ?_
 refine Dq 2 ?_
 refine Db 3 0 ?_
 refine Dq 5 ?_
 refine Dq 6 ?_
 refine Dq 7 ?_
 refine Db 8 0 ?_
 refine Dq 10 ?_
 refine Dq 11 ?_
 refine Dq 12 ?_
 refine Db 13 0 ?_
 refine Dq 15 ?_
 refine Dq 16 ?_
 refine Dq 17 ?_
 refine Db 18 0 ?_
 have ⟨A,a,b⟩:=bnd H
 refine D.one rfl rfl rfl (Dp.ab [1,1,1,1] [] [8,4,4,4,4,4,4] (Ac.call (sR a) rfl rfl rfl rfl) rfl rfl rfl rfl rfl rfl (fun _=>rfl) ?_)
 rintro ⟨c,⟨d,e⟩,⟨f,i⟩,⟨j,k⟩⟩
 have ⟨B,m,n⟩:=bnd b
 refine D.one rfl rfl rfl (Dp.ab [5,5] [] [4,4,4,4,4,2,2] (Ac.call (rN m) rfl rfl rfl rfl) rfl rfl rfl rfl rfl rfl (fun _=>rfl) ?_)
 rintro ⟨o,⟨p,q⟩,⟨C,F⟩⟩
 have ⟨I,s,t⟩:=bnd n
 refine Dk [6,6,6] [] (mv s) fun ⟨u,v,⟨x,y⟩⟩=> ?_
 refine Dq 19 ?_
 refine Da [] [] rfl rfl (Ac.box rfl rfl) fun z=> ?_
 refine Dq 21 ?_
 refine Dn ?_
 refine Z0 ?_
 cases t
 exact Eo1 (z,c,(d,e),(f,i),(j,k),o,(p,q),(none,0),u,v,(x,y),(none,0)) [7,15,15,15,15,13,13,7,7,7,0,0,0,0,0,0,0,0,0,0] []
theorem qS {l:List cL} {more:List cL} {r:Bool} (H:jF l more=some r):CT G 6 [.slice A0 l.length C0,.slice A1 more.length C1] [] [Im.sl kc A0 C0 l,Im.sl kc A1 C1 more,Im.sl bZ (some ⟨0,0,none⟩) 13 cJ,Im.sl bZ (some ⟨1,0,none⟩) 14 cT,Im.sl (Ty.int .u32) (some ⟨2,0,none⟩) 16 eL,Im.sl dD (some ⟨3,0,none⟩) 8 bR] (fun _:Unit=> .bool r) (fun h=>[]) (fun h=>[]):=by
 delta jF at H
 refine Cf Go.Proofs.Tryz.func6 fun K=> ?_
 refine Z3 ?_
 have ⟨r1,h2,H3⟩:=bnd H
 refine Lk [] [2,3,4,5] (vQ h2) fun ⟨⟩=> ?_
 refine Z0 ?_
 refine Tb H3 (fun H5=> ?_) fun H5=> ?_
 ·refine Z1 ?_
  cases H5
  exact Eo1 () [] []
 refine Z1 ?_
 have ⟨r6,h7,H8⟩:=bnd H5
 refine Lk [] [] (tU h7) fun ⟨g9,o,⟨cd,ce⟩,⟨cf,cg⟩,⟨ch,ci⟩,p,⟨cj,ck⟩,⟨fw,fx⟩,q,cl,⟨cm,cn⟩⟩=> ?_
 have ⟨fy,co,cp⟩:=bnd H8
 refine Lk [] [] (yU co) fun ⟨⟨cq,cr⟩,⟨cs,ct⟩,⟨cu,cv⟩⟩=> ?_
 refine Ll fun ca=> ?_
 refine Z0 ?_
 refine Lt 0 ?_
 refine Z2 ?_
 refine Ly (Yl.pn rfl rfl rfl rfl rfl rfl) ?_
 refine Z0 ?_
 refine T.cond rfl (fun h=>nomatch h) (fun _=> ?_)
 refine Z2 ?_
 have ⟨i,cw,cx⟩:=bnd cp
 refine Tjh (η:=(Option Addr×Nat)×(Option Addr×Nat)×(Option Addr×Nat)×(Option Addr×Nat)×(Option Addr×Nat)×(Option Addr×Nat)×(Option Addr×Nat)×Nat×(Option Addr×Nat)) (fun _=>[]) [1,5,6] (fun h=>(fun N O P Q R S t u v x y z A B C F I=>[Ch.arr (Ty.slice aG) 38 t u i.2.book.l,Ch.arr (Ty.int .i64) 3 v x i.2.book.bE,Ch.arr aG 77 y z i.2.book.begun,Ch.opt (i.2.parser.state == (3:Int)) (Ty.int .i64) 3 A B i.2.parser.order.bA,Ch.arr aC 99 F I i.2.aN.g.l,Ch.box ca 61 (p9 i.1 N O P Q R S),Ch.box g9 37 (kQ i.2 o p q),Ch.box o 93 [.slice t i.2.book.l.length u,.slice v i.2.book.bE.length x,.slice y i.2.book.begun.length z],Ch.box p 85 (eG i.2.parser A B),Ch.box q 132 (bO i.2.aN C),Ch.box C 181 [.int .i64 i.2.aN.g.w,.slice F i.2.aN.g.l.length I]]) h.1.1 h.1.2 h.2.1.1 h.2.1.2 h.2.2.1.1 h.2.2.1.2 h.2.2.2.1.1 h.2.2.2.1.2 h.2.2.2.2.1.1 h.2.2.2.2.1.2 h.2.2.2.2.2.1.1 h.2.2.2.2.2.1.2 h.2.2.2.2.2.2.1.1 h.2.2.2.2.2.2.1.2 h.2.2.2.2.2.2.2.1 h.2.2.2.2.2.2.2.2.1 h.2.2.2.2.2.2.2.2.2) [] (fun h=>(fun N O P Q R S t u v x y z A B C F I=>[Im.sl aL N O i.1.s.g.l,Im.sl (Ty.slice aU) P Q i.1.b.l,Im.sl aU R S i.1.b.begun]) h.1.1 h.1.2 h.2.1.1 h.2.1.2 h.2.2.1.1 h.2.2.1.2 h.2.2.2.1.1 h.2.2.2.1.2 h.2.2.2.2.1.1 h.2.2.2.2.1.2 h.2.2.2.2.2.1.1 h.2.2.2.2.2.1.2 h.2.2.2.2.2.2.1.1 h.2.2.2.2.2.2.1.2 h.2.2.2.2.2.2.2.1 h.2.2.2.2.2.2.2.2.1 h.2.2.2.2.2.2.2.2.2) ?_ ?_
 ·refine Yl0 ?_
  refine Tq (η:=(Option Addr×Nat)×(Option Addr×Nat)×(Option Addr×Nat)×(Option Addr×Nat)×(Option Addr×Nat)×(Option Addr×Nat)×(Option Addr×Nat)×Nat×(Option Addr×Nat)) (fun e h=>(fun U V W X Y Z aa ab ac ad ae af ag ah ai aj ak=>[(7,.int .i64 e.2.2)]) h.1.1 h.1.2 h.2.1.1 h.2.1.2 h.2.2.1.1 h.2.2.1.2 h.2.2.2.1.1 h.2.2.2.1.2 h.2.2.2.2.1.1 h.2.2.2.2.1.2 h.2.2.2.2.2.1.1 h.2.2.2.2.2.1.2 h.2.2.2.2.2.2.1.1 h.2.2.2.2.2.2.1.2 h.2.2.2.2.2.2.2.1 h.2.2.2.2.2.2.2.2.1 h.2.2.2.2.2.2.2.2.2) [0,1,5,6] (fun e h=>(fun U V W X Y Z aa ab ac ad ae af ag ah ai aj ak=>[Ch.arr (Ty.slice aG) 38 aa ab e.2.1.book.l,Ch.arr (Ty.int .i64) 3 ac ad e.2.1.book.bE,Ch.arr aG 77 ae af e.2.1.book.begun,Ch.opt (e.2.1.parser.state == (3:Int)) (Ty.int .i64) 3 ag ah e.2.1.parser.order.bA,Ch.arr aC 99 aj ak e.2.1.aN.g.l,Ch.box ca 61 (p9 e.1 U V W X Y Z),Ch.box g9 37 (kQ e.2.1 o p q),Ch.box o 93 [.slice aa e.2.1.book.l.length ab,.slice ac e.2.1.book.bE.length ad,.slice ae e.2.1.book.begun.length af],Ch.box p 85 (eG e.2.1.parser ag ah),Ch.box q 132 (bO e.2.1.aN ai),Ch.box ai 181 [.int .i64 e.2.1.aN.g.w,.slice aj e.2.1.aN.g.l.length ak]]) h.1.1 h.1.2 h.2.1.1 h.2.1.2 h.2.2.1.1 h.2.2.1.2 h.2.2.2.1.1 h.2.2.2.1.2 h.2.2.2.2.1.1 h.2.2.2.2.1.2 h.2.2.2.2.2.1.1 h.2.2.2.2.2.1.2 h.2.2.2.2.2.2.1.1 h.2.2.2.2.2.2.1.2 h.2.2.2.2.2.2.2.1 h.2.2.2.2.2.2.2.2.1 h.2.2.2.2.2.2.2.2.2) [] (fun e h=>(fun U V W X Y Z aa ab ac ad ae af ag ah ai aj ak=>[Im.sl aL U V e.1.s.g.l,Im.sl (Ty.slice aU) W X e.1.b.l,Im.sl aU Y Z e.1.b.begun]) h.1.1 h.1.2 h.2.1.1 h.2.1.2 h.2.2.1.1 h.2.2.1.2 h.2.2.2.1.1 h.2.2.2.1.2 h.2.2.2.2.1.1 h.2.2.2.2.1.2 h.2.2.2.2.2.1.1 h.2.2.2.2.2.1.2 h.2.2.2.2.2.2.1.1 h.2.2.2.2.2.2.1.2 h.2.2.2.2.2.2.2.1 h.2.2.2.2.2.2.2.2.1 h.2.2.2.2.2.2.2.2.2) ((cq,cr),(cs,ct),(cu,cv),(cd,ce),(cf,cg),(ch,ci),(cj,ck),cl,(cm,cn)) [3,3,3,4,6,0,0,0,0,0,0] [0,1,2] cw ?_
  rintro k_ e ⟨⟨U,V⟩,⟨W,X⟩,⟨Y,Z⟩,⟨aa,ab⟩,⟨ac,ad⟩,⟨ae,af⟩,⟨ag,ah⟩,ai,⟨aj,ak⟩⟩ fz cy cz c0
  refine Y2 ?_
  have ⟨c1,c2,c3⟩:=bnd cy
  refine Tj0 [(26,.bool c1)] [0,1,5,6,7] [] [5,6,7,8,9,10,0,1,2,3,4] ?_ ?_
  ·refine Z0 ?_
   refine Lw 23 c2 (fun b3=> ?_) fun b3=> ?_
   ·refine Z0 ?_
    cases b3
    exact Eg0 [5,5,5,5,5,5,0,0,0,0,0] 0
   refine Z0 ?_
   cases b3
   exact Eg0 [5,5,5,5,5,5,0,0,0,0,0] 0
  refine Tb c3 (fun b4=> ?_) fun b4=> ?_
  ·refine Z1 ?_
   refine Zl ?_
   refine Z1 ?_
   have ⟨f0,b5,c4⟩:=bnd b4
   refine L.addr 6 rfl (bX b5) fun f1 f2 c5=> ?_
   subst c5
   refine Ly (Yl.ia b5 rfl rfl rfl rfl rfl rfl) ?_
   refine L.el 6 rfl (aV b5).2 ?_
   rintro _
   refine Lc 0 0 ?_
   have ⟨f3,c6,c7⟩:=bnd c4
   refine Lk [] [] (tW c6) fun ⟨⟩=> ?_
   refine Ll fun f4=> ?_
   refine Lt 0 ?_
   refine Z1 ?_
   have ⟨f5,c8,c9⟩:=bnd c7
   refine Lk [2,2,5,5,5,2,4,2,2,2] [9,10,11,12] (mL c8) fun ⟨⟨da,db⟩,⟨dc,dd⟩,⟨de,df⟩,⟨dg,dh⟩,⟨f6,f7⟩,di,⟨dj,dk⟩⟩=> ?_
   refine Z0 ?_
   refine Lb 11 ?_
   refine Lb 10 ?_
   have ⟨f8,dl,dm⟩:=bnd c9
   refine Lk [] [1,2,3] (vB dl) fun ⟨⟨dn,dp⟩,⟨dq,dr⟩,⟨ds,dt⟩⟩=> ?_
   refine Z0 ?_
   refine Lt 11 ?_
   refine Z0 ?_
   cases dm
   exact Eg (_,((dn,dp),(dq,dr),(ds,dt),(da,db),(dc,dd),(de,df),(dg,dh),di,(dj,dk))) (cz _ rfl) [3,3,3,4,6,0,0,0,0,0,0] [0,1,2] 7
  refine Z0 ?_
  cases b4
  have hb:=c0 _ rfl
  subst i
  exact Eg ((U,V),(W,X),(Y,Z),(aa,ab),(ac,ad),(ae,af),(ag,ah),ai,(aj,ak)) trivial [6,6,6,6,6,0,0,0,0,0,0] [0,1,2] 3
 rintro ⟨⟨N,O⟩,⟨P,Q⟩,⟨R,S⟩,⟨t,u⟩,⟨v,x⟩,⟨y,z⟩,⟨A,B⟩,C,⟨F,I⟩⟩
 refine Y1 ?_
 have ⟨c,du,dv⟩:=bnd cx
 refine Tjh (η:=Nat×Nat×(Option Addr×Nat)×(Option Addr×Nat)×(Option Addr×Nat)×Nat×(Option Addr×Nat)×Nat×Nat×(Option Addr×Nat)×Nat×(Option Addr×Nat)×(Option Addr×Nat)×(Option Addr×Nat)) (fun h=>(fun J k al am an ao ap aq m ar au n av aw ax M ay az a0 a1 a2 a3=>[(9,.pointer (some ⟨J,0,none⟩)),(10,.pointer (some ⟨M,0,none⟩))]) h.1 h.2.1 h.2.2.1.1 h.2.2.1.2 h.2.2.2.1.1 h.2.2.2.1.2 h.2.2.2.2.1.1 h.2.2.2.2.1.2 h.2.2.2.2.2.1 h.2.2.2.2.2.2.1.1 h.2.2.2.2.2.2.1.2 h.2.2.2.2.2.2.2.1 h.2.2.2.2.2.2.2.2.1 h.2.2.2.2.2.2.2.2.2.1.1 h.2.2.2.2.2.2.2.2.2.1.2 h.2.2.2.2.2.2.2.2.2.2.1 h.2.2.2.2.2.2.2.2.2.2.2.1.1 h.2.2.2.2.2.2.2.2.2.2.2.1.2 h.2.2.2.2.2.2.2.2.2.2.2.2.1.1 h.2.2.2.2.2.2.2.2.2.2.2.2.1.2 h.2.2.2.2.2.2.2.2.2.2.2.2.2.1 h.2.2.2.2.2.2.2.2.2.2.2.2.2.2) [1,5,6] (fun h=>(fun J k al am an ao ap aq m ar au n av aw ax M ay az a0 a1 a2 a3=>[Ch.arr (Ty.slice aG) 38 al am c.1.book.l,Ch.arr (Ty.int .i64) 3 an ao c.1.book.bE,Ch.arr aG 77 ap aq c.1.book.begun,Ch.opt (c.1.parser.state == (3:Int)) (Ty.int .i64) 3 ar au c.1.parser.order.bA,Ch.arr aC 99 aw ax c.1.aN.g.l,Ch.arr (Ty.slice aG) 38 t u c.2.2.book.l,Ch.arr (Ty.int .i64) 3 v x c.2.2.book.bE,Ch.arr aG 77 y z c.2.2.book.begun,Ch.opt (c.2.2.parser.state == (3:Int)) (Ty.int .i64) 3 A B c.2.2.parser.order.bA,Ch.arr aC 99 F I c.2.2.aN.g.l,Ch.box g9 37 (kQ c.2.2 o p q),Ch.box o 93 [.slice t c.2.2.book.l.length u,.slice v c.2.2.book.bE.length x,.slice y c.2.2.book.begun.length z],Ch.box p 85 (eG c.2.2.parser A B),Ch.box q 132 (bO c.2.2.aN C),Ch.box C 181 [.int .i64 c.2.2.aN.g.w,.slice F c.2.2.aN.g.l.length I],Ch.box k 93 [.slice al c.1.book.l.length am,.slice an c.1.book.bE.length ao,.slice ap c.1.book.begun.length aq],Ch.box m 85 (eG c.1.parser ar au),Ch.box av 181 [.int .i64 c.1.aN.g.w,.slice aw c.1.aN.g.l.length ax],Ch.box n 132 (bO c.1.aN av),Ch.box J 37 (kQ c.1 k m n),Ch.box M 61 (p9 c.2.1 ay az a0 a1 a2 a3)]) h.1 h.2.1 h.2.2.1.1 h.2.2.1.2 h.2.2.2.1.1 h.2.2.2.1.2 h.2.2.2.2.1.1 h.2.2.2.2.1.2 h.2.2.2.2.2.1 h.2.2.2.2.2.2.1.1 h.2.2.2.2.2.2.1.2 h.2.2.2.2.2.2.2.1 h.2.2.2.2.2.2.2.2.1 h.2.2.2.2.2.2.2.2.2.1.1 h.2.2.2.2.2.2.2.2.2.1.2 h.2.2.2.2.2.2.2.2.2.2.1 h.2.2.2.2.2.2.2.2.2.2.2.1.1 h.2.2.2.2.2.2.2.2.2.2.2.1.2 h.2.2.2.2.2.2.2.2.2.2.2.2.1.1 h.2.2.2.2.2.2.2.2.2.2.2.2.1.2 h.2.2.2.2.2.2.2.2.2.2.2.2.2.1 h.2.2.2.2.2.2.2.2.2.2.2.2.2.2) [5] (fun h=>(fun J k al am an ao ap aq m ar au n av aw ax M ay az a0 a1 a2 a3=>[Im.sl aL ay az c.2.1.s.g.l,Im.sl (Ty.slice aU) a0 a1 c.2.1.b.l,Im.sl aU a2 a3 c.2.1.b.begun]) h.1 h.2.1 h.2.2.1.1 h.2.2.1.2 h.2.2.2.1.1 h.2.2.2.1.2 h.2.2.2.2.1.1 h.2.2.2.2.1.2 h.2.2.2.2.2.1 h.2.2.2.2.2.2.1.1 h.2.2.2.2.2.2.1.2 h.2.2.2.2.2.2.2.1 h.2.2.2.2.2.2.2.2.1 h.2.2.2.2.2.2.2.2.2.1.1 h.2.2.2.2.2.2.2.2.2.1.2 h.2.2.2.2.2.2.2.2.2.2.1 h.2.2.2.2.2.2.2.2.2.2.2.1.1 h.2.2.2.2.2.2.2.2.2.2.2.1.2 h.2.2.2.2.2.2.2.2.2.2.2.2.1.1 h.2.2.2.2.2.2.2.2.2.2.2.2.1.2 h.2.2.2.2.2.2.2.2.2.2.2.2.2.1 h.2.2.2.2.2.2.2.2.2.2.2.2.2.2) ?_ ?_
 ·refine Td [5] [5] mo ?_
  refine Dq 0 ?_
  refine Db 2 0 ?_
  have ⟨f9,cb,cc⟩:=bnd du
  refine D.two rfl rfl rfl ?_ ?_
  ·refine Dp.a [5,5,0,0,0,2,0,1,1,0] [] (Ac.call (nr cb) rfl rfl rfl rfl) rfl rfl rfl rfl rfl rfl ?_
   rintro ⟨dw,dx,⟨dy,dz⟩,⟨d0,d1⟩,⟨d2,d3⟩,d4,⟨d5,d6⟩,⟨ga,gb⟩,d7,d8,⟨d9,ea⟩,⟨gc,gd⟩⟩
   refine Da [] [] rfl rfl (Ac.alloc rfl rfl) fun eb=> ?_
   refine Dq 4 ?_
   refine Dt 1 ?_
   refine Dn ?_
   cases cc
   exact Eg (dw,dx,(dy,dz),(d0,d1),(d2,d3),d4,(d5,d6),d7,d8,(d9,ea),eb,(N,O),(P,Q),(R,S)) trivial [4,4,4,5,7,9,9,9,10,12,7,7,7,7,7,3,3,4,3,2,0,0] [0,1,2] 0
  refine Dp.a [] [] (Ac.alloc rfl rfl) rfl rfl rfl rfl rfl rfl ?_
  intro ec
  refine Dk [6,6,1,1,1,3,1,2,2,1] [] (nr cb) fun ⟨ed,ee,⟨ef,eg⟩,⟨eh,ei⟩,⟨ej,ek⟩,em,⟨en,eo⟩,⟨ge,gf⟩,ep,eq,⟨er,es⟩,⟨gg,gh⟩⟩=> ?_
  refine Dq 4 ?_
  refine Dt 21 ?_
  refine Dn ?_
  cases cc
  exact Eg (ed,ee,(ef,eg),(eh,ei),(ej,ek),em,(en,eo),ep,eq,(er,es),ec,(N,O),(P,Q),(R,S)) trivial [4,4,4,5,7,9,9,9,10,12,7,7,7,7,7,3,3,4,3,2,0,0] [0,1,2] 0
 rintro ⟨J,k,⟨al,am⟩,⟨an,ao⟩,⟨ap,aq⟩,m,⟨ar,au⟩,n,av,⟨aw,ax⟩,M,⟨ay,az⟩,⟨a0,a1⟩,⟨a2,a3⟩⟩
 refine Z2 ?_
 refine Ly (Yl.pn rfl rfl rfl rfl rfl rfl) ?_
 refine Z0 ?_
 refine T.cond rfl (fun h=>nomatch h) (fun _=> ?_)
 refine Z2 ?_
 have ⟨j,et,eu⟩:=bnd dv
 refine Tjh (η:=(Option Addr×Nat)×(Option Addr×Nat)×(Option Addr×Nat)×(Option Addr×Nat)×Nat×(Option Addr×Nat)×(Option Addr×Nat)×(Option Addr×Nat)×(Option Addr×Nat)) (fun _=>[]) [5,6,9,10] (fun h=>(fun a4 a5 a6 a7 a8 a9 ba bb bc bd be bw bx bz b0 b1 b2=>[Ch.arr (Ty.slice aG) 38 a4 a5 j.1.book.l,Ch.arr (Ty.int .i64) 3 a6 a7 j.1.book.bE,Ch.arr aG 77 a8 a9 j.1.book.begun,Ch.opt (j.1.parser.state == (3:Int)) (Ty.int .i64) 3 ba bb j.1.parser.order.bA,Ch.arr aC 99 bd be j.1.aN.g.l,Ch.box k 93 [.slice a4 j.1.book.l.length a5,.slice a6 j.1.book.bE.length a7,.slice a8 j.1.book.begun.length a9],Ch.box m 85 (eG j.1.parser ba bb),Ch.box n 132 (bO j.1.aN bc),Ch.box J 37 (kQ j.1 k m n),Ch.box M 61 (p9 j.2 bw bx bz b0 b1 b2),Ch.box bc 181 [.int .i64 j.1.aN.g.w,.slice bd j.1.aN.g.l.length be]]) h.1.1 h.1.2 h.2.1.1 h.2.1.2 h.2.2.1.1 h.2.2.1.2 h.2.2.2.1.1 h.2.2.2.1.2 h.2.2.2.2.1 h.2.2.2.2.2.1.1 h.2.2.2.2.2.1.2 h.2.2.2.2.2.2.1.1 h.2.2.2.2.2.2.1.2 h.2.2.2.2.2.2.2.1.1 h.2.2.2.2.2.2.2.1.2 h.2.2.2.2.2.2.2.2.1 h.2.2.2.2.2.2.2.2.2) [10,11,12,13,14,21,5,6,7,8,9] (fun h=>(fun a4 a5 a6 a7 a8 a9 ba bb bc bd be bw bx bz b0 b1 b2=>[Im.sl aL bw bx j.2.s.g.l,Im.sl (Ty.slice aU) bz b0 j.2.b.l,Im.sl aU b1 b2 j.2.b.begun]) h.1.1 h.1.2 h.2.1.1 h.2.1.2 h.2.2.1.1 h.2.2.1.2 h.2.2.2.1.1 h.2.2.2.1.2 h.2.2.2.2.1 h.2.2.2.2.2.1.1 h.2.2.2.2.2.1.2 h.2.2.2.2.2.2.1.1 h.2.2.2.2.2.2.1.2 h.2.2.2.2.2.2.2.1.1 h.2.2.2.2.2.2.2.1.2 h.2.2.2.2.2.2.2.2.1 h.2.2.2.2.2.2.2.2.2) ?_ ?_
 ·refine Yl0 ?_
  refine Tq (η:=(Option Addr×Nat)×(Option Addr×Nat)×(Option Addr×Nat)×(Option Addr×Nat)×Nat×(Option Addr×Nat)×(Option Addr×Nat)×(Option Addr×Nat)×(Option Addr×Nat)) (fun f h=>(fun bf bg bh bi bj bk bl bm bn bo bp bq br bs bt bu bv=>[(11,.int .i64 f.2.2)]) h.1.1 h.1.2 h.2.1.1 h.2.1.2 h.2.2.1.1 h.2.2.1.2 h.2.2.2.1.1 h.2.2.2.1.2 h.2.2.2.2.1 h.2.2.2.2.2.1.1 h.2.2.2.2.2.1.2 h.2.2.2.2.2.2.1.1 h.2.2.2.2.2.2.1.2 h.2.2.2.2.2.2.2.1.1 h.2.2.2.2.2.2.2.1.2 h.2.2.2.2.2.2.2.2.1 h.2.2.2.2.2.2.2.2.2) [1,5,6,9,10] (fun f h=>(fun bf bg bh bi bj bk bl bm bn bo bp bq br bs bt bu bv=>[Ch.arr (Ty.slice aG) 38 bf bg f.1.book.l,Ch.arr (Ty.int .i64) 3 bh bi f.1.book.bE,Ch.arr aG 77 bj bk f.1.book.begun,Ch.opt (f.1.parser.state == (3:Int)) (Ty.int .i64) 3 bl bm f.1.parser.order.bA,Ch.arr aC 99 bo bp f.1.aN.g.l,Ch.box k 93 [.slice bf f.1.book.l.length bg,.slice bh f.1.book.bE.length bi,.slice bj f.1.book.begun.length bk],Ch.box m 85 (eG f.1.parser bl bm),Ch.box n 132 (bO f.1.aN bn),Ch.box J 37 (kQ f.1 k m n),Ch.box M 61 (p9 f.2.1 bq br bs bt bu bv),Ch.box bn 181 [.int .i64 f.1.aN.g.w,.slice bo f.1.aN.g.l.length bp]]) h.1.1 h.1.2 h.2.1.1 h.2.1.2 h.2.2.1.1 h.2.2.1.2 h.2.2.2.1.1 h.2.2.2.1.2 h.2.2.2.2.1 h.2.2.2.2.2.1.1 h.2.2.2.2.2.1.2 h.2.2.2.2.2.2.1.1 h.2.2.2.2.2.2.1.2 h.2.2.2.2.2.2.2.1.1 h.2.2.2.2.2.2.2.1.2 h.2.2.2.2.2.2.2.2.1 h.2.2.2.2.2.2.2.2.2) [10,11,12,13,14,21,5,6,7,8,9] (fun f h=>(fun bf bg bh bi bj bk bl bm bn bo bp bq br bs bt bu bv=>[Im.sl aL bq br f.2.1.s.g.l,Im.sl (Ty.slice aU) bs bt f.2.1.b.l,Im.sl aU bu bv f.2.1.b.begun]) h.1.1 h.1.2 h.2.1.1 h.2.1.2 h.2.2.1.1 h.2.2.1.2 h.2.2.2.1.1 h.2.2.2.1.2 h.2.2.2.2.1 h.2.2.2.2.2.1.1 h.2.2.2.2.2.1.2 h.2.2.2.2.2.2.1.1 h.2.2.2.2.2.2.1.2 h.2.2.2.2.2.2.2.1.1 h.2.2.2.2.2.2.2.1.2 h.2.2.2.2.2.2.2.2.1 h.2.2.2.2.2.2.2.2.2) ((al,am),(an,ao),(ap,aq),(ar,au),av,(aw,ax),(ay,az),(a0,a1),(a2,a3)) [0,0,0,0,0,10,10,11,11,11,10,5,5,5,5,5,5,0,0,0,0,0] [0,1,2] et ?_
  rintro k_ f ⟨⟨bf,bg⟩,⟨bh,bi⟩,⟨bj,bk⟩,⟨bl,bm⟩,bn,⟨bo,bp⟩,⟨bq,br⟩,⟨bs,bt⟩,⟨bu,bv⟩⟩ gi ev ew ex
  refine Y2 ?_
  have ⟨ey,ez,e0⟩:=bnd ev
  refine Tj0 [(55,.bool ey)] [1,5,6,9,10,11] [] [5,6,7,8,9,10,11,12,13,14,15,16,0,1,2,3,4,17,18,19,20,21] ?_ ?_
  ·refine Z0 ?_
   refine Lw 52 ez (fun b6=> ?_) fun b6=> ?_
   ·refine Z0 ?_
    cases b6
    exact Eg0 [5,5,5,5,5,5,5,5,5,5,5,5,0,0,0,0,0,0,0,0,0,0] 0
   refine Z0 ?_
   cases b6
   exact Eg0 [5,5,5,5,5,5,5,5,5,5,5,5,0,0,0,0,0,0,0,0,0,0] 0
  refine Tb e0 (fun b7=> ?_) fun b7=> ?_
  ·refine Z1 ?_
   refine Zl ?_
   refine Z1 ?_
   have ⟨gj,b8,e1⟩:=bnd b7
   refine L.addr 13 rfl (bX b8) fun gk gl e2=> ?_
   subst e2
   refine Ly (Yl.ia b8 rfl rfl rfl rfl rfl rfl) ?_
   refine L.el 13 rfl (aV b8).2 ?_
   rintro _
   refine Lc 0 0 ?_
   have ⟨gm,e3,e4⟩:=bnd e1
   refine Lk [] [] (tW e3) fun ⟨⟩=> ?_
   refine Ll fun gn=> ?_
   refine Lt 0 ?_
   refine Z1 ?_
   have ⟨go,e5,e6⟩:=bnd e4
   refine Lk [4,1,11,11,11,1,10,1,2,8] [15,16,17,18] (mL e5) fun ⟨⟨e7,e8⟩,⟨e9,fa⟩,⟨fb,fc⟩,⟨fd,fe⟩,⟨gp,gq⟩,ff,⟨fg,fh⟩⟩=> ?_
   refine Z0 ?_
   refine Lb 11 ?_
   refine Lb 10 ?_
   have ⟨gr,fi,fj⟩:=bnd e6
   refine Lk [] [1,2,3] (vB fi) fun ⟨⟨fk,fl⟩,⟨fm,fn⟩,⟨fo,fp⟩⟩=> ?_
   refine Z0 ?_
   refine Lt 11 ?_
   refine Z0 ?_
   cases fj
   exact Eg (_,((e7,e8),(e9,fa),(fb,fc),(fd,fe),ff,(fg,fh),(fk,fl),(fm,fn),(fo,fp))) (ew _ rfl) [3,3,3,4,6,2,2,2,1,0,0,1,1,1,1,1,1,1,1,1,1,1] [0,1,2] 7
  refine Z0 ?_
  cases b7
  have hb:=ex _ rfl
  subst j
  exact Eg ((bf,bg),(bh,bi),(bj,bk),(bl,bm),bn,(bo,bp),(bq,br),(bs,bt),(bu,bv)) trivial [12,12,12,12,12,0,0,0,0,0,0,0,0,0,0,0,0,0,0,0,0,0] [0,1,2] 3
 rintro ⟨⟨a4,a5⟩,⟨a6,a7⟩,⟨a8,a9⟩,⟨ba,bb⟩,bc,⟨bd,be⟩,⟨bw,bx⟩,⟨bz,b0⟩,⟨b1,b2⟩⟩
 refine Y1 ?_
 have ⟨d,fq,fr⟩:=bnd eu
 refine Tj0 [(4,.bool d.1)] [] [Ch.arr (Ty.slice aG) 38 a4 a5 d.2.1.book.l,Ch.arr (Ty.int .i64) 3 a6 a7 d.2.1.book.bE,Ch.arr aG 77 a8 a9 d.2.1.book.begun,Ch.opt (d.2.1.parser.state == (3:Int)) (Ty.int .i64) 3 ba bb d.2.1.parser.order.bA,Ch.arr aC 99 bd be d.2.1.aN.g.l,Ch.arr (Ty.slice aG) 38 t u d.2.2.book.l,Ch.arr (Ty.int .i64) 3 v x d.2.2.book.bE,Ch.arr aG 77 y z d.2.2.book.begun,Ch.opt (d.2.2.parser.state == (3:Int)) (Ty.int .i64) 3 A B d.2.2.parser.order.bA,Ch.arr aC 99 F I d.2.2.aN.g.l,Ch.box k 93 [.slice a4 d.2.1.book.l.length a5,.slice a6 d.2.1.book.bE.length a7,.slice a8 d.2.1.book.begun.length a9],Ch.box m 85 (eG d.2.1.parser ba bb),Ch.box n 132 (bO d.2.1.aN bc),Ch.box J 37 (kQ d.2.1 k m n),Ch.box bc 181 [.int .i64 d.2.1.aN.g.w,.slice bd d.2.1.aN.g.l.length be],Ch.box g9 37 (kQ d.2.2 o p q),Ch.box o 93 [.slice t d.2.2.book.l.length u,.slice v d.2.2.book.bE.length x,.slice y d.2.2.book.begun.length z],Ch.box p 85 (eG d.2.2.parser A B),Ch.box q 132 (bO d.2.2.aN C),Ch.box C 181 [.int .i64 d.2.2.aN.g.w,.slice F d.2.2.aN.g.l.length I]] [9,16] ?_ ?_
 ·refine Z0 ?_
  refine Lb 16 ?_
  have ⟨gs,fs,ft⟩:=bnd fq
  refine Lk [11,11,15,15,15,11,14,11,11,12] [6,7,8] (vF fs) fun ⟨gt,gu⟩=> ?_
  refine Z0 ?_
  refine Lw 75 ft (fun b9=> ?_) fun b9=> ?_
  ·refine Z0 ?_
   refine Lb 19 ?_
   have ⟨gv,fu,fv⟩:=bnd b9
   refine Lk [18,15,10,10,10,12,10,11,12,10] [0,1,2] (vF fu) fun ⟨gw,gx⟩=> ?_
   refine Z0 ?_
   cases fv
   exact Eg0 [2,2,2,3,5,7,7,7,8,10,1,1,1,0,0,0,0,0,0,0,0,0] 0
  refine Z0 ?_
  cases b9
  exact Eg0 [10,10,10,10,10,2,2,2,3,5,5,5,5,5,6,0,0,0,0,0,0,0] 0
 refine Z0 ?_
 cases fr
 exact Eo1 () [] []
end Go.Tw.X
set_option maxHeartbeats 2000000
set_option linter.unusedVariables false
set_option linter.unusedSimpArgs false
set_option maxRecDepth 10000
namespace Go.Tw.X
open Go Go.Tw
theorem HI {P:Program} {α β:Type} {t:TypeId} {ty:Ty α} {ty':Ty β} {wf:α→Prop} {wf':β→Prop} (h:Opn P t ty wf) (g:α→β) (gh:ty.Hid→ty'.Hid) (h1: ∀ y hh,ty'.cs (g y) (gh hh)=ty.cs y hh) (h2: ∀ y hh,ty'.im (g y) (gh hh)=ty.im y hh) (h3: ∀ y,wf y→wf' (g y)):Opn P t ty' wf':=Opn.to g gh h h1 h2 h3
theorem Jo:Opn Go.Proofs.Tryz.prog 9 Ty.str (fun s:ByteArray=>s.size≤maxLen):=Opn.str (by kernel_rfl)
theorem HJ:Opn Go.Proofs.Tryz.prog 3 (Ty.int .i64) (inK .i64):=Opn.int (by kernel_rfl)
theorem IK:Opn Go.Proofs.Tryz.prog 64 kc l9:=HI (β:=cL) (ty':=kc) (wf':=l9) (Opn.struct (fs:=[(3,0),(9,1),(3,2),(3,3)]) (by kernel_rfl) (by kernel_rfl) (.cons HJ (by kernel_rfl) (.cons Jo (by kernel_rfl) (.cons HJ (by kernel_rfl) (.cons HJ (by kernel_rfl) .nil))))) (fun y=>⟨y.1,y.2.1,y.2.2.1,y.2.2.2.1⟩) (fun h=>()) (fun _ _=>rfl) (fun _ _=>rfl) (fun y h=>h)
theorem Gx:Opn Go.Proofs.Tryz.prog 47 (Ty.slice kc) (fun xs:List cL=> ∀ x∈xs,l9 x):=Opn.slice (by kernel_rfl) IK (by kernel_rfl) (by decide)
end Go.Tw.X

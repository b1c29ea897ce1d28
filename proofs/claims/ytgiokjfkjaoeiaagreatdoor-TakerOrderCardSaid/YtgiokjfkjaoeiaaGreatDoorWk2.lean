import Derived.Test.YtgiokjfkjaoeiaaGreatDoorWk1
import Derived.Test.YtgiokjfkjaoeiaaGreatDoorFw2
set_option maxHeartbeats 2000000
set_option linter.unusedVariables false
set_option linter.unusedSimpArgs false
set_option maxRecDepth 10000
namespace Go.Tw.X
open Go Go.Tw
variable {A0 A1 A2 A3 A4 A5 A6 A7 A8 : Option Addr} {C0 C1 C2 C3 C4 C5 C6 C7 C8 : Nat}
variable {N0 N1 N2 N3 N4 : Nat}
variable {M0 : Option Nat}
theorem qv {l:List aE} {r:(List aE)×(List aE)} (H:jC l=some r):CT G 112 [.slice A0 l.length C0] [Ch.arr aC 107 A0 C0 l] [] (fun h:(Option Addr×Nat)=> .slice h.1 r.1.length h.2) (fun h=>[Ch.arr aC 107 h.1 h.2 r.1,Ch.arr aC 107 A0 C0 r.2]) (fun h=>[]):=by
 delta jC at H
 refine Cf Go.Proofs.Tryz.func112 fun K=> ?_
 refine T.xX ?_
 refine Z2 ?_
 refine Ll fun g1=> ?_
 refine Z2 ?_
 have ⟨r2,h3,H4⟩:=bnd H
 refine Lk [2] [] (yZ h3) fun g5=> ?_
 refine Yl0 ?_
 refine T.iw aC 107 ?_
 have ⟨e,f,g⟩:=bnd H4
 refine T.rf2 (σ:=(List aE)) (η:=(Option Addr×Nat)) (X:=aE) (θ:=(Option Addr×Nat)) (τ:=(Option Addr×Nat)) (s1:=e) (hx:=fun x=>x) (fun x t=>[.agg #[.slice t.1 x.cells.length t.2,.bool x.wrapped]]) (fun x t=>[Im.sl aO t.1 t.2 x.cells]) (fun _=>none) (fun a h=>(fun b c=>[Ch.arr aC 107 b c a,Ch.box g1 39 [.slice b a.length c]]) h.1 h.2) (fun a h=>(fun b c=>[]) h.1 h.2) 4 [0,2,0,0] [] [] rfl rfl (fun _ _=>rfl) rfl (fun yl C hY=>(wG hY (none,0) g5 A0 C0 f:_)) (fun _ _ _ _=>rfl) rfl rfl rfl rfl rfl ?_ rfl ?_
 ·rintro yl K2 a ⟨b,c⟩ x9 ⟨a7,c8⟩ o i
  refine Z0 ?_
  refine Ll fun p=> ?_
  refine Lt 0 ?_
  refine Z0 ?_
  refine E.begin fun K3=> ?_
  refine Zl ?_
  refine La [] [0] (Ac.bs (ty:=aC) (xs:=[x9]) (.cons (a7,c8) [0] rfl .nil) rfl rfl rfl rfl rfl rfl rfl) fun q=> ?_
  refine L.frz 0 rfl ?_
  have ⟨_,j,k⟩:=bnd i
  refine La [1] [0] (Ac.ap (ty:=aC) j rfl rfl rfl rfl rfl rfl rfl) ?_
  rintro ⟨m,n⟩
  refine Lt 2 ?_
  refine Z0 ?_
  cases k
  exact E.on (m,n) [1,0] [] rfl rfl rfl rfl
 rintro d s
 refine Z1 ?_
 cases g
 exact E.uI (d.1,d.2) 0 [0,2] [] rfl (.tmp rfl .nil) rfl rfl rfl
theorem vq {g:aW} {r:aW×aW} (H:jZ g=some r):CT G 111 [.pointer (some ⟨N0,0,none⟩)] [Ch.box N0 169 [.int .i64 g.w,.slice A0 g.l.length C0],Ch.arr aC 107 A0 C0 g.l] [] (fun h:Nat×(Option Addr×Nat)=> .pointer (some ⟨h.1,0,none⟩)) (fun h=>[Ch.box h.1 169 [.int .i64 r.1.w,.slice h.2.1 r.1.l.length h.2.2],Ch.arr aC 107 h.2.1 h.2.2 r.1.l,Ch.box N0 169 [.int .i64 r.2.w,.slice A0 r.2.l.length C0],Ch.arr aC 107 A0 C0 r.2.l]) (fun h=>[]):=by
 delta jZ at H
 refine Cf Go.Proofs.Tryz.func111 fun K=> ?_
 refine Y2 ?_
 refine Td [] [0] mo ?_
 refine Dq 0 ?_
 refine Dq 1 ?_
 refine Dq 2 ?_
 refine Db 3 0 ?_
 refine Dq 4 ?_
 refine Dq 5 ?_
 refine Dq 6 ?_
 refine Db 7 0 ?_
 have ⟨a,b,c⟩:=bnd H
 refine Dk [0] [] (qv b) fun ⟨d,e⟩=> ?_
 have ⟨_,f,i⟩:=bnd c
 refine Dq 9 ?_
 refine Da [] [] rfl rfl (Ac.box rfl rfl) fun j=> ?_
 refine Dq 11 ?_
 refine Dn ?_
 refine E.bx 0 (cs':=[.int .i64 g.w,.slice A0 a.2.length C0]) (by rw [(dM f)]) rfl ?_
 refine Z0 ?_
 cases i
 exact Eo1 (j,(d,e)) [1,1,0,0] []
theorem sG {s_:aB} {r:aW×aB} (H:iQ s_=some r):CT G 77 [.pointer (some ⟨N0,0,none⟩)] [Ch.box N0 124 (cD s_ N1),Ch.box N1 169 [.int .i64 s_.g.w,.slice A0 s_.g.l.length C0],Ch.arr aC 107 A0 C0 s_.g.l] [] (fun h:Nat×(Option Addr×Nat)=> .pointer (some ⟨h.1,0,none⟩)) (fun h=>[Ch.box h.1 169 [.int .i64 r.1.w,.slice h.2.1 r.1.l.length h.2.2],Ch.arr aC 107 h.2.1 h.2.2 r.1.l,Ch.box N0 124 (cD r.2 N1),Ch.box N1 169 [.int .i64 r.2.g.w,.slice A0 r.2.g.l.length C0],Ch.arr aC 107 A0 C0 r.2.g.l]) (fun h=>[]):=by
 delta iQ at H
 refine Cf Go.Proofs.Tryz.func77 fun K=> ?_
 refine Z2 ?_
 have ⟨r1,h2,H3⟩:=bnd H
 refine Lk [1,1] [] (vq h2) fun ⟨g4,⟨a5,c6⟩⟩=> ?_
 refine Z0 ?_
 cases H3
 exact Eo1 (g4,(a5,c6)) [0,0,2,0,0] []
theorem rJ {s_:aB} {r:ByteArray} (H:jM s_=some r):CT G 78 [.pointer (some ⟨N0,0,none⟩)] [Ch.box N0 124 (cD s_ N1),Ch.box N1 169 [.int .i64 s_.g.w,.slice A0 s_.g.l.length C0],Ch.arr aC 107 A0 C0 s_.g.l] [] (fun _:Unit=> .string r) (fun h=>[Ch.box N0 124 (cD s_ N1),Ch.box N1 169 [.int .i64 s_.g.w,.slice A0 s_.g.l.length C0],Ch.arr aC 107 A0 C0 s_.g.l]) (fun h=>[]):=by
 delta jM at H
 refine Cf Go.Proofs.Tryz.func78 fun K=> ?_
 refine Z2 ?_
 cases H
 exact Eo1 () [0,0,0] []
theorem wH {g:aW} {r:(List aE)×aW} (H:kQ g=some r):CT G 79 [.pointer (some ⟨N0,0,none⟩)] [Ch.box N0 169 [.int .i64 g.w,.slice A0 g.l.length C0],Ch.arr aC 107 A0 C0 g.l] [] (fun h:(Option Addr×Nat)=> .slice h.1 r.1.length h.2) (fun h=>[Ch.arr aC 107 h.1 h.2 r.1,Ch.box N0 169 [.int .i64 r.2.w,.slice A0 r.2.l.length C0],Ch.arr aC 107 A0 C0 r.2.l]) (fun h=>[]):=by
 delta kQ at H
 refine Cf Go.Proofs.Tryz.func79 fun K=> ?_
 refine Z2 ?_
 have ⟨r1,h2,H3⟩:=bnd H
 refine Lk [1] [] (qv h2) fun ⟨a4,c5⟩=> ?_
 have ⟨_,h8,H9⟩:=bnd H3
 refine L.bx 2 (cs':=[.int .i64 g.w,.slice A0 r1.2.length C0]) (by rw [dM h8]) rfl ?_
 refine Z0 ?_
 cases H9
 exact Eo1 (a4,c5) [1,0,0] []
theorem rp {b:cC} {r:Int} (H:lr b=some r):CT G 21 [.pointer (some ⟨N0,0,none⟩)] [Ch.box N0 115 [.slice A0 b.l.length C0,.slice A1 b.bP.length C1,.slice A2 b.begun.length C2],Ch.arr (Ty.slice aD) 40 A0 C0 b.l,Ch.arr (Ty.int .i64) 3 A1 C1 b.bP,Ch.arr aD 112 A2 C2 b.begun] [] (fun _:Unit=> .int .i64 r) (fun h=>[Ch.box N0 115 [.slice A0 b.l.length C0,.slice A1 b.bP.length C1,.slice A2 b.begun.length C2],Ch.arr (Ty.slice aD) 40 A0 C0 b.l,Ch.arr (Ty.int .i64) 3 A1 C1 b.bP,Ch.arr aD 112 A2 C2 b.begun]) (fun h=>[]):=by
 delta lr at H
 refine Cf Go.Proofs.Tryz.func21 fun K=> ?_
 refine Z2 ?_
 cases H
 exact Eo1 () [0,0,0,0] []
theorem vr {b:cC} {n_:Int} {r:Int} (H:jX b n_=some r):CT G 80 [.pointer (some ⟨N0,0,none⟩),.int .i64 n_] [Ch.box N0 115 [.slice A0 b.l.length C0,.slice A1 b.bP.length C1,.slice A2 b.begun.length C2],Ch.arr (Ty.slice aD) 40 A0 C0 b.l,Ch.arr (Ty.int .i64) 3 A1 C1 b.bP,Ch.arr aD 112 A2 C2 b.begun] [] (fun _:Unit=> .int .i64 r) (fun h=>[Ch.box N0 115 [.slice A0 b.l.length C0,.slice A1 b.bP.length C1,.slice A2 b.begun.length C2],Ch.arr (Ty.slice aD) 40 A0 C0 b.l,Ch.arr (Ty.int .i64) 3 A1 C1 b.bP,Ch.arr aD 112 A2 C2 b.begun]) (fun h=>[]):=by
 delta jX at H
 refine Cf Go.Proofs.Tryz.func80 fun K=> ?_
 refine Y2 ?_
 refine Td [] [0,0,0,0] mo ?_
 refine Dq 0 ?_
 refine Dq 1 ?_
 refine Dq 2 ?_
 refine Db 3 0 ?_
 refine Dq 4 ?_
 refine Dq 5 ?_
 refine Dq 6 ?_
 refine Dq 7 ?_
 refine Db 8 0 ?_
 refine Dq 9 ?_
 refine Dq 10 ?_
 refine Dq 11 ?_
 have ⟨c,a,d⟩:=bnd H
 refine D.lQ 2 rfl (cL a) fun f e=> ?_
 subst e
 refine Dy 12 (Yl.ia a rfl rfl rfl rfl rfl rfl) ?_
 refine Dy 13 (Yl.lo (v:= .int .i64 c) 2 ((imax 0 (eN n_ (b.l.length:Int))).toNat) 0 (aU a).2 rfl rfl rfl rfl (fun _=>rfl)) ?_
 refine Dq 14 ?_
 refine Dn ?_
 refine Z0 ?_
 cases d
 exact Eo1 () [0,0,0,0] []
theorem o9 {s_:List aJ} (a_0:Option Addr) (c_0:Nat) {r:List aJ} (H:bZ s_=some r):CT G 60 [.slice a_0 s_.length c_0] [Ch.arr aD 112 a_0 c_0 s_] [] (fun h:(Option Addr×Nat)=> .slice h.1 r.length h.2) (fun h=>[Ch.arr aD 112 h.1 h.2 r,Ch.arr aD 112 a_0 c_0 s_]) (fun h=>[]):=by
  delta bZ at H
  refine Cf Go.Proofs.Tryz.func60 fun K=> ?_
  have ⟨_,h0,H⟩:=bnd H
  have hr:=Option.some.inj H
  refine T.seq (T.region (L.q 1 rfl (L.nil (E.then (T.seq (T.seq (T.region ?_)))))))
  refine L.cap 0 rfl fun hle=> ?_
  have hv:=MJ (ty:=aD) (a0:=a_0) hle
  rw [← EH s_] at h0 hr
  refine L.sl 0 (k':=(cut s_ 0 (s_.length:Int)).length) (by rw [EH]) rfl ?_
  refine L.q 1 rfl ?_
  refine L.Ok 0 hv rfl rfl rfl rfl rfl rfl rfl rfl rfl (fun hx=> ?_) ?_
  · refine L.nil (E.then (T.cond rfl (fun _=> ?_) (fun h=>nomatch h)))
    refine T.seq (T.region (L.q 1 rfl (L.nil (E.then (T.ret (E.rL ?_))))))
    rw [hx] at hr
    subst r
    refine E.iw aD 112 ?_
    exact E.ret (none,0) [0,0] [] (.tmp rfl .nil) rfl rfl rfl
  · refine L.nil (E.then (T.cond rfl (fun h=>nomatch h) (fun _=> ?_)))
    refine T.skip (E.then (T.seq (T.region ?_)))
    refine L.a [] [] (Ac.bs (ty:=aD) (xs:=[]) .nil rfl rfl rfl rfl rfl rfl rfl) rfl rfl rfl rfl rfl ?_
    intro g1
    refine L.q 1 rfl ?_
    refine L.a [0,0] [] (Ac.apv (ty:=aD) hv h0 rfl rfl rfl rfl rfl rfl rfl) rfl rfl rfl rfl rfl ?_
    rintro ⟨a1,c1⟩
    refine L.q 1 rfl ?_
    refine L.nil (E.then (T.ret ?_))
    subst r
    exact E.ret (a1,c1) [0,0] [] (.tmp rfl .nil) rfl rfl rfl
theorem vt {b:cC} {r:(List aJ)} (H:jY b=some r):CT G 81 [.pointer (some ⟨N0,0,none⟩)] [Ch.box N0 115 [.slice A0 b.l.length C0,.slice A1 b.bP.length C1,.slice A2 b.begun.length C2],Ch.arr (Ty.slice aD) 40 A0 C0 b.l,Ch.arr (Ty.int .i64) 3 A1 C1 b.bP,Ch.arr aD 112 A2 C2 b.begun] [] (fun h:(Option Addr×Nat)=> .slice h.1 r.length h.2) (fun h=>[Ch.arr aD 112 h.1 h.2 r,Ch.box N0 115 [.slice A0 b.l.length C0,.slice A1 b.bP.length C1,.slice A2 b.begun.length C2],Ch.arr (Ty.slice aD) 40 A0 C0 b.l,Ch.arr (Ty.int .i64) 3 A1 C1 b.bP,Ch.arr aD 112 A2 C2 b.begun]) (fun h=>[]):=by
 delta jY at H
 refine Cf Go.Proofs.Tryz.func81 fun K=> ?_
 refine Z2 ?_
 have ⟨r1,h2,H3⟩:=bnd H
 refine Lk [3] [] (o9 A2 C2 h2) fun ⟨a4,c5⟩=> ?_
 refine Z0 ?_
 cases H3
 exact Eo1 (a4,c5) [0,1,1,1,0] []
theorem rh {s_:aB} {r:Int×Int} (H:jt s_=some r):CT G 82 [.pointer (some ⟨N0,0,none⟩)] [Ch.box N0 124 (cD s_ N1),Ch.box N1 169 [.int .i64 s_.g.w,.slice A0 s_.g.l.length C0],Ch.arr aC 107 A0 C0 s_.g.l] [] (fun _:Unit=> .tuple #[.int .i64 r.1,.int .i64 r.2]) (fun h=>[Ch.box N0 124 (cD s_ N1),Ch.box N1 169 [.int .i64 s_.g.w,.slice A0 s_.g.l.length C0],Ch.arr aC 107 A0 C0 s_.g.l]) (fun h=>[]):=by
 delta jt at H
 refine Cf Go.Proofs.Tryz.func82 fun K=> ?_
 refine Y2 ?_
 refine Td [] [0,0,0] mo ?_
 refine Dq 0 ?_
 refine Dq 1 ?_
 refine Dq 2 ?_
 refine Dq 3 ?_
 refine Db 4 0 ?_
 refine Dq 5 ?_
 refine Dq 6 ?_
 refine Dq 7 ?_
 refine Dq 8 ?_
 refine Db 9 0 ?_
 refine Dq 10 ?_
 refine Dq 11 ?_
 refine Dn ?_
 refine Z0 ?_
 cases H
 exact Eo () [0,0,0] [] (.tmp rfl (.tmp rfl .nil))
theorem G3 {k:Int} {s_:aB} {b:cC} {r:aI×aB} (H:sK k s_ b=some r):CT G 36 [.int .i64 k,.pointer (some ⟨N0,0,none⟩),.pointer (some ⟨N2,0,none⟩)] [Ch.box N0 124 (cD s_ N1),Ch.box N1 169 [.int .i64 s_.g.w,.slice A0 s_.g.l.length C0],Ch.arr aC 107 A0 C0 s_.g.l,Ch.box N2 115 [.slice A1 b.l.length C1,.slice A2 b.bP.length C2,.slice A3 b.begun.length C3],Ch.arr (Ty.slice aD) 40 A1 C1 b.l,Ch.arr (Ty.int .i64) 3 A2 C2 b.bP,Ch.arr aD 112 A3 C3 b.begun] [] (fun h:(Option Addr×Nat)×(Option Addr×Nat)=> .agg (kZ r.1 h.1.1 h.1.2 h.2.1 h.2.2).toArray) (fun h=>[Ch.box N0 124 (cD r.2 N1),Ch.box N1 169 [.int .i64 r.2.g.w,.slice A0 r.2.g.l.length C0],Ch.arr aC 107 A0 C0 r.2.g.l,Ch.box N2 115 [.slice A1 b.l.length C1,.slice A2 b.bP.length C2,.slice A3 b.begun.length C3],Ch.arr (Ty.slice aD) 40 A1 C1 b.l,Ch.arr (Ty.int .i64) 3 A2 C2 b.bP,Ch.arr aD 112 A3 C3 b.begun]) (fun h=>[Im.sl aC h.1.1 h.1.2 r.1.rows,Im.sl aD h.2.1 h.2.2 r.1.begun]):=by
 delta sK at H
 refine Cf Go.Proofs.Tryz.func36 fun K=> ?_
 refine Z1 ?_
 refine Ll fun g1=> ?_
 refine Z1 ?_
 have ⟨r2,h3,H4⟩:=bnd H
 refine Lk [1,1,1] [] (sG h3) fun ⟨g5,⟨a6,c7⟩⟩=> ?_
 refine Z1 ?_
 have ⟨B,a,c⟩:=bnd H4
 refine Lk [2,2,2] [] (rJ a) fun ⟨⟩=> ?_
 refine Z0 ?_
 have ⟨C,d,e⟩:=bnd c
 refine Lk [3,3] [] (wH d) fun ⟨f,i⟩=> ?_
 refine Z0 ?_
 have ⟨F,j,m⟩:=bnd e
 refine Lk [7,7,7,7] [] (rp j) fun ⟨⟩=> ?_
 refine Z0 ?_
 have ⟨I,n,o⟩:=bnd m
 refine Lk [0,0,0,0] [] (rp n) fun ⟨⟩=> ?_
 have ⟨J,p,q⟩:=bnd o
 refine Lk [0,0,0,0] [] (vr p) fun ⟨⟩=> ?_
 refine Z0 ?_
 have ⟨M,s,t⟩:=bnd q
 refine Lk [0,0,0,0] [] (vt s) fun ⟨u,v⟩=> ?_
 refine Z0 ?_
 refine Ll fun N=> ?_
 refine Lt 0 ?_
 refine Z1 ?_
 have ⟨O,x,y⟩:=bnd t
 refine Lk [7,7] [] (gJ x) fun ⟨⟩=> ?_
 refine Z0 ?_
 refine Lt 2 ?_
 refine Z0 ?_
 refine Lt 0 ?_
 refine Z1 ?_
 have ⟨P,z,A⟩:=bnd y
 refine Lk [9,9,9] [] (rh z) fun ⟨⟩=> ?_
 refine Z0 ?_
 refine Lt 3 ?_
 refine Z0 ?_
 refine Lt 0 ?_
 refine Z1 ?_
 refine Lt 12 ?_
 refine Z0 ?_
 refine E.frz 12 rfl ?_
 refine E.frz 7 rfl ?_
 cases A
 exact Eo ((f,i),(u,v)) [2,2,2,4,4,4,4] [1,0] (.cell 0 rfl rfl rfl .nil)
theorem jL {m_:bA} {r:aI×bA} (H:dO m_=some r):CT G 13 [.pointer (some ⟨N0,0,none⟩)] [Ch.box N0 56 (pJ m_ N1 N2 N3),Ch.box N1 115 [.slice A0 m_.book.l.length C0,.slice A1 m_.book.bP.length C1,.slice A2 m_.book.begun.length C2],Ch.arr (Ty.slice aD) 40 A0 C0 m_.book.l,Ch.arr (Ty.int .i64) 3 A1 C1 m_.book.bP,Ch.arr aD 112 A2 C2 m_.book.begun,Ch.box N2 76 (kV m_.parser A3 C3),Ch.opt (m_.parser.state == (3:Int)) (Ty.int .i64) 3 A3 C3 m_.parser.order.bH,Ch.box N3 124 (cD m_.aR N4),Ch.box N4 169 [.int .i64 m_.aR.g.w,.slice A5 m_.aR.g.l.length C5],Ch.arr aC 107 A5 C5 m_.aR.g.l] [] (fun h:(Option Addr×Nat)×(Option Addr×Nat)×(Option Addr×Nat)=> .agg (kZ r.1 h.1.1 h.1.2 h.2.1.1 h.2.1.2).toArray) (fun h=>[Ch.box N0 56 (pJ r.2 N1 N2 N3),Ch.box N1 115 [.slice A0 r.2.book.l.length C0,.slice A1 r.2.book.bP.length C1,.slice A2 r.2.book.begun.length C2],Ch.arr (Ty.slice aD) 40 A0 C0 r.2.book.l,Ch.arr (Ty.int .i64) 3 A1 C1 r.2.book.bP,Ch.arr aD 112 A2 C2 r.2.book.begun,Ch.box N2 76 (kV r.2.parser A3 C3),Ch.opt (r.2.parser.state == (3:Int)) (Ty.int .i64) 3 A3 C3 r.2.parser.order.bH,Ch.box N3 124 (cD r.2.aR N4),Ch.box N4 169 [.int .i64 r.2.aR.g.w,.slice A5 r.2.aR.g.l.length C5],Ch.arr aC 107 A5 C5 r.2.aR.g.l]) (fun h=>[Im.sl aC h.1.1 h.1.2 r.1.rows,Im.sl aD h.2.1.1 h.2.1.2 r.1.begun]):=by
 delta dO at H
 refine Cf Go.Proofs.Tryz.func13 fun K=> ?_
 refine Z1 ?_
 refine Ll fun g1=> ?_
 refine Y1 ?_
 refine Td [14] [0,0,4,4] mo ?_
 refine Dq 0 ?_
 refine Dq 1 ?_
 refine Dq 2 ?_
 refine Db 3 1 ?_
 refine Dq 4 ?_
 refine Dq 5 ?_
 refine Dq 6 ?_
 refine Dq 7 ?_
 refine Db 8 1 ?_
 refine Dq 9 ?_
 refine Dq 10 ?_
 refine Dq 11 ?_
 refine Db 12 1 ?_
 have ⟨i,a,b⟩:=bnd H
 refine Dk [4,4,4,0,0,0,0] [] (G3 a) fun ⟨⟨c,d⟩,⟨e,f⟩⟩=> ?_
 refine Dt 0 ?_
 refine Dn ?_
 refine Z0 ?_
 cases b
 exact Eo ((c,d),(e,f),(none,0)) [1,6,6,6,6,1,1,1,1,1] [0,1] (.cell 0 rfl rfl rfl .nil)
theorem pF {s_:aI} {r:Bool} (H:gV s_=some r):CT G 68 [.agg (kZ s_ A0 C0 A1 C1).toArray] [] [Im.sl aC A0 C0 s_.rows,Im.sl aD A1 C1 s_.begun] (fun _:Unit=> .bool r) (fun h=>[]) (fun h=>[]):=by
 delta gV at H
 refine Cf Go.Proofs.Tryz.func68 fun K=> ?_
 refine Z1 ?_
 refine Lx fun g1=> ?_
 refine Y1 ?_
 have ⟨k,l,m⟩:=bnd H
 refine Tj0 [(2,.bool k)] [] [] [0] ?_ ?_
 ·refine Z0 ?_
  refine Lw 6 l (fun a=> ?_) fun a=> ?_
  ·refine Z0 ?_
   refine Lw 11 a (fun b=> ?_) fun b=> ?_
   ·refine Z0 ?_
    refine Lw 16 b (fun c=> ?_) fun c=> ?_
    ·refine Z0 ?_
     refine Lw 21 c (fun d=> ?_) fun d=> ?_
     ·refine Z0 ?_
      refine Lw 26 d (fun e=> ?_) fun e=> ?_
      ·refine Z0 ?_
       refine Lw 31 e (fun f=> ?_) fun f=> ?_
       ·refine Z0 ?_
        refine Lw 37 f (fun g=> ?_) fun g=> ?_
        ·refine Z0 ?_
         refine Lw 42 g (fun i=> ?_) fun i=> ?_
         ·refine Z0 ?_
          refine Lw 47 i (fun j=> ?_) fun j=> ?_
          ·refine Z0 ?_
           cases j
           exact Eg0 [0] 0
          refine Z0 ?_
          cases j
          exact Eg0 [0] 0
         refine Z0 ?_
         cases i
         exact Eg0 [0] 0
        refine Z0 ?_
        cases g
        exact Eg0 [0] 0
       refine Z0 ?_
       cases f
       exact Eg0 [0] 0
      refine Z0 ?_
      cases e
      exact Eg0 [0] 0
     refine Z0 ?_
     cases d
     exact Eg0 [0] 0
    refine Z0 ?_
    cases c
    exact Eg0 [0] 0
   refine Z0 ?_
   cases b
   exact Eg0 [0] 0
  refine Z0 ?_
  cases a
  exact Eg0 [0] 0
 refine Z0 ?_
 cases m
 exact Eo1 () [] []
theorem gO {n_:Int} {lo:Int} {hi:Int} {r:Bool} (H:eU n_ lo hi=some r):CT G 108 [.int .i64 n_,.int .i64 lo,.int .i64 hi] [] [] (fun _:Unit=> .bool r) (fun h=>[]) (fun h=>[]):=by
 delta eU at H
 refine Cf Go.Proofs.Tryz.func108 fun K=> ?_
 refine Y2 ?_
 have ⟨e4,H5,H6⟩:=bnd H
 refine Tj0 [(6,.bool e4)] [] [] [] ?_ ?_
 ·refine Z0 ?_
  refine Lw 10 H5 (fun H7=> ?_) fun H7=> ?_
  ·refine Z0 ?_
   cases H7
   exact Eg0 [] 0
  refine Z0 ?_
  cases H7
  exact Eg0 [] 0
 refine Z0 ?_
 cases H6
 exact Eo1 () [] []
theorem vu {s_:aI} {r:Bool} (H:kg s_=some r):CT G 69 [.agg (kZ s_ A0 C0 A1 C1).toArray] [] [Im.sl aC A0 C0 s_.rows,Im.sl aD A1 C1 s_.begun] (fun _:Unit=> .bool r) (fun h=>[]) (fun h=>[]):=by
 delta kg at H
 refine Cf Go.Proofs.Tryz.func69 fun K=> ?_
 refine Z1 ?_
 refine Lx fun g1=> ?_
 refine Y1 ?_
 have ⟨k,l,m⟩:=bnd H
 refine Tj0 [(2,.bool k)] [] [] [0] ?_ ?_
 ·refine Z0 ?_
  have ⟨C,n,o⟩:=bnd l
  refine Lk [] [] (gO n) fun ⟨⟩=> ?_
  refine Z0 ?_
  refine Lw 6 o (fun a=> ?_) fun a=> ?_
  ·refine Z0 ?_
   have ⟨F,p,q⟩:=bnd a
   refine Lk [] [] (gO p) fun ⟨⟩=> ?_
   refine Z0 ?_
   refine Lw 11 q (fun b=> ?_) fun b=> ?_
   ·refine Z0 ?_
    have ⟨I,s,t⟩:=bnd b
    refine Lk [] [] (gO s) fun ⟨⟩=> ?_
    refine Z0 ?_
    refine Lw 16 t (fun c=> ?_) fun c=> ?_
    ·refine Z0 ?_
     have ⟨J,u,v⟩:=bnd c
     refine Lk [] [] (gO u) fun ⟨⟩=> ?_
     refine Z0 ?_
     refine Lw 24 v (fun d=> ?_) fun d=> ?_
     ·refine Z0 ?_
      have ⟨M,w,x⟩:=bnd d
      refine Lk [] [] (gO w) fun ⟨⟩=> ?_
      refine Z0 ?_
      refine Lw 32 x (fun e=> ?_) fun e=> ?_
      ·refine Z0 ?_
       refine Lw 40 e (fun f=> ?_) fun f=> ?_
       ·refine Z0 ?_
        refine Lw 46 f (fun g=> ?_) fun g=> ?_
        ·refine Z0 ?_
         have ⟨N,y,z⟩:=bnd g
         refine Lk [] [] (gO y) fun ⟨⟩=> ?_
         refine Z0 ?_
         refine Lw 51 z (fun i=> ?_) fun i=> ?_
         ·refine Z0 ?_
          have ⟨O,A,B⟩:=bnd i
          refine Lk [] [] (gO A) fun ⟨⟩=> ?_
          refine Z0 ?_
          refine Lw 56 B (fun j=> ?_) fun j=> ?_
          ·refine Z0 ?_
           cases j
           exact Eg0 [0] 0
          refine Z0 ?_
          cases j
          exact Eg0 [0] 0
         refine Z0 ?_
         cases i
         exact Eg0 [0] 0
        refine Z0 ?_
        cases g
        exact Eg0 [0] 0
       refine Z0 ?_
       cases f
       exact Eg0 [0] 0
      refine Z0 ?_
      cases e
      exact Eg0 [0] 0
     refine Z0 ?_
     cases d
     exact Eg0 [0] 0
    refine Z0 ?_
    cases c
    exact Eg0 [0] 0
   refine Z0 ?_
   cases b
   exact Eg0 [0] 0
  refine Z0 ?_
  cases a
  exact Eg0 [0] 0
 refine Z0 ?_
 cases m
 exact Eo1 () [] []
theorem vw {r_:Int} {aL:Int} {r:Bool} (H:l9 r_ aL=some r):CT G 72 [.int .i32 r_,.int .i64 aL] [] [] (fun _:Unit=> .bool r) (fun h=>[]) (fun h=>[]):=by
 delta l9 at H
 refine Cf Go.Proofs.Tryz.func72 fun K=> ?_
 refine Y2 ?_
 have ⟨b,c,d⟩:=bnd H
 refine Tj0 [(4,.bool b)] [] [] [] ?_ ?_
 ·refine Z0 ?_
  have ⟨j,e,f⟩:=bnd c
  refine Lk [] [] (gO e) fun ⟨⟩=> ?_
  refine Z0 ?_
  refine Lw 8 f (fun a=> ?_) fun a=> ?_
  ·refine Z0 ?_
   have ⟨k,g,i⟩:=bnd a
   refine Lk [] [] (gO g) fun ⟨⟩=> ?_
   refine Z0 ?_
   cases i
   exact Eg0 [] 0
  refine Z0 ?_
  cases a
  exact Eg0 [] 0
 refine Z0 ?_
 cases d
 exact Eo1 () [] []
theorem tE {g:aJ} {r:Bool} (H:jh g=some r):CT G 71 [.agg #[.int .i32 g.rune,.int .i64 g.aL]] [] [] (fun _:Unit=> .bool r) (fun h=>[]) (fun h=>[]):=by
 delta jh at H
 refine Cf Go.Proofs.Tryz.func71 fun K=> ?_
 refine Z1 ?_
 refine Lx fun g1=> ?_
 refine Z1 ?_
 have ⟨r2,h3,H4⟩:=bnd H
 refine Lk [] [] (vw h3) fun ⟨⟩=> ?_
 refine Z0 ?_
 cases H4
 exact Eo1 () [] []
theorem lC {s_:List aJ} {r:Int} (H:dL s_=some r):CT G 109 [.slice A0 s_.length C0,.func (.func 71) #[] #[]] [] [Im.sl aD A0 C0 s_] (fun _:Unit=> .int .i64 r) (fun h=>[]) (fun h=>[]):=by
 delta dL at H
 refine Cf Go.Proofs.Tryz.func109 fun K=> ?_
 refine Z3 ?_
 have ⟨a,i,e⟩:=bnd H
 refine Tj (η:=Unit×Unit) (fun h=>a = .inl h.1) (fun _=>[]) [] (fun _=>[]) [] (fun _=>[]) ?_ ?_
 ·refine Yl0 ?_
  refine Tq (η:=Unit) (fun f h=>[(8,.int .i64 f)]) [0,1,7] (fun _ _=>[]) [] (fun _ _=>[]) () [] [] i ?_
  rintro k_ f ⟨⟩ j k l g
  refine Y2 ?_
  refine Tb k (fun b=> ?_) fun b=> ?_
  ·refine Z1 ?_
   refine Zl ?_
   refine Z2 ?_
   have ⟨s,c,m⟩:=bnd b
   refine L.addr 0 rfl (cL c) fun t u n=> ?_
   subst n
   refine Ly (Yl.ia c rfl rfl rfl rfl rfl rfl) ?_
   refine L.el 0 rfl (aU c).2 ?_
   rintro _
   refine Lc 0 0 ?_
   have ⟨v,o,p⟩:=bnd m
   refine Lk [] [] (tE o) fun ⟨⟩=> ?_
   refine Z0 ?_
   refine Tb p (fun d=> ?_) fun d=> ?_
   ·refine Z1 ?_
    obtain ⟨w,hz,q⟩:=fG d
    subst j
    have hb:=g _ rfl
    subst a
    obtain rfl:=(sm e).symm
    refine Z0 ?_
    cases q
    exact Eo1 () [] []
   refine Z0 ?_
   cases d
   exact Eg (_,()) (l _ rfl) [] [] 1
  refine Z0 ?_
  cases b
  have hb:=g _ rfl
  subst a
  exact Eg (_,()) rfl [] [] 0
 rintro ⟨x,⟨⟩⟩ hy
 subst hy
 refine Z1 ?_
 cases e
 exact Eo1 () [] []
theorem kX {s_:List aJ} {r:Bool} (H:cJ s_=some r):CT G 70 [.slice A0 s_.length C0,.func (.func 71) #[] #[]] [] [Im.sl aD A0 C0 s_] (fun _:Unit=> .bool r) (fun h=>[]) (fun h=>[]):=by
 delta cJ at H
 refine Cf Go.Proofs.Tryz.func70 fun K=> ?_
 refine Z2 ?_
 have ⟨r1,h2,H3⟩:=bnd H
 refine Lk [] [0] (lC h2) fun ⟨⟩=> ?_
 refine Z0 ?_
 cases H3
 exact Eo1 () [] []
theorem CK {c:aG} {r:Bool} (H:nY c=some r):CT G 75 [.agg #[.int .i32 c.rune,.int .i64 c.aL,.int .i64 c.part]] [] [] (fun _:Unit=> .bool r) (fun h=>[]) (fun h=>[]):=by
 delta nY at H
 refine Cf Go.Proofs.Tryz.func75 fun K=> ?_
 refine Z1 ?_
 refine Lx fun g1=> ?_
 refine Y1 ?_
 have ⟨b,d,e⟩:=bnd H
 refine Tj0 [(2,.bool b)] [] [] [0] ?_ ?_
 ·refine Z0 ?_
  have ⟨k,f,g⟩:=bnd d
  refine Lk [] [] (vw f) fun ⟨⟩=> ?_
  refine Z0 ?_
  refine Lw 8 g (fun a=> ?_) fun a=> ?_
  ·refine Z0 ?_
   have ⟨l,i,j⟩:=bnd a
   refine Lk [] [] (gO i) fun ⟨⟩=> ?_
   refine Z0 ?_
   cases j
   exact Eg0 [0] 0
  refine Z0 ?_
  cases a
  exact Eg0 [0] 0
 refine Z0 ?_
 cases e
 exact Eo1 () [] []
theorem tF {c:aG} {r:Bool} (H:ji c=some r):CT G 74 [.agg #[.int .i32 c.rune,.int .i64 c.aL,.int .i64 c.part]] [] [] (fun _:Unit=> .bool r) (fun h=>[]) (fun h=>[]):=by
 delta ji at H
 refine Cf Go.Proofs.Tryz.func74 fun K=> ?_
 refine Z1 ?_
 refine Lx fun g1=> ?_
 refine Z1 ?_
 have ⟨r2,h3,H4⟩:=bnd H
 refine Lk [] [] (CK h3) fun ⟨⟩=> ?_
 refine Z0 ?_
 cases H4
 exact Eo1 () [] []
theorem lK {s_:List aG} {r:Int} (H:dS s_=some r):CT G 110 [.slice A0 s_.length C0,.func (.func 74) #[] #[]] [] [Im.sl aO A0 C0 s_] (fun _:Unit=> .int .i64 r) (fun h=>[]) (fun h=>[]):=by
 delta dS at H
 refine Cf Go.Proofs.Tryz.func110 fun K=> ?_
 refine Z3 ?_
 have ⟨a,i,e⟩:=bnd H
 refine Tj (η:=Unit×Unit) (fun h=>a = .inl h.1) (fun _=>[]) [] (fun _=>[]) [] (fun _=>[]) ?_ ?_
 ·refine Yl0 ?_
  refine Tq (η:=Unit) (fun f h=>[(8,.int .i64 f)]) [0,1,7] (fun _ _=>[]) [] (fun _ _=>[]) () [] [] i ?_
  rintro k_ f ⟨⟩ j k l g
  refine Y2 ?_
  refine Tb k (fun b=> ?_) fun b=> ?_
  ·refine Z1 ?_
   refine Zl ?_
   refine Z2 ?_
   have ⟨s,c,m⟩:=bnd b
   refine L.addr 0 rfl (cL c) fun t u n=> ?_
   subst n
   refine Ly (Yl.ia c rfl rfl rfl rfl rfl rfl) ?_
   refine L.el 0 rfl (aU c).2 ?_
   rintro _
   refine Lc 0 0 ?_
   have ⟨v,o,p⟩:=bnd m
   refine Lk [] [] (tF o) fun ⟨⟩=> ?_
   refine Z0 ?_
   refine Tb p (fun d=> ?_) fun d=> ?_
   ·refine Z1 ?_
    obtain ⟨w,hz,q⟩:=fG d
    subst j
    have hb:=g _ rfl
    subst a
    obtain rfl:=(sm e).symm
    refine Z0 ?_
    cases q
    exact Eo1 () [] []
   refine Z0 ?_
   cases d
   exact Eg (_,()) (l _ rfl) [] [] 1
  refine Z0 ?_
  cases b
  have hb:=g _ rfl
  subst a
  exact Eg (_,()) rfl [] [] 0
 rintro ⟨x,⟨⟩⟩ hy
 subst hy
 refine Z1 ?_
 cases e
 exact Eo1 () [] []
theorem k5 {s_:List aG} {r:Bool} (H:bY s_=some r):CT G 73 [.slice A0 s_.length C0,.func (.func 74) #[] #[]] [] [Im.sl aO A0 C0 s_] (fun _:Unit=> .bool r) (fun h=>[]) (fun h=>[]):=by
 delta bY at H
 refine Cf Go.Proofs.Tryz.func73 fun K=> ?_
 refine Z2 ?_
 have ⟨r1,h2,H3⟩:=bnd H
 refine Lk [] [0] (lK h2) fun ⟨⟩=> ?_
 refine Z0 ?_
 cases H3
 exact Eo1 () [] []
theorem lN {s_:aI} {r:Int} (H:eV s_=some r):CT G 34 [.agg (kZ s_ A0 C0 A1 C1).toArray] [] [Im.sl aC A0 C0 s_.rows,Im.sl aD A1 C1 s_.begun] (fun _:Unit=> .int .i64 r) (fun h=>[]) (fun h=>[]):=by
 delta eV at H
 refine Cf Go.Proofs.Tryz.func34 fun K=> ?_
 refine Z1 ?_
 refine Lx fun g1=> ?_
 refine Z2 ?_
 have ⟨r2,h3,H4⟩:=bnd H
 refine Lk [] [0,1] (pF h3) fun ⟨⟩=> ?_
 refine Z0 ?_
 refine Tb H4 (fun H6=> ?_) fun H6=> ?_
 ·refine Z1 ?_
  cases H6
  exact Eo1 () [] []
 refine Y2 ?_
 have ⟨l,m,n⟩:=bnd H6
 refine Tj0 [(14,.bool l)] [1] [] [0] ?_ ?_
 ·refine Z0 ?_
  have ⟨J,o,p⟩:=bnd m
  refine Lk [] [0,1] (vu o) fun ⟨⟩=> ?_
  refine Z0 ?_
  refine Lw 10 p (fun a=> ?_) fun a=> ?_
  ·refine Z0 ?_
   cases a
   exact Eg0 [0] 0
  refine Z0 ?_
  have ⟨M,q,s⟩:=bnd a
  refine Lk [] [1] (kX q) fun ⟨⟩=> ?_
  refine Z0 ?_
  cases s
  exact Eg0 [0] 0
 refine Tb n (fun b=> ?_) fun b=> ?_
 ·refine Z1 ?_
  cases b
  exact Eo1 () [] []
 refine Z2 ?_
 have ⟨c,t,i⟩:=bnd b
 refine Tj (η:=Unit×Unit) (fun h=>c = .inl h.1) (fun _=>[]) [] (fun _=>[]) [0] (fun _=>[]) ?_ ?_
 ·refine Yl0 ?_
  refine Tq (η:=Unit) (fun j h=>[(18,.int .i64 j)]) [1,16,17] (fun _ _=>[]) [0] (fun _ _=>[]) () [0] [] t ?_
  rintro k_ j ⟨⟩ u v w k
  refine Y2 ?_
  refine Tb v (fun d=> ?_) fun d=> ?_
  ·refine Z1 ?_
   refine Zl ?_
   refine Z1 ?_
   have ⟨N,e,x⟩:=bnd d
   refine L.addr 0 rfl (cL e) fun O P y=> ?_
   subst y
   refine Ly (Yl.ia e rfl rfl rfl rfl rfl rfl) ?_
   refine L.el 0 rfl (aU e).2 ?_
   rintro ⟨Q,R⟩
   refine Lc 0 0 ?_
   refine Ll fun S=> ?_
   refine Lt 0 ?_
   refine Y1 ?_
   have ⟨z,A,B⟩:=bnd x
   refine Tj0 [(32,.bool z)] [1,16,17,18] [] [0,1] ?_ ?_
   ·refine Z0 ?_
    refine Lw 28 A (fun f=> ?_) fun f=> ?_
    ·refine Z0 ?_
     cases f
     exact Eg0 [0,0] 0
    refine Z0 ?_
    have ⟨U,C,F⟩:=bnd f
    refine Lk [] [1] (k5 C) fun ⟨⟩=> ?_
    refine Z0 ?_
    cases F
    exact Eg0 [0,0] 0
   refine Tb B (fun g=> ?_) fun g=> ?_
   ·refine Z1 ?_
    obtain ⟨V,hz,I⟩:=fG g
    subst u
    have hb:=k _ rfl
    subst c
    obtain rfl:=(sm i).symm
    refine Z0 ?_
    cases I
    exact Eo1 () [] []
   refine Z0 ?_
   cases g
   exact Eg (_,()) (w _ rfl) [1] [] 2
  refine Z0 ?_
  cases d
  have hb:=k _ rfl
  subst c
  exact Eg (_,()) rfl [0] [] 0
 rintro ⟨W,⟨⟩⟩ hy
 subst hy
 refine Z1 ?_
 cases i
 exact Eo1 () [] []
theorem nA {s_:aI} {r:aI} (H:gW s_=some r):CT G 35 [.agg (kZ s_ A0 C0 A1 C1).toArray] [] [Im.sl aC A0 C0 s_.rows,Im.sl aD A1 C1 s_.begun] (fun h:(Option Addr×Nat)×(Option Addr×Nat)=> .agg (kZ r h.1.1 h.1.2 h.2.1 h.2.2).toArray) (fun h=>[]) (fun h=>[Im.sl aC h.1.1 h.1.2 r.rows,Im.sl aD h.2.1 h.2.2 r.begun]):=by
 delta gW at H
 refine Cf Go.Proofs.Tryz.func35 fun K=> ?_
 refine Z1 ?_
 refine Lx fun g1=> ?_
 refine Ll fun g2=> ?_
 refine Z3 ?_
 have ⟨f,j,k⟩:=bnd H
 refine Tjh (η:=(Option Addr×Nat)) (fun h=>(fun a b=>[(3,.slice a f.length b)]) h.1 h.2) [1,2] (fun h=>(fun a b=>[Ch.arr aC 107 a b f]) h.1 h.2) [0,1] (fun _=>[]) ?_ ?_
 ·refine Yl0 ?_
  refine T.iw aC 107 ?_
  refine Tq (η:=(Option Addr×Nat)) (fun c h=>(fun d e=>[(3,.slice d c.1.length e),(9,.int .i64 c.2)]) h.1 h.2) [1,2,7,8] (fun c h=>(fun d e=>[Ch.arr aC 107 d e c.1]) h.1 h.2) [1,2] (fun _ _=>[]) (none,0) [0,0,0] [] j ?_
  rintro k_ c ⟨d,e⟩ N l m n
  refine Y2 ?_
  refine Tb l (fun g=> ?_) fun g=> ?_
  ·refine Z1 ?_
   refine Zl ?_
   refine Z1 ?_
   have ⟨o,i,p⟩:=bnd g
   refine L.addr 0 rfl (cL i) fun O P q=> ?_
   subst q
   refine Ly (Yl.ia i rfl rfl rfl rfl rfl rfl) ?_
   refine L.el 0 rfl (aU i).2 ?_
   rintro ⟨s,t⟩
   refine Lc 0 0 ?_
   refine Ll fun Q=> ?_
   refine Lt 0 ?_
   refine Z0 ?_
   refine Td [] [0,1,1] mo ?_
   refine Dq 0 ?_
   refine Dq 1 ?_
   refine Db 2 0 ?_
   refine Dq 4 ?_
   refine Db 5 0 ?_
   have ⟨u,v,w⟩:=bnd p
   refine Dk [] [1] (kW s t v) fun ⟨x,y⟩=> ?_
   refine Dq 6 ?_
   refine D.frz 0 rfl ?_
   refine Da [] [0] rfl rfl (Ac.bs (ty:=aC) (xs:=[(aE.mk u o.wrapped)]) (.cons (x,y) [0] rfl .nil) rfl rfl rfl rfl rfl rfl rfl) fun R=> ?_
   refine D.frz 0 rfl ?_
   have ⟨_,z,A⟩:=bnd w
   refine Da [0] [0] rfl rfl (Ac.ap (ty:=aC) z rfl rfl rfl rfl rfl rfl rfl) ?_
   rintro ⟨B,C⟩
   refine Dq 9 ?_
   refine Dn ?_
   refine Z0 ?_
   cases A
   exact Eg (_,(B,C)) (m _ rfl) [3,1,1] [] 4
  refine Z0 ?_
  cases g
  have hb:=n _ rfl
  subst f
  exact Eg (d,e) trivial [0,0,0] [] 0
 rintro ⟨a,b⟩
 refine Z1 ?_
 have ⟨S,F,I⟩:=bnd k
 refine Lk [] [1] (kC A1 C1 F) fun ⟨J,M⟩=> ?_
 refine Z0 ?_
 refine Lt 3 ?_
 refine Z0 ?_
 refine Lt 0 ?_
 refine Z1 ?_
 refine Lt 3 ?_
 refine Z0 ?_
 refine E.frz 3 rfl ?_
 refine E.frz 2 rfl ?_
 cases I
 exact Eo ((a,b),(J,M)) [] [1,0] (.cell 0 rfl rfl rfl .nil)
theorem oe {s_:aP} {x_:aI} {r:Bool×aP} (H:fI s_ x_=some r):CT G 12 [.pointer (some ⟨N0,0,none⟩),.agg (kZ x_ A7 C7 A8 C8).toArray] [Ch.box N0 83 (zc s_ A0 C0 A1 C1 A2 C2 A3 C3 A4 C4 A5 C5 A6 C6),Ch.aro eS 42 A4 C4 s_.kept,Ch.arr Ty.bool 4 A6 C6 s_.message.there] [Im.sl aC A0 C0 s_.current.rows,Im.sl aD A1 C1 s_.current.begun,Im.sl aC A2 C2 s_.aY.rows,Im.sl aD A3 C3 s_.aY.begun,Im.sl Ty.str A5 C5 s_.message.parts,Im.sl aC A7 C7 x_.rows,Im.sl aD A8 C8 x_.begun] (fun h:(Option Addr×Nat)×(Option Addr×Nat)=> .bool r.1) (fun h=>[Ch.box N0 83 (zc r.2 h.1.1 h.1.2 h.2.1 h.2.2 A2 C2 A3 C3 A4 C4 A5 C5 A6 C6),Ch.aro eS 42 A4 C4 r.2.kept,Ch.arr Ty.bool 4 A6 C6 r.2.message.there]) (fun h=>[Im.sl aC h.1.1 h.1.2 r.2.current.rows,Im.sl aD h.2.1 h.2.2 r.2.current.begun,Im.sl aC A2 C2 r.2.aY.rows,Im.sl aD A3 C3 r.2.aY.begun,Im.sl Ty.str A5 C5 r.2.message.parts]):=by
 delta fI at H
 refine Cf Go.Proofs.Tryz.func12 fun K=> ?_
 refine Z1 ?_
 refine Lx fun g1=> ?_
 refine Y2 ?_
 have ⟨c,d,e⟩:=bnd H
 refine Tj0 [(17,.bool c)] [0,3] [] [0,1,2,3] ?_ ?_
 ·refine Td [] [0,0,0,0] mo ?_
  refine Db 0 0 ?_
  have ⟨o,f,g⟩:=bnd d
  refine Dk [] [5,6] (lN f) fun ⟨⟩=> ?_
  refine Dq 2 ?_
  refine Dq 3 ?_
  refine D.cs 8 g rfl (fun hc a=> ?_) (fun hc a=> ?_)
  ·refine Ds 4 ?_
   refine Ds 5 ?_
   refine Ds 6 ?_
   refine Ds 7 ?_
   refine Ds 8 ?_
   refine Ds 9 ?_
   refine Ds 10 ?_
   refine Ds 11 ?_
   refine Dq 12 ?_
   refine Dn ?_
   cases a
   exact Eg0 [0,0,0,0] 0
  refine Dq 4 ?_
  refine Db 5 0 ?_
  refine Dq 6 ?_
  refine Dq 7 ?_
  refine Dq 8 ?_
  refine Dq 9 ?_
  refine Db 10 1 ?_
  refine Dq 11 ?_
  refine Dq 12 ?_
  refine Dn ?_
  cases a
  exact Eg0 [0,0,0,0] 0
 refine Tb e (fun b=> ?_) fun b=> ?_
 ·refine Z1 ?_
  cases b
  exact Eo1 ((A0,C0),(A1,C1)) [1,1,1] [0,1,2,3,4]
 refine Z1 ?_
 have ⟨p,i,j⟩:=bnd b
 refine Lk [] [5,6] (nA i) fun ⟨⟨k,l⟩,⟨m,n⟩⟩=> ?_
 refine Z0 ?_
 refine Lt 1 ?_
 refine Z1 ?_
 cases j
 exact Eo1 ((k,l),(m,n)) [0,1,1] [0,1,4,5,6]
theorem mE {o:cE} {l:List ByteArray} {r:cE} (H:gM o l=some r):CT G 116 [.pointer (some ⟨N0,0,none⟩),.slice A1 l.length C1] [Ch.box N0 182 [.slice A0 o.b.length C0],Ch.arr (Ty.int .u8) 5 A0 C0 o.b] [Im.sl Ty.str A1 C1 l] (fun h:(Option Addr×Nat)=> .pointer (some ⟨N0,0,none⟩)) (fun h=>[Ch.box N0 182 [.slice h.1 r.b.length h.2],Ch.arr (Ty.int .u8) 5 h.1 h.2 r.b]) (fun h=>[]):=by
 delta gM at H
 refine Cf Go.Proofs.Tryz.func116 fun K=> ?_
 refine Z3 ?_
 have ⟨g,k,m⟩:=bnd H
 refine Tjh (η:=(Option Addr×Nat)) (fun _=>[]) [0] (fun h=>(fun e f=>[Ch.arr (Ty.int .u8) 5 e f g.b,Ch.box N0 182 [.slice e g.b.length f]]) h.1 h.2) [] (fun _=>[]) ?_ ?_
 ·refine Yl0 ?_
  refine Tq (η:=(Option Addr×Nat)) (fun a h=>(fun c d=>[(9,.int .i64 a.2)]) h.1 h.2) [0,7,8] (fun a h=>(fun c d=>[Ch.arr (Ty.int .u8) 5 c d a.1.b,Ch.box N0 182 [.slice c a.1.b.length d]]) h.1 h.2) [] (fun _ _=>[]) (A0,C0) [1,0] [] k ?_
  rintro k_ a ⟨c,d⟩ y n p q
  refine Y2 ?_
  refine Tb n (fun i=> ?_) fun i=> ?_
  ·refine Z1 ?_
   refine Zl ?_
   refine Z1 ?_
   have ⟨z,j,s⟩:=bnd i
   refine L.addr 0 rfl (cL j) fun A B t=> ?_
   subst t
   refine Ly (Yl.ia j rfl rfl rfl rfl rfl rfl) ?_
   refine L.el 0 rfl (aU j).2 ?_
   rintro _
   refine Lc 0 0 ?_
   refine Z0 ?_
   have ⟨_,u,v⟩:=bnd s
   refine La [0] [] (Ac.aps u rfl rfl rfl rfl rfl rfl rfl rfl rfl Mt) ?_
   rintro ⟨w,x⟩
   refine Z0 ?_
   refine Lt 1 ?_
   refine Z0 ?_
   cases v
   exact Eg (_,(w,x)) (p _ rfl) [1,0] [] 1
  refine Z0 ?_
  cases i
  have hb:=q _ rfl
  subst g
  exact Eg (c,d) trivial [0,0] [] 0
 rintro ⟨e,f⟩
 refine Z1 ?_
 cases m
 exact Eo1 (e,f) [1,0] []
theorem sH {o:cE} {l:List ByteArray} {r:cE} (H:kL o l=some r):CT G 115 [.pointer (some ⟨N0,0,none⟩),.slice A1 l.length C1] [Ch.box N0 182 [.slice A0 o.b.length C0],Ch.arr (Ty.int .u8) 5 A0 C0 o.b] [Im.sl Ty.str A1 C1 l] (fun h:(Option Addr×Nat)=> .pointer (some ⟨N0,0,none⟩)) (fun h=>[Ch.box N0 182 [.slice h.1 r.b.length h.2],Ch.arr (Ty.int .u8) 5 h.1 h.2 r.b]) (fun h=>[]):=by
 delta kL at H
 refine Cf Go.Proofs.Tryz.func115 fun K=> ?_
 refine Z3 ?_
 have ⟨g,m,n⟩:=bnd H
 refine Tjh (η:=(Option Addr×Nat)) (fun _=>[]) [0] (fun h=>(fun e f=>[Ch.arr (Ty.int .u8) 5 e f g.b,Ch.box N0 182 [.slice e g.b.length f]]) h.1 h.2) [] (fun _=>[]) ?_ ?_
 ·refine Yl0 ?_
  refine Tq (η:=(Option Addr×Nat)) (fun a h=>(fun c d=>[(9,.int .i64 a.2)]) h.1 h.2) [0,7,8] (fun a h=>(fun c d=>[Ch.arr (Ty.int .u8) 5 c d a.1.b,Ch.box N0 182 [.slice c a.1.b.length d]]) h.1 h.2) [] (fun _ _=>[]) (A0,C0) [1,0] [] m ?_
  rintro k_ a ⟨c,d⟩ B p q s
  refine Y2 ?_
  refine Tb p (fun i=> ?_) fun i=> ?_
  ·refine Z1 ?_
   refine Zl ?_
   refine Z1 ?_
   have ⟨k,j,t⟩:=bnd i
   refine L.addr 0 rfl (cL j) fun C F u=> ?_
   subst u
   refine Ly (Yl.ia j rfl rfl rfl rfl rfl rfl) ?_
   refine L.el 0 rfl (aU j).2 ?_
   rintro _
   refine Lc 0 0 ?_
   refine Z0 ?_
   refine La [] [] (Ac.bs (ty:=(Ty.int .i64)) (xs:=[(k.size:Int)]) (.cons () [] rfl .nil) rfl rfl rfl rfl rfl rfl rfl) fun I=> ?_
   refine L.frz 0 rfl ?_
   have ⟨J,v,w⟩:=bnd t
   refine Lk [1,0] [0] (gu v) fun ⟨M,N⟩=> ?_
   refine Z0 ?_
   refine La [] [] (Ac.bs (ty:=Ty.str) (xs:=[k]) (.cons () [] rfl .nil) rfl rfl rfl rfl rfl rfl rfl) fun O=> ?_
   refine L.frz 0 rfl ?_
   have ⟨P,x,y⟩:=bnd w
   refine Lk [0,0] [0] (mE x) fun ⟨z,A⟩=> ?_
   refine Z0 ?_
   cases y
   exact Eg (_,(z,A)) (q _ rfl) [1,0] [] 3
  refine Z0 ?_
  cases i
  have hb:=s _ rfl
  subst g
  exact Eg (c,d) trivial [0,0] [] 0
 rintro ⟨e,f⟩
 refine Z1 ?_
 cases n
 exact Eo1 (e,f) [1,0] []
theorem Eu {is:Bool} {r:Int} (H:qF is=some r):CT G 166 [.bool is] [] [] (fun _:Unit=> .int .i64 r) (fun h=>[]) (fun h=>[]):=by
 delta qF at H
 refine Cf Go.Proofs.Tryz.func166 fun K=> ?_
 refine Z3 ?_
 refine Tb H (fun H2=> ?_) fun H2=> ?_
 ·refine Z1 ?_
  cases H2
  exact Eo1 () [] []
 refine Z1 ?_
 cases H2
 exact Eo1 () [] []
theorem CL {l:List aG} {r:(List aG)} (H:po l=some r):CT G 167 [.slice A0 l.length C0] [] [Im.sl aO A0 C0 l] (fun h:Nat=> .func (.func 201) #[] #[.pointer (some ⟨h,0,none⟩)]) (fun h=>[Ch.box h 105 [.slice A0 r.length C0]]) (fun h=>[Im.sl aO A0 C0 r]):=by
 delta po at H
 refine Cf Go.Proofs.Tryz.func167 fun K=> ?_
 refine Z1 ?_
 refine Lx fun g1=> ?_
 refine Z1 ?_
 cases H
 exact Eo1 g1 [0] [0]
theorem zf {σ η:Type} {Y:σ→(Int×aG)→Option (σ×Bool)} {y0:σ} {x1:List aG} {yl:Nat} {C:σ→η→Ch} (hY: ∀ s (h:η) (x:Int×aG) (t:Unit) z,Y s x=some z→YT G yl [.int .i64 x.1,.agg #[.int .i32 x.2.rune,.int .i64 x.2.aL,.int .i64 x.2.part]] [C s h] [] (fun _:η=> .bool z.2) (fun h2=>[C z.1 h2]) (fun _=>[])) (h0:η) (g_1:Nat) (a_1_0:Option Addr) (c_1_0:Nat) {r:σ×(List aG)} (H:nS Y y0 x1=some r):CT G 201 [.func (.yield yl) #[] #[],.pointer (some ⟨g_1,0,none⟩)] [C y0 h0,Ch.box g_1 105 [.slice a_1_0 x1.length c_1_0]] [Im.sl aO a_1_0 c_1_0 x1] (fun h:η×(Option Addr×Nat)=> .tuple #[]) (fun h=>[C r.1 h.1,Ch.box g_1 105 [.slice h.2.1 r.2.length h.2.2]]) (fun h=>[Im.sl aO h.2.1 h.2.2 r.2]):=by
  delta nS at H
  refine Cf Go.Proofs.Tryz.func201 fun K=> ?_
  have ⟨j,B,q⟩:=bnd H
  refine T.tJ (η:=((List aG)×σ)×((Option Addr×Nat)×η)) (fun h=>j = .inl h.1) (fun h=>(fun a=>(fun b c e=>[]) h.2.1.1 h.2.1.2 h.2.2) h.1) (fun h=>(fun a=>(fun b c e=>[C a.2 e,Ch.box g_1 105 [.slice b a.1.length c]]) h.2.1.1 h.2.1.2 h.2.2) h.1) (fun h=>(fun a=>(fun b c e=>[Im.sl aO b c a.1,Im.sl aO a_1_0 c_1_0 x1]) h.2.1.1 h.2.1.2 h.2.2) h.1) ?_ ?_
  ·refine Yl0 ?_
   refine Tq (η:=(Option Addr×Nat)×η) (fun _ _=>[]) [0,1] (fun f h=>(fun g d i=>[C f.2 i,Ch.box g_1 105 [.slice g f.1.length d]]) h.1.1 h.1.2 h.2) [] (fun f h=>(fun g d i=>[Im.sl aO g d f.1]) h.1.1 h.1.2 h.2) ((a_1_0,c_1_0),h0) [0,0] [0] B ?_
   rintro k_ f ⟨⟨g,d⟩,i⟩ F I J u
   refine Z2 ?_
   refine Tb I (fun k=> ?_) fun k=> ?_
   ·refine Zl ?_
    refine Y2 ?_
    have ⟨v,M,N⟩:=bnd k
    refine Tj0 [(3,.int .i64 v)] [0,1] [] [0,1] ?_ ?_
    ·refine Yl0 ?_
     refine Tq (η:=Unit) (fun w h=>[(3,.int .i64 w)]) [0,1] (fun _ _=>[]) [0,1] (fun _ _=>[]) () [0,0] [] M ?_
     rintro k_ w ⟨⟩ ak O P Q
     refine Y2 ?_
     have ⟨R,S,U⟩:=bnd O
     refine Tj0 [(20,.bool R)] [0,1,3] [] [0,1] ?_ ?_
     ·refine Td [] [0,0] mo ?_
      refine Dq 0 ?_
      refine Db 1 1 ?_
      refine Dq 2 ?_
      refine Dq 3 ?_
      refine Dq 4 ?_
      refine D.cs 11 S rfl (fun hc l=> ?_) (fun hc l=> ?_)
      ·refine Db 5 1 ?_
       refine Dq 6 ?_
       have ⟨al,m,V⟩:=bnd l
       refine D.addr 0 rfl (cL m) fun am an W=> ?_
       subst W
       refine Dy 7 (Yl.ia m rfl rfl rfl rfl rfl rfl) ?_
       refine D.el 0 rfl (aU m).2 ?_
       rintro _
       refine Dy 8 (Yl.ldc 0 0 rfl rfl rfl rfl) ?_
       refine Db 9 1 ?_
       have ⟨ao,y,X⟩:=bnd V
       refine Dy 10 (Yl.ia y rfl rfl rfl rfl rfl rfl) ?_
       refine D.el 1 rfl (aU y).2 ?_
       rintro _
       refine Dy 11 (Yl.ldc 0 0 rfl rfl rfl rfl) ?_
       refine Dq 12 ?_
       refine Dq 13 ?_
       refine Dn ?_
       cases X
       exact Eg0 [0,0] 2
      refine Ds 5 ?_
      refine Ds 6 ?_
      refine Ds 7 ?_
      refine Ds 8 ?_
      refine Ds 9 ?_
      refine Ds 10 ?_
      refine Ds 11 ?_
      refine Ds 12 ?_
      refine Dq 13 ?_
      refine Dn ?_
      cases l
      exact Eg0 [0,0] 0
     refine Tb U (fun n=> ?_) fun n=> ?_
     ·refine Zl ?_
      cases n
      exact Eg (_,()) (P _ rfl) [0,0] [] 0
     refine Z0 ?_
     cases n
     have hb:=Q _ rfl
     subst v
     exact Eg0 [0,0] 0
    refine Z2 ?_
    have ⟨ap,o,Z⟩:=bnd N
    refine L.addr 0 rfl (cL o) fun aa ab ac=> ?_
    subst ac
    refine Ly (Yl.ia o rfl rfl rfl rfl rfl rfl) ?_
    refine L.el 0 rfl (aU o).2 ?_
    rintro _
    refine Lc 0 0 ?_
    have ⟨aq,ad,ae⟩:=bnd Z
    refine L.yd [0] [] (hY _ _ _ () _ ad) rfl rfl rfl rfl rfl rfl rfl rfl ?_
    intro A
    refine Z0 ?_
    refine Tb ae (fun p=> ?_) fun p=> ?_
    ·refine Z0 ?_
     obtain ⟨ar,hz,af⟩:=fG p
     subst F
     have hb:=u _ rfl
     subst j
     obtain rfl:=(sm q).symm
     refine Z0 ?_
     cases af
     exact Eo (A,((some ⟨aa,ab,none⟩),d)) [0,0] [1] .nil
    refine Z0 ?_
    have ⟨_,ag,ah⟩:=bnd p
    refine L.rs 1 ag rfl rfl rfl rfl rfl rfl rfl rfl rfl rfl rfl rfl ?_
    intro ai aj
    refine Lt 1 ?_
    refine Z0 ?_
    cases ah
    exact Eg (_,((ai,aj),A)) (J _ rfl) [1,0] [0] 3
   refine Z0 ?_
   cases k
   have hb:=u _ rfl
   subst j
   exact Egx (_,((g,d),i)) rfl [0,0] [0,1]
  rintro ⟨a,⟨⟨b,c⟩,e⟩⟩ hy
  subst hy
  refine E.off ?_
  cases q
  exact Eo (e,(b,c)) [0,0] [0] .nil
theorem sI {r_:aE} {r:ByteArray} (H:jG r_=some r):CT G 120 [.agg #[.slice A0 r_.cells.length C0,.bool r_.wrapped]] [] [Im.sl aO A0 C0 r_.cells] (fun _:Unit=> .string r) (fun h=>[]) (fun h=>[]):=by
 delta jG at H
 refine Cf Go.Proofs.Tryz.func120 fun K=> ?_
 refine T.xX ?_
 refine Z1 ?_
 refine Lx fun g1=> ?_
 refine Z1 ?_
 refine Ll fun g2=> ?_
 refine Z1 ?_
 have ⟨r3,h4,H5⟩:=bnd H
 refine Lk [] [] (Eu h4) fun ⟨⟩=> ?_
 refine La [] [] (Ac.bs (ty:=(Ty.int .i64)) (xs:=[r3]) (.cons () [] rfl .nil) rfl rfl rfl rfl rfl rfl rfl) fun g6=> ?_
 refine L.iw (Ty.int .u8) 5 ?_
 refine L.frz 1 rfl ?_
 have ⟨B,f,g⟩:=bnd H5
 refine Lk [1,0] [0] (gu f) fun ⟨i,j⟩=> ?_
 refine Z2 ?_
 have ⟨k,l,m⟩:=bnd g
 refine Lk [] [1] (CL l) fun n=> ?_
 refine Yl0 ?_
 have ⟨o,p,q⟩:=bnd m
 refine T.rf2 (σ:=cE) (η:=(Option Addr×Nat)) (X:=Int×aG) (θ:=Unit) (τ:=(Option Addr×Nat)×(Option Addr×Nat)) (s1:=o.1) (hx:=fun x=>x.1) (fun x t=>[.int .i64 x.1,.agg #[.int .i32 x.2.rune,.int .i64 x.2.aL,.int .i64 x.2.part]]) (fun x t=>[]) (fun _=>none) (fun a h=>(fun c d=>[Ch.arr (Ty.int .u8) 5 c d a.b,Ch.box g2 182 [.slice c a.b.length d],Ch.box g1 107 [.slice A0 r_.cells.length C0,.bool r_.wrapped]]) h.1 h.2) (fun a h=>(fun c d=>[Im.sl aO A0 C0 k,Im.sl (Ty.int .i64) (some ⟨g6,0,none⟩) 1 [r3],Im.sl aO A0 C0 r_.cells]) h.1 h.2) 4 [2,1,1,0] [0,1,2] [0] rfl rfl (fun _ _=>rfl) rfl (fun yl C hY=>(zf hY (i,j) n A0 C0 p:_)) (fun _ _ _ _=>rfl) rfl rfl rfl rfl rfl ?_ rfl ?_
 ·rintro yl K2 a ⟨c,d⟩ e ⟨⟩ F s
  refine Z1 ?_
  refine Ll fun I=> ?_
  refine Lt 0 ?_
  refine Z0 ?_
  refine E.begin fun K3=> ?_
  refine Zl ?_
  refine La [] [] (Ac.bs (ty:=(Ty.int .i64)) (xs:=[e.1,(IntKind.i64.wrap e.2.rune),e.2.aL,e.2.part]) (.cons () [] rfl (.cons () [] rfl (.cons () [] rfl (.cons () [] rfl .nil)))) rfl rfl rfl rfl rfl rfl rfl) fun J=> ?_
  refine L.frz 0 rfl ?_
  have ⟨M,u,v⟩:=bnd s
  refine Lk [2,1] [0] (gu u) fun ⟨w,y⟩=> ?_
  refine Z0 ?_
  cases v
  exact E.on (w,y) [1,0,1] [1,2,3] rfl rfl rfl rfl
 rintro ⟨N,⟨O,P⟩⟩ Q
 refine Z1 ?_
 have ⟨R,z,A⟩:=bnd q
 refine Lk [2,1] [] (mK z) fun ⟨⟩=> ?_
 refine Z0 ?_
 cases A
 exact E.uI () 2 [] [] rfl (.tmp rfl .nil) rfl rfl rfl
theorem qw {s_:aI} {r:ByteArray} (H:jE s_=some r):CT G 133 [.agg (kZ s_ A0 C0 A1 C1).toArray] [] [Im.sl aC A0 C0 s_.rows,Im.sl aD A1 C1 s_.begun] (fun _:Unit=> .string r) (fun h=>[]) (fun h=>[]):=by
 delta jE at H
 refine Cf Go.Proofs.Tryz.func133 fun K=> ?_
 refine Z1 ?_
 refine Lx fun g1=> ?_
 refine Y2 ?_
 have ⟨p,q,s⟩:=bnd H
 refine Tj0 [(12,.bool p)] [1] [] [0] ?_ ?_
 ·refine Z0 ?_
  have ⟨al,t,u⟩:=bnd q
  refine Lk [] [0,1] (pF t) fun ⟨⟩=> ?_
  refine Z0 ?_
  refine Lw 8 u (fun f=> ?_) fun f=> ?_
  ·refine Z0 ?_
   cases f
   exact Eg0 [0] 0
  refine Z0 ?_
  have ⟨am,v,z⟩:=bnd f
  refine Lk [] [0,1] (lN v) fun ⟨⟩=> ?_
  refine Z0 ?_
  cases z
  exact Eg0 [0] 0
 refine Tb s (fun g=> ?_) fun g=> ?_
 ·refine Z1 ?_
  cases g
  exact Eo1 () [] []
 refine Z1 ?_
 refine Ll fun o=> ?_
 refine Y1 ?_
 refine Td [] [1] mo ?_
 refine Dq 0 ?_
 refine Db 1 0 ?_
 refine Dq 2 ?_
 refine Db 3 0 ?_
 refine Dq 4 ?_
 refine Db 5 0 ?_
 refine Dq 6 ?_
 refine Db 7 0 ?_
 refine Dq 8 ?_
 refine Db 9 0 ?_
 refine Dq 12 ?_
 refine Db 13 0 ?_
 refine Dq 16 ?_
 refine Db 17 0 ?_
 refine Dq 18 ?_
 refine Db 19 0 ?_
 refine Dq 22 ?_
 refine Db 23 0 ?_
 refine DF.of rfl ?_
 refine DF.add _ (FSp.ac 10 [] (Ac.frz (Ac.bs (ty:=(Ty.int .i64)) (xs:=[s_.k,s_.w,s_.h,s_.x,s_.y]) (.cons () [] rfl (.cons () [] rfl (.cons () [] rfl (.cons () [] rfl (.cons () [] rfl .nil))))) rfl rfl rfl rfl rfl rfl rfl)) rfl rfl rfl rfl rfl) rfl ?_
 refine DF.add _ (FSp.ac 14 [] (Ac.frz (Ac.bs (ty:=Ty.str) (xs:=[s_.title]) (.cons () [] rfl .nil) rfl rfl rfl rfl rfl rfl rfl)) rfl rfl rfl rfl rfl) rfl ?_
 refine DF.add _ (FSp.ac 20 [] (Ac.frz (Ac.bs (ty:=(Ty.int .i64)) (xs:=[s_.len,s_.chain]) (.cons () [] rfl (.cons () [] rfl .nil)) rfl rfl rfl rfl rfl rfl rfl)) rfl rfl rfl rfl rfl) rfl ?_
 refine DF.step 11 rfl rfl rfl rfl rfl ?_
 refine DFp.use 2 rfl rfl rfl ?_
 intro an
 refine DFp.iw (Ty.int .u8) 5 ?_
 have ⟨ao,A,B⟩:=bnd g
 refine DFp.a [1,0] [0] (Ac.call (gu A) rfl rfl rfl rfl) rfl rfl rfl rfl rfl rfl rfl rfl ?_
 rintro ⟨ap,aq⟩
 refine DF.step 15 rfl rfl rfl rfl rfl ?_
 refine DFp.use 1 rfl rfl rfl ?_
 intro ar
 have ⟨au,C,F⟩:=bnd B
 refine DFp.a [0,0] [0] (Ac.call (sH C) rfl rfl rfl rfl) rfl rfl rfl rfl rfl rfl rfl rfl ?_
 rintro ⟨av,aw⟩
 refine DF.step 21 rfl rfl rfl rfl rfl ?_
 refine DFp.use 0 rfl rfl rfl ?_
 intro ax
 have ⟨ay,I,J⟩:=bnd F
 refine DFp.a [0,0] [0] (Ac.call (gu I) rfl rfl rfl rfl) rfl rfl rfl rfl rfl rfl rfl rfl ?_
 rintro ⟨az,a0⟩
 have ⟨M,N,O⟩:=bnd J
 refine DF.add _ (FSp.ac 24 [4] (Ac.call (sr N) rfl rfl rfl rfl) rfl rfl rfl rfl rfl) rfl ?_
 refine DF.add _ (FSp.dep 0 rfl rfl fun ⟨⟩=>FSp.ac 25 [] (Ac.frz (Ac.bs (ty:=Ty.str) (xs:=[M]) (.cons () [] rfl .nil) rfl rfl rfl rfl rfl rfl rfl)) rfl rfl rfl rfl rfl) rfl ?_
 refine DF.step 26 rfl rfl rfl rfl rfl ?_
 refine DFp.use 0 rfl rfl rfl ?_
 intro a1
 refine DFp.use 0 rfl rfl rfl ?_
 rintro ⟨⟩
 have ⟨a2,P,Q⟩:=bnd O
 refine DFp.a [0,0] [0] (Ac.call (mE P) rfl rfl rfl rfl) rfl rfl rfl rfl rfl rfl rfl rfl ?_
 rintro ⟨R,S⟩
 refine DF.fin rfl rfl rfl rfl rfl ?_
 refine DFe.nil ?_
 refine Z2 ?_
 have ⟨i,U,V⟩:=bnd Q
 refine Tjh (η:=(Option Addr×Nat)) (fun _=>[]) [3] (fun h=>(fun j l=>[Ch.arr (Ty.int .u8) 5 j l i.b,Ch.box o 182 [.slice j i.b.length l]]) h.1 h.2) [0] (fun _=>[]) ?_ ?_
 ·refine Yl0 ?_
  refine Tq (η:=(Option Addr×Nat)) (fun c h=>(fun d e=>[(43,.int .i64 c.2)]) h.1 h.2) [3,41,42] (fun c h=>(fun d e=>[Ch.arr (Ty.int .u8) 5 d e c.1.b,Ch.box o 182 [.slice d c.1.b.length e]]) h.1 h.2) [0] (fun _ _=>[]) (R,S) [2,1,0] [] U ?_
  rintro k_ c ⟨d,e⟩ a3 W X Y
  refine Y2 ?_
  refine Tb W (fun m=> ?_) fun m=> ?_
  ·refine Z1 ?_
   refine Zl ?_
   refine Z1 ?_
   have ⟨a4,n,Z⟩:=bnd m
   refine L.addr 4 rfl (cL n) fun a5 a6 aa=> ?_
   subst aa
   refine Ly (Yl.ia n rfl rfl rfl rfl rfl rfl) ?_
   refine L.el 4 rfl (aU n).2 ?_
   rintro ⟨a7,a8⟩
   refine Lc 0 0 ?_
   refine Ll fun a9=> ?_
   refine Lt 0 ?_
   refine Z0 ?_
   have ⟨ab,ad,ae⟩:=bnd Z
   refine Lk [] [1] (sI ad) fun ⟨⟩=> ?_
   refine La [] [] (Ac.bs (ty:=Ty.str) (xs:=[ab]) (.cons () [] rfl .nil) rfl rfl rfl rfl rfl rfl rfl) fun ba=> ?_
   refine L.frz 0 rfl ?_
   have ⟨bb,af,ag⟩:=bnd ae
   refine Lk [2,1] [0] (mE af) fun ⟨ah,ai⟩=> ?_
   refine Z0 ?_
   cases ag
   exact Eg (_,(ah,ai)) (X _ rfl) [1,0,1] [] 3
  refine Z0 ?_
  cases m
  have hb:=Y _ rfl
  subst i
  exact Eg (d,e) trivial [0,0,0] [] 0
 rintro ⟨j,l⟩
 refine Z1 ?_
 have ⟨bc,aj,ak⟩:=bnd V
 refine Lk [1,0] [] (mK aj) fun ⟨⟩=> ?_
 refine Z0 ?_
 cases ak
 exact Eo1 () [] []
theorem xc {s_:aI} {r:Bool} (H:kh s_=some r):CT G 113 [.agg (kZ s_ A0 C0 A1 C1).toArray] [] [Im.sl aC A0 C0 s_.rows,Im.sl aD A1 C1 s_.begun] (fun _:Unit=> .bool r) (fun h=>[]) (fun h=>[]):=by
 delta kh at H
 refine Cf Go.Proofs.Tryz.func113 fun K=> ?_
 refine Z1 ?_
 refine Lx fun g1=> ?_
 refine Z1 ?_
 have ⟨r2,h3,H4⟩:=bnd H
 refine Lk [] [0,1] (qw h3) fun ⟨⟩=> ?_
 refine Z0 ?_
 cases H4
 exact Eo1 () [] []
theorem rq {s_:aI} {r:Int} (H:jR s_=some r):CT G 92 [.agg (kZ s_ A0 C0 A1 C1).toArray] [] [Im.sl aC A0 C0 s_.rows,Im.sl aD A1 C1 s_.begun,Im.sl (Ty.int .u32) (some ⟨2,0,none⟩) 16 cV] (fun _:Unit=> .int .i64 r) (fun h=>[]) (fun h=>[]):=by
 delta jR at H
 refine Cf Go.Proofs.Tryz.func92 fun K=> ?_
 refine Z1 ?_
 refine Lx fun g1=> ?_
 refine Z1 ?_
 have ⟨r2,h3,H4⟩:=bnd H
 refine Lk [] [0,1] (qw h3) fun ⟨⟩=> ?_
 refine La [] [] (Ac.bs (ty:=Ty.str) (xs:=[r2]) (.cons () [] rfl .nil) rfl rfl rfl rfl rfl rfl rfl) fun g5=> ?_
 have ⟨r7,h8,H9⟩:=bnd H4
 refine L.br (Ac.call (CI h8) rfl rfl rfl rfl) (Bw.ch 0 rfl (Bw.im 2 rfl (Bw.nil))) rfl rfl rfl ?_
 intro _
 refine Z0 ?_
 cases H9
 exact Eo1 () [] []
theorem ry {a:aI} {b:aI} {r:(aI×aI)} (H:jS a b=some r):CT G 119 [.agg (kZ a A0 C0 A1 C1).toArray,.agg (kZ b A2 C2 A3 C3).toArray] [] [Im.sl aC A0 C0 a.rows,Im.sl aD A1 C1 a.begun,Im.sl aC A2 C2 b.rows,Im.sl aD A3 C3 b.begun] (fun h:Nat×Nat=> .func (.func 165) #[] #[.pointer (some ⟨h.1,0,none⟩),.pointer (some ⟨h.2,0,none⟩)]) (fun h=>[Ch.box h.1 42 (kZ r.1 A2 C2 A3 C3),Ch.box h.2 42 (kZ r.2 A0 C0 A1 C1)]) (fun h=>[Im.sl aC A2 C2 r.1.rows,Im.sl aD A3 C3 r.1.begun,Im.sl aC A0 C0 r.2.rows,Im.sl aD A1 C1 r.2.begun]):=by
 delta jS at H
 refine Cf Go.Proofs.Tryz.func119 fun K=> ?_
 refine Z1 ?_
 refine Lx fun g1=> ?_
 refine Lx fun g2=> ?_
 refine Z1 ?_
 cases H
 exact Eo1 (g2,g1) [0,0] [2,3,0,1]
theorem tV {s_:aI} {y:Int} {r:aE×Bool} (H:iF s_ y=some r):CT G 134 [.agg (kZ s_ A0 C0 A1 C1).toArray,.int .i64 y] [] [Im.sl aC A0 C0 s_.rows,Im.sl aD A1 C1 s_.begun] (fun h:(Option Addr×Nat)=> .tuple #[.agg #[.slice h.1 r.1.cells.length h.2,.bool r.1.wrapped],.bool r.2]) (fun h=>[]) (fun h=>[Im.sl aO h.1 h.2 r.1.cells]):=by
 delta iF at H
 refine Cf Go.Proofs.Tryz.func134 fun K=> ?_
 refine Z1 ?_
 refine Lx fun g1=> ?_
 refine Ll fun g2=> ?_
 refine Y2 ?_
 have ⟨e6,H7,H8⟩:=bnd H
 refine Tj0 [(14,.bool e6)] [1,2,4] [] [0,1] ?_ ?_
 ·refine Z0 ?_
  refine Lw 8 H7 (fun H9=> ?_) fun H9=> ?_
  ·refine Z0 ?_
   cases H9
   exact Eg0 [0,0] 0
  refine Z0 ?_
  cases H9
  exact Eg0 [0,0] 0
 refine Tb H8 (fun a=> ?_) fun a=> ?_
 ·refine Z1 ?_
  refine Lt 0 ?_
  refine Z0 ?_
  refine E.jr [Im.sl aO none 0 []] (fun A w _ _ f hf=>by rw [List.mem_singleton.1 hf]; exact Im.ib A w) ?_
  cases a
  exact Eo (none,0) [] [0] (.cell 0 rfl rfl rfl (.tmp rfl .nil))
 refine Z1 ?_
 have ⟨i,b,c⟩:=bnd a
 refine L.addr 0 rfl (cL b) fun j k d=> ?_
 subst d
 refine Ly (Yl.ia b rfl rfl rfl rfl rfl rfl) ?_
 refine L.el 0 rfl (aU b).2 ?_
 rintro ⟨e,g⟩
 refine Lc 0 0 ?_
 refine Lt 0 ?_
 refine Z0 ?_
 cases c
 exact Eo (e,g) [] [1] (.cell 0 rfl rfl rfl (.tmp rfl .nil))
theorem qy {s1_:List aG} {s2_:List aG} {r:Bool} (H:gE s1_ s2_=some r):CT G 94 [.slice A0 s1_.length C0,.slice A1 s2_.length C1] [] [Im.sl aO A0 C0 s1_,Im.sl aO A1 C1 s2_] (fun _:Unit=> .bool r) (fun h=>[]) (fun h=>[]):=by
 delta gE at H
 refine Cf Go.Proofs.Tryz.func94 fun K=> ?_
 refine Z3 ?_
 refine Tb H (fun H2=> ?_) fun H2=> ?_
 ·refine Z1 ?_
  cases H2
  exact Eo1 () [] []
 refine Z2 ?_
 have ⟨a,j,f⟩:=bnd H2
 refine Tj (η:=Unit×Unit) (fun h=>a = .inl h.1) (fun _=>[]) [] (fun _=>[]) [] (fun _=>[]) ?_ ?_
 ·refine Yl0 ?_
  refine Tq (η:=Unit) (fun g h=>[(13,.int .i64 g)]) [0,1,12] (fun _ _=>[]) [] (fun _ _=>[]) () [] [] j ?_
  rintro k_ g ⟨⟩ k l m i
  refine Y2 ?_
  refine Tb l (fun b=> ?_) fun b=> ?_
  ·refine Z1 ?_
   refine Zl ?_
   refine Y2 ?_
   refine Td [] [] mo ?_
   refine Dq 0 ?_
   refine Dq 1 ?_
   have ⟨t,c,n⟩:=bnd b
   refine D.addr 0 rfl (cL c) fun u v o=> ?_
   subst o
   refine Dy 2 (Yl.ia c rfl rfl rfl rfl rfl rfl) ?_
   refine D.el 0 rfl (aU c).2 ?_
   rintro _
   refine Dy 3 (Yl.ldc 0 0 rfl rfl rfl rfl) ?_
   refine Dq 4 ?_
   refine Dq 5 ?_
   have ⟨w,d,p⟩:=bnd n
   refine D.addr 2 rfl (cL d) fun x y q=> ?_
   subst q
   refine Dy 6 (Yl.ia d rfl rfl rfl rfl rfl rfl) ?_
   refine D.el 2 rfl (aU d).2 ?_
   rintro _
   refine Dy 7 (Yl.ldc 0 0 rfl rfl rfl rfl) ?_
   refine Dq 8 ?_
   refine Dn ?_
   refine Z0 ?_
   refine Tb p (fun e=> ?_) fun e=> ?_
   ·refine Z1 ?_
    obtain ⟨z,hz,s⟩:=fG e
    subst k
    have hb:=i _ rfl
    subst a
    obtain rfl:=(sm f).symm
    refine Z0 ?_
    cases s
    exact Eo1 () [] []
   refine Z0 ?_
   cases e
   exact Eg (_,()) (m _ rfl) [] [] 2
  refine Z0 ?_
  cases b
  have hb:=i _ rfl
  subst a
  exact Eg (_,()) rfl [] [] 0
 rintro ⟨A,⟨⟩⟩ hy
 subst hy
 refine Z1 ?_
 cases f
 exact Eo1 () [] []
theorem pc {r_:aE} {q:aE} {r:Bool} (H:iM r_ q=some r):CT G 52 [.agg #[.slice A0 r_.cells.length C0,.bool r_.wrapped],.agg #[.slice A1 q.cells.length C1,.bool q.wrapped]] [] [Im.sl aO A0 C0 r_.cells,Im.sl aO A1 C1 q.cells] (fun _:Unit=> .bool r) (fun h=>[]) (fun h=>[]):=by
 delta iM at H
 refine Cf Go.Proofs.Tryz.func52 fun K=> ?_
 refine Z1 ?_
 refine Lx fun g1=> ?_
 refine Lx fun g2=> ?_
 refine Y1 ?_
 have ⟨b,c,d⟩:=bnd H
 refine Tj0 [(4,.bool b)] [] [] [0,1] ?_ ?_
 ·refine Z0 ?_
  refine Lw 10 c (fun a=> ?_) fun a=> ?_
  ·refine Z0 ?_
   have ⟨g,e,f⟩:=bnd a
   refine Lk [] [0,1] (qy e) fun ⟨⟩=> ?_
   refine Z0 ?_
   cases f
   exact Eg0 [0,0] 0
  refine Z0 ?_
  cases a
  exact Eg0 [0,0] 0
 refine Z0 ?_
 cases d
 exact Eo1 () [] []
theorem pG {σ η:Type} {Y:σ→(Int×aE)→Option (σ×Bool)} {y0:σ} {x1:aI} {x2:aI} {yl:Nat} {C:σ→η→Ch} (hY: ∀ s (h:η) (x:Int×aE) (t:(Option Addr×Nat)) z,Y s x=some z→YT G yl [.int .i64 x.1,.agg #[.slice t.1 x.2.cells.length t.2,.bool x.2.wrapped]] [C s h] [Im.sl aO t.1 t.2 x.2.cells] (fun _:η=> .bool z.2) (fun h2=>[C z.1 h2]) (fun _=>[])) (h0:η) (g_1:Nat) (a_1_0:Option Addr) (c_1_0:Nat) (a_1_1:Option Addr) (c_1_1:Nat) (g_2:Nat) (a_2_0:Option Addr) (c_2_0:Nat) (a_2_1:Option Addr) (c_2_1:Nat) {r:σ} (H:gX Y y0 x1 x2=some r):CT G 165 [.func (.yield yl) #[] #[],.pointer (some ⟨g_1,0,none⟩),.pointer (some ⟨g_2,0,none⟩)] [C y0 h0,Ch.box g_1 42 (kZ x1 a_1_0 c_1_0 a_1_1 c_1_1),Ch.box g_2 42 (kZ x2 a_2_0 c_2_0 a_2_1 c_2_1)] [Im.sl aC a_1_0 c_1_0 x1.rows,Im.sl aD a_1_1 c_1_1 x1.begun,Im.sl aC a_2_0 c_2_0 x2.rows,Im.sl aD a_2_1 c_2_1 x2.begun] (fun h:η=> .tuple #[]) (fun h=>[C r h,Ch.box g_1 42 (kZ x1 a_1_0 c_1_0 a_1_1 c_1_1),Ch.box g_2 42 (kZ x2 a_2_0 c_2_0 a_2_1 c_2_1)]) (fun h=>[]):=by
  delta gX at H
  refine Cf Go.Proofs.Tryz.func165 fun K=> ?_
  refine Z1 ?_
  have ⟨e,v,m⟩:=bnd H
  refine T.tJ (η:=σ×(η)) (fun h=>e = .inl h.1) (fun h=>(fun c=>(fun a=>[]) h.2) h.1) (fun h=>(fun c=>(fun a=>[C c a,Ch.box g_1 42 (kZ x1 a_1_0 c_1_0 a_1_1 c_1_1),Ch.box g_2 42 (kZ x2 a_2_0 c_2_0 a_2_1 c_2_1)]) h.2) h.1) (fun h=>(fun c=>(fun a=>[Im.sl aC a_1_0 c_1_0 x1.rows,Im.sl aD a_1_1 c_1_1 x1.begun,Im.sl aC a_2_0 c_2_0 x2.rows,Im.sl aD a_2_1 c_2_1 x2.begun]) h.2) h.1) ?_ ?_
  ·refine Yl0 ?_
   refine Tq (η:=η) (fun d h=>(fun b=>[(11,.int .i64 d.1)]) h) [0,2,9,10] (fun d h=>(fun b=>[C d.2 b]) h) [1,2] (fun _ _=>[]) h0 [0,0,0] [] v ?_
   rintro k_ d b w y A n
   refine Y2 ?_
   refine Tb y (fun f=> ?_) fun f=> ?_
   ·refine Y1 ?_
    have ⟨o,B,p⟩:=bnd f
    refine Tj (η:=σ×(η)) (fun h=>o = .inl h.1) (fun _=>[]) [0,2,9,10,11] (fun h=>(fun q=>(fun g=>[C q g]) h.2) h.1) [1,2] (fun _=>[]) ?_ ?_
    ·refine Zl ?_
     refine Z1 ?_
     have ⟨aa,i,F⟩:=bnd B
     refine L.addr 0 rfl (cL i) fun ab ac I=> ?_
     subst I
     refine Ly (Yl.ia i rfl rfl rfl rfl rfl rfl) ?_
     refine L.el 0 rfl (aU i).2 ?_
     rintro ⟨J,M⟩
     refine Lc 0 0 ?_
     refine Ll fun ad=> ?_
     refine Z0 ?_
     refine Lt 0 ?_
     refine Z2 ?_
     have ⟨ae,N,O⟩:=bnd F
     refine Lk [] [4,5] (tV N) fun ⟨af,ag⟩=> ?_
     refine Z0 ?_
     refine Ll fun ah=> ?_
     refine Lt 0 ?_
     refine Y1 ?_
     have ⟨P,Q,R⟩:=bnd O
     refine Tj0 [(27,.bool P)] [0,2,4,5,9,10,11] [] [0,1,2,3,4] ?_ ?_
     ·refine Z0 ?_
      refine Lw 23 Q (fun j=> ?_) fun j=> ?_
      ·refine Z0 ?_
       have ⟨ai,S,U⟩:=bnd j
       refine Lk [] [0,2] (pc S) fun ⟨⟩=> ?_
       refine Z0 ?_
       cases U
       exact Eg0 [0,0,0,0,0] 0
      refine Z0 ?_
      cases j
      exact Eg0 [0,0,0,0,0] 0
     refine Tb R (fun k=> ?_) fun k=> ?_
     ·refine Z0 ?_
      cases k
      exact Eg (_,b) rfl [2,2,2] [] 3
     refine Z1 ?_
     have ⟨aj,V,W⟩:=bnd k
     refine L.yd [2] [2] (hY _ _ _ (J,M) _ V) rfl rfl rfl rfl rfl rfl rfl rfl ?_
     intro u
     refine Z0 ?_
     refine Tb W (fun l=> ?_) fun l=> ?_
     ·refine Z0 ?_
      obtain ⟨ak,hz,X⟩:=dX l
      subst o
      obtain rfl:=(sm p).symm
      refine Z0 ?_
      obtain ⟨al,hz,Z⟩:=fG X
      subst w
      have hb:=n _ rfl
      subst e
      obtain rfl:=(sm m).symm
      refine Z0 ?_
      cases Z
      exact Eo u [0,2,2] [] .nil
     refine Z0 ?_
     cases l
     exact Eg (_,u) rfl [0,2,2] [] 3
    rintro ⟨q,g⟩ hy
    subst hy
    refine Z0 ?_
    cases p
    exact Eg (_,g) (A _ rfl) [0,0,0] [] 0
   refine Z0 ?_
   cases f
   have hb:=n _ rfl
   subst e
   exact Egx (_,b) rfl [0,0,0] [0,1,2,3]
  rintro ⟨c,a⟩ hy
  subst hy
  refine E.off ?_
  cases m
  exact Eo a [0,0,0] [] .nil
end Go.Tw.X
set_option maxHeartbeats 2000000
set_option linter.unusedVariables false
set_option linter.unusedSimpArgs false
set_option maxRecDepth 10000
namespace Go.Tw.X
open Go Go.Tw
variable {A0 A1 A2 A3 A4 A5 A6 A7 A8 : Option Addr} {C0 C1 C2 C3 C4 C5 C6 C7 C8 : Nat}
variable {N0 N1 N2 N3 N4 : Nat}
variable {M0 : Option Nat}
theorem xn {a:aI} {b:aI} {r:(List Int)} (H:lu a b=some r):CT G 118 [.agg (kZ a A0 C0 A1 C1).toArray,.agg (kZ b A2 C2 A3 C3).toArray] [] [Im.sl aC A0 C0 a.rows,Im.sl aD A1 C1 a.begun,Im.sl aC A2 C2 b.rows,Im.sl aD A3 C3 b.begun] (fun h:(Option Addr×Nat)=> .slice h.1 r.length h.2) (fun h=>[Ch.arr (Ty.int .i64) 3 h.1 h.2 r]) (fun h=>[]):=by
 delta lu at H
 refine Cf Go.Proofs.Tryz.func118 fun K=> ?_
 refine T.xX ?_
 refine Z1 ?_
 refine Lx fun g1=> ?_
 refine Lx fun g2=> ?_
 refine Z1 ?_
 refine Ll fun g3=> ?_
 refine Z2 ?_
 have ⟨r4,h5,H6⟩:=bnd H
 refine Lk [] [0,1,2,3] (ry h5) fun ⟨g7,g8⟩=> ?_
 refine Yl0 ?_
 refine T.iw (Ty.int .i64) 3 ?_
 have ⟨g,i,j⟩:=bnd H6
 refine T.rf2 (σ:=(List Int)) (η:=(Option Addr×Nat)) (X:=Int×aE) (θ:=(Option Addr×Nat)) (τ:=(Option Addr×Nat)) (s1:=g) (hx:=fun x=>x) (fun x t=>[.int .i64 x.1,.agg #[.slice t.1 x.2.cells.length t.2,.bool x.2.wrapped]]) (fun x t=>[Im.sl aO t.1 t.2 x.2.cells]) (fun _=>none) (fun c h=>(fun d e=>[Ch.arr (Ty.int .i64) 3 d e c,Ch.box g3 23 [.slice d c.length e],Ch.box g2 42 (kZ b A2 C2 A3 C3),Ch.box g1 42 (kZ a A0 C0 A1 C1)]) h.1 h.2) (fun c h=>(fun d e=>[Im.sl aC A2 C2 r4.1.rows,Im.sl aD A3 C3 r4.1.begun,Im.sl aC A0 C0 r4.2.rows,Im.sl aD A1 C1 r4.2.begun,Im.sl aC A0 C0 a.rows,Im.sl aD A1 C1 a.begun,Im.sl aC A2 C2 b.rows,Im.sl aD A3 C3 b.begun]) h.1 h.2) 6 [0,2,2,2,0,0] [0,1,2,3,4,5,6,7] [0,1,2,3] rfl rfl (fun _ _=>rfl) rfl (fun yl C hY=>(pG hY (none,0) g7 A2 C2 A3 C3 g8 A0 C0 A1 C1 i:_)) (fun _ _ _ _=>rfl) rfl rfl rfl rfl rfl ?_ rfl ?_
 ·rintro yl K2 c ⟨d,e⟩ k ⟨q,s⟩ u l
  refine Z0 ?_
  refine E.begin fun K3=> ?_
  refine Zl ?_
  refine La [] [] (Ac.bs (ty:=(Ty.int .i64)) (xs:=[k.1]) (.cons () [] rfl .nil) rfl rfl rfl rfl rfl rfl rfl) fun v=> ?_
  refine L.frz 0 rfl ?_
  have ⟨_,m,n⟩:=bnd l
  refine La [0] [0] (Ac.ap (ty:=(Ty.int .i64)) m rfl rfl rfl rfl rfl rfl rfl) ?_
  rintro ⟨o,p⟩
  refine Lt 1 ?_
  refine Z0 ?_
  cases n
  exact E.on (o,p) [1,0,0,0] [2,3,4,5,6,7,8,9] rfl rfl rfl rfl
 rintro f w
 refine Z1 ?_
 cases j
 exact E.uI (f.1,f.2) 0 [0] [] rfl (.tmp rfl .nil) rfl rfl rfl
theorem Bn {a:aI} {b:aI} {r:ByteArray} (H:m7 a b=some r):CT G 84 [.agg (kZ a A0 C0 A1 C1).toArray,.agg (kZ b A2 C2 A3 C3).toArray] [] [Im.sl aC A0 C0 a.rows,Im.sl aD A1 C1 a.begun,Im.sl aC A2 C2 b.rows,Im.sl aD A3 C3 b.begun,Im.sl (Ty.int .u32) (some ⟨2,0,none⟩) 16 cV] (fun _:Unit=> .string r) (fun h=>[]) (fun h=>[]):=by
 delta m7 at H
 refine Cf Go.Proofs.Tryz.func84 fun K=> ?_
 refine T.xX ?_
 refine Z1 ?_
 refine Lx fun g1=> ?_
 refine Lx fun g2=> ?_
 refine Y2 ?_
 have ⟨p,s,u⟩:=bnd H
 refine T.zr (η:=Unit×Unit) (fun h=>True) (fun h=>[]) (fun h=>[(2,.pointer (some ⟨g1,0,none⟩)),(3,.pointer (some ⟨g2,0,none⟩)),(15,.bool p)]) (fun h=>[Ch.box g2 42 (kZ b A2 C2 A3 C3),Ch.box g1 42 (kZ a A0 C0 A1 C1),Ch.dfs []]) (fun h=>[Im.sl aC A0 C0 a.rows,Im.sl aD A1 C1 a.begun,Im.sl aC A2 C2 b.rows,Im.sl aD A3 C3 b.begun,Im.sl (Ty.int .u32) (some ⟨2,0,none⟩) 16 cV]) ?_ ?_
 ·refine Z0 ?_
  have ⟨a6,v,z⟩:=bnd s
  refine Lk [] [0,1] (lN v) fun ⟨⟩=> ?_
  refine Z0 ?_
  refine Lw 11 z (fun g=> ?_) fun g=> ?_
  ·refine Z0 ?_
   cases g
   exact E.pS ((),()) [0,0,0] [0,1,2,3,4] trivial rfl ⟨rfl,rfl,rfl,trivial⟩ rfl rfl
  refine Z0 ?_
  have ⟨a7,A,B⟩:=bnd g
  refine Lk [] [2,3] (xc A) fun ⟨⟩=> ?_
  refine Z0 ?_
  cases B
  exact E.pS ((),()) [0,0,0] [0,1,2,3,4] trivial rfl ⟨rfl,rfl,rfl,trivial⟩ rfl rfl
 rintro ⟨_,⟨⟩⟩ _
 refine Tb u (fun i=> ?_) fun i=> ?_
 ·refine Z1 ?_
  cases i
  exact E.uI () 2 [] [] rfl (.tmp rfl .nil) rfl rfl rfl
 refine Z1 ?_
 refine Ll fun F=> ?_
 refine Y1 ?_
 refine Td [] [1,1,1] mo ?_
 refine Db 0 1 ?_
 refine Dq 2 ?_
 refine Db 3 0 ?_
 refine Dq 4 ?_
 refine Db 5 0 ?_
 refine Dq 6 ?_
 refine Db 7 0 ?_
 refine Dq 8 ?_
 refine Db 9 0 ?_
 refine Dq 10 ?_
 refine Db 11 0 ?_
 refine Dq 14 ?_
 refine Db 15 0 ?_
 refine Dq 18 ?_
 refine Db 19 0 ?_
 refine Dq 20 ?_
 refine Db 21 0 ?_
 refine Dq 24 ?_
 refine Db 25 0 ?_
 refine Db 29 1 ?_
 refine Db 30 0 ?_
 refine DF.of rfl ?_
 have ⟨l,I,J⟩:=bnd i
 refine DF.add _ (FSp.ac 1 [0,1,4] (Ac.call (rq I) rfl rfl rfl rfl) rfl rfl rfl rfl rfl) rfl ?_
 refine DF.add _ (FSp.dep 0 rfl rfl fun ⟨⟩=>FSp.ac 12 [] (Ac.frz (Ac.bs (ty:=(Ty.int .i64)) (xs:=[l,b.k,b.w,b.h,b.x,b.y]) (.cons () [] rfl (.cons () [] rfl (.cons () [] rfl (.cons () [] rfl (.cons () [] rfl (.cons () [] rfl .nil)))))) rfl rfl rfl rfl rfl rfl rfl)) rfl rfl rfl rfl rfl) rfl ?_
 refine DF.add _ (FSp.ac 16 [] (Ac.frz (Ac.bs (ty:=Ty.str) (xs:=[b.title]) (.cons () [] rfl .nil) rfl rfl rfl rfl rfl rfl rfl)) rfl rfl rfl rfl rfl) rfl ?_
 refine DF.add _ (FSp.ac 22 [] (Ac.frz (Ac.bs (ty:=(Ty.int .i64)) (xs:=[b.len,b.chain]) (.cons () [] rfl (.cons () [] rfl .nil)) rfl rfl rfl rfl rfl rfl rfl)) rfl rfl rfl rfl rfl) rfl ?_
 refine DF.step 13 rfl rfl rfl rfl rfl ?_
 refine DFp.use 2 rfl rfl rfl ?_
 intro M
 refine DFp.use 2 rfl rfl rfl ?_
 rintro ⟨⟩
 refine DFp.iw (Ty.int .u8) 5 ?_
 have ⟨a8,N,O⟩:=bnd J
 refine DFp.a [1,0] [0] (Ac.call (gu N) rfl rfl rfl rfl) rfl rfl rfl rfl rfl rfl rfl rfl ?_
 rintro ⟨a9,ba⟩
 refine DF.step 17 rfl rfl rfl rfl rfl ?_
 refine DFp.use 1 rfl rfl rfl ?_
 intro P
 have ⟨bb,Q,R⟩:=bnd O
 refine DFp.a [0,0] [0] (Ac.call (sH Q) rfl rfl rfl rfl) rfl rfl rfl rfl rfl rfl rfl rfl ?_
 rintro ⟨bc,bd⟩
 refine DF.step 23 rfl rfl rfl rfl rfl ?_
 refine DFp.use 0 rfl rfl rfl ?_
 intro S
 have ⟨be,U,V⟩:=bnd R
 refine DFp.a [0,0] [0] (Ac.call (gu U) rfl rfl rfl rfl) rfl rfl rfl rfl rfl rfl rfl rfl ?_
 rintro ⟨bf,bg⟩
 have ⟨m,W,Y⟩:=bnd V
 refine DF.add _ (FSp.ac 26 [6] (Ac.call (sr W) rfl rfl rfl rfl) rfl rfl rfl rfl rfl) rfl ?_
 refine DF.add _ (FSp.dep 0 rfl rfl fun ⟨⟩=>FSp.ac 27 [] (Ac.frz (Ac.bs (ty:=Ty.str) (xs:=[m]) (.cons () [] rfl .nil) rfl rfl rfl rfl rfl rfl rfl)) rfl rfl rfl rfl rfl) rfl ?_
 refine DF.step 28 rfl rfl rfl rfl rfl ?_
 refine DFp.use 0 rfl rfl rfl ?_
 intro Z
 refine DFp.use 0 rfl rfl rfl ?_
 rintro ⟨⟩
 have ⟨bh,aa,ab⟩:=bnd Y
 refine DFp.a [0,0] [0] (Ac.call (mE aa) rfl rfl rfl rfl) rfl rfl rfl rfl rfl rfl rfl rfl ?_
 rintro ⟨bi,bj⟩
 have ⟨j,ad,ae⟩:=bnd ab
 refine DF.add _ (FSp.ac 31 [4,5,6,7] (Ac.frz (Ac.call (xn ad) rfl rfl rfl rfl)) rfl rfl rfl rfl rfl) rfl ?_
 refine DF.add _ (FSp.dep 0 rfl rfl fun ⟨n,o⟩=>FSp.q 32 rfl rfl rfl rfl rfl) rfl ?_
 refine DF.add _ (FSp.dep 0 rfl rfl fun _=>FSp.ac 33 [] (Ac.frz (Ac.bs (ty:=(Ty.int .i64)) (xs:=[(j.length:Int)]) (.cons () [] rfl .nil) rfl rfl rfl rfl rfl rfl rfl)) rfl rfl rfl rfl rfl) rfl ?_
 refine DF.step 34 rfl rfl rfl rfl rfl ?_
 refine DFp.use 0 rfl rfl rfl ?_
 intro af
 refine DFp.use 1 rfl rfl rfl ?_
 rintro ⟨n,o⟩
 have ⟨bk,ag,ah⟩:=bnd ae
 refine DFp.a [0,0] [1] (Ac.call (gu ag) rfl rfl rfl rfl) rfl rfl rfl rfl rfl rfl rfl rfl ?_
 rintro ⟨ai,aj⟩
 refine DF.fin rfl rfl rfl rfl rfl ?_
 refine DFe.use ?_
 intro _
 refine DFe.nil ?_
 refine Z2 ?_
 have ⟨c,ak,al⟩:=bnd ah
 refine Lk [] [6,7,8,9] (ry ak) fun ⟨am,an⟩=> ?_
 refine Yl0 ?_
 have ⟨ao,ap,aq⟩:=bnd al
 refine T.rf2 (σ:=cE) (η:=(Option Addr×Nat)) (X:=Int×aE) (θ:=(Option Addr×Nat)) (τ:=(Option Addr×Nat)) (s1:=ao) (hx:=fun x=>x) (fun x t=>[.int .i64 x.1,.agg #[.slice t.1 x.2.cells.length t.2,.bool x.2.wrapped]]) (fun x t=>[Im.sl aO t.1 t.2 x.2.cells]) (fun _=>none) (fun d h=>(fun e f=>[Ch.arr (Ty.int .u8) 5 e f d.b,Ch.box g2 42 (kZ b A2 C2 A3 C3),Ch.box g1 42 (kZ a A0 C0 A1 C1),Ch.box F 182 [.slice e d.b.length f]]) h.1 h.2) (fun d h=>(fun e f=>[Im.sl aC A2 C2 c.1.rows,Im.sl aD A3 C3 c.1.begun,Im.sl aC A0 C0 c.2.rows,Im.sl aD A1 C1 c.2.begun,Im.sl (Ty.int .i64) n o j,Im.sl (Ty.int .i64) (some ⟨af,0,none⟩) 1 [(j.length:Int)],Im.sl Ty.str (some ⟨Z,0,none⟩) 1 [m],Im.sl (Ty.int .i64) (some ⟨S,0,none⟩) 2 [b.len,b.chain],Im.sl Ty.str (some ⟨P,0,none⟩) 1 [b.title],Im.sl (Ty.int .i64) (some ⟨M,0,none⟩) 6 [l,b.k,b.w,b.h,b.x,b.y],Im.sl aC A0 C0 a.rows,Im.sl aD A1 C1 a.begun,Im.sl aC A2 C2 b.rows,Im.sl aD A3 C3 b.begun,Im.sl (Ty.int .u32) (some ⟨2,0,none⟩) 16 cV]) h.1 h.2) 4 [5,2,2,2,0,0] [0,1,2,3,4,5,6,7,8,9,10,11,12,13,14] [0,1,2,3] rfl rfl (fun _ _=>rfl) rfl (fun yl C hY=>(pG hY (ai,aj) am A2 C2 A3 C3 an A0 C0 A1 C1 ap:_)) (fun _ _ _ _=>rfl) rfl rfl rfl rfl rfl ?_ rfl ?_
 ·rintro yl K2 d ⟨e,f⟩ ar ⟨bl,bm⟩ bn au
  refine Z1 ?_
  refine Ll fun bo=> ?_
  refine Lt 0 ?_
  refine Z0 ?_
  refine E.begin fun K3=> ?_
  refine Yl0 ?_
  refine Td [] [0,1,1] mo ?_
  refine Dq 0 ?_
  refine Db 3 0 ?_
  refine Da [] [] rfl rfl (Ac.bs (ty:=(Ty.int .i64)) (xs:=[ar.1]) (.cons () [] rfl .nil) rfl rfl rfl rfl rfl rfl rfl) fun bp=> ?_
  refine D.frz 0 rfl ?_
  have ⟨bq,av,aw⟩:=bnd au
  refine Dk [1,0] [0] (gu av) fun ⟨br,bt⟩=> ?_
  have ⟨ax,ay,az⟩:=bnd aw
  refine Dk [] [1] (sI ay) fun ⟨⟩=> ?_
  refine Da [] [] rfl rfl (Ac.bs (ty:=Ty.str) (xs:=[ax]) (.cons () [] rfl .nil) rfl rfl rfl rfl rfl rfl rfl) fun bu=> ?_
  refine D.frz 0 rfl ?_
  have ⟨bv,a0,a1⟩:=bnd az
  refine Dk [0,0] [0] (mE a0) fun ⟨a2,a3⟩=> ?_
  refine Dn ?_
  refine Z0 ?_
  cases a1
  exact E.on (a2,a3) [4,1,1,1] [3,4,5,6,7,8,9,10,11,12,13,14,15,16,17] rfl rfl rfl rfl
 rintro bw bx
 refine Z1 ?_
 have ⟨bz,a4,a5⟩:=bnd aq
 refine Lk [4,1] [] (mK a4) fun ⟨⟩=> ?_
 refine Z0 ?_
 cases a5
 exact E.uI () 2 [] [] rfl (.tmp rfl .nil) rfl rfl rfl
theorem zh {s_:ByteArray} {size:Int} {r:(List ByteArray)} (H:mm s_ size=some r):CT G 83 [.string s_,.int .i64 size] [] [] (fun h:(Option Addr×Nat)=> .slice h.1 r.length h.2) (fun h=>[Ch.arr Ty.str 9 h.1 h.2 r]) (fun h=>[]):=by
 delta mm at H
 refine Cf Go.Proofs.Tryz.func83 fun K=> ?_
 refine Z3 ?_
 refine Y1 ?_
 have ⟨b,i,j⟩:=bnd H
 refine Tjh (η:=(Option Addr×Nat)) (fun h=>(fun e f=>[(0,.string b.1),(5,.slice e b.2.length f)]) h.1 h.2) [] (fun h=>(fun e f=>[Ch.arr Ty.str 9 e f b.2]) h.1 h.2) [] (fun _=>[]) ?_ ?_
 ·refine Yl0 ?_
  refine T.iw Ty.str 9 ?_
  refine Tq (η:=(Option Addr×Nat)) (fun a h=>(fun c d=>[(0,.string a.1),(5,.slice c a.2.length d)]) h.1 h.2) [1] (fun a h=>(fun c d=>[Ch.arr Ty.str 9 c d a.2]) h.1 h.2) [] (fun _ _=>[]) (none,0) [0] [] i ?_
  rintro k_ a ⟨c,d⟩ A k l m
  refine Z2 ?_
  refine Tb k (fun g=> ?_) fun g=> ?_
  ·refine Zl ?_
   refine Z1 ?_
   have ⟨_,n,o⟩:=bnd g
   refine Ly (Yl.sc n rfl rfl rfl rfl rfl rfl) ?_
   refine La [] [] (Ac.bs (ty:=Ty.str) (xs:=[(ie a.1 0 (imax 1 (eN size 8000)))]) (.cons () [] rfl .nil) rfl rfl rfl rfl rfl rfl rfl) fun B=> ?_
   refine L.frz 0 rfl ?_
   have ⟨_,p,q⟩:=bnd o
   refine La [0] [0] (Ac.ap (ty:=Ty.str) p rfl rfl rfl rfl rfl rfl rfl) ?_
   rintro ⟨s,t⟩
   refine Z0 ?_
   have ⟨_,u,v⟩:=bnd q
   refine Ly (Yl.sc u rfl rfl rfl rfl rfl rfl) ?_
   refine Z0 ?_
   cases v
   exact Eg (_,(s,t)) (l _ rfl) [0] [] 1
  refine Z0 ?_
  cases g
  have hb:=m _ rfl
  subst b
  exact Eg (c,d) trivial [0] [] 0
 rintro ⟨e,f⟩
 refine Z1 ?_
 refine La [] [] (Ac.bs (ty:=Ty.str) (xs:=[b.1]) (.cons () [] rfl .nil) rfl rfl rfl rfl rfl rfl rfl) fun C=> ?_
 refine L.frz 0 rfl ?_
 have ⟨_,w,x⟩:=bnd j
 refine La [0] [0] (Ac.ap (ty:=Ty.str) w rfl rfl rfl rfl rfl rfl rfl) ?_
 rintro ⟨y,z⟩
 refine Z0 ?_
 cases x
 exact Eo1 (y,z) [0] []
theorem pd {x_:aI} {x1:aP} {r:Bool} (H:fJ x_ x1=some r):CT G 86 [.agg (kZ x_ A0 C0 A1 C1).toArray,.pointer (some ⟨N0,0,none⟩)] [] [Im.sl aC A0 C0 x_.rows,Im.sl aD A1 C1 x_.begun,Im.cells N0 0 [.pointer (some ⟨N1,0,none⟩)],Im.cells N1 0 [.int .i64 x1.config.part,.int .i64 x1.config.every,.int .i64 x1.config.most,.int .i64 x1.current.k,.int .i64 x1.current.w,.int .i64 x1.current.h,.int .i64 x1.current.x,.int .i64 x1.current.y,.string x1.current.title,.slice A2 x1.current.rows.length C2,.int .i64 x1.current.len,.int .i64 x1.current.chain,.slice A3 x1.current.begun.length C3,.int .i64 x1.aY.k,.int .i64 x1.aY.w,.int .i64 x1.aY.h,.int .i64 x1.aY.x,.int .i64 x1.aY.y,.string x1.aY.title,.slice A4 x1.aY.rows.length C4,.int .i64 x1.aY.len,.int .i64 x1.aY.chain,.slice A5 x1.aY.begun.length C5,.slice A6 x1.kept.length C6,.int .i64 x1.message.id,.int .i64 x1.message.key,.int .i64 x1.message.base,.slice A7 x1.message.parts.length C7,.slice A8 x1.message.there.length C8,.int .i64 x1.message.due,.int .i64 x1.next],Im.sl aC A2 C2 x1.current.rows,Im.sl aD A3 C3 x1.current.begun,Im.sl aC A4 C4 x1.aY.rows,Im.sl aD A5 C5 x1.aY.begun,Im.sl eS A6 C6 x1.kept,Im.sl Ty.str A7 C7 x1.message.parts,Im.sl Ty.bool A8 C8 x1.message.there] (fun _:Unit=> .bool r) (fun h=>[]) (fun h=>[]):=by
 delta fJ at H
 refine Cf Go.Proofs.Tryz.func86 fun K=> ?_
 refine Z1 ?_
 refine Lx fun g1=> ?_
 refine Y1 ?_
 refine Td [] [0] mo ?_
 refine Dq 0 ?_
 refine Db 1 0 ?_
 refine Dy 2 (Yl.ldc 2 0 rfl rfl rfl rfl) ?_
 refine Dq 3 ?_
 refine Dq 4 ?_
 refine Dq 5 ?_
 refine Dy 6 (Yl.ldc 3 3 rfl rfl rfl rfl) ?_
 refine Dq 7 ?_
 refine Dq 8 ?_
 refine Dn ?_
 refine Z0 ?_
 cases H
 exact Eo1 () [] []
theorem kD {s_:List aI} {f_0:aP} {r:Int} (H:cZ s_ f_0=some r):CT G 47 [.slice A0 s_.length C0,.func (.func 86) #[] #[.pointer (some ⟨N0,0,none⟩)]] [] [Im.sl eS A0 C0 s_,Im.cells N0 0 [.pointer (some ⟨N1,0,none⟩)],Im.cells N1 0 [.int .i64 f_0.config.part,.int .i64 f_0.config.every,.int .i64 f_0.config.most,.int .i64 f_0.current.k,.int .i64 f_0.current.w,.int .i64 f_0.current.h,.int .i64 f_0.current.x,.int .i64 f_0.current.y,.string f_0.current.title,.slice A1 f_0.current.rows.length C1,.int .i64 f_0.current.len,.int .i64 f_0.current.chain,.slice A2 f_0.current.begun.length C2,.int .i64 f_0.aY.k,.int .i64 f_0.aY.w,.int .i64 f_0.aY.h,.int .i64 f_0.aY.x,.int .i64 f_0.aY.y,.string f_0.aY.title,.slice A3 f_0.aY.rows.length C3,.int .i64 f_0.aY.len,.int .i64 f_0.aY.chain,.slice A4 f_0.aY.begun.length C4,.slice A5 f_0.kept.length C5,.int .i64 f_0.message.id,.int .i64 f_0.message.key,.int .i64 f_0.message.base,.slice A6 f_0.message.parts.length C6,.slice A7 f_0.message.there.length C7,.int .i64 f_0.message.due,.int .i64 f_0.next],Im.sl aC A1 C1 f_0.current.rows,Im.sl aD A2 C2 f_0.current.begun,Im.sl aC A3 C3 f_0.aY.rows,Im.sl aD A4 C4 f_0.aY.begun,Im.sl eS A5 C5 f_0.kept,Im.sl Ty.str A6 C6 f_0.message.parts,Im.sl Ty.bool A7 C7 f_0.message.there] (fun _:Unit=> .int .i64 r) (fun h=>[]) (fun h=>[]):=by
 delta cZ at H
 refine Cf Go.Proofs.Tryz.func47 fun K=> ?_
 refine Z3 ?_
 have ⟨a,i,e⟩:=bnd H
 refine Tj (η:=Unit×Unit) (fun h=>a = .inl h.1) (fun _=>[]) [] (fun _=>[]) [] (fun _=>[]) ?_ ?_
 ·refine Yl0 ?_
  refine Tq (η:=Unit) (fun f h=>[(8,.int .i64 f)]) [0,1,7] (fun _ _=>[]) [] (fun _ _=>[]) () [] [] i ?_
  rintro k_ f ⟨⟩ j l m g
  refine Y2 ?_
  refine Tb l (fun b=> ?_) fun b=> ?_
  ·refine Z1 ?_
   refine Zl ?_
   refine Z2 ?_
   have ⟨t,c,n⟩:=bnd b
   refine L.addr 0 rfl (cL c) fun u v o=> ?_
   subst o
   refine Ly (Yl.ia c rfl rfl rfl rfl rfl rfl) ?_
   refine L.el 0 rfl (aU c).2 ?_
   rintro ⟨⟨z,A⟩,⟨B,C⟩⟩
   refine Lc 0 0 ?_
   have ⟨F,p,q⟩:=bnd n
   refine Lk [] [1,2,4,5,6,7,8,9,10,11,12] (pd p) fun ⟨⟩=> ?_
   refine Z0 ?_
   refine Tb q (fun d=> ?_) fun d=> ?_
   ·refine Z1 ?_
    obtain ⟨I,hz,s⟩:=fG d
    subst j
    have hb:=g _ rfl
    subst a
    obtain rfl:=(sm e).symm
    refine Z0 ?_
    cases s
    exact Eo1 () [] []
   refine Z0 ?_
   cases d
   exact Eg (_,()) (m _ rfl) [] [] 3
  refine Z0 ?_
  cases b
  have hb:=g _ rfl
  subst a
  exact Eg (_,()) rfl [] [] 0
 rintro ⟨J,⟨⟩⟩ hy
 subst hy
 refine Z1 ?_
 cases e
 exact Eo1 () [] []
theorem jO {s_:List aI} {f_0:aP} {r:Bool} (H:cB s_ f_0=some r):CT G 85 [.slice A0 s_.length C0,.func (.func 86) #[] #[.pointer (some ⟨N0,0,none⟩)]] [] [Im.sl eS A0 C0 s_,Im.cells N0 0 [.pointer (some ⟨N1,0,none⟩)],Im.cells N1 0 [.int .i64 f_0.config.part,.int .i64 f_0.config.every,.int .i64 f_0.config.most,.int .i64 f_0.current.k,.int .i64 f_0.current.w,.int .i64 f_0.current.h,.int .i64 f_0.current.x,.int .i64 f_0.current.y,.string f_0.current.title,.slice A1 f_0.current.rows.length C1,.int .i64 f_0.current.len,.int .i64 f_0.current.chain,.slice A2 f_0.current.begun.length C2,.int .i64 f_0.aY.k,.int .i64 f_0.aY.w,.int .i64 f_0.aY.h,.int .i64 f_0.aY.x,.int .i64 f_0.aY.y,.string f_0.aY.title,.slice A3 f_0.aY.rows.length C3,.int .i64 f_0.aY.len,.int .i64 f_0.aY.chain,.slice A4 f_0.aY.begun.length C4,.slice A5 f_0.kept.length C5,.int .i64 f_0.message.id,.int .i64 f_0.message.key,.int .i64 f_0.message.base,.slice A6 f_0.message.parts.length C6,.slice A7 f_0.message.there.length C7,.int .i64 f_0.message.due,.int .i64 f_0.next],Im.sl aC A1 C1 f_0.current.rows,Im.sl aD A2 C2 f_0.current.begun,Im.sl aC A3 C3 f_0.aY.rows,Im.sl aD A4 C4 f_0.aY.begun,Im.sl eS A5 C5 f_0.kept,Im.sl Ty.str A6 C6 f_0.message.parts,Im.sl Ty.bool A7 C7 f_0.message.there] (fun _:Unit=> .bool r) (fun h=>[]) (fun h=>[]):=by
 delta cB at H
 refine Cf Go.Proofs.Tryz.func85 fun K=> ?_
 refine Z2 ?_
 have ⟨r1,h2,H3⟩:=bnd H
 refine Lk [] [0,1,2,3,4,5,6,7,8,9] (kD h2) fun ⟨⟩=> ?_
 refine Z0 ?_
 cases H3
 exact Eo1 () [] []
theorem rK {s_:aP} {now:Int} {r:aP} (H:fZ s_ now=some r):CT G 37 [.pointer (some ⟨N0,0,none⟩),.int .i64 now] [Ch.box N0 83 (zc s_ A0 C0 A1 C1 A2 C2 A3 C3 A4 C4 A5 C5 A6 C6),Ch.aro eS 42 A4 C4 s_.kept,Ch.arr Ty.bool 4 A6 C6 s_.message.there] [Im.sl aC A0 C0 s_.current.rows,Im.sl aD A1 C1 s_.current.begun,Im.sl aC A2 C2 s_.aY.rows,Im.sl aD A3 C3 s_.aY.begun,Im.sl Ty.str A5 C5 s_.message.parts,Im.sl (Ty.int .u32) (some ⟨2,0,none⟩) 16 cV] (fun h:(Option Addr×Nat)×(Option Addr×Nat)×(Option Addr×Nat)=> .tuple #[]) (fun h=>[Ch.box N0 83 (zc r A0 C0 A1 C1 A2 C2 A3 C3 h.1.1 h.1.2 h.2.1.1 h.2.1.2 h.2.2.1 h.2.2.2),Ch.aro eS 42 h.1.1 h.1.2 r.kept,Ch.arr Ty.bool 4 h.2.2.1 h.2.2.2 r.message.there]) (fun h=>[Im.sl aC A0 C0 r.current.rows,Im.sl aD A1 C1 r.current.begun,Im.sl aC A2 C2 r.aY.rows,Im.sl aD A3 C3 r.aY.begun,Im.sl Ty.str h.2.1.1 h.2.1.2 r.message.parts]):=by
 delta fZ at H
 refine Cf Go.Proofs.Tryz.func37 fun K=> ?_
 refine Z1 ?_
 refine Lx fun g1=> ?_
 refine Y1 ?_
 refine Td [34] [0,0,0,0] mo ?_
 refine Db 0 0 ?_
 refine Db 1 0 ?_
 refine Dq 2 ?_
 refine Dq 3 ?_
 refine Db 4 1 ?_
 refine Db 5 0 ?_
 refine Dq 6 ?_
 refine Dq 7 ?_
 refine Dq 8 ?_
 refine Db 9 1 ?_
 refine Db 10 0 ?_
 refine Dq 11 ?_
 refine Dq 12 ?_
 refine Dq 13 ?_
 refine Db 14 1 ?_
 refine Db 15 0 ?_
 refine Dq 16 ?_
 refine Dq 17 ?_
 refine Db 18 1 ?_
 refine Db 19 0 ?_
 refine Dq 20 ?_
 refine Dq 21 ?_
 refine Db 22 1 ?_
 refine Db 24 0 ?_
 refine Dq 25 ?_
 refine Dq 26 ?_
 refine Dq 27 ?_
 refine Db 28 1 ?_
 refine Dq 30 ?_
 have ⟨J,m,n⟩:=bnd H
 refine Dk [] [2,3,0,1,5] (Bn m) fun ⟨⟩=> ?_
 have ⟨k,o,p⟩:=bnd n
 refine Dk [] [] (zh o) fun ⟨g,i⟩=> ?_
 refine Dq 31 ?_
 refine Dq 32 ?_
 refine Dq 33 ?_
 refine Dt 1 ?_
 refine Dn ?_
 refine Y1 ?_
 refine Td [11] [0,0,0,0,0] mo ?_
 refine Db 0 1 ?_
 refine Db 1 1 ?_
 refine Dq 2 ?_
 refine Dq 3 ?_
 refine Dq 4 ?_
 refine Db 5 0 ?_
 refine Dq 6 ?_
 have ⟨_,q,s⟩:=bnd p
 refine Da [] [] rfl rfl (Ac.mk (ty:=Ty.bool) false () q (fun _ _ f hf=>by cases hf) rfl rfl rfl rfl rfl rfl rfl) fun l=> ?_
 refine Dq 8 ?_
 refine Dq 9 ?_
 refine Dq 10 ?_
 refine Dt 0 ?_
 refine Dn ?_
 refine Z1 ?_
 refine Lt 0 ?_
 refine Z2 ?_
 have ⟨M,t,u⟩:=bnd s
 refine L.br (Ac.call (jO t) rfl rfl rfl rfl) (Bw.cho 2 rfl (Bw.bx 1 rfl (Bw.bx 0 rfl (Bw.im 0 rfl (Bw.im 1 rfl (Bw.im 2 rfl (Bw.im 3 rfl (Bw.cho 2 rfl (Bw.ch 4 rfl (Bw.ch 5 rfl (Bw.nil))))))))))) rfl rfl rfl ?_
 intro _
 refine Z0 ?_
 have ⟨a,v,w⟩:=bnd u
 refine Tjh (η:=(Option Addr×Nat)×(Option Addr×Nat)) (fun _=>[]) [2] (fun h=>(fun d e b c=>[Ch.aro eS 42 d e a.kept,Ch.arr Ty.str 9 g i a.message.parts,Ch.arr Ty.bool 4 b c a.message.there,Ch.box N0 83 (zc a A0 C0 A1 C1 A2 C2 A3 C3 d e g i b c)]) h.1.1 h.1.2 h.2.1 h.2.2) [1] (fun h=>(fun d e b c=>[Im.sl aC A0 C0 a.current.rows,Im.sl aD A1 C1 a.current.begun,Im.sl aC A2 C2 a.aY.rows,Im.sl aD A3 C3 a.aY.begun]) h.1.1 h.1.2 h.2.1 h.2.2) ?_ ?_
 ·refine Tb v (fun j=> ?_) fun j=> ?_
  ·refine Td [13] [0,0,1,1,1] mo ?_
   refine Db 0 1 ?_
   refine Db 1 1 ?_
   refine Dq 2 ?_
   refine Dq 3 ?_
   refine Db 4 0 ?_
   refine Db 5 1 ?_
   refine Dq 6 ?_
   refine Dq 7 ?_
   refine Db 8 0 ?_
   refine Da [] [0,1] rfl rfl (Ac.bs (ty:=eS) (xs:=[s_.current]) (.cons ((A0,C0),(A1,C1)) [0,1] rfl .nil) rfl rfl rfl rfl rfl rfl rfl) fun N=> ?_
   refine D.frz 0 rfl ?_
   have ⟨_,x,y⟩:=bnd j
   refine Da [0] [0] rfl rfl (Ac.oap (ty:=eS) x rfl rfl rfl rfl rfl rfl rfl) ?_
   rintro ⟨z,A⟩
   refine Dq 11 ?_
   refine Dq 12 ?_
   refine Dt 0 ?_
   refine Dn ?_
   cases y
   exact Eg ((z,A),((some ⟨l,0,none⟩),(k.length:Int).toNat)) trivial [5,3,3,0,0] [1,2,3,4] 1
  refine Z0 ?_
  cases j
  exact Eg ((A4,C4),((some ⟨l,0,none⟩),(k.length:Int).toNat)) trivial [2,3,3,0,0] [0,1,2,3] 0
 rintro ⟨⟨d,e⟩,⟨b,c⟩⟩
 refine Td [20] [1,1,1,1] mo ?_
 refine Db 0 3 ?_
 refine Db 1 3 ?_
 refine Dq 2 ?_
 refine Dq 3 ?_
 refine Db 4 2 ?_
 refine Db 5 3 ?_
 refine Dq 6 ?_
 refine Dq 7 ?_
 refine Db 8 2 ?_
 refine Dq 9 ?_
 refine Db 10 3 ?_
 refine Dq 11 ?_
 refine Dq 12 ?_
 refine Dq 13 ?_
 refine Db 14 2 ?_
 refine Dq 15 ?_
 refine Dq 16 ?_
 have ⟨_,B,C⟩:=bnd w
 refine Da [0] [] rfl rfl (Ac.ors (ty:=eS) B rfl rfl rfl rfl rfl rfl rfl rfl) ?_
 rintro ⟨F,I⟩
 refine Dq 18 ?_
 refine Dq 19 ?_
 refine Dt 2 ?_
 refine Dn ?_
 refine E.off ?_
 refine E.frz 1 rfl ?_
 cases C
 exact Eo ((F,I),(g,i),(b,c)) [0,2,0] [1,2,3,4,0] .nil
theorem ri {σ η:Type} {m_:bU} {Y:σ→(Int×ByteArray)→Option (σ×Bool)} {y0:σ} (a_0_0:Option Addr) (c_0_0:Nat) (a_0_1:Option Addr) (c_0_1:Nat) {yl:Nat} {C:σ→η→Ch} (hY: ∀ s (h:η) (x:Int×ByteArray) (t:Unit) z,Y s x=some z→YT G yl [.int .i64 x.1,.string x.2] [C s h] [] (fun _:η=> .bool z.2) (fun h2=>[C z.1 h2]) (fun _=>[])) (h0:η) {r:σ} (H:gY m_ Y y0=some r):CT G 38 [.agg (Po m_ a_0_0 c_0_0 a_0_1 c_0_1).toArray,.func (.yield yl) #[] #[]] [C y0 h0,Ch.arr Ty.bool 4 a_0_1 c_0_1 m_.there] [Im.sl Ty.str a_0_0 c_0_0 m_.parts] (fun h:η=> .tuple #[]) (fun h=>[C r h,Ch.arr Ty.bool 4 a_0_1 c_0_1 m_.there]) (fun h=>[]):=by
  delta gY at H
  refine Cf Go.Proofs.Tryz.func38 fun K=> ?_
  refine Z1 ?_
  refine Lx fun g1=> ?_
  refine Z1 ?_
  have ⟨f,p,m⟩:=bnd H
  refine T.tJ (η:=σ×(η)) (fun h=>f = .inl h.1) (fun h=>(fun e=>(fun a=>[]) h.2) h.1) (fun h=>(fun e=>(fun a=>[C e a,Ch.box g1 81 (Po m_ a_0_0 c_0_0 a_0_1 c_0_1),Ch.arr Ty.bool 4 a_0_1 c_0_1 m_.there]) h.2) h.1) (fun h=>(fun e=>(fun a=>[Im.sl Ty.str a_0_0 c_0_0 m_.parts]) h.2) h.1) ?_ ?_
  ·refine Yl0 ?_
   refine Tq (η:=η) (fun b h=>(fun c=>[(9,.int .i64 b.1)]) h) [1,2,7,8] (fun b h=>(fun c=>[C b.2 c]) h) [0,2] (fun _ _=>[]) h0 [1,0,0] [] p ?_
   rintro k_ b c q u w n
   refine Y2 ?_
   refine Tb u (fun g=> ?_) fun g=> ?_
   ·refine Z1 ?_
    refine Zl ?_
    refine Z1 ?_
    have ⟨R,i,y⟩:=bnd g
    refine L.addr 0 rfl (cL i) fun S U A=> ?_
    subst A
    refine Ly (Yl.ia i rfl rfl rfl rfl rfl rfl) ?_
    refine L.el 0 rfl (aU i).2 ?_
    rintro _
    refine Lc 0 0 ?_
    refine Y1 ?_
    have ⟨o,B,F⟩:=bnd y
    refine Tjh (η:=η) (fun h=>(fun d=>[(26,.bool o.1)]) h) [1,2,7,8,9] (fun h=>(fun d=>[C o.2 d]) h) [1,2] (fun _=>[]) ?_ ?_
    ·refine Z0 ?_
     have ⟨I,j,J⟩:=bnd B
     refine L.lQ 2 rfl (cL j) fun V M=> ?_
     subst M
     refine Ly (Yl.ia j rfl rfl rfl rfl rfl rfl) ?_
     refine Ly (Yl.lo (v:= .bool I) 2 b.1.toNat 0 (aU j).2 rfl rfl rfl rfl (fun _=>rfl)) ?_
     refine Z0 ?_
     refine Lw 20 J (fun k=> ?_) fun k=> ?_
     ·refine Z0 ?_
      have ⟨W,N,O⟩:=bnd k
      refine L.yd [0] [] (hY _ _ _ () _ N) rfl rfl rfl rfl rfl rfl rfl rfl ?_
      intro P
      refine Z0 ?_
      cases O
      exact Eg P trivial [0,0,0] [] 0
     refine Z0 ?_
     cases k
     exact Eg c trivial [0,0,0] [] 0
    rintro d
    refine Tb F (fun l=> ?_) fun l=> ?_
    ·refine Z0 ?_
     obtain ⟨X,hz,Q⟩:=fG l
     subst q
     have hb:=n _ rfl
     subst f
     obtain rfl:=(sm m).symm
     refine Z0 ?_
     cases Q
     exact Eo d [0,1] [] .nil
    refine Z0 ?_
    cases l
    exact Eg (_,d) (w _ rfl) [0,0,0] [] 1
   refine Z0 ?_
   cases g
   have hb:=n _ rfl
   subst f
   exact Egx (_,c) rfl [0,0,0] [0]
  rintro ⟨e,a⟩ hy
  subst hy
  refine E.off ?_
  cases m
  exact Eo a [0,1] [] .nil
theorem og {s_:aP} {now:Int} {r:(List eR)×aP} (H:fK s_ now=some r):CT G 14 [.pointer (some ⟨N0,0,none⟩),.int .i64 now] [Ch.box N0 83 (zc s_ A0 C0 A1 C1 A2 C2 A3 C3 A4 C4 A5 C5 A6 C6),Ch.aro eS 42 A4 C4 s_.kept,Ch.arr Ty.bool 4 A6 C6 s_.message.there] [Im.sl aC A0 C0 s_.current.rows,Im.sl aD A1 C1 s_.current.begun,Im.sl aC A2 C2 s_.aY.rows,Im.sl aD A3 C3 s_.aY.begun,Im.sl Ty.str A5 C5 s_.message.parts,Im.sl (Ty.int .u32) (some ⟨2,0,none⟩) 16 cV] (fun h:(Option Addr×Nat)×(Option Addr×Nat)×(Option Addr×Nat)×(Option Addr×Nat)=> .slice h.1.1 r.1.length h.1.2) (fun h=>[Ch.arr mN 46 h.1.1 h.1.2 r.1,Ch.box N0 83 (zc r.2 A0 C0 A1 C1 A2 C2 A3 C3 h.2.1.1 h.2.1.2 h.2.2.1.1 h.2.2.1.2 h.2.2.2.1 h.2.2.2.2),Ch.aro eS 42 h.2.1.1 h.2.1.2 r.2.kept,Ch.arr Ty.bool 4 h.2.2.2.1 h.2.2.2.2 r.2.message.there]) (fun h=>[Im.sl aC A0 C0 r.2.current.rows,Im.sl aD A1 C1 r.2.current.begun,Im.sl aC A2 C2 r.2.aY.rows,Im.sl aD A3 C3 r.2.aY.begun,Im.sl Ty.str h.2.2.1.1 h.2.2.1.2 r.2.message.parts]):=by
 delta fK at H
 refine Cf Go.Proofs.Tryz.func14 fun K=> ?_
 refine T.xX ?_
 refine Z1 ?_
 refine Lx fun g1=> ?_
 refine Y2 ?_
 refine Td [] [0,0,0,0,0] mo ?_
 refine Db 0 0 ?_
 refine Dq 1 ?_
 refine Dq 2 ?_
 refine Dq 3 ?_
 refine Db 4 2 ?_
 refine Db 5 0 ?_
 refine Dq 6 ?_
 refine Dq 7 ?_
 refine Dq 8 ?_
 refine Db 9 2 ?_
 refine Dq 10 ?_
 refine Dn ?_
 refine Z0 ?_
 refine Tb H (fun H3=> ?_) fun H3=> ?_
 ·refine Z1 ?_
  refine Lt 2 ?_
  refine Z1 ?_
  refine E.iw mN 46 ?_
  refine E.jr [Im.sl Ty.str none 0 []] (fun A w _ _ f hf=>by rw [List.mem_singleton.1 hf]; exact Im.ib A w) ?_
  refine E.iw Ty.bool 4 ?_
  cases H3
  exact E.uI ((none,0),(A4,C4),(none,0),(none,0)) 4 [1,1,2,0] [1,2,3,4,0] rfl (.tmp rfl .nil) rfl rfl rfl
 refine Y2 ?_
 have ⟨v,z,B⟩:=bnd H3
 refine T.zr (η:=Unit×Unit) (fun h=>True) (fun h=>[]) (fun h=>[(1,.int .i64 now),(2,.pointer (some ⟨g1,0,none⟩)),(54,.bool v)]) (fun h=>[Ch.box g1 26 [.pointer (some ⟨N0,0,none⟩)],Ch.dfs [],Ch.box N0 83 (zc s_ A0 C0 A1 C1 A2 C2 A3 C3 A4 C4 A5 C5 A6 C6),Ch.aro eS 42 A4 C4 s_.kept,Ch.arr Ty.bool 4 A6 C6 s_.message.there]) (fun h=>[Im.sl aC A0 C0 s_.current.rows,Im.sl aD A1 C1 s_.current.begun,Im.sl aC A2 C2 s_.aY.rows,Im.sl aD A3 C3 s_.aY.begun,Im.sl Ty.str A5 C5 s_.message.parts,Im.sl (Ty.int .u32) (some ⟨2,0,none⟩) 16 cV]) ?_ ?_
 ·refine Td [] [0,0,0,0,0] mo ?_
  refine Db 0 0 ?_
  refine Dq 1 ?_
  refine Dq 2 ?_
  refine Dq 3 ?_
  refine Db 4 2 ?_
  refine Dq 5 ?_
  refine Dq 6 ?_
  refine D.cs 29 z rfl (fun hc n=> ?_) (fun hc n=> ?_)
  ·refine Ds 7 ?_
   refine Ds 8 ?_
   refine Ds 9 ?_
   refine Ds 10 ?_
   refine Ds 11 ?_
   refine Ds 12 ?_
   refine Ds 13 ?_
   refine Ds 14 ?_
   refine Ds 15 ?_
   refine Ds 16 ?_
   refine Ds 17 ?_
   refine Dq 18 ?_
   refine Dq 19 ?_
   refine Ds 20 ?_
   refine Ds 21 ?_
   refine Ds 22 ?_
   refine Ds 23 ?_
   refine Ds 24 ?_
   refine Ds 25 ?_
   refine Ds 26 ?_
   refine Ds 27 ?_
   refine Ds 28 ?_
   refine Ds 29 ?_
   refine Ds 30 ?_
   refine Dq 31 ?_
   refine Dn ?_
   cases n
   exact E.pS ((),()) [0,0,0,0,0] [0,1,2,3,4,5] trivial rfl ⟨rfl,rfl,rfl,trivial⟩ rfl rfl
  refine Db 7 0 ?_
  refine Dq 8 ?_
  refine Dq 9 ?_
  refine Dq 10 ?_
  refine Db 11 2 ?_
  refine Db 12 0 ?_
  refine Dq 13 ?_
  refine Dq 14 ?_
  refine Dq 15 ?_
  refine Db 16 2 ?_
  refine Dq 17 ?_
  refine Dq 18 ?_
  refine Dq 19 ?_
  refine D.cs 42 n rfl (fun hc o=> ?_) (fun hc o=> ?_)
  ·refine Ds 20 ?_
   refine Ds 21 ?_
   refine Ds 22 ?_
   refine Ds 23 ?_
   refine Ds 24 ?_
   refine Ds 25 ?_
   refine Ds 26 ?_
   refine Ds 27 ?_
   refine Ds 28 ?_
   refine Ds 29 ?_
   refine Ds 30 ?_
   refine Dq 31 ?_
   refine Dn ?_
   cases o
   exact E.pS ((),()) [0,0,0,0,0] [0,1,2,3,4,5] trivial rfl ⟨rfl,rfl,rfl,trivial⟩ rfl rfl
  refine Db 20 0 ?_
  refine Dq 21 ?_
  refine Dq 22 ?_
  refine Dq 23 ?_
  refine Db 24 2 ?_
  refine Db 25 0 ?_
  refine Dq 26 ?_
  refine Dq 27 ?_
  refine Dq 28 ?_
  refine Db 29 2 ?_
  refine Dq 30 ?_
  refine Dq 31 ?_
  refine Dn ?_
  cases o
  exact E.pS ((),()) [0,0,0,0,0] [0,1,2,3,4,5] trivial rfl ⟨rfl,rfl,rfl,trivial⟩ rfl rfl
 rintro ⟨_,⟨⟩⟩ _
 have ⟨a,F,I⟩:=bnd B
 refine T.zr (η:=Unit×((Option Addr×Nat)×(Option Addr×Nat)×(Option Addr×Nat))) (fun h=>True) (fun h=>(fun d e b c g i=>[]) h.2.1.1 h.2.1.2 h.2.2.1.1 h.2.2.1.2 h.2.2.2.1 h.2.2.2.2) (fun h=>(fun d e b c g i=>[(1,.int .i64 now),(2,.pointer (some ⟨g1,0,none⟩))]) h.2.1.1 h.2.1.2 h.2.2.1.1 h.2.2.1.2 h.2.2.2.1 h.2.2.2.2) (fun h=>(fun d e b c g i=>[Ch.aro eS 42 d e a.kept,Ch.arr Ty.bool 4 g i a.message.there,Ch.box g1 26 [.pointer (some ⟨N0,0,none⟩)],Ch.dfs [],Ch.box N0 83 (zc a A0 C0 A1 C1 A2 C2 A3 C3 d e b c g i)]) h.2.1.1 h.2.1.2 h.2.2.1.1 h.2.2.1.2 h.2.2.2.1 h.2.2.2.2) (fun h=>(fun d e b c g i=>[Im.sl aC A0 C0 a.current.rows,Im.sl aD A1 C1 a.current.begun,Im.sl aC A2 C2 a.aY.rows,Im.sl aD A3 C3 a.aY.begun,Im.sl Ty.str b c a.message.parts,Im.sl aC A0 C0 s_.current.rows,Im.sl aD A1 C1 s_.current.begun,Im.sl aC A2 C2 s_.aY.rows,Im.sl aD A3 C3 s_.aY.begun,Im.sl Ty.str A5 C5 s_.message.parts,Im.sl (Ty.int .u32) (some ⟨2,0,none⟩) 16 cV]) h.2.1.1 h.2.1.2 h.2.2.1.1 h.2.2.1.2 h.2.2.2.1 h.2.2.2.2) ?_ ?_
 ·refine Tb F (fun p=> ?_) fun p=> ?_
  ·refine Z0 ?_
   have ⟨af,J,M⟩:=bnd p
   refine Lk [2,2,2] [0,1,2,3,4,5] (rK J) fun ⟨⟨N,O⟩,⟨P,Q⟩,⟨R,S⟩⟩=> ?_
   refine Z0 ?_
   cases M
   exact E.pS ((),((N,O),(P,Q),(R,S))) [1,1,1,1,0] [0,1,2,3,4,5,6,7,8,9,10] trivial rfl ⟨rfl,rfl,trivial⟩ rfl rfl
  refine Z0 ?_
  cases p
  exact E.pS ((),((A4,C4),(A5,C5),(A6,C6))) [3,3,0,0,0] [0,1,2,3,4,0,1,2,3,4,5] trivial rfl ⟨rfl,rfl,trivial⟩ rfl rfl
 rintro ⟨_,⟨⟨d,e⟩,⟨b,c⟩,⟨g,i⟩⟩⟩ _
 refine Z2 ?_
 refine Tb I (fun q=> ?_) fun q=> ?_
 ·refine Z1 ?_
  refine E.iw mN 46 ?_
  cases q
  exact E.uI ((none,0),(d,e),(b,c),(g,i)) 4 [0,3,0,0] [0,1,2,3,4] rfl (.tmp rfl .nil) rfl rfl rfl
 refine Y1 ?_
 refine Td [11] [0,0,0,0,0] mo ?_
 refine Db 0 2 ?_
 refine Dq 1 ?_
 refine Db 2 2 ?_
 refine Dq 3 ?_
 refine Dq 4 ?_
 refine Dq 5 ?_
 refine Db 6 4 ?_
 refine Dq 7 ?_
 refine Dq 8 ?_
 refine Dq 9 ?_
 refine Dq 10 ?_
 refine Dt 4 ?_
 refine Dn ?_
 refine Z1 ?_
 refine Ll fun U=> ?_
 refine Z2 ?_
 refine Yl0 ?_
 refine T.iw mN 46 ?_
 have ⟨V,W,Y⟩:=bnd q
 refine T.rf2 (σ:=(List eR)) (η:=(Option Addr×Nat)) (X:=Int×ByteArray) (θ:=Unit) (τ:=(Option Addr×Nat)) (s1:=V) (hx:=fun x=>x) (fun x t=>[.int .i64 x.1,.string x.2]) (fun x t=>[]) (fun _=>none) (fun j h=>(fun l m=>[Ch.arr mN 46 l m j,Ch.box U 32 [.slice l j.length m],Ch.box N0 83 [.int .i64 a.config.part,.int .i64 a.config.every,.int .i64 a.config.most,.int .i64 a.current.k,.int .i64 a.current.w,.int .i64 a.current.h,.int .i64 a.current.x,.int .i64 a.current.y,.string a.current.title,.slice A0 a.current.rows.length C0,.int .i64 a.current.len,.int .i64 a.current.chain,.slice A1 a.current.begun.length C1,.int .i64 a.aY.k,.int .i64 a.aY.w,.int .i64 a.aY.h,.int .i64 a.aY.x,.int .i64 a.aY.y,.string a.aY.title,.slice A2 a.aY.rows.length C2,.int .i64 a.aY.len,.int .i64 a.aY.chain,.slice A3 a.aY.begun.length C3,.slice d a.kept.length e,.int .i64 a.message.id,.int .i64 a.message.key,.int .i64 a.message.base,.slice b a.message.parts.length c,.slice g a.message.there.length i,.int .i64 (IntKind.i64.wrap (now+a.config.every)),.int .i64 a.next],Ch.box g1 26 [.pointer (some ⟨N0,0,none⟩)],Ch.aro eS 42 d e a.kept]) h.1 h.2) (fun j h=>(fun l m=>[Im.sl aC A0 C0 a.current.rows,Im.sl aD A1 C1 a.current.begun,Im.sl aC A2 C2 a.aY.rows,Im.sl aD A3 C3 a.aY.begun,Im.sl Ty.str b c a.message.parts,Im.sl aC A0 C0 s_.current.rows,Im.sl aD A1 C1 s_.current.begun,Im.sl aC A2 C2 s_.aY.rows,Im.sl aD A3 C3 s_.aY.begun,Im.sl Ty.str A5 C5 s_.message.parts,Im.sl (Ty.int .u32) (some ⟨2,0,none⟩) 16 cV]) h.1 h.2) 6 [0,0,0,2,0,0] [0,1,2,3,4,5,6,7,8,9,10] [4] rfl rfl (fun _ _=>rfl) rfl (fun yl C hY=>(ri b c g i hY (none,0) W:_)) (fun _ _ _ _=>rfl) rfl rfl rfl rfl rfl ?_ rfl ?_
 ·rintro yl K2 j ⟨l,m⟩ s ⟨⟩ ag Z
  refine Z1 ?_
  refine E.begin fun K3=> ?_
  refine Yl0 ?_
  refine Td [28] [1,1,1,1] mo ?_
  refine Db 0 0 ?_
  refine Db 1 2 ?_
  refine Dq 2 ?_
  refine Dq 3 ?_
  refine Dq 4 ?_
  refine Db 5 1 ?_
  refine Db 6 2 ?_
  refine Dq 7 ?_
  refine Dq 8 ?_
  refine Dq 9 ?_
  refine Db 10 1 ?_
  refine Db 11 2 ?_
  refine Dq 12 ?_
  refine Dq 13 ?_
  refine Dq 14 ?_
  refine Db 15 1 ?_
  refine Dq 16 ?_
  refine Db 17 2 ?_
  refine Dq 18 ?_
  refine Dq 19 ?_
  refine Dq 20 ?_
  refine Db 21 1 ?_
  refine Dq 22 ?_
  refine Dq 24 ?_
  refine Da [] [] rfl rfl (Ac.bs (ty:=(Ty.int .i64)) (xs:=[a.message.id,a.message.key,a.message.base,s.1,(a.message.parts.length:Int)]) (.cons () [] rfl (.cons () [] rfl (.cons () [] rfl (.cons () [] rfl (.cons () [] rfl .nil))))) rfl rfl rfl rfl rfl rfl rfl) fun aa=> ?_
  refine Dq 25 ?_
  refine D.frz 0 rfl ?_
  refine Da [] [0] rfl rfl (Ac.bs (ty:=mN) (xs:=[(eR.mk 1 1 [a.message.id,a.message.key,a.message.base,s.1,(a.message.parts.length:Int)] s.2)]) (.cons ((some ⟨aa,0,none⟩),5) [0] rfl .nil) rfl rfl rfl rfl rfl rfl rfl) fun ah=> ?_
  refine D.frz 0 rfl ?_
  have ⟨_,ab,ac⟩:=bnd Z
  refine Da [0] [0] rfl rfl (Ac.ap (ty:=mN) ab rfl rfl rfl rfl rfl rfl rfl) ?_
  rintro ⟨ad,ae⟩
  refine Dt 0 ?_
  refine Dn ?_
  refine Z0 ?_
  cases ac
  exact E.on (ad,ae) [4,0,0,0,0] [2,3,4,5,6,7,8,9,10,11,12] rfl rfl rfl rfl
 rintro u ai
 refine Z1 ?_
 cases Y
 exact E.uI ((u.1,u.2),(d,e),(b,c),(g,i)) 0 [0,1,2,2] [0,1,2,3,4] rfl (.tmp rfl .nil) rfl rfl rfl
theorem wI {s_:cG} {key:Int} {index:Int} {count:Int} {data:ByteArray} {r:Int×cG} (H:kT s_ key index count data=some r):CT G 87 [.pointer (some ⟨N0,0,none⟩),.int .i64 key,.int .i64 index,.int .i64 count,.string data] [Ch.box N0 86 (kB s_ M0),Ch.mp Ty.str false M0 s_.parts] [] (fun h:Option Nat=> .int .i64 r.1) (fun h=>[Ch.box N0 86 (kB r.2 h),Ch.mp Ty.str false h r.2.parts]) (fun h=>[]):=by
 delta kT at H
 refine Cf Go.Proofs.Tryz.func87 fun K=> ?_
 refine Y2 ?_
 have ⟨b,q,c⟩:=bnd H
 refine Tj (η:=cG×(Option Nat)) (fun h=>b = .inl h.1) (fun _=>[]) [0,2,4] (fun h=>(fun d=>(fun a=>[Ch.mp Ty.str false a d.parts,Ch.box N0 86 (kB d a)]) h.2) h.1) [] (fun _=>[]) ?_ ?_
 ·refine Zl ?_
  refine Y1 ?_
  have ⟨s,t,u⟩:=bnd q
  refine Tj0 [(13,.bool s)] [0,1,2,3,4] [] [0,1] ?_ ?_
  ·refine Z0 ?_
   refine Lw 16 t (fun e=> ?_) fun e=> ?_
   ·refine Z0 ?_
    cases e
    exact Eg0 [0,0] 0
   refine Z0 ?_
   refine Lw 20 e (fun g=> ?_) fun g=> ?_
   ·refine Z0 ?_
    cases g
    exact Eg0 [0,0] 0
   refine Z0 ?_
   refine Lw 24 g (fun i=> ?_) fun i=> ?_
   ·refine Z0 ?_
    cases i
    exact Eg0 [0,0] 0
   refine Z0 ?_
   refine Lw 29 i (fun j=> ?_) fun j=> ?_
   ·refine Z0 ?_
    cases j
    exact Eg0 [0,0] 0
   refine Z0 ?_
   cases j
   exact Eg0 [0,0] 0
  refine Tb u (fun k=> ?_) fun k=> ?_
  ·refine Z1 ?_
   obtain ⟨F,hz,v⟩:=dX k
   subst b
   obtain rfl:=(sm c).symm
   refine Z0 ?_
   cases v
   exact Eo1 M0 [0,0] []
  refine Z1 ?_
  refine Tb k (fun l=> ?_) fun l=> ?_
  ·refine Z1 ?_
   obtain ⟨I,hz,w⟩:=dX l
   subst b
   obtain rfl:=(sm c).symm
   refine Z0 ?_
   cases w
   exact Eo1 M0 [0,0] []
  refine Z1 ?_
  refine Tb l (fun m=> ?_) fun m=> ?_
  ·refine Z0 ?_
   refine La [] [] (Ac.mkm (ty:=Ty.str) (ag:=false) rfl rfl rfl) fun x=> ?_
   refine Z0 ?_
   refine Lt 1 ?_
   refine Z0 ?_
   cases m
   exact Eg (_,(some x)) rfl [1,0] [] 0
  refine Z1 ?_
  refine Tb m (fun n=> ?_) fun n=> ?_
  ·refine Z1 ?_
   obtain ⟨J,hz,y⟩:=dX n
   subst b
   obtain rfl:=(sm c).symm
   refine Z0 ?_
   cases y
   exact Eo1 M0 [0,0] []
  refine Z0 ?_
  cases n
  exact Eg (_,M0) rfl [1,0] [] 0
 rintro ⟨d,a⟩ hy
 subst hy
 refine Z2 ?_
 refine La [0] [] (Ac.ml (ty:=Ty.str) (ag:=false) (vv:=(fun _:Unit=> .string (mgd d.parts index (ByteArray.mk #[])))) index (ByteArray.mk #[]) () rfl rfl rfl rfl rfl rfl rfl rfl rfl (fun _ _ f hf=>by cases hf) JX (fun _=>rfl)) ?_
 rintro ⟨⟩
 refine Z1 ?_
 have ⟨p,z,A⟩:=bnd c
 refine Tj0 [] [] [Ch.mp Ty.str false a p.parts,Ch.box N0 86 (kB p a)] [] ?_ ?_
 ·refine Tb z (fun o=> ?_) fun o=> ?_
  ·refine Z1 ?_
   have ⟨_,B,C⟩:=bnd o
   refine La [0] [] (Ac.mu (ty:=Ty.str) (ag:=false) index data () B (.inl rfl) rfl rfl rfl rfl rfl rfl rfl rfl) fun _=> ?_
   refine Z0 ?_
   refine Lt 1 ?_
   refine Z0 ?_
   cases C
   exact Eg0 [1,0] 0
  refine Z0 ?_
  cases o
  exact Eg0 [0,0] 0
 refine Z1 ?_
 cases A
 exact Eo1 a [1,0] []
theorem tG {t_:bB} {g:eR} {r:Int×bB} (H:fR t_ g=some r):CT G 39 [.pointer (some ⟨N0,0,none⟩),.agg (Ek g A2 C2).toArray] [Ch.box N0 65 (rD t_ N1 A0 C0 A1 C1),Ch.box N1 86 (kB t_.slot M0),Ch.mp Ty.str false M0 t_.slot.parts] [Im.sl aC A0 C0 t_.cN.rows,Im.sl aD A1 C1 t_.cN.begun,Im.sl (Ty.int .i64) A2 C2 g.bH] (fun h:Option Nat=> .int .i64 r.1) (fun h=>[Ch.box N0 65 (rD r.2 N1 A0 C0 A1 C1),Ch.box N1 86 (kB r.2.slot h),Ch.mp Ty.str false h r.2.slot.parts]) (fun h=>[Im.sl aC A0 C0 r.2.cN.rows,Im.sl aD A1 C1 r.2.cN.begun]):=by
 delta fR at H
 refine Cf Go.Proofs.Tryz.func39 fun K=> ?_
 refine Z1 ?_
 refine Lx fun g1=> ?_
 refine Z1 ?_
 refine Zl ?_
 refine Z1 ?_
 refine Tb H (fun a=> ?_) fun a=> ?_
 ·refine Z1 ?_
  cases a
  exact Eo1 M0 [1,1,1] [0,1]
 refine Z1 ?_
 refine Tb a (fun b=> ?_) fun b=> ?_
 ·refine Z1 ?_
  cases b
  exact Eo1 M0 [1,1,1] [0,1]
 refine Y1 ?_
 refine Td [] [0,0,0,0] mo ?_
 refine Dq 0 ?_
 refine Db 1 0 ?_
 have ⟨B,c,n⟩:=bnd b
 refine D.addr 2 rfl (cL c) fun C F o=> ?_
 subst o
 refine Dy 2 (Yl.ia c rfl rfl rfl rfl rfl rfl) ?_
 refine D.el 2 rfl (aU c).2 ?_
 rintro _
 refine Dy 3 (Yl.ldc 0 0 rfl rfl rfl rfl) ?_
 refine Dq 4 ?_
 refine Dq 5 ?_
 refine Dq 6 ?_
 refine Dq 7 ?_
 refine Db 8 1 ?_
 refine Dq 9 ?_
 refine Dq 10 ?_
 refine Dn ?_
 refine Z0 ?_
 refine Tb n (fun d=> ?_) fun d=> ?_
 ·refine Z1 ?_
  cases d
  exact Eo1 M0 [1,1,1] [1,2]
 refine Y1 ?_
 have ⟨p,q,s⟩:=bnd d
 refine Tj0 [(25,.bool p)] [0,3] [] [0,1,2,3] ?_ ?_
 ·refine Td [] [0,0,0,0] mo ?_
  refine Dq 0 ?_
  refine Db 1 0 ?_
  have ⟨I,i,t⟩:=bnd q
  refine Dy 2 (Yl.ia i rfl rfl rfl rfl rfl rfl) ?_
  refine D.el 3 rfl (aU i).2 ?_
  rintro _
  refine Dy 3 (Yl.ldc 0 0 rfl rfl rfl rfl) ?_
  refine Dq 4 ?_
  refine Dq 5 ?_
  refine D.cs 31 t rfl (fun hc e=> ?_) (fun hc e=> ?_)
  ·refine Dq 6 ?_
   refine Db 7 0 ?_
   have ⟨J,j,u⟩:=bnd e
   refine Dy 8 (Yl.ia j rfl rfl rfl rfl rfl rfl) ?_
   refine D.el 4 rfl (aU j).2 ?_
   rintro _
   refine Dy 9 (Yl.ldc 0 0 rfl rfl rfl rfl) ?_
   refine Dq 10 ?_
   refine Dq 11 ?_
   refine Dq 12 ?_
   refine Dq 13 ?_
   refine Db 14 1 ?_
   refine Dq 15 ?_
   refine Dq 16 ?_
   refine Dq 17 ?_
   refine Dn ?_
   cases u
   exact Eg0 [0,0,0,0] 2
  refine Ds 6 ?_
  refine Ds 7 ?_
  refine Ds 8 ?_
  refine Ds 9 ?_
  refine Ds 10 ?_
  refine Ds 11 ?_
  refine Ds 12 ?_
  refine Ds 13 ?_
  refine Ds 14 ?_
  refine Ds 15 ?_
  refine Dq 16 ?_
  refine Dq 17 ?_
  refine Dn ?_
  cases e
  exact Eg0 [0,0,0,0] 1
 refine Tb s (fun f=> ?_) fun f=> ?_
 ·refine Z1 ?_
  cases f
  exact Eo1 M0 [1,1,1] [1,2]
 refine Y1 ?_
 refine Td [] [0,0] mo ?_
 refine Dq 0 ?_
 refine Dq 1 ?_
 refine Dq 2 ?_
 refine Db 3 1 ?_
 refine Dq 4 ?_
 refine Db 5 0 ?_
 have ⟨M,k,v⟩:=bnd f
 refine Dy 6 (Yl.ia k rfl rfl rfl rfl rfl rfl) ?_
 refine D.el 3 rfl (aU k).2 ?_
 rintro _
 refine Dy 7 (Yl.ldc 0 0 rfl rfl rfl rfl) ?_
 refine Dq 8 ?_
 refine Db 9 0 ?_
 have ⟨N,l,w⟩:=bnd v
 refine Dy 10 (Yl.ia l rfl rfl rfl rfl rfl rfl) ?_
 refine D.el 4 rfl (aU l).2 ?_
 rintro _
 refine Dy 11 (Yl.ldc 0 0 rfl rfl rfl rfl) ?_
 refine Dq 12 ?_
 refine Db 13 0 ?_
 have ⟨O,m,x⟩:=bnd w
 refine Dy 14 (Yl.ia m rfl rfl rfl rfl rfl rfl) ?_
 refine D.el 5 rfl (aU m).2 ?_
 rintro _
 refine Dy 15 (Yl.ldc 0 0 rfl rfl rfl rfl) ?_
 refine Dq 16 ?_
 refine Db 17 0 ?_
 have ⟨P,y,z⟩:=bnd x
 refine Dk [0,0] [] (wI y) fun A=> ?_
 refine Dq 19 ?_
 refine Dn ?_
 refine Z0 ?_
 cases z
 exact Eo1 A [1,1,1] [4,5]
theorem pH {σ η:Type} {s_:cG} {Y:σ→(Int×Bool)→Option (σ×Bool)} {y0:σ} (g_0:Nat) (v_0_0:Option Nat) {yl:Nat} {C:σ→η→Ch} (hY: ∀ s (h:η) (x:Int×Bool) (t:Unit) z,Y s x=some z→YT G yl [.int .i64 x.1,.bool x.2] [C s h,Ch.box g_0 86 (kB s_ v_0_0),Ch.mp Ty.str false v_0_0 s_.parts] [] (fun _:η=> .bool z.2) (fun h2=>[C z.1 h2,Ch.box g_0 86 (kB s_ v_0_0),Ch.mp Ty.str false v_0_0 s_.parts]) (fun _=>[])) (h0:η) {r:σ} (H:iZ s_ Y y0=some r):CT G 88 [.pointer (some ⟨g_0,0,none⟩),.func (.yield yl) #[] #[]] [C y0 h0,Ch.box g_0 86 (kB s_ v_0_0),Ch.mp Ty.str false v_0_0 s_.parts] [] (fun h:η=> .tuple #[]) (fun h=>[C r h,Ch.box g_0 86 (kB s_ v_0_0),Ch.mp Ty.str false v_0_0 s_.parts]) (fun h=>[]):=by
  delta iZ at H
  refine Cf Go.Proofs.Tryz.func88 fun K=> ?_
  refine Z1 ?_
  have ⟨e,m,j⟩:=bnd H
  refine T.tJ (η:=σ×(η)) (fun h=>e = .inl h.1) (fun h=>(fun c=>(fun b=>[]) h.2) h.1) (fun h=>(fun c=>(fun b=>[C c b,Ch.box g_0 86 (kB s_ v_0_0),Ch.mp Ty.str false v_0_0 s_.parts]) h.2) h.1) (fun h=>(fun c=>(fun b=>[]) h.2) h.1) ?_ ?_
  ·refine Yl0 ?_
   refine Tq (η:=η) (fun a h=>(fun d=>[(11,.int .i64 a.1)]) h) [0,1,10] (fun a h=>(fun d=>[C a.2 d]) h) [1,2] (fun _ _=>[]) h0 [0,0,0] [] m ?_
   rintro k_ a d n o p k
   refine Y2 ?_
   refine Tb o (fun g=> ?_) fun g=> ?_
   ·refine Z1 ?_
    refine Zl ?_
    refine Z2 ?_
    refine La [2] [] (Ac.ml (ty:=Ty.str) (ag:=false) (vv:=(fun h:Unit=> .string (mgd s_.parts a.1 (ByteArray.mk #[])))) a.1 (ByteArray.mk #[]) () rfl rfl rfl rfl rfl rfl rfl rfl rfl (fun _ _ f hf=>by cases hf) JX (fun _=>rfl)) ?_
    rintro ⟨⟩
    refine Z1 ?_
    have ⟨w,q,u⟩:=bnd g
    refine L.yd [1,1,0] [] (hY _ _ _ () _ q) rfl rfl rfl rfl rfl rfl rfl rfl ?_
    intro l
    refine Z0 ?_
    refine Tb u (fun i=> ?_) fun i=> ?_
    ·refine Z0 ?_
     obtain ⟨y,hz,v⟩:=fG i
     subst n
     have hb:=k _ rfl
     subst e
     obtain rfl:=(sm j).symm
     refine Z0 ?_
     cases v
     exact Eo l [0,0,0] [] .nil
    refine Z0 ?_
    cases i
    exact Eg (_,l) (p _ rfl) [0,0,0] [] 0
   refine Z0 ?_
   cases g
   have hb:=k _ rfl
   subst e
   exact Egx (_,d) rfl [0,0,0] []
  rintro ⟨c,b⟩ hy
  subst hy
  refine E.off ?_
  cases j
  exact Eo b [0,0,0] [] .nil
theorem oI (g:Nat) (u:Bool) (v:Value):CT G 122 [.pointer (some ⟨g,0,none⟩)] [Ch.box g 156 [.pointer (zx u g),v]] [] (fun _:Unit=> .tuple #[]) (fun _=>[Ch.box g 156 [.pointer (zx true g),v]]) (fun _=>[]):=by
 refine Cf Go.Proofs.Tryz.func122 fun K=> ?_
 cases u
 ·refine Z1 ?_
  refine Ly (Yl.pz rfl rfl rfl rfl rfl) ?_
  refine Z0 ?_
  refine T.cond rfl (fun _=> ?_) (fun h=>nomatch h)
  refine Z0 ?_
  refine Ly (Yl.tou (t:=156) 0 rfl rfl rfl (by kernel_rfl) (by kernel_rfl) rfl rfl rfl) ?_
  refine Ly (Yl.PF rfl rfl rfl Go.Proofs.Tryz.func168 (by kernel_rfl) (by kernel_rfl) (by kernel_rfl) (by kernel_rfl)) ?_
  refine Ly (Yl.fru (u:=156) 0 rfl rfl rfl (by kernel_rfl) (by kernel_rfl) rfl (by kernel_rfl)) ?_
  refine Z0 ?_
  refine Lt 0 ?_
  refine Z0 ?_
  refine E.off ?_
  exact Eo () [0] [] .nil
 refine Z1 ?_
 refine Ly (Yl.pn rfl rfl rfl rfl rfl rfl) ?_
 refine Z0 ?_
 refine T.cond rfl (fun h=>nomatch h) (fun _=> ?_)
 refine Z1 ?_
 refine Ly (Yl.ps rfl rfl rfl rfl rfl rfl) ?_
 refine Z0 ?_
 refine T.cond rfl (fun h=>nomatch h) (fun _=> ?_)
 refine Z0 ?_
 refine E.off ?_
 exact Eo () [0] [] .nil
theorem oh {b:cT} {s_:ByteArray} (g_0:Nat) (a_0_0:Option Addr) (c_0_0:Nat) {r:cT} (H:eW b s_=some r):CT G 89 [.pointer (some ⟨g_0,0,none⟩),.string s_] [Ch.box g_0 156 [.pointer (zx b.addr g_0),.slice a_0_0 b.buf.length c_0_0],Ch.arr (Ty.int .u8) 5 a_0_0 c_0_0 b.buf] [] (fun h:(Option Addr×Nat)=> .tuple #[.int .i64 (s_.size:Int),.nilIface]) (fun h=>[Ch.box g_0 156 [.pointer (zx r.addr g_0),.slice h.1 r.buf.length h.2],Ch.arr (Ty.int .u8) 5 h.1 h.2 r.buf]) (fun h=>[]):=by
  delta eW at H
  refine Cf Go.Proofs.Tryz.func89 fun K=> ?_
  refine Z2 ?_
  refine Lk [0] [] (oI g_0 b.addr _) fun ⟨⟩=> ?_
  refine Z1 ?_
  have ⟨_,h1,H2⟩:=bnd H
  refine La [1] [] (Ac.aps h1 rfl rfl rfl rfl rfl rfl rfl rfl rfl Mt) fun ⟨a,c⟩=> ?_
  refine Z0 ?_
  refine Lt 1 ?_
  refine Z1 ?_
  cases H2
  exact Eo (a,c) [0,0] [] (.tmp rfl (.tmp rfl .nil))
theorem pM {b:cT} (g_0:Nat) (a_0_0:Option Addr) (c_0_0:Nat) {r:ByteArray} (H:kv b=some r):CT G 90 [.pointer (some ⟨g_0,0,none⟩)] [Ch.box g_0 156 [.pointer (zx b.addr g_0),.slice a_0_0 b.buf.length c_0_0],Ch.arr (Ty.int .u8) 5 a_0_0 c_0_0 b.buf] [] (fun h:Unit=> .string r) (fun h=>[]) (fun h=>[]):=by
  delta kv at H
  refine Cf Go.Proofs.Tryz.func90 fun K=> ?_
  refine Y2 ?_
  refine Td [] [0] mo ?_
  refine Dq 0 ?_
  refine Dq 1 ?_
  refine Dq 2 ?_
  refine Db 3 0 ?_
  refine Dq 5 ?_
  refine Dq 6 ?_
  refine Dq 7 ?_
  refine Db 8 0 ?_
  refine Dq 9 ?_
  refine Da [0] [] rfl rfl (Ac.usd (e:=5) rfl rfl (by kernel_rfl)) fun p=> ?_
  refine Da [0] [] rfl rfl (Ac.ust (T:=5) rfl rfl rfl (by kernel_rfl) (by kernel_rfl)) fun _=> ?_
  refine Dq 11 ?_
  refine Dn ?_
  refine Z0 ?_
  cases H
  exact Eo1 () [] []
theorem uD {s_:cG} {r:ByteArray×Bool} (H:jH s_=some r):CT G 40 [.pointer (some ⟨N0,0,none⟩)] [Ch.box N0 86 (kB s_ M0),Ch.mp Ty.str false M0 s_.parts] [] (fun _:Unit=> .tuple #[.string r.1,.bool r.2]) (fun h=>[Ch.box N0 86 (kB s_ M0),Ch.mp Ty.str false M0 s_.parts]) (fun h=>[]):=by
 delta jH at H
 refine Cf Go.Proofs.Tryz.func40 fun K=> ?_
 refine T.xX ?_
 refine Z1 ?_
 refine Lx fun g1=> ?_
 refine Y2 ?_
 have ⟨e7,H8,H9⟩:=bnd H
 refine T.zr (η:=Unit×Unit) (fun h=>True) (fun h=>[]) (fun h=>[(1,.pointer (some ⟨g1,0,none⟩)),(22,.bool e7)]) (fun h=>[Ch.box g1 63 [.pointer (some ⟨N0,0,none⟩)],Ch.dfs [],Ch.box N0 86 (kB s_ M0),Ch.mp Ty.str false M0 s_.parts]) (fun h=>[]) ?_ ?_
 ·refine Td [] [0,0,0,0] mo ?_
  refine Db 0 0 ?_
  refine Dq 1 ?_
  refine Dq 2 ?_
  refine Db 3 2 ?_
  refine Dq 4 ?_
  refine Dq 5 ?_
  refine D.cs 11 H8 rfl (fun hc e=> ?_) (fun hc e=> ?_)
  ·refine Ds 6 ?_
   refine Ds 7 ?_
   refine Ds 8 ?_
   refine Ds 9 ?_
   refine Ds 10 ?_
   refine Ds 11 ?_
   refine Ds 12 ?_
   refine Ds 13 ?_
   refine Ds 14 ?_
   refine Ds 15 ?_
   refine Dq 16 ?_
   refine Dn ?_
   cases e
   exact E.pS ((),()) [0,0,0,0] [] trivial rfl ⟨rfl,rfl,trivial⟩ rfl rfl
  refine Db 6 0 ?_
  refine Dq 7 ?_
  refine Dq 8 ?_
  refine Db 9 2 ?_
  refine Db 11 0 ?_
  refine Dq 12 ?_
  refine Dq 13 ?_
  refine Db 14 2 ?_
  refine Dy 10 (Yl.mn 3 rfl rfl rfl rfl rfl) ?_
  refine Dq 15 ?_
  refine Dq 16 ?_
  refine Dn ?_
  cases e
  exact E.pS ((),()) [0,0,0,0] [] trivial rfl ⟨rfl,rfl,trivial⟩ rfl rfl
 rintro ⟨_,⟨⟩⟩ _
 refine Tb H9 (fun g=> ?_) fun g=> ?_
 ·refine Z1 ?_
  cases g
  exact E.uI () 1 [1,1] [] rfl (.tmp rfl (.tmp rfl .nil)) rfl rfl rfl
 refine Z1 ?_
 refine Ll fun d=> ?_
 refine Z2 ?_
 refine Yl0 ?_
 refine T.iw (Ty.int .u8) 5 ?_
 have ⟨k,l,m⟩:=bnd g
 refine T.rf3 (σ:=cT) (η:=(Option Addr×Nat)) (X:=Int×Bool) (θ:=Unit) (τ:=(Option Addr×Nat)) (s1:=k) (hx:=fun x=>x) (fun x t=>[.int .i64 x.1,.bool x.2]) (fun x t=>[]) (fun _=>none) [Ch.box N0 86 (kB s_ M0),Ch.mp Ty.str false M0 s_.parts] (fun a h=>(fun b c=>[Ch.arr (Ty.int .u8) 5 b c a.buf,Ch.box d 156 [.pointer (zx a.addr d),.slice b a.buf.length c],Ch.box g1 63 [.pointer (some ⟨N0,0,none⟩)]]) h.1 h.2) (fun a h=>(fun b c=>[]) h.1 h.2) 3 [0,0,0,0,0] [] [] rfl rfl (fun _ _=>rfl) rfl (fun yl C hY=>(pH N0 M0 hY (none,0) l:_)) (fun _ _ _ _=>rfl) rfl rfl rfl rfl rfl ?_ rfl ?_
 ·rintro yl K2 a ⟨b,c⟩ i ⟨⟩ w n
  refine Z0 ?_
  refine E.begin fun K3=> ?_
  refine Zl ?_
  refine La [4] [] (Ac.ml1 (ty:=Ty.str) (ag:=false) (vv:=(fun _:Unit=> .string (mgd s_.parts i.1 (ByteArray.mk #[])))) i.1 (ByteArray.mk #[]) () rfl rfl rfl rfl rfl rfl rfl rfl rfl (fun _ _ f hf=>by cases hf) JX (fun _=>rfl)) ?_
  rintro ⟨⟩
  have ⟨y,o,p⟩:=bnd n
  refine Lk [2,1] [] (oh d b c o) fun ⟨q,s⟩=> ?_
  refine Z0 ?_
  cases p
  exact E.on (q,s) [1,0,1,1,0] [] rfl rfl rfl rfl
 rintro j z
 refine Z1 ?_
 have ⟨A,u,v⟩:=bnd m
 refine Lk [2,1] [] (pM d j.1 j.2 u) fun ⟨⟩=> ?_
 refine Z0 ?_
 cases v
 exact E.uI () 0 [1,1] [] rfl (.tmp rfl (.tmp rfl .nil)) rfl rfl rfl
theorem tH {s_:cG} {r:cG} (H:kG s_=some r):CT G 41 [.pointer (some ⟨N0,0,none⟩)] [Ch.box N0 86 (kB s_ M0),Ch.mp Ty.str false M0 s_.parts] [] (fun h:Option Nat=> .tuple #[]) (fun h=>[Ch.box N0 86 (kB r h),Ch.mp Ty.str false h r.parts]) (fun h=>[]):=by
 delta kG at H
 refine Cf Go.Proofs.Tryz.func41 fun K=> ?_
 refine Z0 ?_
 refine Lt 0 ?_
 refine Ln (E.off ?_)
 refine E.mp0 Ty.str false ?_
 cases H
 exact Eo none [1,0] [] .nil
theorem JY {s_:ByteArray} {r:aT} (H:uN s_=some r):CT G 123 [.string s_] [] [] (fun h:Nat=> .pointer (some ⟨h,0,none⟩)) (fun h=>[Ch.box h 225 [.string r.s,.int .i64 r.e]]) (fun h=>[]):=by
 delta uN at H
 refine Cf Go.Proofs.Tryz.func123 fun K=> ?_
 refine Z2 ?_
 refine Lx fun g1=> ?_
 refine Z0 ?_
 cases H
 exact Eo1 g1 [0] []
theorem gv {in_:aT} {e:Int} {r:aT} (H:bR in_ e=some r):CT G 129 [.pointer (some ⟨N0,0,none⟩),.int .i64 e] [Ch.box N0 225 [.string in_.s,.int .i64 in_.e]] [] (fun _:Unit=> .tuple #[]) (fun h=>[Ch.box N0 225 [.string r.s,.int .i64 r.e]]) (fun h=>[]):=by
 delta bR at H
 refine Cf Go.Proofs.Tryz.func129 fun K=> ?_
 refine Y1 ?_
 have ⟨e4,H5,H6⟩:=bnd H
 refine Tj0 [(12,.bool e4)] [0,1] [] [0] ?_ ?_
 ·refine Z0 ?_
  refine Lw 9 H5 (fun H7=> ?_) fun H7=> ?_
  ·refine Z0 ?_
   cases H7
   exact Eg0 [0] 0
  refine Z0 ?_
  cases H7
  exact Eg0 [0] 0
 refine Tb H6 (fun H8=> ?_) fun H8=> ?_
 ·refine Z0 ?_
  refine Lt 0 ?_
  refine Z0 ?_
  refine Lt 0 ?_
  refine Ln (E.off ?_)
  cases H8
  exact Eo () [0] [] .nil
 refine Tk (E.off ?_)
 cases H8
 exact Eo () [0] [] .nil
end Go.Tw.X
set_option maxHeartbeats 2000000
set_option linter.unusedVariables false
set_option linter.unusedSimpArgs false
set_option maxRecDepth 10000
namespace Go.Tw.X
open Go Go.Tw
variable {A0 A1 A2 A3 A4 A5 A6 A7 A8 : Option Addr} {C0 C1 C2 C3 C4 C5 C6 C7 C8 : Nat}
variable {N0 N1 N2 N3 N4 : Nat}
variable {M0 : Option Nat}
theorem fF {in_:aT} {r:Int×aT} (H:bT in_=some r):CT G 124 [.pointer (some ⟨N0,0,none⟩)] [Ch.box N0 225 [.string in_.s,.int .i64 in_.e]] [] (fun _:Unit=> .int .i64 r.1) (fun h=>[Ch.box N0 225 [.string r.2.s,.int .i64 r.2.e]]) (fun h=>[]):=by
 delta bT at H
 refine Cf Go.Proofs.Tryz.func124 fun K=> ?_
 refine Z3 ?_
 refine Z1 ?_
 have ⟨a,o,b⟩:=bnd H
 refine Tj (η:=Unit×Unit) (fun h=>a = .inl h.1) (fun _=>[]) [0] (fun _=>[]) [0] (fun _=>[]) ?_ ?_
 ·refine Yl0 ?_
  refine Tq (η:=Unit) (fun c h=>[(3,.int .i64 c.2),(12,.int .i64 c.1)]) [0,11] (fun _ _=>[]) [0] (fun _ _=>[]) () [0] [] o ?_
  rintro k_ c ⟨⟩ m p q d
  refine Y2 ?_
  refine Tb p (fun f=> ?_) fun f=> ?_
  ·refine Z1 ?_
   refine Zl ?_
   refine Z2 ?_
   have ⟨S,t,u⟩:=bnd f
   refine Ly (Yl.si t rfl rfl rfl rfl rfl) ?_
   refine Z1 ?_
   have ⟨_,v,w⟩:=bnd u
   refine Ly (Yl.shl (nb:=64) rfl v rfl rfl rfl) ?_
   refine Z2 ?_
   refine Tb w (fun g=> ?_) fun g=> ?_
   ·refine Z0 ?_
    cases g
    exact Eg (_,()) (q _ rfl) [0] [] 0
   refine Y2 ?_
   have ⟨x,y,z⟩:=bnd g
   refine Tj0 [(40,.bool x)] [0,3,4] [] [0] ?_ ?_
   ·refine Z0 ?_
    refine Lw 33 y (fun i=> ?_) fun i=> ?_
    ·refine Z0 ?_
     refine Lw 37 i (fun j=> ?_) fun j=> ?_
     ·refine Z0 ?_
      cases j
      exact Eg0 [0] 0
     refine Z0 ?_
     cases j
     exact Eg0 [0] 0
    refine Z0 ?_
    cases i
    exact Eg0 [0] 0
   refine Tb z (fun k=> ?_) fun k=> ?_
   ·refine Z1 ?_
    have ⟨U,A,B⟩:=bnd k
    refine Lk [0] [] (gv A) fun ⟨⟩=> ?_
    refine Z1 ?_
    obtain ⟨V,hz,C⟩:=fG B
    subst m
    have hb:=d _ rfl
    subst a
    obtain rfl:=(sm b).symm
    refine Z0 ?_
    cases C
    exact Eo1 () [0] []
   refine Z1 ?_
   have ⟨_,F,I⟩:=bnd k
   refine Ly (Yl.sc F rfl rfl rfl rfl rfl rfl) ?_
   refine Z0 ?_
   refine Lt 0 ?_
   refine Z1 ?_
   obtain ⟨W,hz,J⟩:=fG I
   subst m
   have hb:=d _ rfl
   subst a
   obtain rfl:=(sm b).symm
   refine Z0 ?_
   cases J
   exact Eo1 () [0] []
  refine Z0 ?_
  cases f
  have hb:=d _ rfl
  subst a
  exact Eg (_,()) rfl [0] [] 0
 rintro ⟨X,⟨⟩⟩ hy
 subst hy
 refine Z2 ?_
 have ⟨n,M,N⟩:=bnd b
 refine Tj0 [] [0] [Ch.box N0 225 [.string n.s,.int .i64 n.e]] [] ?_ ?_
 ·refine Tb M (fun l=> ?_) fun l=> ?_
  ·refine Z0 ?_
   have ⟨Y,O,P⟩:=bnd l
   refine Lk [0] [] (gv O) fun ⟨⟩=> ?_
   refine Z0 ?_
   cases P
   exact Eg0 [0] 0
  refine Z0 ?_
  cases l
  exact Eg0 [0] 0
 refine Z1 ?_
 have ⟨Z,Q,R⟩:=bnd N
 refine Lk [0] [] (gv Q) fun ⟨⟩=> ?_
 refine Z1 ?_
 cases R
 exact Eo1 () [0] []
theorem vx {in_:aT} {r:Int×aT} (H:la in_=some r):CT G 125 [.pointer (some ⟨N0,0,none⟩)] [Ch.box N0 225 [.string in_.s,.int .i64 in_.e]] [] (fun _:Unit=> .int .i64 r.1) (fun h=>[Ch.box N0 225 [.string r.2.s,.int .i64 r.2.e]]) (fun h=>[]):=by
 delta la at H
 refine Cf Go.Proofs.Tryz.func125 fun K=> ?_
 refine Z2 ?_
 have ⟨r1,h2,H3⟩:=bnd H
 refine Lk [0] [] (fF h2) fun ⟨⟩=> ?_
 refine Z2 ?_
 refine Tb H3 (fun H8=> ?_) fun H8=> ?_
 ·refine Z1 ?_
  have ⟨r9,a,b⟩:=bnd H8
  refine Lk [0] [] (gv a) fun ⟨⟩=> ?_
  refine Z1 ?_
  cases b
  exact Eo1 () [0] []
 refine Z1 ?_
 cases H8
 exact Eo1 () [0] []
theorem Bo {in_:aT} {n_:Int} {r:ByteArray×aT} (H:mZ in_ n_=some r):CT G 169 [.pointer (some ⟨N0,0,none⟩),.int .i64 n_] [Ch.box N0 225 [.string in_.s,.int .i64 in_.e]] [] (fun _:Unit=> .string r.1) (fun h=>[Ch.box N0 225 [.string r.2.s,.int .i64 r.2.e]]) (fun h=>[]):=by
 delta mZ at H
 refine Cf Go.Proofs.Tryz.func169 fun K=> ?_
 refine Z3 ?_
 refine Z1 ?_
 refine Tb H (fun H5=> ?_) fun H5=> ?_
 ·refine Z1 ?_
  have ⟨r6,h7,H8⟩:=bnd H5
  refine Lk [0] [] (gv h7) fun ⟨⟩=> ?_
  refine Z1 ?_
  cases H8
  exact Eo1 () [0] []
 refine Z1 ?_
 have ⟨_,h9,a⟩:=bnd H5
 refine Ly (Yl.sc h9 rfl rfl rfl rfl rfl rfl) ?_
 refine Z1 ?_
 have ⟨_,b,c⟩:=bnd a
 refine Ly (Yl.sc b rfl rfl rfl rfl rfl rfl) ?_
 refine Z0 ?_
 refine Lt 0 ?_
 refine Z1 ?_
 cases c
 exact Eo1 () [0] []
theorem zj {in_:aT} {r:ByteArray×aT} (H:lD in_=some r):CT G 126 [.pointer (some ⟨N0,0,none⟩)] [Ch.box N0 225 [.string in_.s,.int .i64 in_.e]] [] (fun _:Unit=> .string r.1) (fun h=>[Ch.box N0 225 [.string r.2.s,.int .i64 r.2.e]]) (fun h=>[]):=by
 delta lD at H
 refine Cf Go.Proofs.Tryz.func126 fun K=> ?_
 refine Z2 ?_
 have ⟨r1,h2,H3⟩:=bnd H
 refine Lk [0] [] (fF h2) fun ⟨⟩=> ?_
 have ⟨r4,h5,H6⟩:=bnd H3
 refine Lk [0] [] (Bo h5) fun ⟨⟩=> ?_
 refine Z0 ?_
 cases H6
 exact Eo1 () [0] []
theorem pf {in_:aT} {most:Int} {r:Int×aT} (H:gQ in_ most=some r):CT G 170 [.pointer (some ⟨N0,0,none⟩),.int .i64 most] [Ch.box N0 225 [.string in_.s,.int .i64 in_.e]] [] (fun _:Unit=> .int .i64 r.1) (fun h=>[Ch.box N0 225 [.string r.2.s,.int .i64 r.2.e]]) (fun h=>[]):=by
 delta gQ at H
 refine Cf Go.Proofs.Tryz.func170 fun K=> ?_
 refine Z2 ?_
 have ⟨r1,h2,H3⟩:=bnd H
 refine Lk [0] [] (fF h2) fun ⟨⟩=> ?_
 refine Z2 ?_
 refine Tb H3 (fun H8=> ?_) fun H8=> ?_
 ·refine Z1 ?_
  have ⟨r9,a,b⟩:=bnd H8
  refine Lk [0] [] (gv a) fun ⟨⟩=> ?_
  refine Z1 ?_
  cases b
  exact Eo1 () [0] []
 refine Z1 ?_
 cases H8
 exact Eo1 () [0] []
theorem nB {in_:aT} {r:Int} (H:dR in_=some r):CT G 128 [.pointer (some ⟨N0,0,none⟩)] [Ch.box N0 225 [.string in_.s,.int .i64 in_.e]] [] (fun _:Unit=> .int .i64 r) (fun h=>[Ch.box N0 225 [.string in_.s,.int .i64 in_.e]]) (fun h=>[]):=by
 delta dR at H
 refine Cf Go.Proofs.Tryz.func128 fun K=> ?_
 refine Z2 ?_
 cases H
 exact Eo1 () [0] []
theorem CM {in_:aT} {r:(List aJ)×aT} (H:mR in_=some r):CT G 127 [.pointer (some ⟨N0,0,none⟩)] [Ch.box N0 225 [.string in_.s,.int .i64 in_.e]] [] (fun h:(Option Addr×Nat)=> .slice h.1 r.1.length h.2) (fun h=>[Ch.arr aD 112 h.1 h.2 r.1,Ch.box N0 225 [.string r.2.s,.int .i64 r.2.e]]) (fun h=>[]):=by
 delta mR at H
 refine Cf Go.Proofs.Tryz.func127 fun K=> ?_
 refine Z3 ?_
 refine Z1 ?_
 have ⟨r1,h2,H3⟩:=bnd H
 refine Lk [0] [] (pf h2) fun ⟨⟩=> ?_
 refine Z0 ?_
 have ⟨b,k,l⟩:=bnd H3
 refine Tjh (η:=(Option Addr×Nat)) (fun h=>(fun c d=>[(3,.slice c b.1.length d)]) h.1 h.2) [0] (fun h=>(fun c d=>[Ch.arr aD 112 c d b.1,Ch.box N0 225 [.string b.2.s,.int .i64 b.2.e]]) h.1 h.2) [] (fun _=>[]) ?_ ?_
 ·refine Yl0 ?_
  refine T.iw aD 112 ?_
  refine Tq (η:=(Option Addr×Nat)) (fun a h=>(fun f g=>[(3,.slice f a.2.1.length g),(6,.int .i64 a.2.2)]) h.1 h.2) [0,5] (fun a h=>(fun f g=>[Ch.arr aD 112 f g a.2.1,Ch.box N0 225 [.string a.1.s,.int .i64 a.1.e]]) h.1 h.2) [] (fun _ _=>[]) (none,0) [0,0] [] k ?_
  rintro k_ a ⟨f,g⟩ F m n o
  refine Y2 ?_
  refine Tb m (fun i=> ?_) fun i=> ?_
  ·refine Z1 ?_
   refine Zl ?_
   have ⟨p,q,t⟩:=bnd i
   refine Lk [1] [] (pf q) fun ⟨⟩=> ?_
   refine Z0 ?_
   have ⟨u,v,w⟩:=bnd t
   refine Lk [0] [] (pf v) fun ⟨⟩=> ?_
   refine Z0 ?_
   refine La [] [] (Ac.bs (ty:=aD) (xs:=[(aJ.mk (IntKind.i32.wrap p.1) u.1)]) (.cons () [] rfl .nil) rfl rfl rfl rfl rfl rfl rfl) fun I=> ?_
   refine L.frz 0 rfl ?_
   have ⟨_,x,y⟩:=bnd w
   refine La [1] [0] (Ac.ap (ty:=aD) x rfl rfl rfl rfl rfl rfl rfl) ?_
   rintro ⟨z,A⟩
   refine Z0 ?_
   cases y
   exact Eg (_,(z,A)) (n _ rfl) [0,0] [] 1
  refine Z0 ?_
  cases i
  have hb:=o _ rfl
  subst b
  exact Eg (f,g) trivial [0,0] [] 0
 rintro ⟨c,d⟩
 refine Z2 ?_
 have ⟨J,B,C⟩:=bnd l
 refine Lk [1] [] (nB B) fun ⟨⟩=> ?_
 refine Z0 ?_
 refine Tb C (fun j=> ?_) fun j=> ?_
 ·refine Z1 ?_
  refine E.iw aD 112 ?_
  cases j
  exact Eo1 (none,0) [0,0] []
 refine Z1 ?_
 cases j
 exact Eo1 (c,d) [1,0] []
theorem Ew {in_:aT} {left:Int} {r:Int×aG×Bool×aT} (H:nL in_ left=some r):CT G 171 [.pointer (some ⟨N0,0,none⟩),.int .i64 left] [Ch.box N0 225 [.string in_.s,.int .i64 in_.e]] [] (fun _:Unit=> .tuple #[.int .i64 r.1,.agg #[.int .i32 r.2.1.rune,.int .i64 r.2.1.aL,.int .i64 r.2.1.part],.bool r.2.2.1]) (fun h=>[Ch.box N0 225 [.string r.2.2.2.s,.int .i64 r.2.2.2.e]]) (fun h=>[]):=by
 delta nL at H
 refine Cf Go.Proofs.Tryz.func171 fun K=> ?_
 refine Z1 ?_
 refine Ll fun g1=> ?_
 refine Z1 ?_
 have ⟨r2,h3,H4⟩:=bnd H
 refine Lk [1] [] (fF h3) fun ⟨⟩=> ?_
 refine Y2 ?_
 have ⟨e8,H9,n⟩:=bnd H4
 refine Tj0 [(19,.bool e8)] [0,5,7] [] [0,1] ?_ ?_
 ·refine Z0 ?_
  refine Lw 15 H9 (fun d=> ?_) fun d=> ?_
  ·refine Z0 ?_
   cases d
   exact Eg0 [0,0] 0
  refine Z0 ?_
  cases d
  exact Eg0 [0,0] 0
 have ⟨l,o,p⟩:=bnd n
 refine Tj0 [] [0,5,7] [Ch.box N0 225 [.string l.s,.int .i64 l.e]] [1] ?_ ?_
 ·refine Tb o (fun f=> ?_) fun f=> ?_
  ·refine Z0 ?_
   have ⟨V,q,t⟩:=bnd f
   refine Lk [0] [] (gv q) fun ⟨⟩=> ?_
   refine Z0 ?_
   cases t
   exact Eg0 [0,0] 0
  refine Z0 ?_
  cases f
  exact Eg0 [0,0] 0
 refine Z1 ?_
 refine Ll fun g=> ?_
 refine Lt 0 ?_
 refine Z2 ?_
 have ⟨b,u,v⟩:=bnd p
 refine Tj0 [] [0,5,7,8] [Ch.box g 256 [.int .i64 b.1.e0,.int .i64 b.1.e1,.int .i64 b.1.e2],Ch.box N0 225 [.string b.2.s,.int .i64 b.2.e]] [2] ?_ ?_
 ·refine Yl0 ?_
  refine Tq (η:=Unit) (fun a h=>[(24,.int .i64 a.2.2)]) [0,5,7,8,23] (fun a h=>[Ch.box g 256 [.int .i64 a.1.e0,.int .i64 a.1.e1,.int .i64 a.1.e2],Ch.box N0 225 [.string a.2.1.s,.int .i64 a.2.1.e]]) [2] (fun _ _=>[]) () [0,0,0] [] u ?_
  rintro k_ a ⟨⟩ W w x y
  refine Y2 ?_
  refine Tb w (fun i=> ?_) fun i=> ?_
  ·refine Y1 ?_
   have ⟨c,z,A⟩:=bnd i
   refine Tj0 [] [0,5,7,8,23,24] [Ch.box g 256 [.int .i64 c.1.e0,.int .i64 c.1.e1,.int .i64 c.1.e2],Ch.box N0 225 [.string c.2.s,.int .i64 c.2.e]] [2] ?_ ?_
   ·refine Zl ?_
    refine Z1 ?_
    have ⟨X,B,C⟩:=bnd z
    refine Ly (Yl.xa B rfl rfl rfl rfl rfl rfl rfl rfl rfl) ?_
    refine Z1 ?_
    have ⟨Y,F,I⟩:=bnd C
    refine Lk [1] [] (fF F) fun ⟨⟩=> ?_
    have ⟨_,m,J⟩:=bnd I
    refine Ly (Yl.xp m rfl rfl rfl rfl rfl rfl rfl) ?_
    refine La [1] [] (Ac.sx m [a.1.e0,a.1.e1,a.1.e2] rfl rfl rfl rfl rfl rfl rfl rfl) fun _=> ?_
    refine Z1 ?_
    have ⟨_,M,N⟩:=bnd J
    refine Ly (Yl.xp M rfl rfl rfl rfl rfl rfl rfl) ?_
    have ⟨Z,O,P⟩:=bnd N
    refine Ly (Yl.xl 0 O rfl rfl rfl rfl rfl rfl) ?_
    refine Z0 ?_
    refine Tb P (fun j=> ?_) fun j=> ?_
    ·refine Z0 ?_
     have ⟨aa,Q,R⟩:=bnd j
     refine Lk [1] [] (gv Q) fun ⟨⟩=> ?_
     refine Z0 ?_
     cases R
     exact Eg0 [1,0,0] 0
    refine Z0 ?_
    cases j
    exact Eg0 [0,0,0] 0
   refine Z0 ?_
   cases A
   exact Eg (_,()) (x _ rfl) [0,0,0] [] 0
  refine Z0 ?_
  cases i
  have hb:=y _ rfl
  subst b
  exact Eg0 [0,0,0] 0
 refine Z2 ?_
 have ⟨ab,S,U⟩:=bnd v
 refine Lk [1] [] (nB S) fun ⟨⟩=> ?_
 refine Z0 ?_
 refine Tb U (fun k=> ?_) fun k=> ?_
 ·refine Z1 ?_
  refine Lt 2 ?_
  refine Z0 ?_
  cases k
  exact Eo () [1] [] (.tmp rfl (.cell 0 rfl rfl rfl (.tmp rfl .nil)))
 refine Y1 ?_
 refine Td [10] [0,0,0] mo ?_
 refine Dq 0 ?_
 refine Dq 1 ?_
 refine Db 2 1 ?_
 refine Dq 3 ?_
 refine Dq 4 ?_
 refine Db 5 1 ?_
 refine Dq 6 ?_
 refine Db 7 1 ?_
 refine Dq 8 ?_
 refine Dq 9 ?_
 refine Dt 2 ?_
 refine Dq 11 ?_
 refine Dn ?_
 refine Z0 ?_
 cases k
 exact Eo () [1] [] (.tmp rfl (.cell 0 rfl rfl rfl (.tmp rfl .nil)))
theorem y3 {in_:aT} {w:Int} {r:aE×aT} (H:kS in_ w=some r):CT G 130 [.pointer (some ⟨N0,0,none⟩),.int .i64 w] [Ch.box N0 225 [.string in_.s,.int .i64 in_.e]] [] (fun h:(Option Addr×Nat)=> .agg #[.slice h.1 r.1.cells.length h.2,.bool r.1.wrapped]) (fun h=>[Ch.box N0 225 [.string r.2.s,.int .i64 r.2.e]]) (fun h=>[Im.sl aO h.1 h.2 r.1.cells]):=by
 delta kS at H
 refine Cf Go.Proofs.Tryz.func130 fun K=> ?_
 refine Z1 ?_
 refine Ll fun g1=> ?_
 refine Z1 ?_
 have ⟨r2,h3,H4⟩:=bnd H
 refine Lk [1] [] (fF h3) fun ⟨⟩=> ?_
 refine Z2 ?_
 have ⟨x,y,z⟩:=bnd H4
 refine Tj0 [] [0,1,4,5] [Ch.box N0 225 [.string x.s,.int .i64 x.e]] [1] ?_ ?_
 ·refine Tb y (fun j=> ?_) fun j=> ?_
  ·refine Z0 ?_
   have ⟨al,B,C⟩:=bnd j
   refine Lk [0] [] (gv B) fun ⟨⟩=> ?_
   refine Z0 ?_
   cases C
   exact Eg0 [0,0] 0
  refine Z0 ?_
  cases j
  exact Eg0 [0,0] 0
 refine Y2 ?_
 have ⟨d,F,I⟩:=bnd z
 refine Tjh (η:=(Option Addr×Nat)) (fun h=>(fun g i=>[(6,.slice g d.1.length i)]) h.1 h.2) [0,4,5] (fun h=>(fun g i=>[Ch.arr aO 143 g i d.1,Ch.box N0 225 [.string d.2.s,.int .i64 d.2.e]]) h.1 h.2) [1] (fun _=>[]) ?_ ?_
 ·refine Yl0 ?_
  refine T.iw aO 143 ?_
  refine Tq (η:=(Option Addr×Nat)) (fun a h=>(fun b c=>[(6,.slice b a.2.length c)]) h.1 h.2) [0,1,4,5] (fun a h=>(fun b c=>[Ch.arr aO 143 b c a.2,Ch.box N0 225 [.string a.1.s,.int .i64 a.1.e]]) h.1 h.2) [2] (fun _ _=>[]) (none,0) [0,0,0] [] F ?_
  rintro k_ a ⟨b,c⟩ am J k M
  refine Y2 ?_
  have ⟨N,O,P⟩:=bnd J
  refine Tj0 [(24,.bool N)] [0,1,4,5,6] [] [1,2,0] ?_ ?_
  ·refine Z0 ?_
   refine Lw 20 O (fun l=> ?_) fun l=> ?_
   ·refine Z0 ?_
    have ⟨an,Q,R⟩:=bnd l
    refine Lk [1] [] (nB Q) fun ⟨⟩=> ?_
    refine Z0 ?_
    cases R
    exact Eg0 [0,1,0] 0
   refine Z0 ?_
   cases l
   exact Eg0 [1,1,0] 0
  refine Tb P (fun m=> ?_) fun m=> ?_
  ·refine Zl ?_
   refine Z1 ?_
   have ⟨S,U,V⟩:=bnd m
   refine Lk [0] [] (Ew U) fun ⟨⟩=> ?_
   refine Z0 ?_
   refine Ll fun ao=> ?_
   refine Z0 ?_
   refine Lt 0 ?_
   refine Zl ?_
   refine Z1 ?_
   refine Tb V (fun n=> ?_) fun n=> ?_
   ·refine Z0 ?_
    cases n
    exact Eg (_,(b,c)) (k _ rfl) [3,1,1] [] 0
   refine Y1 ?_
   have ⟨W,X,Y⟩:=bnd n
   refine Tj0 [(44,.bool W)] [0,1,4,5,6,7,8] [] [0,1,2,3] ?_ ?_
   ·refine Td [] [0,0,0,0] mo ?_
    refine Dq 0 ?_
    refine Dq 1 ?_
    refine Dq 2 ?_
    refine Dq 3 ?_
    refine D.cs 48 X rfl (fun hc o=> ?_) (fun hc o=> ?_)
    ·refine Dq 4 ?_
     refine Dq 5 ?_
     refine Dq 6 ?_
     refine Dq 7 ?_
     have ⟨p,q,Z⟩:=bnd o
     refine D.lQ 3 rfl (cL q) fun aq aa=> ?_
     subst aa
     refine Dy 8 (Yl.ia q rfl rfl rfl rfl rfl rfl) ?_
     refine Dy 9 (Yl.lo (v:= .agg #[.int .i32 p.rune,.int .i64 p.aL,.int .i64 p.part]) 3 ((IntKind.i64.wrap ((a.2.length:Int) - 1)).toNat) 0 (aU q).2 rfl rfl rfl rfl (fun _=>rfl)) ?_
     refine Db 10 0 ?_
     refine Dq 11 ?_
     refine Dq 12 ?_
     refine Dq 13 ?_
     refine Dn ?_
     cases Z
     exact Eg0 [0,0,0,0] 0
    refine Ds 4 ?_
    refine Ds 5 ?_
    refine Ds 6 ?_
    refine Ds 7 ?_
    refine Ds 8 ?_
    refine Ds 9 ?_
    refine Ds 10 ?_
    refine Ds 11 ?_
    refine Dq 12 ?_
    refine Dq 13 ?_
    refine Dn ?_
    cases o
    exact Eg0 [0,0,0,0] 0
   refine Tb Y (fun t=> ?_) fun t=> ?_
   ·refine Z0 ?_
    have ⟨ar,ab,ac⟩:=bnd t
    refine Lk [1] [] (gv ab) fun ⟨⟩=> ?_
    refine Z0 ?_
    cases ac
    exact Eg (_,(b,c)) (k _ rfl) [3,0,1] [] 0
   refine Z0 ?_
   refine La [] [] (Ac.bs (ty:=aO) (xs:=[S.2.1]) (.cons () [] rfl .nil) rfl rfl rfl rfl rfl rfl rfl) fun au=> ?_
   refine Z0 ?_
   refine L.frz 0 rfl ?_
   have ⟨av,ad,ae⟩:=bnd t
   refine Lk [] [0] (my ad) fun ⟨aw,ax⟩=> ?_
   refine L.frz 0 rfl ?_
   have ⟨_,af,ag⟩:=bnd ae
   refine La [3] [0] (Ac.ap (ty:=aO) af rfl rfl rfl rfl rfl rfl rfl) ?_
   rintro ⟨ah,ai⟩
   refine Z0 ?_
   cases ag
   exact Eg (_,(ah,ai)) (k _ rfl) [0,1,1] [] 2
  refine Z0 ?_
  cases m
  have hb:=M _ rfl
  subst d
  exact Eg (b,c) trivial [2,0,0] [] 0
 rintro ⟨g,i⟩
 refine Z2 ?_
 have ⟨ay,aj,ak⟩:=bnd I
 refine Lk [1] [] (nB aj) fun ⟨⟩=> ?_
 refine Z0 ?_
 refine Tb ak (fun u=> ?_) fun u=> ?_
 ·refine Z1 ?_
  refine Lt 2 ?_
  refine Z0 ?_
  refine E.jr [Im.sl aO none 0 []] (fun A w _ _ f hf=>by rw [List.mem_singleton.1 hf]; exact Im.ib A w) ?_
  cases u
  exact Eo (none,0) [1] [0] (.cell 0 rfl rfl rfl .nil)
 refine Z1 ?_
 refine Lt 2 ?_
 refine Z0 ?_
 refine E.frz 2 rfl ?_
 cases u
 exact Eo (g,i) [1] [0] (.cell 0 rfl rfl rfl .nil)
theorem Bp {in_:aT} {r:Int} (H:m4 in_=some r):CT G 131 [.pointer (some ⟨N0,0,none⟩)] [Ch.box N0 225 [.string in_.s,.int .i64 in_.e]] [] (fun _:Unit=> .int .i64 r) (fun h=>[Ch.box N0 225 [.string in_.s,.int .i64 in_.e]]) (fun h=>[]):=by
 delta m4 at H
 refine Cf Go.Proofs.Tryz.func131 fun K=> ?_
 refine Z3 ?_
 refine Tb H (fun H2=> ?_) fun H2=> ?_
 ·refine Z1 ?_
  cases H2
  exact Eo1 () [0] []
 refine Z1 ?_
 cases H2
 exact Eo1 () [0] []
theorem Bq {s_:ByteArray} {r:bO×Int} (H:m8 s_=some r):CT G 91 [.string s_] [] [] (fun h:(Option Addr×Nat)×Option Nat=> .tuple #[.agg (CG r.1 none 0 h.1.1 h.1.2 h.2).toArray,.int .i64 r.2]) (fun h=>[Ch.mp aC true h.2 r.1.rows]) (fun h=>[Im.sl aC none 0 r.1.to.rows,Im.sl aD h.1.1 h.1.2 r.1.to.begun]):=by
 delta m8 at H
 refine Cf Go.Proofs.Tryz.func91 fun K=> ?_
 refine Z1 ?_
 refine Ll fun g1=> ?_
 refine Z1 ?_
 have ⟨r2,h3,H4⟩:=bnd H
 refine Lk [] [] (JY h3) fun g5=> ?_
 refine Z1 ?_
 have ⟨r6,h7,H8⟩:=bnd H4
 refine Lk [0] [] (fF h7) fun ⟨⟩=> ?_
 refine La [] [] (Ac.mkm (ty:=aC) (ag:=true) rfl rfl rfl) fun g9=> ?_
 refine Z0 ?_
 refine Ll fun n=> ?_
 refine Lt 0 ?_
 refine Z1 ?_
 have ⟨a1,p,q⟩:=bnd H8
 refine Lk [2] [] (fF p) fun ⟨⟩=> ?_
 refine Z0 ?_
 have ⟨a2,t,u⟩:=bnd q
 refine Lk [0] [] (vx t) fun ⟨⟩=> ?_
 refine Z0 ?_
 have ⟨a3,v,x⟩:=bnd u
 refine Lk [0] [] (vx v) fun ⟨⟩=> ?_
 refine Z0 ?_
 have ⟨a4,y,z⟩:=bnd x
 refine Lk [0] [] (fF y) fun ⟨⟩=> ?_
 refine Z0 ?_
 have ⟨a5,B,C⟩:=bnd z
 refine Lk [0] [] (fF B) fun ⟨⟩=> ?_
 refine Z0 ?_
 have ⟨a6,F,I⟩:=bnd C
 refine Lk [0] [] (zj F) fun ⟨⟩=> ?_
 refine Z0 ?_
 have ⟨a7,J,M⟩:=bnd I
 refine Lk [0] [] (fF J) fun ⟨⟩=> ?_
 refine Z0 ?_
 have ⟨a8,N,O⟩:=bnd M
 refine Lk [0] [] (fF N) fun ⟨⟩=> ?_
 refine Z0 ?_
 have ⟨a9,P,Q⟩:=bnd O
 refine Lk [0] [] (CM P) fun ⟨d,g⟩=> ?_
 refine Z0 ?_
 refine Lt 2 ?_
 refine Z3 ?_
 have ⟨ba,R,S⟩:=bnd Q
 refine Lk [2] [] (fF R) fun ⟨⟩=> ?_
 refine Z0 ?_
 have ⟨b,U,V⟩:=bnd S
 refine Tjh (η:=Option Nat) (fun _=>[]) [2,4,5] (fun h=>(fun i=>[Ch.arr aD 112 d g b.2.to.begun,Ch.mp aC true i b.2.rows,Ch.box g5 225 [.string b.1.s,.int .i64 b.1.e],Ch.box n 164 (FY b.2 d g i)]) h) [4] (fun _=>[]) ?_ ?_
 ·refine Yl0 ?_
  refine Tq (η:=Option Nat) (fun a h=>(fun c=>[(6,.int .i64 a.2.2.1),(7,.int .i64 a.2.2.2)]) h) [2,4,5] (fun a h=>(fun c=>[Ch.arr aD 112 d g a.1.to.begun,Ch.mp aC true c a.1.rows,Ch.box g5 225 [.string a.2.1.s,.int .i64 a.2.1.e],Ch.box n 164 (FY a.1 d g c)]) h) [4] (fun _ _=>[]) (some g9) [2,2,0,0,0] [] U ?_
  rintro k_ a c bb W X Y
  refine Y2 ?_
  have ⟨Z,aa,ac⟩:=bnd W
  refine Tj0 [(43,.bool Z)] [2,4,5,6,7] [] [2,3,4,0,1] ?_ ?_
  ·refine Z0 ?_
   refine Lw 39 aa (fun j=> ?_) fun j=> ?_
   ·refine Z0 ?_
    have ⟨bc,ad,ae⟩:=bnd j
    refine Lk [2] [] (nB ad) fun ⟨⟩=> ?_
    refine Z0 ?_
    cases ae
    exact Eg0 [0,2,2,0,0] 0
   refine Z0 ?_
   cases j
   exact Eg0 [2,2,2,0,0] 0
  refine Tb ac (fun k=> ?_) fun k=> ?_
  ·refine Z1 ?_
   refine Zl ?_
   refine Z1 ?_
   have ⟨af,ah,ai⟩:=bnd k
   refine Lk [0] [] (fF ah) fun ⟨⟩=> ?_
   refine Y2 ?_
   have ⟨aj,ak,al⟩:=bnd ai
   refine Tj0 [(57,.bool aj)] [2,4,5,7,8] [] [0,1,2,3,4] ?_ ?_
   ·refine Z0 ?_
    refine Lw 51 ak (fun l=> ?_) fun l=> ?_
    ·refine Z0 ?_
     cases l
     exact Eg0 [0,0,0,0,0] 0
    refine Z0 ?_
    cases l
    exact Eg0 [0,0,0,0,0] 0
   have ⟨o,am,an⟩:=bnd al
   refine Tj0 [] [2,4,5,7,8] [Ch.box g5 225 [.string o.s,.int .i64 o.e]] [1,2,3,4] ?_ ?_
   ·refine Tb am (fun m=> ?_) fun m=> ?_
    ·refine Z0 ?_
     have ⟨bd,ao,ap⟩:=bnd m
     refine Lk [0] [] (gv ao) fun ⟨⟩=> ?_
     refine Z0 ?_
     cases ap
     exact Eg0 [0,0,0,0,0] 0
    refine Z0 ?_
    cases m
    exact Eg0 [0,0,0,0,0] 0
   refine Z1 ?_
   refine Td [] [1,1,1] mo ?_
   refine Dq 0 ?_
   refine Db 1 0 ?_
   refine Dq 2 ?_
   refine Dq 3 ?_
   refine Dq 4 ?_
   refine Dq 5 ?_
   refine Db 6 0 ?_
   have ⟨aq,ar,au⟩:=bnd an
   refine Dk [0] [] (y3 ar) fun ⟨av,aw⟩=> ?_
   have ⟨_,ax,ay⟩:=bnd au
   refine Da [1] [0] rfl rfl (Ac.mu (ty:=aC) (ag:=true) af.1 aq.1 (av,aw) ax (.inl rfl) rfl rfl rfl rfl rfl rfl rfl rfl) fun _=> ?_
   refine Dn ?_
   refine Z0 ?_
   cases ay
   exact Eg (_,c) (X _ rfl) [2,2,2,0,0] [] 1
  refine Z0 ?_
  cases k
  have hb:=Y _ rfl
  subst b
  exact Eg c trivial [3,3,0,0,0] [] 0
 rintro i
 refine Y1 ?_
 refine Td [3] [0,0,0,0,0] mo ?_
 refine Db 0 3 ?_
 refine Dq 1 ?_
 have ⟨be,az,a0⟩:=bnd V
 refine D.one rfl rfl rfl (Dp.ab [2] [] [1,1,0,0,0] (Ac.call (Bp az) rfl rfl rfl rfl) rfl rfl rfl rfl rfl rfl (fun _=>rfl) ?_)
 rintro ⟨⟩
 refine Dt 4 ?_
 refine Dq 4 ?_
 refine Dn ?_
 refine Z0 ?_
 refine E.jr [Im.sl aC none 0 []] (fun A w _ _ f hf=>by rw [List.mem_singleton.1 hf]; exact Im.ib A w) ?_
 refine E.frz 1 rfl ?_
 cases a0
 exact Eo ((d,g),i) [1] [1,0] (.cell 0 rfl rfl rfl (.tmp rfl .nil))
theorem tI {p:bO} {a:aI} {r:Bool×bO} (H:fQ p a=some r):CT G 93 [.pointer (some ⟨N0,0,none⟩),.agg (kZ a A2 C2 A3 C3).toArray] [Ch.box N0 164 (CG p A0 C0 A1 C1 M0),Ch.arr aC 107 A0 C0 p.to.rows,Ch.mp aC true M0 p.rows] [Im.sl aD A1 C1 p.to.begun,Im.sl aC A2 C2 a.rows,Im.sl aD A3 C3 a.begun] (fun h:(Option Addr×Nat)=> .bool r.1) (fun h=>[Ch.box N0 164 (CG r.2 h.1 h.2 A1 C1 M0),Ch.mp aC true M0 r.2.rows]) (fun h=>[Im.sl aC h.1 h.2 r.2.to.rows,Im.sl aD A1 C1 r.2.to.begun]):=by
 delta fQ at H
 refine Cf Go.Proofs.Tryz.func93 fun K=> ?_
 refine Z1 ?_
 refine Lx fun g1=> ?_
 refine Z2 ?_
 have ⟨m,C,y⟩:=bnd H
 refine Tj (η:=bO×((Option Addr×Nat))) (fun h=>m = .inl h.1) (fun _=>[]) [0] (fun h=>(fun e=>(fun i j=>[Ch.arr aC 107 i j e.to.rows,Ch.mp aC true M0 e.rows,Ch.box N0 164 (CG e i j A1 C1 M0)]) h.2.1 h.2.2) h.1) [0] (fun h=>(fun e=>(fun i j=>[Im.sl aD A1 C1 e.to.begun]) h.2.1 h.2.2) h.1) ?_ ?_
 ·refine Yl0 ?_
  refine Tq (η:=(Option Addr×Nat)) (fun b h=>(fun c d=>[(15,.int .i64 b.2)]) h.1 h.2) [0,3,14] (fun b h=>(fun c d=>[Ch.arr aC 107 c d b.1.to.rows,Ch.mp aC true M0 b.1.rows,Ch.box N0 164 (CG b.1 c d A1 C1 M0)]) h.1 h.2) [0] (fun b h=>(fun c d=>[Im.sl aD A1 C1 b.1.to.begun]) h.1 h.2) (A0,C0) [2,2,1,0] [0] C ?_
  rintro k_ b ⟨c,d⟩ F I J z
  refine Y2 ?_
  refine Tb I (fun n=> ?_) fun n=> ?_
  ·refine Z1 ?_
   refine Zl ?_
   refine Z2 ?_
   have ⟨ak,M,N⟩:=bnd n
   refine Lk [] [2,3] (tV M) fun ⟨O,P⟩=> ?_
   refine Z0 ?_
   refine Ll fun al=> ?_
   refine Lt 0 ?_
   refine Z1 ?_
   refine La [2] [] (Ac.ml (ty:=aC) (ag:=true) (vv:=(fun h:(Option Addr×Nat)=>(fun o q=> .agg #[.slice o ((mgd b.1.rows b.2 (aE.mk ([]:List aG) false)).cells).length q,.bool ((mgd b.1.rows b.2 (aE.mk ([]:List aG) false)).wrapped)]) h.1 h.2)) b.2 (aE.mk ([]:List aG) false) (none,0) rfl rfl rfl rfl rfl rfl rfl rfl rfl (fun _ _ f hf=>by rw [List.mem_singleton.1 hf]; exact Im.ib _ _) L3 (fun _=>rfl)) ?_
   rintro ⟨o,q⟩
   refine Z0 ?_
   refine Ll fun Q=> ?_
   refine Lt 0 ?_
   refine Y1 ?_
   have ⟨A,R,B⟩:=bnd N
   refine Tj (η:=aE×((Option Addr×Nat))) (fun h=>A = .inl h.1) (fun _=>[]) [0,3,8,14,15] (fun h=>(fun g=>(fun k l=>[Ch.box Q 107 [.slice k g.cells.length l,.bool g.wrapped]]) h.2.1 h.2.2) h.1) [2,4,5,1,3] (fun h=>(fun g=>(fun k l=>[Im.sl aO k l g.cells]) h.2.1 h.2.2) h.1) ?_ ?_
   ·refine Zl ?_
    refine Y2 ?_
    have ⟨S,U,V⟩:=bnd R
    refine Tj0 [(33,.bool S)] [0,3,6,7,8,9,14,15] [] [0,2,4,5,1,3] ?_ ?_
    ·refine Z0 ?_
     refine Lw 35 U (fun s=> ?_) fun s=> ?_
     ·refine Z0 ?_
      refine Lw 38 s (fun t=> ?_) fun t=> ?_
      ·refine Z0 ?_
       have ⟨am,W,X⟩:=bnd t
       refine Lk [] [1,0] (pc W) fun ⟨⟩=> ?_
       refine Z0 ?_
       cases X
       exact Eg0 [0,1,2,2,0,0] 0
      refine Z0 ?_
      cases t
      exact Eg0 [0,1,2,2,0,0] 0
     refine Z0 ?_
     cases s
     exact Eg0 [0,1,2,2,0,0] 0
    have ⟨Y,Z,aa⟩:=bnd V
    refine Tj0 [(33,.bool Y)] [0,3,6,8,9,14,15] [] [0,1,2,3,4,5] ?_ ?_
    ·refine Tb Z (fun u=> ?_) fun u=> ?_
     ·refine Z0 ?_
      cases u
      exact Eg0 [0,0,0,0,0,0] 0
     refine Z0 ?_
     refine Lw 45 u (fun v=> ?_) fun v=> ?_
     ·refine Z0 ?_
      cases v
      exact Eg0 [0,0,0,0,0,0] 0
     refine Z0 ?_
     cases v
     exact Eg0 [0,0,0,0,0,0] 0
    refine Tb aa (fun w=> ?_) fun w=> ?_
    ·refine Z1 ?_
     obtain ⟨an,hz,ab⟩:=dX w
     subst A
     obtain rfl:=(sm B).symm
     refine Z0 ?_
     obtain ⟨ao,hz,ac⟩:=fG ab
     subst F
     have hb:=z _ rfl
     subst m
     obtain rfl:=(sm y).symm
     refine Z0 ?_
     refine E.frz 5 rfl ?_
     cases ac
     exact Eo1 (c,d) [2,3] [0,3]
    refine Z1 ?_
    refine Tb w (fun x=> ?_) fun x=> ?_
    ·refine Z0 ?_
     refine Lt 0 ?_
     refine Z0 ?_
     cases x
     exact Eg (_,(O,P)) rfl [0,0,0,0,0,0] [1] 0
    refine Z0 ?_
    cases x
    exact Eg (_,(o,q)) rfl [0,0,0,0,0,0] [0] 0
   rintro ⟨g,⟨k,l⟩⟩ hy
   subst hy
   refine Td [12] [0,0,0,0,0] mo ?_
   refine Dq 0 ?_
   refine Dq 1 ?_
   refine Dq 2 ?_
   refine Dq 3 ?_
   refine Dq 4 ?_
   refine Db 5 2 ?_
   refine Db 6 0 ?_
   refine Da [] [0] rfl rfl (Ac.bs (ty:=aC) (xs:=[g]) (.cons (k,l) [0] rfl .nil) rfl rfl rfl rfl rfl rfl rfl) fun aq=> ?_
   refine D.frz 0 rfl ?_
   have ⟨_,ad,ae⟩:=bnd B
   refine Da [0] [0] rfl rfl (Ac.ap (ty:=aC) ad rfl rfl rfl rfl rfl rfl rfl) ?_
   rintro ⟨af,ah⟩
   refine Dq 9 ?_
   refine Dq 10 ?_
   refine Dq 11 ?_
   refine Dt 2 ?_
   refine Dn ?_
   refine Z0 ?_
   cases ae
   exact Eg (_,(af,ah)) (J _ rfl) [5,4,0,2] [4] 5
  refine Z0 ?_
  cases n
  have hb:=z _ rfl
  subst m
  exact Eg (_,(c,d)) rfl [0,0,0,0] [0] 1
 rintro ⟨e,⟨i,j⟩⟩ hy
 subst hy
 refine Z1 ?_
 refine L.frz 0 rfl ?_
 have ⟨ar,ai,aj⟩:=bnd y
 refine Lk [] [0,1] (xc ai) fun ⟨⟩=> ?_
 refine Z0 ?_
 cases aj
 exact Eo1 (i,j) [1,0] [0,1]
theorem zl {a:aI} {s_:ByteArray} {r:aI×Int} (H:lF a s_=some r):CT G 42 [.agg (kZ a A0 C0 A1 C1).toArray,.string s_] [] [Im.sl aC A0 C0 a.rows,Im.sl aD A1 C1 a.begun,Im.sl (Ty.int .u32) (some ⟨2,0,none⟩) 16 cV] (fun h:(Option Addr×Nat)×(Option Addr×Nat)=> .tuple #[.agg (kZ r.1 h.1.1 h.1.2 h.2.1 h.2.2).toArray,.int .i64 r.2]) (fun h=>[]) (fun h=>[Im.sl aC h.1.1 h.1.2 r.1.rows,Im.sl aD h.2.1 h.2.2 r.1.begun]):=by
 delta lF at H
 refine Cf Go.Proofs.Tryz.func42 fun K=> ?_
 refine Z1 ?_
 refine Lx fun g1=> ?_
 refine Ll fun g2=> ?_
 refine Z2 ?_
 have ⟨r3,h4,H5⟩:=bnd H
 refine Lk [] [0,1] (lN h4) fun ⟨⟩=> ?_
 refine Z0 ?_
 refine Tb H5 (fun H7=> ?_) fun H7=> ?_
 ·refine Z1 ?_
  refine Lt 0 ?_
  refine Z0 ?_
  refine E.jr [Im.sl aC none 0 []] (fun A w _ _ f hf=>by rw [List.mem_singleton.1 hf]; exact Im.ib A w) ?_
  refine E.jr [Im.sl aD none 0 []] (fun A w _ _ f hf=>by rw [List.mem_singleton.1 hf]; exact Im.ib A w) ?_
  cases H7
  exact Eo ((none,0),(none,0)) [] [1,0] (.cell 0 rfl rfl rfl (.tmp rfl .nil))
 refine Z1 ?_
 have ⟨t,e,g⟩:=bnd H7
 refine Lk [] [] (Bq e) fun ⟨⟨u,v⟩,x⟩=> ?_
 refine Z0 ?_
 refine Ll fun y=> ?_
 refine Lt 0 ?_
 refine Z1 ?_
 refine Zl ?_
 refine Z1 ?_
 refine Tb g (fun b=> ?_) fun b=> ?_
 ·refine Z1 ?_
  refine Lt 2 ?_
  refine Z0 ?_
  refine E.jr [Im.sl aC none 0 []] (fun A w _ _ f hf=>by rw [List.mem_singleton.1 hf]; exact Im.ib A w) ?_
  refine E.jr [Im.sl aD none 0 []] (fun A w _ _ f hf=>by rw [List.mem_singleton.1 hf]; exact Im.ib A w) ?_
  cases b
  exact Eo ((none,0),(none,0)) [] [1,0] (.cell 0 rfl rfl rfl (.tmp rfl .nil))
 refine Y1 ?_
 refine Td [] [0,0,0,0] mo ?_
 refine Dq 0 ?_
 refine Db 1 0 ?_
 refine Db 2 3 ?_
 have ⟨z,i,j⟩:=bnd b
 refine Dk [] [2,3,4] (rq i) fun ⟨⟩=> ?_
 refine Dq 4 ?_
 refine Dq 5 ?_
 refine Dn ?_
 refine Z0 ?_
 refine Tb j (fun c=> ?_) fun c=> ?_
 ·refine Z1 ?_
  refine Lt 2 ?_
  refine Z0 ?_
  refine E.jr [Im.sl aC none 0 []] (fun A w _ _ f hf=>by rw [List.mem_singleton.1 hf]; exact Im.ib A w) ?_
  refine E.jr [Im.sl aD none 0 []] (fun A w _ _ f hf=>by rw [List.mem_singleton.1 hf]; exact Im.ib A w) ?_
  cases c
  exact Eo ((none,0),(none,0)) [] [1,0] (.cell 0 rfl rfl rfl (.tmp rfl .nil))
 refine Z1 ?_
 refine L.MO 0 107 rfl ?_
 have ⟨B,k,l⟩:=bnd c
 refine Lk [1,0,0] [1,2,3] (tI k) fun ⟨C,F⟩=> ?_
 refine Z0 ?_
 refine Tb l (fun d=> ?_) fun d=> ?_
 ·refine Z1 ?_
  refine Lt 2 ?_
  refine Z0 ?_
  refine E.jr [Im.sl aC none 0 []] (fun A w _ _ f hf=>by rw [List.mem_singleton.1 hf]; exact Im.ib A w) ?_
  refine E.jr [Im.sl aD none 0 []] (fun A w _ _ f hf=>by rw [List.mem_singleton.1 hf]; exact Im.ib A w) ?_
  cases d
  exact Eo ((none,0),(none,0)) [] [1,0] (.cell 0 rfl rfl rfl (.tmp rfl .nil))
 refine Z1 ?_
 have ⟨I,m,n⟩:=bnd d
 refine Lk [] [0,1] (nA m) fun ⟨⟨o,p⟩,⟨q,s⟩⟩=> ?_
 refine Lt 2 ?_
 refine Z0 ?_
 cases n
 exact Eo ((o,p),(q,s)) [] [0,1] (.cell 0 rfl rfl rfl (.tmp rfl .nil))
theorem mO {t_:bB} {g:eR} {r:Int×bB} (H:cW t_ g=some r):CT G 15 [.pointer (some ⟨N0,0,none⟩),.agg (Ek g A2 C2).toArray] [Ch.box N0 65 (rD t_ N1 A0 C0 A1 C1),Ch.box N1 86 (kB t_.slot M0),Ch.mp Ty.str false M0 t_.slot.parts] [Im.sl aC A0 C0 t_.cN.rows,Im.sl aD A1 C1 t_.cN.begun,Im.sl (Ty.int .i64) A2 C2 g.bH,Im.sl (Ty.int .u32) (some ⟨2,0,none⟩) 16 cV] (fun h:Option Nat×(Option Addr×Nat)×(Option Addr×Nat)=> .int .i64 r.1) (fun h=>[Ch.box N0 65 (rD r.2 N1 h.2.1.1 h.2.1.2 h.2.2.1 h.2.2.2),Ch.box N1 86 (kB r.2.slot h.1),Ch.mp Ty.str false h.1 r.2.slot.parts]) (fun h=>[Im.sl aC h.2.1.1 h.2.1.2 r.2.cN.rows,Im.sl aD h.2.2.1 h.2.2.2 r.2.cN.begun]):=by
 delta cW at H
 refine Cf Go.Proofs.Tryz.func15 fun K=> ?_
 refine Z1 ?_
 refine Lx fun g1=> ?_
 refine Z2 ?_
 have ⟨r2,h3,H4⟩:=bnd H
 refine Lk [1,1,1] [0,1,2] (tG h3) fun v5=> ?_
 refine Z1 ?_
 refine Tb H4 (fun l=> ?_) fun l=> ?_
 ·refine Z1 ?_
  cases l
  exact Eo1 (v5,(A0,C0),(A1,C1)) [0,0,0] [0,1]
 refine Z1 ?_
 have ⟨ae,x,y⟩:=bnd l
 refine Lk [1,1] [] (uD x) fun ⟨⟩=> ?_
 refine Z2 ?_
 refine Tb y (fun m=> ?_) fun m=> ?_
 ·refine Z1 ?_
  cases m
  exact Eo1 (v5,(A0,C0),(A1,C1)) [2,0,0] [0,1]
 refine Z1 ?_
 have ⟨af,z,B⟩:=bnd m
 refine Lk [0,0] [] (tH z) fun C=> ?_
 refine Z1 ?_
 refine Ll fun F=> ?_
 refine Z2 ?_
 have ⟨ag,n,I⟩:=bnd B
 refine L.addr 4 rfl (cL n) fun ah ai J=> ?_
 subst J
 refine Ly (Yl.ia n rfl rfl rfl rfl rfl rfl) ?_
 refine L.el 4 rfl (aU n).2 ?_
 rintro _
 refine Lc 0 0 ?_
 refine Z0 ?_
 have ⟨o,M,N⟩:=bnd I
 refine Tjh (η:=(Option Addr×Nat)×(Option Addr×Nat)) (fun _=>[]) [0,3,6,8] (fun h=>(fun e i j k=>[Ch.box F 42 (kZ o e i j k)]) h.1.1 h.1.2 h.2.1 h.2.2) [1,3,4,2] (fun h=>(fun e i j k=>[Im.sl aC e i o.rows,Im.sl aD j k o.begun]) h.1.1 h.1.2 h.2.1 h.2.2) ?_ ?_
 ·refine Tb M (fun p=> ?_) fun p=> ?_
  ·refine Z0 ?_
   refine Lt 0 ?_
   refine Z0 ?_
   cases p
   exact Eg ((A0,C0),(A1,C1)) trivial [0,0,1,1,0] [1,2] 0
  refine Z0 ?_
  refine E.jr [Im.sl aC none 0 []] (fun A w _ _ f hf=>by rw [List.mem_singleton.1 hf]; exact Im.ib A w) ?_
  refine E.jr [Im.sl aD none 0 []] (fun A w _ _ f hf=>by rw [List.mem_singleton.1 hf]; exact Im.ib A w) ?_
  cases p
  exact Eg ((none,0),(none,0)) trivial [0,0,1,1,0] [1,0] 2
 rintro ⟨⟨e,i⟩,⟨j,k⟩⟩
 refine Z1 ?_
 have ⟨aj,O,P⟩:=bnd N
 refine Lk [] [0,1,8] (zl O) fun ⟨⟨Q,R⟩,⟨S,U⟩⟩=> ?_
 refine Z0 ?_
 refine Ll fun ak=> ?_
 refine Lt 0 ?_
 refine Y2 ?_
 have ⟨V,W,X⟩:=bnd P
 refine Tj0 [(57,.bool V)] [0,9,10] [] [0,1,2,3,4,5] ?_ ?_
 ·refine Td [] [0,0,0,0,0,0] mo ?_
  refine Dq 0 ?_
  refine Dq 1 ?_
  refine Dq 2 ?_
  refine D.cs 49 W rfl (fun hc q=> ?_) (fun hc q=> ?_)
  ·refine Dq 3 ?_
   refine Db 4 0 ?_
   refine Dq 5 ?_
   refine Db 6 4 ?_
   have ⟨al,v,Y⟩:=bnd q
   refine Dy 7 (Yl.ia v rfl rfl rfl rfl rfl rfl) ?_
   refine D.el 9 rfl (aU v).2 ?_
   rintro _
   refine Dy 8 (Yl.ldc 0 0 rfl rfl rfl rfl) ?_
   refine Dq 9 ?_
   refine Dq 10 ?_
   refine Dn ?_
   cases Y
   exact Eg0 [0,0,0,0,0,0] 1
  refine Ds 3 ?_
  refine Ds 4 ?_
  refine Ds 5 ?_
  refine Ds 6 ?_
  refine Ds 7 ?_
  refine Ds 8 ?_
  refine Ds 9 ?_
  refine Dq 10 ?_
  refine Dn ?_
  cases q
  exact Eg0 [0,0,0,0,0,0] 0
 have ⟨Z,aa,ab⟩:=bnd X
 refine Tj0 [(10,.int .i64 Z)] [0,9] [] [0,1,2,3,4,5] ?_ ?_
 ·refine Tb aa (fun s=> ?_) fun s=> ?_
  ·refine Z0 ?_
   cases s
   exact Eg0 [0,0,0,0,0,0] 0
  refine Z0 ?_
  cases s
  exact Eg0 [0,0,0,0,0,0] 0
 refine Z2 ?_
 have ⟨t,ac,ad⟩:=bnd ab
 refine Tjh (η:=(Option Addr×Nat)×(Option Addr×Nat)) (fun _=>[]) [10] (fun h=>(fun a b c d=>[Ch.box N0 65 (rD t N1 a b c d)]) h.1.1 h.1.2 h.2.1 h.2.2) [0,1,2,4,5] (fun h=>(fun a b c d=>[Im.sl aC a b t.cN.rows,Im.sl aD c d t.cN.begun]) h.1.1 h.1.2 h.2.1 h.2.2) ?_ ?_
 ·refine Tb ac (fun u=> ?_) fun u=> ?_
  ·refine Z0 ?_
   refine Lt 3 ?_
   refine Z0 ?_
   cases u
   exact Eg ((Q,R),(S,U)) trivial [0,0,0,0,0,0] [0,1] 0
  refine Z0 ?_
  cases u
  exact Eg ((A0,C0),(A1,C1)) trivial [3,0,0,0,0,0] [5,6] 0
 rintro ⟨⟨a,b⟩,⟨c,d⟩⟩
 refine Z1 ?_
 cases ad
 exact Eo1 (C,(a,b),(c,d)) [0,2,3] [0,1]
theorem uE {s_:cG} {r:Int} (H:lb s_=some r):CT G 43 [.pointer (some ⟨N0,0,none⟩)] [Ch.box N0 86 (kB s_ M0),Ch.mp Ty.str false M0 s_.parts] [] (fun _:Unit=> .int .i64 r) (fun h=>[Ch.box N0 86 (kB s_ M0),Ch.mp Ty.str false M0 s_.parts]) (fun h=>[]):=by
 delta lb at H
 refine Cf Go.Proofs.Tryz.func43 fun K=> ?_
 refine Z2 ?_
 cases H
 exact Eo1 () [0,0] []
theorem pg {s_:cG} {there:Bool} {r:(List Int)} (H:gC s_ there=some r):CT G 54 [.pointer (some ⟨N0,0,none⟩),.bool there] [Ch.box N0 86 (kB s_ M0),Ch.mp Ty.str false M0 s_.parts] [] (fun h:(Option Addr×Nat)=> .slice h.1 r.length h.2) (fun h=>[Ch.arr (Ty.int .i64) 3 h.1 h.2 r,Ch.box N0 86 (kB s_ M0),Ch.mp Ty.str false M0 s_.parts]) (fun h=>[]):=by
 delta gC at H
 refine Cf Go.Proofs.Tryz.func54 fun K=> ?_
 refine T.xX ?_
 refine Z1 ?_
 refine Lx fun g1=> ?_
 refine Z1 ?_
 refine Ll fun g2=> ?_
 refine Z2 ?_
 refine Yl0 ?_
 refine T.iw (Ty.int .i64) 3 ?_
 have ⟨f,g,i⟩:=bnd H
 refine T.rf3 (σ:=(List Int)) (η:=(Option Addr×Nat)) (X:=Int×Bool) (θ:=Unit) (τ:=(Option Addr×Nat)) (s1:=f) (hx:=fun x=>x) (fun x t=>[.int .i64 x.1,.bool x.2]) (fun x t=>[]) (fun _=>none) [Ch.box N0 86 (kB s_ M0),Ch.mp Ty.str false M0 s_.parts] (fun c h=>(fun a b=>[Ch.arr (Ty.int .i64) 3 a b c,Ch.box g2 23 [.slice a c.length b],Ch.box g1 4 [.bool there]]) h.1 h.2) (fun c h=>(fun a b=>[]) h.1 h.2) 3 [0,0,0,0,0] [] [] rfl rfl (fun _ _=>rfl) rfl (fun yl C hY=>(pH N0 M0 hY (none,0) g:_)) (fun _ _ _ _=>rfl) rfl rfl rfl rfl rfl ?_ rfl ?_
 ·rintro yl K2 c ⟨a,b⟩ x3 ⟨⟩ o j
  refine Z1 ?_
  refine E.begin fun K3=> ?_
  refine Zl ?_
  refine Z1 ?_
  refine Tb j (fun d=> ?_) fun d=> ?_
  ·refine Z0 ?_
   refine La [] [] (Ac.bs (ty:=(Ty.int .i64)) (xs:=[x3.1]) (.cons () [] rfl .nil) rfl rfl rfl rfl rfl rfl rfl) fun p=> ?_
   refine L.frz 0 rfl ?_
   have ⟨_,k,l⟩:=bnd d
   refine La [0] [0] (Ac.ap (ty:=(Ty.int .i64)) k rfl rfl rfl rfl rfl rfl rfl) ?_
   rintro ⟨m,n⟩
   refine Lt 1 ?_
   refine Z0 ?_
   cases l
   exact E.on (m,n) [1,0,0,0,0] [] rfl rfl rfl rfl
  refine Z0 ?_
  cases d
  exact E.on (a,b) [0,0,0,0,0] [] rfl rfl rfl rfl
 rintro e q
 refine Z1 ?_
 cases i
 exact E.uI (e.1,e.2) 0 [0,2,2] [] rfl (.tmp rfl .nil) rfl rfl rfl
theorem vy {s_:cG} {r:(List Int)} (H:ki s_=some r):CT G 44 [.pointer (some ⟨N0,0,none⟩)] [Ch.box N0 86 (kB s_ M0),Ch.mp Ty.str false M0 s_.parts] [] (fun h:(Option Addr×Nat)=> .slice h.1 r.length h.2) (fun h=>[Ch.arr (Ty.int .i64) 3 h.1 h.2 r,Ch.box N0 86 (kB s_ M0),Ch.mp Ty.str false M0 s_.parts]) (fun h=>[]):=by
 delta ki at H
 refine Cf Go.Proofs.Tryz.func44 fun K=> ?_
 refine Z2 ?_
 have ⟨r1,h2,H3⟩:=bnd H
 refine Lk [0,0] [] (pg h2) fun ⟨a4,c5⟩=> ?_
 refine Z0 ?_
 cases H3
 exact Eo1 (a4,c5) [0,0,0] []
theorem wJ {s_:cG} {r:Int} (H:nM s_=some r):CT G 45 [.pointer (some ⟨N0,0,none⟩)] [Ch.box N0 86 (kB s_ M0),Ch.mp Ty.str false M0 s_.parts] [] (fun _:Unit=> .int .i64 r) (fun h=>[Ch.box N0 86 (kB s_ M0),Ch.mp Ty.str false M0 s_.parts]) (fun h=>[]):=by
 delta nM at H
 refine Cf Go.Proofs.Tryz.func45 fun K=> ?_
 refine Z2 ?_
 cases H
 exact Eo1 () [0,0] []
theorem vz {t_:bB} {r:eR} (H:kj t_=some r):CT G 16 [.pointer (some ⟨N0,0,none⟩)] [Ch.box N0 65 (rD t_ N1 A0 C0 A1 C1),Ch.box N1 86 (kB t_.slot M0),Ch.mp Ty.str false M0 t_.slot.parts] [Im.sl aC A0 C0 t_.cN.rows,Im.sl aD A1 C1 t_.cN.begun] (fun h:(Option Addr×Nat)=> .agg (Ek r h.1 h.2).toArray) (fun h=>[Ch.box N0 65 (rD t_ N1 A0 C0 A1 C1),Ch.box N1 86 (kB t_.slot M0),Ch.mp Ty.str false M0 t_.slot.parts]) (fun h=>[Im.sl (Ty.int .i64) h.1 h.2 r.bH]):=by
 delta kj at H
 refine Cf Go.Proofs.Tryz.func16 fun K=> ?_
 refine Z1 ?_
 refine Ll fun g1=> ?_
 refine Z1 ?_
 have ⟨r2,h3,H4⟩:=bnd H
 refine Lk [2,2] [] (uE h3) fun ⟨⟩=> ?_
 refine Z0 ?_
 have ⟨_,h5,H6⟩:=bnd H4
 refine La [] [] (Ac.mk (ty:=(Ty.int .u8)) 0 () h5 (fun _ _ f hf=>by cases hf) rfl rfl rfl rfl rfl rfl rfl) fun g7=> ?_
 refine Z2 ?_
 have ⟨r9,s,t⟩:=bnd H6
 refine Lk [1,1] [] (vy s) fun ⟨U,V⟩=> ?_
 refine Z0 ?_
 have ⟨j,u,w⟩:=bnd t
 refine Tjh (η:=(Option Addr×Nat)) (fun h=>(fun g i=>[(3,.slice g j.length i)]) h.1 h.2) [0,2] (fun h=>(fun g i=>[Ch.arr (Ty.int .u8) 5 g i j]) h.1 h.2) [1,4,5,2] (fun _=>[]) ?_ ?_
 ·refine Yl0 ?_
  refine Tq (η:=(Option Addr×Nat)) (fun b h=>(fun d c=>[(3,.slice d b.2.length c),(21,.int .i64 b.1)]) h.1 h.2) [0,2,19,20] (fun b h=>(fun d c=>[Ch.arr (Ty.int .u8) 5 d c b.2]) h.1 h.2) [1,4,5,0,2] (fun _ _=>[]) ((some ⟨g7,0,none⟩),(IntKind.i64.wrap ((IntKind.i64.wrap ((IntKind.i64.wrap (r2+8)) - 1)).tdiv 8)).toNat) [3,1,2,2,0,0] [] u ?_
  rintro k_ b ⟨d,c⟩ W x z A
  refine Y2 ?_
  refine Tb x (fun l=> ?_) fun l=> ?_
  ·refine Z1 ?_
   refine Zl ?_
   refine Z1 ?_
   have ⟨e,m,B⟩:=bnd l
   refine L.lQ 4 rfl (cL m) fun X C=> ?_
   subst C
   refine Ly (Yl.ia m rfl rfl rfl rfl rfl rfl) ?_
   refine Ly (Yl.lo (v:= .int .i64 e) 4 b.1.toNat 0 (aU m).2 rfl rfl rfl rfl (fun _=>rfl)) ?_
   refine Z0 ?_
   refine Td [10] [0,0,0,0,0,0] mo ?_
   refine Dq 0 ?_
   refine Dq 1 ?_
   refine Dq 2 ?_
   have ⟨n,o,F⟩:=bnd B
   refine D.lQ 0 rfl (cL o) fun I J=> ?_
   subst J
   refine Dy 3 (Yl.ia o rfl rfl rfl rfl rfl rfl) ?_
   refine Dy 4 (Yl.lo (v:= .int .u8 n) 0 ((IntKind.i64.wrap (e.tdiv 8)).toNat) 0 (aU o).2 rfl rfl rfl rfl (fun _=>rfl)) ?_
   refine Dq 5 ?_
   refine Dq 6 ?_
   have ⟨_,M,N⟩:=bnd F
   refine Dy 7 (Yl.shl (nb:=8) rfl M rfl rfl rfl) ?_
   refine Dq 8 ?_
   have ⟨Y,p,O⟩:=bnd N
   refine Dy 9 (Yl.ia p rfl rfl rfl rfl rfl rfl) ?_
   refine D.one rfl rfl rfl (Dp.al [0] [] (Ac.se 0 (Go.bits .or .u8 n (IntKind.u8.wrap (1*2 ^ (min (e.tmod 8).toNat 8)))) (aU p).2 rfl rfl rfl rfl rfl rfl (fun _=>⟨(),rfl,[],rfl⟩)) rfl rfl rfl rfl rfl rfl rfl ?_)
   intro _
   refine Dn ?_
   refine E.sl 3 (k':=(b.2.set ((IntKind.i64.wrap (e.tdiv 8)).toNat) (Go.bits .or .u8 n (IntKind.u8.wrap (1*2 ^ (min (e.tmod 8).toNat 8))))).length) (List.length_set ..) rfl ?_
   refine Z0 ?_
   cases O
   exact Eg (_,((some ⟨I,0,none⟩),c)) (z _ rfl) [0,0,0,0,0,0] [] 0
  refine Z0 ?_
  cases l
  have hb:=A _ rfl
  subst j
  exact Eg (d,c) trivial [0,0,0,0,1] [] 0
 rintro ⟨g,i⟩
 refine Y1 ?_
 refine Td [14] [0,1,1] mo ?_
 refine Dq 0 ?_
 refine Dq 1 ?_
 refine Dq 2 ?_
 refine Dq 3 ?_
 refine Db 4 2 ?_
 refine Dq 5 ?_
 refine Dq 6 ?_
 refine Dq 7 ?_
 refine Db 8 2 ?_
 refine Dq 11 ?_
 refine DF.of rfl ?_
 refine DF.add _ (FSp.y 12 (Yl.bs 0 rfl rfl rfl rfl rfl rfl rfl rfl rfl) rfl rfl rfl rfl) rfl ?_
 refine DF.step 9 rfl rfl rfl rfl rfl ?_
 have ⟨P,Q,R⟩:=bnd w
 refine DFp.a [0,0] [] (Ac.call (wJ Q) rfl rfl rfl rfl) rfl rfl rfl rfl rfl rfl rfl rfl ?_
 rintro ⟨⟩
 refine DF.step 10 rfl rfl rfl rfl rfl ?_
 refine DFp.a [] [] (Ac.bs (ty:=(Ty.int .i64)) (xs:=[t_.cN.k,P]) (.cons () [] rfl (.cons () [] rfl .nil)) rfl rfl rfl rfl rfl rfl rfl) rfl rfl rfl rfl rfl rfl rfl rfl ?_
 intro S
 refine DF.step 13 rfl rfl rfl rfl rfl ?_
 refine DFp.use 0 rfl rfl rfl ?_
 intro _
 refine DFp.a [] [] (Ac.q rfl) rfl rfl rfl rfl rfl rfl rfl rfl ?_
 intro _
 refine DF.step 14 rfl rfl rfl rfl rfl ?_
 refine DFp.al [1] [] (Ac.stb rfl rfl rfl rfl rfl rfl) rfl rfl rfl rfl rfl rfl rfl ?_
 intro _
 refine DF.fin rfl rfl rfl rfl rfl ?_
 refine DFe.nil ?_
 refine Z0 ?_
 refine E.frz 3 rfl ?_
 cases R
 exact Eo ((some ⟨S,0,none⟩),2) [2,2,2] [0] (.cell 0 rfl rfl rfl .nil)
theorem zm {n_:Int} {lo:Int} {hi:Int} {r:Bool} (H:pI n_ lo hi=some r):CT G 50 [.int .i64 n_,.int .i64 lo,.int .i64 hi] [] [] (fun _:Unit=> .bool r) (fun h=>[]) (fun h=>[]):=by
 delta pI at H
 refine Cf Go.Proofs.Tryz.func50 fun K=> ?_
 refine Y2 ?_
 have ⟨e4,H5,H6⟩:=bnd H
 refine Tj0 [(6,.bool e4)] [] [] [] ?_ ?_
 ·refine Z0 ?_
  refine Lw 10 H5 (fun H7=> ?_) fun H7=> ?_
  ·refine Z0 ?_
   cases H7
   exact Eg0 [] 0
  refine Z0 ?_
  cases H7
  exact Eg0 [] 0
 refine Z0 ?_
 cases H6
 exact Eo1 () [] []
theorem xo {g:eR} {i:Int} {r:Int} (H:om g i=some r):CT G 18 [.agg (Ek g A0 C0).toArray,.int .i64 i] [] [Im.sl (Ty.int .i64) A0 C0 g.bH] (fun _:Unit=> .int .i64 r) (fun h=>[]) (fun h=>[]):=by
 delta om at H
 refine Cf Go.Proofs.Tryz.func18 fun K=> ?_
 refine Z1 ?_
 refine Lx fun g1=> ?_
 refine Z2 ?_
 have ⟨r2,h3,H4⟩:=bnd H
 refine Lk [] [] (zm h3) fun ⟨⟩=> ?_
 refine Z0 ?_
 refine Tb H4 (fun H6=> ?_) fun H6=> ?_
 ·refine Z1 ?_
  cases H6
  exact Eo1 () [] []
 refine Z1 ?_
 have ⟨x7,h8,H9⟩:=bnd H6
 refine L.addr 0 rfl (cL h8) fun b c a=> ?_
 subst a
 refine Ly (Yl.ia h8 rfl rfl rfl rfl rfl rfl) ?_
 refine L.el 0 rfl (aU h8).2 ?_
 rintro _
 refine Lc 0 0 ?_
 refine Z0 ?_
 cases H9
 exact Eo1 () [] []
end Go.Tw.X
set_option maxHeartbeats 2000000
set_option linter.unusedVariables false
set_option linter.unusedSimpArgs false
set_option maxRecDepth 10000
namespace Go.Tw.X
open Go Go.Tw
variable {A0 A1 A2 A3 A4 A5 A6 A7 A8 : Option Addr} {C0 C1 C2 C3 C4 C5 C6 C7 C8 : Nat}
variable {N0 N1 N2 N3 N4 : Nat}
variable {M0 : Option Nat}
theorem ph {t_:bB} {r:aI} (H:iB t_=some r):CT G 19 [.pointer (some ⟨N0,0,none⟩)] [Ch.box N0 65 (rD t_ N1 A0 C0 A1 C1),Ch.box N1 86 (kB t_.slot M0),Ch.mp Ty.str false M0 t_.slot.parts] [Im.sl aC A0 C0 t_.cN.rows,Im.sl aD A1 C1 t_.cN.begun] (fun h:(Option Addr×Nat)×(Option Addr×Nat)=> .agg (kZ r h.1.1 h.1.2 h.2.1 h.2.2).toArray) (fun h=>[Ch.box N0 65 (rD t_ N1 A0 C0 A1 C1),Ch.box N1 86 (kB t_.slot M0),Ch.mp Ty.str false M0 t_.slot.parts]) (fun h=>[Im.sl aC h.1.1 h.1.2 r.rows,Im.sl aD h.2.1 h.2.2 r.begun]):=by
 delta iB at H
 refine Cf Go.Proofs.Tryz.func19 fun K=> ?_
 refine Z1 ?_
 refine Ll fun g1=> ?_
 refine Z1 ?_
 have ⟨r2,h3,H4⟩:=bnd H
 refine Lk [] [0,1] (nA h3) fun ⟨⟨a5,c6⟩,⟨a7,c8⟩⟩=> ?_
 refine Lt 0 ?_
 refine Z0 ?_
 cases H4
 exact Eo ((a5,c6),(a7,c8)) [1,1,1] [0,1] (.cell 0 rfl rfl rfl .nil)
theorem mF {s1_:List aE} {s2_:List aE} {r:Bool} (H:dI s1_ s2_=some r):CT G 51 [.slice A0 s1_.length C0,.slice A1 s2_.length C1,.func (.func 52) #[] #[]] [] [Im.sl aC A0 C0 s1_,Im.sl aC A1 C1 s2_] (fun _:Unit=> .bool r) (fun h=>[]) (fun h=>[]):=by
 delta dI at H
 refine Cf Go.Proofs.Tryz.func51 fun K=> ?_
 refine Z3 ?_
 refine Tb H (fun H2=> ?_) fun H2=> ?_
 ·refine Z1 ?_
  cases H2
  exact Eo1 () [] []
 refine Z2 ?_
 have ⟨a,j,f⟩:=bnd H2
 refine Tj (η:=Unit×Unit) (fun h=>a = .inl h.1) (fun _=>[]) [] (fun _=>[]) [] (fun _=>[]) ?_ ?_
 ·refine Yl0 ?_
  refine Tq (η:=Unit) (fun g h=>[(17,.int .i64 g)]) [1,2,15,16] (fun _ _=>[]) [] (fun _ _=>[]) () [] [] j ?_
  rintro k_ g ⟨⟩ k l m i
  refine Y2 ?_
  refine Tb l (fun b=> ?_) fun b=> ?_
  ·refine Z1 ?_
   refine Zl ?_
   refine Z1 ?_
   have ⟨v,c,n⟩:=bnd b
   refine L.addr 0 rfl (cL c) fun w x o=> ?_
   subst o
   refine Ly (Yl.ia c rfl rfl rfl rfl rfl rfl) ?_
   refine L.el 0 rfl (aU c).2 ?_
   rintro ⟨y,z⟩
   refine Lc 0 0 ?_
   refine Ll fun A=> ?_
   refine Z0 ?_
   refine Lt 0 ?_
   refine Z1 ?_
   have ⟨B,d,p⟩:=bnd n
   refine L.addr 3 rfl (cL d) fun C F q=> ?_
   subst q
   refine Ly (Yl.ia d rfl rfl rfl rfl rfl rfl) ?_
   refine L.el 3 rfl (aU d).2 ?_
   rintro ⟨I,J⟩
   refine Lc 0 0 ?_
   refine Ll fun M=> ?_
   refine Lt 0 ?_
   refine Z1 ?_
   have ⟨N,s,t⟩:=bnd p
   refine Lk [] [3,1] (pc s) fun ⟨⟩=> ?_
   refine Z0 ?_
   refine Tb t (fun e=> ?_) fun e=> ?_
   ·refine Z1 ?_
    obtain ⟨O,hz,u⟩:=fG e
    subst k
    have hb:=i _ rfl
    subst a
    obtain rfl:=(sm f).symm
    refine Z0 ?_
    cases u
    exact Eo1 () [] []
   refine Z0 ?_
   cases e
   exact Eg (_,()) (m _ rfl) [] [] 4
  refine Z0 ?_
  cases b
  have hb:=i _ rfl
  subst a
  exact Eg (_,()) rfl [] [] 0
 rintro ⟨P,⟨⟩⟩ hy
 subst hy
 refine Z1 ?_
 cases f
 exact Eo1 () [] []
theorem pN {s1_:List aJ} {s2_:List aJ} {r:Bool} (H:gp s1_ s2_=some r):CT G 53 [.slice A0 s1_.length C0,.slice A1 s2_.length C1] [] [Im.sl aD A0 C0 s1_,Im.sl aD A1 C1 s2_] (fun _:Unit=> .bool r) (fun h=>[]) (fun h=>[]):=by
 delta gp at H
 refine Cf Go.Proofs.Tryz.func53 fun K=> ?_
 refine Z3 ?_
 refine Tb H (fun H2=> ?_) fun H2=> ?_
 ·refine Z1 ?_
  cases H2
  exact Eo1 () [] []
 refine Z2 ?_
 have ⟨a,j,f⟩:=bnd H2
 refine Tj (η:=Unit×Unit) (fun h=>a = .inl h.1) (fun _=>[]) [] (fun _=>[]) [] (fun _=>[]) ?_ ?_
 ·refine Yl0 ?_
  refine Tq (η:=Unit) (fun g h=>[(13,.int .i64 g)]) [0,1,12] (fun _ _=>[]) [] (fun _ _=>[]) () [] [] j ?_
  rintro k_ g ⟨⟩ k l m i
  refine Y2 ?_
  refine Tb l (fun b=> ?_) fun b=> ?_
  ·refine Z1 ?_
   refine Zl ?_
   refine Y2 ?_
   refine Td [] [] mo ?_
   refine Dq 0 ?_
   refine Dq 1 ?_
   have ⟨t,c,n⟩:=bnd b
   refine D.addr 0 rfl (cL c) fun u v o=> ?_
   subst o
   refine Dy 2 (Yl.ia c rfl rfl rfl rfl rfl rfl) ?_
   refine D.el 0 rfl (aU c).2 ?_
   rintro _
   refine Dy 3 (Yl.ldc 0 0 rfl rfl rfl rfl) ?_
   refine Dq 4 ?_
   refine Dq 5 ?_
   have ⟨w,d,p⟩:=bnd n
   refine D.addr 2 rfl (cL d) fun x y q=> ?_
   subst q
   refine Dy 6 (Yl.ia d rfl rfl rfl rfl rfl rfl) ?_
   refine D.el 2 rfl (aU d).2 ?_
   rintro _
   refine Dy 7 (Yl.ldc 0 0 rfl rfl rfl rfl) ?_
   refine Dq 8 ?_
   refine Dn ?_
   refine Z0 ?_
   refine Tb p (fun e=> ?_) fun e=> ?_
   ·refine Z1 ?_
    obtain ⟨z,hz,s⟩:=fG e
    subst k
    have hb:=i _ rfl
    subst a
    obtain rfl:=(sm f).symm
    refine Z0 ?_
    cases s
    exact Eo1 () [] []
   refine Z0 ?_
   cases e
   exact Eg (_,()) (m _ rfl) [] [] 2
  refine Z0 ?_
  cases b
  have hb:=i _ rfl
  subst a
  exact Eg (_,()) rfl [] [] 0
 rintro ⟨A,⟨⟩⟩ hy
 subst hy
 refine Z1 ?_
 cases f
 exact Eo1 () [] []
theorem qz {s_:aI} {t_:aI} {r:Bool} (H:iA s_ t_=some r):CT G 20 [.agg (kZ s_ A0 C0 A1 C1).toArray,.agg (kZ t_ A2 C2 A3 C3).toArray] [] [Im.sl aC A0 C0 s_.rows,Im.sl aD A1 C1 s_.begun,Im.sl aC A2 C2 t_.rows,Im.sl aD A3 C3 t_.begun] (fun _:Unit=> .bool r) (fun h=>[]) (fun h=>[]):=by
 delta iA at H
 refine Cf Go.Proofs.Tryz.func20 fun K=> ?_
 refine Z1 ?_
 refine Lx fun g1=> ?_
 refine Lx fun g2=> ?_
 refine Y1 ?_
 have ⟨k,l,m⟩:=bnd H
 refine Tj0 [(4,.bool k)] [] [] [0,1] ?_ ?_
 ·refine Tra ?_
  refine Z0 ?_
  refine Lw 10 l (fun a=> ?_) fun a=> ?_
  ·refine Z0 ?_
   refine Lw 17 a (fun b=> ?_) fun b=> ?_
   ·refine Z0 ?_
    refine Lw 24 b (fun c=> ?_) fun c=> ?_
    ·refine Z0 ?_
     refine Lw 31 c (fun d=> ?_) fun d=> ?_
     ·refine Z0 ?_
      refine Lw 38 d (fun e=> ?_) fun e=> ?_
      ·refine Z0 ?_
       refine Lw 45 e (fun f=> ?_) fun f=> ?_
       ·refine Z0 ?_
        refine Lw 52 f (fun g=> ?_) fun g=> ?_
        ·refine Z0 ?_
         refine Lw 59 g (fun i=> ?_) fun i=> ?_
         ·refine Z0 ?_
          have ⟨s,n,o⟩:=bnd i
          refine Lk [] [0,2] (mF n) fun ⟨⟩=> ?_
          refine Z0 ?_
          refine Lw 66 o (fun j=> ?_) fun j=> ?_
          ·refine Z0 ?_
           have ⟨t,p,q⟩:=bnd j
           refine Lk [] [1,3] (pN p) fun ⟨⟩=> ?_
           refine Z0 ?_
           cases q
           exact Eg0 [0,0] 0
          refine Z0 ?_
          cases j
          exact Eg0 [0,0] 0
         refine Z0 ?_
         cases i
         exact Eg0 [0,0] 0
        refine Z0 ?_
        cases g
        exact Eg0 [0,0] 0
       refine Z0 ?_
       cases f
       exact Eg0 [0,0] 0
      refine Z0 ?_
      cases e
      exact Eg0 [0,0] 0
     refine Z0 ?_
     cases d
     exact Eg0 [0,0] 0
    refine Z0 ?_
    cases c
    exact Eg0 [0,0] 0
   refine Z0 ?_
   cases b
   exact Eg0 [0,0] 0
  refine Z0 ?_
  cases a
  exact Eg0 [0,0] 0
 refine Z0 ?_
 cases m
 exact Eo1 () [] []
theorem rz {t_:bB} {r:Int} (H:jc t_=some r):CT G 25 [.pointer (some ⟨N0,0,none⟩)] [Ch.box N0 65 (rD t_ N1 A0 C0 A1 C1),Ch.box N1 86 (kB t_.slot M0),Ch.mp Ty.str false M0 t_.slot.parts] [Im.sl aC A0 C0 t_.cN.rows,Im.sl aD A1 C1 t_.cN.begun] (fun _:Unit=> .int .i64 r) (fun h=>[Ch.box N0 65 (rD t_ N1 A0 C0 A1 C1),Ch.box N1 86 (kB t_.slot M0),Ch.mp Ty.str false M0 t_.slot.parts]) (fun h=>[]):=by
 delta jc at H
 refine Cf Go.Proofs.Tryz.func25 fun K=> ?_
 refine Z2 ?_
 cases H
 exact Eo1 () [0,0,0] []
theorem zo {r:Bool} (H:mr=some r):CT G 23 [] [] [Im.sl (Ty.int .u32) (some ⟨2,0,none⟩) 16 cV] (fun _:Unit=> .bool r) (fun h=>[]) (fun h=>[]):=by
 delta mr at H
 refine Cf Go.Proofs.Tryz.func23 fun K=> ?_
 refine Z2 ?_
 have ⟨r1,h2,H3⟩:=bnd H
 refine Lk [] [] (vi h2) fun ⟨g4,⟨a5,c6⟩,⟨a7,c8⟩,⟨a9,bo⟩,⟨bp,bq⟩,⟨br,bs⟩,⟨bt,bu⟩,⟨bv,bw⟩⟩=> ?_
 have ⟨bx,aa,ab⟩:=bnd H3
 refine Lk [] [] (w9 aa) fun ⟨A,k,ac,⟨ad,ae⟩,⟨af,ag⟩⟩=> ?_
 have ⟨bz,ah,ai⟩:=bnd ab
 refine Lk [] [] (w7 ah) fun ⟨aj,B,⟨C,F⟩,⟨I,J⟩,⟨M,N⟩,O,⟨P,Q⟩,⟨b0,b1⟩,R,S,⟨U,V⟩⟩=> ?_
 refine Z2 ?_
 refine Ly (Yl.pn rfl rfl rfl rfl rfl rfl) ?_
 refine Z0 ?_
 refine Ly (Yl.pn rfl rfl rfl rfl rfl rfl) ?_
 refine Z0 ?_
 refine Ly (Yl.pn rfl rfl rfl rfl rfl rfl) ?_
 refine Z0 ?_
 refine T.cond rfl (fun h=>nomatch h) (fun _=> ?_)
 refine Z1 ?_
 have ⟨b2,ak,al⟩:=bnd ai
 refine Lk [0,0,0,0,0,0,0,0,0,0] [] (jL ak) fun ⟨⟨b3,b4⟩,⟨b5,b6⟩,⟨b7,b8⟩⟩=> ?_
 have ⟨b9,am,an⟩:=bnd al
 refine Lk [13,13,13] [4,5,6,7,8,0,1] (oe am) fun ⟨⟨ca,cb⟩,⟨cc,cd⟩⟩=> ?_
 refine Z2 ?_
 have ⟨ce,ao,ap⟩:=bnd an
 refine Lk [0,0,0] [0,1,2,3,4,14] (og ao) fun ⟨⟨cf,cg⟩,⟨ch,ci⟩,⟨cj,ck⟩,⟨cl,cm⟩⟩=> ?_
 refine Z0 ?_
 have ⟨s,aq,W⟩:=bnd ap
 refine Tj (η:=bB×(Option Nat×(Option Addr×Nat)×(Option Addr×Nat))) (fun h=>s = .inl h.1) (fun _=>[]) [2,3] (fun h=>(fun c=>(fun m n o p q=>[Ch.mp Ty.str false m c.slot.parts,Ch.box A 65 (rD c k n o p q),Ch.box k 86 (kB c.slot m)]) h.2.1 h.2.2.1.1 h.2.2.1.2 h.2.2.2.1 h.2.2.2.2) h.1) [1,4,5,9,11,12,2,3,6,7,8,10,13] (fun h=>(fun c=>(fun m n o p q=>[Im.sl aC n o c.cN.rows,Im.sl aD p q c.cN.begun]) h.2.1 h.2.2.1.1 h.2.2.1.2 h.2.2.2.1 h.2.2.2.2) h.1) ?_ ?_
 ·refine Yl0 ?_
  refine Tq (η:=Option Nat×(Option Addr×Nat)×(Option Addr×Nat)) (fun b h=>(fun d e f i j=>[(27,.int .i64 b.2)]) h.1 h.2.1.1 h.2.1.2 h.2.2.1 h.2.2.2) [2,3,25,26] (fun b h=>(fun d e f i j=>[Ch.mp Ty.str false d b.1.slot.parts,Ch.box A 65 (rD b.1 k e f i j),Ch.box k 86 (kB b.1.slot d)]) h.1 h.2.1.1 h.2.1.2 h.2.2.1 h.2.2.2) [1,4,5,9,11,12,0,2,3,6,7,8,10,13] (fun b h=>(fun d e f i j=>[Im.sl aC e f b.1.cN.rows,Im.sl aD i j b.1.cN.begun]) h.1 h.2.1.1 h.2.1.2 h.2.2.1 h.2.2.2) (ac,(ad,ae),(af,ag)) [16,14,14,1,3,3,6,7,7,0,0,0,0,0,0,0,0] [12,13] aq ?_
  rintro k_ b ⟨d,⟨e,f⟩,⟨i,j⟩⟩ ar au av X
  refine Y2 ?_
  refine Tb au (fun t=> ?_) fun t=> ?_
  ·refine Z1 ?_
   refine Zl ?_
   refine Z1 ?_
   have ⟨aw,u,ax⟩:=bnd t
   refine L.lQ 9 rfl (cL u) fun cn ay=> ?_
   subst ay
   refine Ly (Yl.ia u rfl rfl rfl rfl rfl rfl) ?_
   refine La [9] [] (Ac.lo b.2.toNat 0 (v:=(fun h:(Option Addr×Nat)=>(fun Y Z=> .agg (Ek aw Y Z).toArray) h.1 h.2)) (aU u).2 rfl rfl rfl (fun _=>rfl)) ?_
   rintro ⟨Y,Z⟩
   refine Ll fun co=> ?_
   refine Lt 0 ?_
   refine Z1 ?_
   have ⟨cp,az,a0⟩:=bnd ax
   refine Lk [3,3,2] [1,2,0,22] (mO az) fun ⟨a1,⟨a2,a3⟩,⟨a4,a6⟩⟩=> ?_
   refine Z0 ?_
   refine Tb a0 (fun x=> ?_) fun x=> ?_
   ·refine Z1 ?_
    obtain ⟨cq,hz,a8⟩:=fG x
    subst ar
    have hb:=X _ rfl
    subst s
    obtain rfl:=(sm W).symm
    refine Z0 ?_
    cases a8
    exact Eo1 () [] []
   refine Z0 ?_
   cases x
   exact Eg (_,(a1,(a2,a3),(a4,a6))) (av _ rfl) [2,0,0,2,2,2,2,2,2,1,1,1,1,1,1,1,1] [0,1] 5
  refine Z0 ?_
  cases t
  have hb:=X _ rfl
  subst s
  exact Eg (_,(d,(e,f),(i,j))) rfl [0,0,0,0,0,0,0,0,0,1,1,1,1,1,1,1] [0,1] 2
 rintro ⟨c,⟨m,⟨n,o⟩,⟨p,q⟩⟩⟩ hy
 subst hy
 refine Y1 ?_
 have ⟨a,ba,bb⟩:=bnd W
 refine Tj0 [(0,.bool a.1)] [] [Ch.arr (Ty.slice aD) 40 C F a.2.book.l,Ch.arr (Ty.int .i64) 3 I J a.2.book.bP,Ch.arr aD 112 M N a.2.book.begun,Ch.opt (a.2.parser.state == (3:Int)) (Ty.int .i64) 3 P Q a.2.parser.order.bH,Ch.arr aC 107 U V a.2.aR.g.l,Ch.box aj 56 (pJ a.2 B O R),Ch.box B 115 [.slice C a.2.book.l.length F,.slice I a.2.book.bP.length J,.slice M a.2.book.begun.length N],Ch.box O 76 (kV a.2.parser P Q),Ch.box R 124 (cD a.2.aR S),Ch.box S 169 [.int .i64 a.2.aR.g.w,.slice U a.2.aR.g.l.length V]] [1,2,3,0,9,10] ?_ ?_
 ·refine Z0 ?_
  have ⟨cr,bc,bd⟩:=bnd ba
  refine Lk [1,1,0] [0,1] (rz bc) fun ⟨⟩=> ?_
  refine Z0 ?_
  refine Lw 39 bd (fun y=> ?_) fun y=> ?_
  ·refine Z0 ?_
   have ⟨cs,be,bf⟩:=bnd y
   refine Lk [0,0,0] [0,1] (ph be) fun ⟨⟨ct,cu⟩,⟨cv,cw⟩⟩=> ?_
   refine Z0 ?_
   have ⟨cx,bg,bh⟩:=bnd bf
   refine Lk [4,4,9,9,9,4,8,4,4,6] [] (jL bg) fun ⟨⟨cy,cz⟩,⟨c0,c1⟩,⟨c2,c3⟩⟩=> ?_
   have ⟨c4,bi,bj⟩:=bnd bh
   refine Lk [] [2,3,0,1] (qz bi) fun ⟨⟩=> ?_
   refine Z0 ?_
   refine Lw 46 bj (fun z=> ?_) fun z=> ?_
   ·refine Z0 ?_
    have ⟨c5,bk,bl⟩:=bnd z
    refine Lk [10,10,10] [4,5] (vz bk) fun ⟨c7,c9⟩=> ?_
    have ⟨da,bm,bn⟩:=bnd bl
    refine Lk [] [0] (xo bm) fun ⟨⟩=> ?_
    refine Z0 ?_
    cases bn
    exact Eg0 [5,5,5,6,8,3,3,3,3,3,0,0,1,0,0,0] 5
   refine Z0 ?_
   cases z
   exact Eg0 [2,2,2,3,5,0,0,0,0,0,0,0,1,0,0,0] 4
  refine Z0 ?_
  cases y
  exact Eg0 [11,11,11,11,11,4,4,4,4,4,0,0,1,0,0,0] 0
 refine Z0 ?_
 cases bb
 exact Eo1 () [] []
theorem CN {e:cH} {r:cH} (H:lV e=some r):CT G 24 [.agg (L2 e).toArray] [] [] (fun _:Unit=> .agg (L2 r).toArray) (fun h=>[]) (fun h=>[]):=by
 delta lV at H
 refine Cf Go.Proofs.Tryz.func24 fun K=> ?_
 refine Z1 ?_
 refine Lx fun g1=> ?_
 refine Ll fun g2=> ?_
 refine Z1 ?_
 have ⟨r3,h4,H5⟩:=bnd H
 refine Lk [] [] (CH h4) fun ⟨⟩=> ?_
 refine Z0 ?_
 refine Lt 1 ?_
 refine Y2 ?_
 have ⟨e9,f,g⟩:=bnd H5
 refine Tj0 [(14,.bool e9)] [1,2] [] [0,1] ?_ ?_
 ·refine Z0 ?_
  refine Lw 10 f (fun a=> ?_) fun a=> ?_
  ·refine Z0 ?_
   cases a
   exact Eg0 [0,0] 0
  refine Z0 ?_
  cases a
  exact Eg0 [0,0] 0
 have ⟨i,j,k⟩:=bnd g
 refine Tj0 [] [1,2] [Ch.box g1 60 (L2 i)] [1] ?_ ?_
 ·refine Tb j (fun b=> ?_) fun b=> ?_
  ·refine Z0 ?_
   refine Lt 0 ?_
   refine Z0 ?_
   cases b
   exact Eg0 [0,0] 0
  refine Z0 ?_
  cases b
  exact Eg0 [0,0] 0
 refine Y2 ?_
 have ⟨l,m,n⟩:=bnd k
 refine Tj0 [(23,.bool l)] [1,2] [] [0,1] ?_ ?_
 ·refine Z0 ?_
  refine Lw 19 m (fun c=> ?_) fun c=> ?_
  ·refine Z0 ?_
   cases c
   exact Eg0 [0,0] 0
  refine Z0 ?_
  cases c
  exact Eg0 [0,0] 0
 have ⟨o,p,q⟩:=bnd n
 refine Tj0 [] [1,2] [Ch.box g1 60 (L2 o)] [1] ?_ ?_
 ·refine Tb p (fun d=> ?_) fun d=> ?_
  ·refine Z0 ?_
   refine Lt 0 ?_
   refine Z0 ?_
   cases d
   exact Eg0 [0,0] 0
  refine Z0 ?_
  cases d
  exact Eg0 [0,0] 0
 refine Z1 ?_
 refine Lt 1 ?_
 refine Z0 ?_
 cases q
 exact Eo () [] [] (.cell 0 rfl rfl rfl .nil)
theorem uF {s_:cG} {r:(List Int)} (H:jI s_=some r):CT G 26 [.pointer (some ⟨N0,0,none⟩)] [Ch.box N0 86 (kB s_ M0),Ch.mp Ty.str false M0 s_.parts] [] (fun h:(Option Addr×Nat)=> .slice h.1 r.length h.2) (fun h=>[Ch.arr (Ty.int .i64) 3 h.1 h.2 r,Ch.box N0 86 (kB s_ M0),Ch.mp Ty.str false M0 s_.parts]) (fun h=>[]):=by
 delta jI at H
 refine Cf Go.Proofs.Tryz.func26 fun K=> ?_
 refine Z2 ?_
 have ⟨r1,h2,H3⟩:=bnd H
 refine Lk [0,0] [] (pg h2) fun ⟨a4,c5⟩=> ?_
 refine Z0 ?_
 cases H3
 exact Eo1 (a4,c5) [0,0,0] []
theorem uG {events:List cH} {order:List Int} {part:Int} {r:Bool} (H:ld events order part=some r):CT G 4 [.slice A0 events.length C0,.slice A1 order.length C1,.int .i64 part] [] [Im.sl nz A0 C0 events,Im.sl (Ty.int .i64) A1 C1 order,Im.sl cI (some ⟨0,0,none⟩) 13 cY,Im.sl cI (some ⟨1,0,none⟩) 14 dH,Im.sl (Ty.int .u32) (some ⟨2,0,none⟩) 16 cV,Im.sl eK (some ⟨3,0,none⟩) 8 bV] (fun _:Unit=> .bool r) (fun h=>[]) (fun h=>[]):=by
 delta ld at H
 refine Cf Go.Proofs.Tryz.func4 fun K=> ?_
 refine Z3 ?_
 have ⟨r1,h2,H3⟩:=bnd H
 refine Lk [] [4] (zo h2) fun ⟨⟩=> ?_
 refine Z0 ?_
 refine Tb H3 (fun H5=> ?_) fun H5=> ?_
 ·refine Z1 ?_
  cases H5
  exact Eo1 () [] []
 refine Z1 ?_
 have ⟨r6,h7,H8⟩:=bnd H5
 refine Lk [] [] (w7 h7) fun ⟨g9,j,⟨bf,bg⟩,⟨bh,bi⟩,⟨bj,bk⟩,k,⟨bl,bm⟩,⟨ee,ef⟩,m,bn,⟨bo,bp⟩⟩=> ?_
 refine Z1 ?_
 have ⟨eg,bq,br⟩:=bnd H8
 refine Lk [] [] (vi bq) fun ⟨eh,⟨ei,ej⟩,⟨ek,em⟩,⟨en,eo⟩,⟨ep,eq⟩,⟨er,es⟩,⟨et,eu⟩,⟨ev,ew⟩⟩=> ?_
 have ⟨ex,bs,bt⟩:=bnd br
 refine Lk [] [] (w9 bs) fun ⟨al,C,bu,⟨bv,bw⟩,⟨bx,bz⟩⟩=> ?_
 refine Z2 ?_
 refine Ly (Yl.pn rfl rfl rfl rfl rfl rfl) ?_
 refine Z0 ?_
 refine Ly (Yl.pn rfl rfl rfl rfl rfl rfl) ?_
 refine Z0 ?_
 refine Ly (Yl.pn rfl rfl rfl rfl rfl rfl) ?_
 refine Z0 ?_
 refine T.cond rfl (fun h=>nomatch h) (fun _=> ?_)
 refine Z2 ?_
 have ⟨e,b0,b1⟩:=bnd bt
 refine Tjh (η:=(Option Addr×Nat)×(Option Addr×Nat)×(Option Addr×Nat)×(Option Addr×Nat)×Nat×(Option Addr×Nat)) (fun _=>[]) [1,7,8,9] (fun h=>(fun n o p q s t u x y z A=>[Ch.arr (Ty.slice aD) 40 n o e.book.l,Ch.arr (Ty.int .i64) 3 p q e.book.bP,Ch.arr aD 112 s t e.book.begun,Ch.opt (e.parser.state == (3:Int)) (Ty.int .i64) 3 u x e.parser.order.bH,Ch.arr aC 107 z A e.aR.g.l,Ch.box g9 56 (pJ e j k m),Ch.box j 115 [.slice n e.book.l.length o,.slice p e.book.bP.length q,.slice s e.book.begun.length t],Ch.box k 76 (kV e.parser u x),Ch.box m 124 (cD e.aR y),Ch.box y 169 [.int .i64 e.aR.g.w,.slice z e.aR.g.l.length A]]) h.1.1 h.1.2 h.2.1.1 h.2.1.2 h.2.2.1.1 h.2.2.1.2 h.2.2.2.1.1 h.2.2.2.1.2 h.2.2.2.2.1 h.2.2.2.2.2.1 h.2.2.2.2.2.2) [0,1,3,2,4,5] (fun _=>[]) ?_ ?_
 ·refine Yl0 ?_
  refine Tq (η:=(Option Addr×Nat)×(Option Addr×Nat)×(Option Addr×Nat)×(Option Addr×Nat)×Nat×(Option Addr×Nat)) (fun d h=>(fun V W X Y Z aa ab ac ad ae af=>[(10,.int .i64 d.2)]) h.1.1 h.1.2 h.2.1.1 h.2.1.2 h.2.2.1.1 h.2.2.1.2 h.2.2.2.1.1 h.2.2.2.1.2 h.2.2.2.2.1 h.2.2.2.2.2.1 h.2.2.2.2.2.2) [0,1,7,8,9] (fun d h=>(fun V W X Y Z aa ab ac ad ae af=>[Ch.arr (Ty.slice aD) 40 V W d.1.book.l,Ch.arr (Ty.int .i64) 3 X Y d.1.book.bP,Ch.arr aD 112 Z aa d.1.book.begun,Ch.opt (d.1.parser.state == (3:Int)) (Ty.int .i64) 3 ab ac d.1.parser.order.bH,Ch.arr aC 107 ae af d.1.aR.g.l,Ch.box g9 56 (pJ d.1 j k m),Ch.box j 115 [.slice V d.1.book.l.length W,.slice X d.1.book.bP.length Y,.slice Z d.1.book.begun.length aa],Ch.box k 76 (kV d.1.parser ab ac),Ch.box m 124 (cD d.1.aR ad),Ch.box ad 169 [.int .i64 d.1.aR.g.w,.slice ae d.1.aR.g.l.length af]]) h.1.1 h.1.2 h.2.1.1 h.2.1.2 h.2.2.1.1 h.2.2.1.2 h.2.2.2.1.1 h.2.2.2.1.2 h.2.2.2.2.1 h.2.2.2.2.2.1 h.2.2.2.2.2.2) [0,1,3,2,4,5] (fun _ _=>[]) ((bf,bg),(bh,bi),(bj,bk),(bl,bm),bn,(bo,bp)) [8,8,8,9,11,6,6,6,6,6,0,0,1,0,0,0] [] b0 ?_
  rintro k_ d ⟨⟨V,W⟩,⟨X,Y⟩,⟨Z,aa⟩,⟨ab,ac⟩,ad,⟨ae,af⟩⟩ ey b2 b3 b4
  refine Y2 ?_
  have ⟨b5,b6,b7⟩:=bnd b2
  refine Tj0 [(42,.bool b5)] [0,1,7,8,9,10] [] [5,6,7,8,9,10,11,12,0,1,2,3,4,13,14,15] ?_ ?_
  ·refine Z0 ?_
   refine Lw 39 b6 (fun ar=> ?_) fun ar=> ?_
   ·refine Z0 ?_
    cases ar
    exact Eg0 [5,5,5,5,5,5,5,5,0,0,0,0,0,0,0,0] 0
   refine Z0 ?_
   cases ar
   exact Eg0 [5,5,5,5,5,5,5,5,0,0,0,0,0,0,0,0] 0
  refine Tb b7 (fun au=> ?_) fun au=> ?_
  ·refine Z1 ?_
   refine Zl ?_
   have ⟨ez,av,b8⟩:=bnd au
   refine L.addr 7 rfl (cL av) fun e0 e1 b9=> ?_
   subst b9
   refine Ly (Yl.ia av rfl rfl rfl rfl rfl rfl) ?_
   refine L.el 7 rfl (aU av).2 ?_
   rintro _
   refine Lc 0 0 ?_
   have ⟨e2,ca,cb⟩:=bnd b8
   refine Lk [] [] (CN ca) fun ⟨⟩=> ?_
   have ⟨e3,cc,cd⟩:=bnd cb
   refine Lk [0,0,6,6,6,0,5,0,0,3] [10,11,12,13] (wF cc) fun ⟨⟨ce,cf⟩,⟨cg,ch⟩,⟨ci,cj⟩,⟨ck,cl⟩,⟨e4,e5⟩,cm,⟨cn,co⟩⟩=> ?_
   refine Z0 ?_
   cases cd
   exact Eg (_,((ce,cf),(cg,ch),(ci,cj),(ck,cl),cm,(cn,co))) (b3 _ rfl) [2,2,2,3,5,0,0,0,0,0,0,0,0,0,0,0] [] 1
  refine Z0 ?_
  cases au
  have hb:=b4 _ rfl
  subst e
  exact Eg ((V,W),(X,Y),(Z,aa),(ab,ac),ad,(ae,af)) trivial [8,8,8,8,8,0,0,0,0,0,0,0,0,0,0,0] [] 0
 rintro ⟨⟨n,o⟩,⟨p,q⟩,⟨s,t⟩,⟨u,x⟩,y,⟨z,A⟩⟩
 refine Z1 ?_
 have ⟨e6,cp,cq⟩:=bnd b1
 refine Lk [5,5,0,0,0,2,0,1,1,0] [] (jL cp) fun ⟨⟨e7,e8⟩,⟨e9,fa⟩,⟨fb,fc⟩⟩=> ?_
 have ⟨fd,cr,cs⟩:=bnd cq
 refine Lk [12,13,13] [4,5,6,7,8,0,1] (oe cr) fun ⟨⟨fe,ff⟩,⟨fg,fh⟩⟩=> ?_
 refine Z1 ?_
 have ⟨a8,ct,cu⟩:=bnd cs
 refine Lk [0,0,0] [0,1,2,3,4,18] (og ct) fun ⟨⟨fi,fj⟩,⟨fk,fl⟩,⟨fm,fn⟩,⟨fo,fp⟩⟩=> ?_
 refine Z2 ?_
 refine Tb cu (fun aw=> ?_) fun aw=> ?_
 ·refine Z1 ?_
  cases aw
  exact Eo1 () [] []
 refine Z2 ?_
 have ⟨ax,cv,a9⟩:=bnd aw
 refine Tj (η:=(bA×bB)×(Option Nat×(Option Addr×Nat)×(Option Addr×Nat))) (fun h=>ax = .inl h.1) (fun _=>[]) [7,9,11] (fun h=>(fun c=>(fun ag ah ai aj ak=>[Ch.arr (Ty.slice aD) 40 n o c.1.book.l,Ch.arr (Ty.int .i64) 3 p q c.1.book.bP,Ch.arr aD 112 s t c.1.book.begun,Ch.opt (c.1.parser.state == (3:Int)) (Ty.int .i64) 3 u x c.1.parser.order.bH,Ch.arr aC 107 z A c.1.aR.g.l,Ch.mp Ty.str false ag c.2.slot.parts,Ch.box g9 56 (pJ c.1 j k m),Ch.box j 115 [.slice n c.1.book.l.length o,.slice p c.1.book.bP.length q,.slice s c.1.book.begun.length t],Ch.box k 76 (kV c.1.parser u x),Ch.box m 124 (cD c.1.aR y),Ch.box y 169 [.int .i64 c.1.aR.g.w,.slice z c.1.aR.g.l.length A],Ch.box al 65 (rD c.2 C ah ai aj ak),Ch.box C 86 (kB c.2.slot ag)]) h.2.1 h.2.2.1.1 h.2.2.1.2 h.2.2.2.1 h.2.2.2.2) h.1) [1,0,2,3] (fun h=>(fun c=>(fun ag ah ai aj ak=>[Im.sl aC ah ai c.2.cN.rows,Im.sl aD aj ak c.2.cN.begun]) h.2.1 h.2.2.1.1 h.2.2.1.2 h.2.2.2.1 h.2.2.2.2) h.1) ?_ ?_
 ·refine Yl0 ?_
  refine Tq (η:=Option Nat×(Option Addr×Nat)×(Option Addr×Nat)) (fun a h=>(fun F I J M N=>[(12,.int .i64 a.2.2)]) h.1 h.2.1.1 h.2.1.2 h.2.2.1 h.2.2.2) [1,7,9,11] (fun a h=>(fun F I J M N=>[Ch.mp Ty.str false F a.1.slot.parts,Ch.arr (Ty.slice aD) 40 n o a.2.1.book.l,Ch.arr (Ty.int .i64) 3 p q a.2.1.book.bP,Ch.arr aD 112 s t a.2.1.book.begun,Ch.opt (a.2.1.parser.state == (3:Int)) (Ty.int .i64) 3 u x a.2.1.parser.order.bH,Ch.arr aC 107 z A a.2.1.aR.g.l,Ch.box g9 56 (pJ a.2.1 j k m),Ch.box j 115 [.slice n a.2.1.book.l.length o,.slice p a.2.1.book.bP.length q,.slice s a.2.1.book.begun.length t],Ch.box k 76 (kV a.2.1.parser u x),Ch.box m 124 (cD a.2.1.aR y),Ch.box y 169 [.int .i64 a.2.1.aR.g.w,.slice z a.2.1.aR.g.l.length A],Ch.box al 65 (rD a.1 C I J M N),Ch.box C 86 (kB a.1.slot F)]) h.1 h.2.1.1 h.2.1.2 h.2.2.1 h.2.2.2) [1,0,2,3] (fun a h=>(fun F I J M N=>[Im.sl aC I J a.1.cN.rows,Im.sl aD M N a.1.cN.begun]) h.1 h.2.1.1 h.2.1.2 h.2.2.1 h.2.2.2) (bu,(bv,bw),(bx,bz)) [16,6,6,6,7,9,4,4,4,4,4,4,4,1,0,0,0] [12,13] cv ?_
  rintro k_ a ⟨F,⟨I,J⟩,⟨M,N⟩⟩ cw cx cy ba
  refine Y2 ?_
  have ⟨cz,c0,c1⟩:=bnd cx
  refine Tj0 [(68,.bool cz)] [1,7,9,11,12] [] [6,7,8,9,10,11,12,13,0,1,2,3,4,5,14,15,16] ?_ ?_
  ·refine Z0 ?_
   refine Lw 65 c0 (fun ay=> ?_) fun ay=> ?_
   ·refine Z0 ?_
    cases ay
    exact Eg0 [6,6,6,6,6,6,6,6,0,0,0,0,0,0,0,0,0] 0
   refine Z0 ?_
   cases ay
   exact Eg0 [6,6,6,6,6,6,6,6,0,0,0,0,0,0,0,0,0] 0
  refine Tb c1 (fun az=> ?_) fun az=> ?_
  ·refine Z1 ?_
   refine Zl ?_
   refine Z1 ?_
   have ⟨c2,a0,c3⟩:=bnd az
   refine L.addr 22 rfl (cL a0) fun fq fr c4=> ?_
   subst c4
   refine Ly (Yl.ia a0 rfl rfl rfl rfl rfl rfl) ?_
   refine L.el 22 rfl (aU a0).2 ?_
   rintro _
   refine Lc 0 0 ?_
   refine Z0 ?_
   have ⟨_,c5,c6⟩:=bnd c3
   refine Ly (Yl.rem (b:=(a8.1.length:Int)) c5 rfl rfl rfl) ?_
   have ⟨c7,a1,c8⟩:=bnd c6
   refine L.lQ 14 rfl (cL a1) fun fs c9=> ?_
   subst c9
   refine Ly (Yl.ia a1 rfl rfl rfl rfl rfl rfl) ?_
   refine La [14] [] (Ac.lo (((Go.bits .and .i64 c2 65535).tmod (a8.1.length:Int)).toNat) 0 (v:=(fun h:(Option Addr×Nat)=>(fun bb bc=> .agg (Ek c7 bb bc).toArray) h.1 h.2)) (aU a1).2 rfl rfl rfl (fun _=>rfl)) ?_
   rintro ⟨bb,bc⟩
   have ⟨ft,da,db⟩:=bnd c8
   refine Lk [6,6,7] [2,3,0,27] (mO da) fun ⟨dc,⟨dd,de⟩,⟨df,dg⟩⟩=> ?_
   refine Y1 ?_
   have ⟨f,dh,di⟩:=bnd db
   refine Tj0 [(97,.bool f.1)] [1,7,9,11,12] [Ch.arr (Ty.slice aD) 40 n o f.2.book.l,Ch.arr (Ty.int .i64) 3 p q f.2.book.bP,Ch.arr aD 112 s t f.2.book.begun,Ch.opt (f.2.parser.state == (3:Int)) (Ty.int .i64) 3 u x f.2.parser.order.bH,Ch.arr aC 107 z A f.2.aR.g.l,Ch.box g9 56 (pJ f.2 j k m),Ch.box j 115 [.slice n f.2.book.l.length o,.slice p f.2.book.bP.length q,.slice s f.2.book.begun.length t],Ch.box k 76 (kV f.2.parser u x),Ch.box m 124 (cD f.2.aR y),Ch.box y 169 [.int .i64 f.2.aR.g.w,.slice z f.2.aR.g.l.length A]] [0,1,9,2,3,15,16] ?_ ?_
   ·refine Z0 ?_
    refine Lw 86 dh (fun a2=> ?_) fun a2=> ?_
    ·refine Z0 ?_
     refine Lw 89 a2 (fun a3=> ?_) fun a3=> ?_
     ·refine Z0 ?_
      cases a3
      exact Eg0 [10,10,10,10,10,4,4,4,4,4,0,0,2,0,0,0,0] 0
     refine Z0 ?_
     have ⟨fu,dj,dk⟩:=bnd a3
     refine Lk [0,0,0] [0,1] (rz dj) fun ⟨⟩=> ?_
     refine Z0 ?_
     have ⟨fv,dl,dm⟩:=bnd dk
     refine Lk [4,4,8,8,8,4,7,4,4,5] [] (jL dl) fun ⟨⟨fw,fx⟩,⟨fy,fz⟩,⟨f0,f1⟩⟩=> ?_
     refine Z0 ?_
     cases dm
     exact Eg0 [2,2,2,3,5,0,0,0,0,0,0,0,2,0,0,0,0] 2
    refine Z0 ?_
    cases a2
    exact Eg0 [10,10,10,10,10,4,4,4,4,4,0,0,2,0,0,0,0] 0
   refine Tb di (fun a4=> ?_) fun a4=> ?_
   ·refine Z1 ?_
    obtain ⟨f2,hz,dn⟩:=fG a4
    subst cw
    have hb:=ba _ rfl
    subst ax
    obtain rfl:=(sm a9).symm
    refine Z0 ?_
    cases dn
    exact Eo1 () [] []
   refine Z0 ?_
   cases a4
   exact Eg (_,(dc,(dd,de),(df,dg))) (cy _ rfl) [13,0,0,0,0,0,0,0,0,0,0,0,0,0,0,0,0] [0,1] 6
  refine Z0 ?_
  cases az
  have hb:=ba _ rfl
  subst ax
  exact Eg (_,(F,(I,J),(M,N))) rfl [9,9,9,9,9,8,0,0,0,0,0,0,0,0,0,0,0] [0,1] 2
 rintro ⟨c,⟨ag,⟨ah,ai⟩,⟨aj,ak⟩⟩⟩ hy
 subst hy
 refine Z2 ?_
 have ⟨O,dp,dq⟩:=bnd a9
 refine Tjh (η:=Option Nat×(Option Addr×Nat)×(Option Addr×Nat)) (fun _=>[]) [7,9] (fun h=>(fun am an ao ap aq=>[Ch.mp Ty.str false am O.slot.parts,Ch.box al 65 (rD O C an ao ap aq),Ch.box C 86 (kB O.slot am)]) h.1 h.2.1.1 h.2.1.2 h.2.2.1 h.2.2.2) [6,7,8,9,10,13,0,1,2,3,4,15,16] (fun h=>(fun am an ao ap aq=>[Im.sl aC an ao O.cN.rows,Im.sl aD ap aq O.cN.begun]) h.1 h.2.1.1 h.2.1.2 h.2.2.1 h.2.2.2) ?_ ?_
 ·refine Yl0 ?_
  refine Tq (η:=Option Nat×(Option Addr×Nat)×(Option Addr×Nat)) (fun B h=>(fun P Q R S U=>[(100,.int .i64 B.2)]) h.1 h.2.1.1 h.2.1.2 h.2.2.1 h.2.2.2) [7,9,98,99] (fun B h=>(fun P Q R S U=>[Ch.mp Ty.str false P B.1.slot.parts,Ch.box al 65 (rD B.1 C Q R S U),Ch.box C 86 (kB B.1.slot P)]) h.1 h.2.1.1 h.2.1.2 h.2.2.1 h.2.2.2) [6,7,8,9,10,13,0,1,2,3,4,14,15,16] (fun B h=>(fun P Q R S U=>[Im.sl aC Q R B.1.cN.rows,Im.sl aD S U B.1.cN.begun]) h.1 h.2.1.1 h.2.1.2 h.2.2.1 h.2.2.2) (ag,(ah,ai),(aj,ak)) [5,10,10,5,5,5,5,5,5,0,0,0,0,0,0,0,0] [0,1] dp ?_
  rintro k_ B ⟨P,⟨Q,R⟩,⟨S,U⟩⟩ f3 dr ds dt
  refine Y2 ?_
  refine Tb dr (fun a5=> ?_) fun a5=> ?_
  ·refine Z1 ?_
   refine Zl ?_
   refine Z1 ?_
   have ⟨du,a6,dv⟩:=bnd a5
   refine L.lQ 14 rfl (cL a6) fun f4 dw=> ?_
   subst dw
   refine Ly (Yl.ia a6 rfl rfl rfl rfl rfl rfl) ?_
   refine La [14] [] (Ac.lo B.2.toNat 0 (v:=(fun h:(Option Addr×Nat)=>(fun bd be=> .agg (Ek du bd be).toArray) h.1 h.2)) (aU a6).2 rfl rfl rfl (fun _=>rfl)) ?_
   rintro ⟨bd,be⟩
   refine Ll fun f5=> ?_
   refine Lt 0 ?_
   refine Z0 ?_
   have ⟨f6,dx,dy⟩:=bnd dv
   refine Lk [3,3,2] [1,2,0,28] (mO dx) fun ⟨dz,⟨d0,d1⟩,⟨d2,d3⟩⟩=> ?_
   refine Z0 ?_
   cases dy
   exact Eg (_,(dz,(d0,d1),(d2,d3))) (ds _ rfl) [2,0,0,2,2,2,2,2,2,2,2,2,2,2,1,1,1] [0,1] 5
  refine Z0 ?_
  cases a5
  have hb:=dt _ rfl
  subst O
  exact Eg (P,(Q,R),(S,U)) trivial [0,0,0,0,0,0,0,0,0,0,0,0,0,0,1,1] [0,1] 2
 rintro ⟨am,⟨an,ao⟩,⟨ap,aq⟩⟩
 refine Y1 ?_
 have ⟨i,d4,d5⟩:=bnd dq
 refine Tj0 [(6,.bool i.1)] [] [Ch.arr (Ty.slice aD) 40 n o i.2.book.l,Ch.arr (Ty.int .i64) 3 p q i.2.book.bP,Ch.arr aD 112 s t i.2.book.begun,Ch.opt (i.2.parser.state == (3:Int)) (Ty.int .i64) 3 u x i.2.parser.order.bH,Ch.arr aC 107 z A i.2.aR.g.l,Ch.box g9 56 (pJ i.2 j k m),Ch.box j 115 [.slice n i.2.book.l.length o,.slice p i.2.book.bP.length q,.slice s i.2.book.begun.length t],Ch.box k 76 (kV i.2.parser u x),Ch.box m 124 (cD i.2.aR y),Ch.box y 169 [.int .i64 i.2.aR.g.w,.slice z i.2.aR.g.l.length A]] [1,2,8,0,14,15] ?_ ?_
 ·refine Z0 ?_
  have ⟨f7,d6,d7⟩:=bnd d4
  refine Lk [1,1,0] [0,1] (ph d6) fun ⟨⟨f8,f9⟩,⟨ga,gb⟩⟩=> ?_
  refine Z0 ?_
  have ⟨gc,d8,d9⟩:=bnd d7
  refine Lk [3,3,7,7,7,3,6,3,3,4] [] (jL d8) fun ⟨⟨gd,ge⟩,⟨gf,gg⟩,⟨gh,gi⟩⟩=> ?_
  have ⟨gj,ea,eb⟩:=bnd d9
  refine Lk [] [2,3,0,1] (qz ea) fun ⟨⟩=> ?_
  refine Z0 ?_
  refine Lw 113 eb (fun a7=> ?_) fun a7=> ?_
  ·refine Z0 ?_
   refine Lb 10 ?_
   have ⟨gk,ec,ed⟩:=bnd a7
   refine Lk [11,11] [] (uF ec) fun ⟨gl,gm⟩=> ?_
   refine Z0 ?_
   cases ed
   exact Eg0 [5,5,5,6,8,3,3,3,3,3,3,1,2,1,1,1] 4
  refine Z0 ?_
  cases a7
  exact Eg0 [2,2,2,3,5,0,0,0,0,0,0,0,1,0,0,0] 4
 refine Z0 ?_
 cases d5
 exact Eo1 () [] []
end Go.Tw.X
set_option maxHeartbeats 2000000
set_option linter.unusedVariables false
set_option linter.unusedSimpArgs false
set_option maxRecDepth 10000
namespace Go.Tw.X
open Go Go.Tw
theorem Od {P:Program} {α β:Type} {t:TypeId} {ty:Ty α} {ty':Ty β} {wf:α→Prop} {wf':β→Prop} (h:Opn P t ty wf) (g:α→β) (gh:ty.Hid→ty'.Hid) (h1: ∀ y hh,ty'.cs (g y) (gh hh)=ty.cs y hh) (h2: ∀ y hh,ty'.im (g y) (gh hh)=ty.im y hh) (h3: ∀ y,wf y→wf' (g y)):Opn P t ty' wf':=Opn.to g gh h h1 h2 h3
theorem JZ:Opn Go.Proofs.Tryz.prog 3 (Ty.int .i64) (inK .i64):=Opn.int (by kernel_rfl)
theorem PZ:Opn Go.Proofs.Tryz.prog 9 Ty.str (fun s:ByteArray=>s.size≤maxLen):=Opn.str (by kernel_rfl)
theorem Pq:Opn Go.Proofs.Tryz.prog 60 nz oD:=Od (β:=cH) (ty':=nz) (wf':=oD) (Opn.struct (fs:=[(3,0),(9,1),(3,2),(3,3)]) (by kernel_rfl) (by kernel_rfl) (.cons JZ (by kernel_rfl) (.cons PZ (by kernel_rfl) (.cons JZ (by kernel_rfl) (.cons JZ (by kernel_rfl) .nil))))) (fun y=>⟨y.1,y.2.1,y.2.2.1,y.2.2.2.1⟩) (fun h=>()) (fun _ _=>rfl) (fun _ _=>rfl) (fun y h=>h)
theorem Pr:Opn Go.Proofs.Tryz.prog 58 (Ty.slice nz) (fun xs:List cH=> ∀ x∈xs,oD x):=Opn.slice (by kernel_rfl) Pq (by kernel_rfl) (by decide)
theorem Ps:Opn Go.Proofs.Tryz.prog 23 (Ty.slice (Ty.int .i64)) (fun xs:List Int=> ∀ x∈xs,(inK .i64) x):=Opn.slice (by kernel_rfl) JZ (by kernel_rfl) (by decide)
end Go.Tw.X

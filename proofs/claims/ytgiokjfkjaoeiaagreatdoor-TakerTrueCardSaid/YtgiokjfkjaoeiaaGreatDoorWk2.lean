import Derived.Test.YtgiokjfkjaoeiaaGreatDoorWk1
import Derived.Test.YtgiokjfkjaoeiaaGreatDoorFw2
set_option maxHeartbeats 2000000
set_option linter.unusedVariables false
set_option linter.unusedSimpArgs false
set_option maxRecDepth 10000
namespace Go.Tw.X
open Go Go.Tw
variable {A0 A1 A2 A3 A4 A5 A6 A7 A8 : Option Addr} {C0 C1 C2 C3 C4 C5 C6 C7 C8 : Nat}
variable {N0 N1 N2 N3 N4 : Nat}
variable {M0 : Option Nat}
theorem rp {l:List aE} {r:(List aE)×(List aE)} (H:kg l=some r):CT G 112 [.slice A0 l.length C0] [Ch.arr aC 107 A0 C0 l] [] (λh:(Option Addr×Nat)=> .slice h.1 r.1.length h.2) (λh=>[Ch.arr aC 107 h.1 h.2 r.1,Ch.arr aC 107 A0 C0 r.2]) (λh=>[]):=by
 delta kg at H
 refine Cf Go.Proofs.Tryz.func112 λK=> ?_
 refine T.yS ?_
 refine Z2 ?_
 refine Ll λg1=> ?_
 refine Z2 ?_
 have ⟨r2,h3,H4⟩:=bnd H
 refine Lk [2] [] (z8 h3) λg5=> ?_
 refine Yl0 ?_
 refine T.iS aC 107 ?_
 have ⟨e,f,g⟩:=bnd H4
 refine T.rf2 (σ:=(List aE)) (η:=(Option Addr×Nat)) (X:=aE) (θ:=(Option Addr×Nat)) (τ:=(Option Addr×Nat)) (s1:=e) (hx:=λx=>x) (λx t=>[.agg #[.slice t.1 x.cells.length t.2,.bool x.wrapped]]) (λx t=>[Im.sl aQ t.1 t.2 x.cells]) (λ_=>none) (λa h=>(λb c=>[Ch.arr aC 107 b c a,Ch.box g1 39 [.slice b a.length c]]) h.1 h.2) (λa h=>(λb c=>[]) h.1 h.2) 4 [0,2,0,0] [] [] rfl rfl (λ_ _=>rfl) rfl (λyl C hY=>(xC hY (none,0) g5 A0 C0 f:_)) (λ_ _ _ _=>rfl) rfl rfl rfl rfl rfl ?_ rfl ?_
 ·rintro yl K2 a ⟨b,c⟩ x9 ⟨a7,c8⟩ o i
  refine Z0 ?_
  refine Ll λp=> ?_
  refine Lt 0 ?_
  refine Z0 ?_
  refine E.begin λK3=> ?_
  refine Zl ?_
  refine La [] [0] (Ac.bs (ty:=aC) (xs:=[x9]) (.cons (a7,c8) [0] rfl .nil) rfl rfl rfl rfl rfl rfl rfl) λq=> ?_
  refine L.frz 0 rfl ?_
  have ⟨_,j,k⟩:=bnd i
  refine La [1] [0] (Ac.ap (ty:=aC) j rfl rfl rfl rfl rfl rfl rfl) ?_
  rintro ⟨m,n⟩
  refine Lt 2 ?_
  refine Z0 ?_
  cases k
  exact E.on (m,n) [1,0] [] rfl rfl rfl rfl
 rintro d s
 refine Z1 ?_
 cases g
 exact E.vu (d.1,d.2) 0 [0,2] [] rfl (.tmp rfl .nil) rfl rfl rfl
theorem wH {g:aX} {r:aX×aX} (H:kL g=some r):CT G 111 [.pointer (some ⟨N0,0,none⟩)] [Ch.box N0 169 [.int .i64 g.w,.slice A0 g.l.length C0],Ch.arr aC 107 A0 C0 g.l] [] (λh:Nat×(Option Addr×Nat)=> .pointer (some ⟨h.1,0,none⟩)) (λh=>[Ch.box h.1 169 [.int .i64 r.1.w,.slice h.2.1 r.1.l.length h.2.2],Ch.arr aC 107 h.2.1 h.2.2 r.1.l,Ch.box N0 169 [.int .i64 r.2.w,.slice A0 r.2.l.length C0],Ch.arr aC 107 A0 C0 r.2.l]) (λh=>[]):=by
 delta kL at H
 refine Cf Go.Proofs.Tryz.func111 λK=> ?_
 refine Y2 ?_
 refine Td [] [0] mo ?_
 refine Dq 0 ?_
 refine Dq 1 ?_
 refine Dq 2 ?_
 refine Db 3 0 ?_
 refine Dq 4 ?_
 refine Dq 5 ?_
 refine Dq 6 ?_
 refine Db 7 0 ?_
 have ⟨a,b,c⟩:=bnd H
 refine Dk [0] [] (rp b) λ⟨d,e⟩=> ?_
 have ⟨_,f,i⟩:=bnd c
 refine Dq 9 ?_
 refine Da [] [] rfl rfl (Ac.box rfl rfl) λj=> ?_
 refine Dq 11 ?_
 refine Dn ?_
 refine E.bx 0 (cs':=[.int .i64 g.w,.slice A0 a.2.length C0]) (by rw [(dR f)]) rfl ?_
 refine Z0 ?_
 cases i
 exact Eo1 (j,(d,e)) [1,1,0,0] []
theorem tJ {s_:aB} {r:aX×aB} (H:jB s_=some r):CT G 77 [.pointer (some ⟨N0,0,none⟩)] [Ch.box N0 124 (cI s_ N1),Ch.box N1 169 [.int .i64 s_.g.w,.slice A0 s_.g.l.length C0],Ch.arr aC 107 A0 C0 s_.g.l] [] (λh:Nat×(Option Addr×Nat)=> .pointer (some ⟨h.1,0,none⟩)) (λh=>[Ch.box h.1 169 [.int .i64 r.1.w,.slice h.2.1 r.1.l.length h.2.2],Ch.arr aC 107 h.2.1 h.2.2 r.1.l,Ch.box N0 124 (cI r.2 N1),Ch.box N1 169 [.int .i64 r.2.g.w,.slice A0 r.2.g.l.length C0],Ch.arr aC 107 A0 C0 r.2.g.l]) (λh=>[]):=by
 delta jB at H
 refine Cf Go.Proofs.Tryz.func77 λK=> ?_
 refine Z2 ?_
 have ⟨r1,h2,H3⟩:=bnd H
 refine Lk [1,1] [] (wH h2) λ⟨g4,⟨a5,c6⟩⟩=> ?_
 refine Z0 ?_
 cases H3
 exact Eo1 (g4,(a5,c6)) [0,0,2,0,0] []
theorem sN {s_:aB} {r:ByteArray} (H:ky s_=some r):CT G 78 [.pointer (some ⟨N0,0,none⟩)] [Ch.box N0 124 (cI s_ N1),Ch.box N1 169 [.int .i64 s_.g.w,.slice A0 s_.g.l.length C0],Ch.arr aC 107 A0 C0 s_.g.l] [] (λ_:Unit=> .string r) (λh=>[Ch.box N0 124 (cI s_ N1),Ch.box N1 169 [.int .i64 s_.g.w,.slice A0 s_.g.l.length C0],Ch.arr aC 107 A0 C0 s_.g.l]) (λh=>[]):=by
 delta ky at H
 refine Cf Go.Proofs.Tryz.func78 λK=> ?_
 refine Z2 ?_
 cases H
 exact Eo1 () [0,0,0] []
theorem xD {g:aX} {r:(List aE)×aX} (H:ly g=some r):CT G 79 [.pointer (some ⟨N0,0,none⟩)] [Ch.box N0 169 [.int .i64 g.w,.slice A0 g.l.length C0],Ch.arr aC 107 A0 C0 g.l] [] (λh:(Option Addr×Nat)=> .slice h.1 r.1.length h.2) (λh=>[Ch.arr aC 107 h.1 h.2 r.1,Ch.box N0 169 [.int .i64 r.2.w,.slice A0 r.2.l.length C0],Ch.arr aC 107 A0 C0 r.2.l]) (λh=>[]):=by
 delta ly at H
 refine Cf Go.Proofs.Tryz.func79 λK=> ?_
 refine Z2 ?_
 have ⟨r1,h2,H3⟩:=bnd H
 refine Lk [1] [] (rp h2) λ⟨a4,c5⟩=> ?_
 have ⟨_,h8,H9⟩:=bnd H3
 refine L.bx 2 (cs':=[.int .i64 g.w,.slice A0 r1.2.length C0]) (by rw [dR h8]) rfl ?_
 refine Z0 ?_
 cases H9
 exact Eo1 (a4,c5) [1,0,0] []
theorem sC {b:cF} {r:Int} (H:lX b=some r):CT G 21 [.pointer (some ⟨N0,0,none⟩)] [Ch.box N0 115 [.slice A0 b.l.length C0,.slice A1 b.bV.length C1,.slice A2 b.begun.length C2],Ch.arr (Ty.slice aD) 40 A0 C0 b.l,Ch.arr (Ty.int .i64) 3 A1 C1 b.bV,Ch.arr aD 112 A2 C2 b.begun] [] (λ_:Unit=> .int .i64 r) (λh=>[Ch.box N0 115 [.slice A0 b.l.length C0,.slice A1 b.bV.length C1,.slice A2 b.begun.length C2],Ch.arr (Ty.slice aD) 40 A0 C0 b.l,Ch.arr (Ty.int .i64) 3 A1 C1 b.bV,Ch.arr aD 112 A2 C2 b.begun]) (λh=>[]):=by
 delta lX at H
 refine Cf Go.Proofs.Tryz.func21 λK=> ?_
 refine Z2 ?_
 cases H
 exact Eo1 () [0,0,0,0] []
theorem wI {b:cF} {n_:Int} {r:Int} (H:kJ b n_=some r):CT G 80 [.pointer (some ⟨N0,0,none⟩),.int .i64 n_] [Ch.box N0 115 [.slice A0 b.l.length C0,.slice A1 b.bV.length C1,.slice A2 b.begun.length C2],Ch.arr (Ty.slice aD) 40 A0 C0 b.l,Ch.arr (Ty.int .i64) 3 A1 C1 b.bV,Ch.arr aD 112 A2 C2 b.begun] [] (λ_:Unit=> .int .i64 r) (λh=>[Ch.box N0 115 [.slice A0 b.l.length C0,.slice A1 b.bV.length C1,.slice A2 b.begun.length C2],Ch.arr (Ty.slice aD) 40 A0 C0 b.l,Ch.arr (Ty.int .i64) 3 A1 C1 b.bV,Ch.arr aD 112 A2 C2 b.begun]) (λh=>[]):=by
 delta kJ at H
 refine Cf Go.Proofs.Tryz.func80 λK=> ?_
 refine Y2 ?_
 refine Td [] [0,0,0,0] mo ?_
 refine Dq 0 ?_
 refine Dq 1 ?_
 refine Dq 2 ?_
 refine Db 3 0 ?_
 refine Dq 4 ?_
 refine Dq 5 ?_
 refine Dq 6 ?_
 refine Dq 7 ?_
 refine Db 8 0 ?_
 refine Dq 9 ?_
 refine Dq 10 ?_
 refine Dq 11 ?_
 have ⟨c,a,d⟩:=bnd H
 refine D.mj 2 rfl (cJ a) λf e=> ?_
 subst e
 refine Dy 12 (Yl.ia a rfl rfl rfl rfl rfl rfl) ?_
 refine Dy 13 (Yl.lo (v:= .int .i64 c) 2 ((imax 0 (eO n_ (b.l.length:Int))).toNat) 0 (aU a).2 rfl rfl rfl rfl (λ_=>rfl)) ?_
 refine Dq 14 ?_
 refine Dn ?_
 refine Z0 ?_
 cases d
 exact Eo1 () [0,0,0,0] []
theorem pT {s_:List aJ} (a_0:Option Addr) (c_0:Nat) {r:List aJ} (H:cB s_=some r):CT G 60 [.slice a_0 s_.length c_0] [Ch.arr aD 112 a_0 c_0 s_] [] (λh:(Option Addr×Nat)=> .slice h.1 r.length h.2) (λh=>[Ch.arr aD 112 h.1 h.2 r,Ch.arr aD 112 a_0 c_0 s_]) (λh=>[]):=by
  delta cB at H
  refine Cf Go.Proofs.Tryz.func60 λK=> ?_
  have ⟨_,h0,H⟩:=bnd H
  have hr:=Option.some.inj H
  refine T.seq (T.region (L.q 1 rfl (L.nil (E.then (T.seq (T.seq (T.region ?_)))))))
  refine L.cap 0 rfl λhle=> ?_
  have hv:=Oc (ty:=aD) (a0:=a_0) hle
  rw [<- FG s_] at h0 hr
  refine L.sl 0 (k':=(cut s_ 0 (s_.length:Int)).length) (by rw [FG]) rfl ?_
  refine L.q 1 rfl ?_
  refine L.PG 0 hv rfl rfl rfl rfl rfl rfl rfl rfl rfl (λhx=> ?_) ?_
  · refine L.nil (E.then (T.cond rfl (λ_=> ?_) (λh=>nomatch h)))
    refine T.seq (T.region (L.q 1 rfl (L.nil (E.then (T.ret (E.qB ?_))))))
    rw [hx] at hr
    subst r
    refine E.iS aD 112 ?_
    exact E.ret (none,0) [0,0] [] (.tmp rfl .nil) rfl rfl rfl
  · refine L.nil (E.then (T.cond rfl (λh=>nomatch h) (λ_=> ?_)))
    refine T.skip (E.then (T.seq (T.region ?_)))
    refine L.a [] [] (Ac.bs (ty:=aD) (xs:=[]) .nil rfl rfl rfl rfl rfl rfl rfl) rfl rfl rfl rfl rfl ?_
    intro g1
    refine L.q 1 rfl ?_
    refine L.a [0,0] [] (Ac.apv (ty:=aD) hv h0 rfl rfl rfl rfl rfl rfl rfl) rfl rfl rfl rfl rfl ?_
    rintro ⟨a1,c1⟩
    refine L.q 1 rfl ?_
    refine L.nil (E.then (T.ret ?_))
    subst r
    exact E.ret (a1,c1) [0,0] [] (.tmp rfl .nil) rfl rfl rfl
theorem wJ {b:cF} {r:(List aJ)} (H:kK b=some r):CT G 81 [.pointer (some ⟨N0,0,none⟩)] [Ch.box N0 115 [.slice A0 b.l.length C0,.slice A1 b.bV.length C1,.slice A2 b.begun.length C2],Ch.arr (Ty.slice aD) 40 A0 C0 b.l,Ch.arr (Ty.int .i64) 3 A1 C1 b.bV,Ch.arr aD 112 A2 C2 b.begun] [] (λh:(Option Addr×Nat)=> .slice h.1 r.length h.2) (λh=>[Ch.arr aD 112 h.1 h.2 r,Ch.box N0 115 [.slice A0 b.l.length C0,.slice A1 b.bV.length C1,.slice A2 b.begun.length C2],Ch.arr (Ty.slice aD) 40 A0 C0 b.l,Ch.arr (Ty.int .i64) 3 A1 C1 b.bV,Ch.arr aD 112 A2 C2 b.begun]) (λh=>[]):=by
 delta kK at H
 refine Cf Go.Proofs.Tryz.func81 λK=> ?_
 refine Z2 ?_
 have ⟨r1,h2,H3⟩:=bnd H
 refine Lk [3] [] (pT A2 C2 h2) λ⟨a4,c5⟩=> ?_
 refine Z0 ?_
 cases H3
 exact Eo1 (a4,c5) [0,1,1,1,0] []
theorem sq {s_:aB} {r:Int×Int} (H:jX s_=some r):CT G 82 [.pointer (some ⟨N0,0,none⟩)] [Ch.box N0 124 (cI s_ N1),Ch.box N1 169 [.int .i64 s_.g.w,.slice A0 s_.g.l.length C0],Ch.arr aC 107 A0 C0 s_.g.l] [] (λ_:Unit=> .tuple #[.int .i64 r.1,.int .i64 r.2]) (λh=>[Ch.box N0 124 (cI s_ N1),Ch.box N1 169 [.int .i64 s_.g.w,.slice A0 s_.g.l.length C0],Ch.arr aC 107 A0 C0 s_.g.l]) (λh=>[]):=by
 delta jX at H
 refine Cf Go.Proofs.Tryz.func82 λK=> ?_
 refine Y2 ?_
 refine Td [] [0,0,0] mo ?_
 refine Dq 0 ?_
 refine Dq 1 ?_
 refine Dq 2 ?_
 refine Dq 3 ?_
 refine Db 4 0 ?_
 refine Dq 5 ?_
 refine Dq 6 ?_
 refine Dq 7 ?_
 refine Dq 8 ?_
 refine Db 9 0 ?_
 refine Dq 10 ?_
 refine Dq 11 ?_
 refine Dn ?_
 refine Z0 ?_
 cases H
 exact Eo () [0,0,0] [] (.tmp rfl (.tmp rfl .nil))
theorem HV {k:Int} {s_:aB} {b:cF} {r:aH×aB} (H:tO k s_ b=some r):CT G 36 [.int .i64 k,.pointer (some ⟨N0,0,none⟩),.pointer (some ⟨N2,0,none⟩)] [Ch.box N0 124 (cI s_ N1),Ch.box N1 169 [.int .i64 s_.g.w,.slice A0 s_.g.l.length C0],Ch.arr aC 107 A0 C0 s_.g.l,Ch.box N2 115 [.slice A1 b.l.length C1,.slice A2 b.bV.length C2,.slice A3 b.begun.length C3],Ch.arr (Ty.slice aD) 40 A1 C1 b.l,Ch.arr (Ty.int .i64) 3 A2 C2 b.bV,Ch.arr aD 112 A3 C3 b.begun] [] (λh:(Option Addr×Nat)×(Option Addr×Nat)=> .agg (k8 r.1 h.1.1 h.1.2 h.2.1 h.2.2).toArray) (λh=>[Ch.box N0 124 (cI r.2 N1),Ch.box N1 169 [.int .i64 r.2.g.w,.slice A0 r.2.g.l.length C0],Ch.arr aC 107 A0 C0 r.2.g.l,Ch.box N2 115 [.slice A1 b.l.length C1,.slice A2 b.bV.length C2,.slice A3 b.begun.length C3],Ch.arr (Ty.slice aD) 40 A1 C1 b.l,Ch.arr (Ty.int .i64) 3 A2 C2 b.bV,Ch.arr aD 112 A3 C3 b.begun]) (λh=>[Im.sl aC h.1.1 h.1.2 r.1.rows,Im.sl aD h.2.1 h.2.2 r.1.begun]):=by
 delta tO at H
 refine Cf Go.Proofs.Tryz.func36 λK=> ?_
 refine Z1 ?_
 refine Ll λg1=> ?_
 refine Z1 ?_
 have ⟨r2,h3,H4⟩:=bnd H
 refine Lk [1,1,1] [] (tJ h3) λ⟨g5,⟨a6,c7⟩⟩=> ?_
 refine Z1 ?_
 have ⟨B,a,c⟩:=bnd H4
 refine Lk [2,2,2] [] (sN a) λ⟨⟩=> ?_
 refine Z0 ?_
 have ⟨C,d,e⟩:=bnd c
 refine Lk [3,3] [] (xD d) λ⟨f,i⟩=> ?_
 refine Z0 ?_
 have ⟨F,j,m⟩:=bnd e
 refine Lk [7,7,7,7] [] (sC j) λ⟨⟩=> ?_
 refine Z0 ?_
 have ⟨I,n,o⟩:=bnd m
 refine Lk [0,0,0,0] [] (sC n) λ⟨⟩=> ?_
 have ⟨J,p,q⟩:=bnd o
 refine Lk [0,0,0,0] [] (wI p) λ⟨⟩=> ?_
 refine Z0 ?_
 have ⟨M,s,t⟩:=bnd q
 refine Lk [0,0,0,0] [] (wJ s) λ⟨u,v⟩=> ?_
 refine Z0 ?_
 refine Ll λN=> ?_
 refine Lt 0 ?_
 refine Z1 ?_
 have ⟨O,x,y⟩:=bnd t
 refine Lk [7,7] [] (gX x) λ⟨⟩=> ?_
 refine Z0 ?_
 refine Lt 2 ?_
 refine Z0 ?_
 refine Lt 0 ?_
 refine Z1 ?_
 have ⟨P,z,A⟩:=bnd y
 refine Lk [9,9,9] [] (sq z) λ⟨⟩=> ?_
 refine Z0 ?_
 refine Lt 3 ?_
 refine Z0 ?_
 refine Lt 0 ?_
 refine Z1 ?_
 refine Lt 12 ?_
 refine Z0 ?_
 refine E.frz 12 rfl ?_
 refine E.frz 7 rfl ?_
 cases A
 exact Eo ((f,i),(u,v)) [2,2,2,4,4,4,4] [1,0] (.cell 0 rfl rfl rfl .nil)
theorem lV {m_:bB} {r:aH×bB} (H:eM m_=some r):CT G 13 [.pointer (some ⟨N0,0,none⟩)] [Ch.box N0 56 (sb m_ N1 N2 N3),Ch.box N1 115 [.slice A0 m_.book.l.length C0,.slice A1 m_.book.bV.length C1,.slice A2 m_.book.begun.length C2],Ch.arr (Ty.slice aD) 40 A0 C0 m_.book.l,Ch.arr (Ty.int .i64) 3 A1 C1 m_.book.bV,Ch.arr aD 112 A2 C2 m_.book.begun,Ch.box N2 76 (mh m_.parser A3 C3),Ch.opt (m_.parser.state == (3:Int)) (Ty.int .i64) 3 A3 C3 m_.parser.order.bJ,Ch.box N3 124 (cI m_.aV N4),Ch.box N4 169 [.int .i64 m_.aV.g.w,.slice A5 m_.aV.g.l.length C5],Ch.arr aC 107 A5 C5 m_.aV.g.l] [] (λh:(Option Addr×Nat)×(Option Addr×Nat)×(Option Addr×Nat)=> .agg (k8 r.1 h.1.1 h.1.2 h.2.1.1 h.2.1.2).toArray) (λh=>[Ch.box N0 56 (sb r.2 N1 N2 N3),Ch.box N1 115 [.slice A0 r.2.book.l.length C0,.slice A1 r.2.book.bV.length C1,.slice A2 r.2.book.begun.length C2],Ch.arr (Ty.slice aD) 40 A0 C0 r.2.book.l,Ch.arr (Ty.int .i64) 3 A1 C1 r.2.book.bV,Ch.arr aD 112 A2 C2 r.2.book.begun,Ch.box N2 76 (mh r.2.parser A3 C3),Ch.opt (r.2.parser.state == (3:Int)) (Ty.int .i64) 3 A3 C3 r.2.parser.order.bJ,Ch.box N3 124 (cI r.2.aV N4),Ch.box N4 169 [.int .i64 r.2.aV.g.w,.slice A5 r.2.aV.g.l.length C5],Ch.arr aC 107 A5 C5 r.2.aV.g.l]) (λh=>[Im.sl aC h.1.1 h.1.2 r.1.rows,Im.sl aD h.2.1.1 h.2.1.2 r.1.begun]):=by
 delta eM at H
 refine Cf Go.Proofs.Tryz.func13 λK=> ?_
 refine Z1 ?_
 refine Ll λg1=> ?_
 refine Y1 ?_
 refine Td [14] [0,0,4,4] mo ?_
 refine Dq 0 ?_
 refine Dq 1 ?_
 refine Dq 2 ?_
 refine Db 3 1 ?_
 refine Dq 4 ?_
 refine Dq 5 ?_
 refine Dq 6 ?_
 refine Dq 7 ?_
 refine Db 8 1 ?_
 refine Dq 9 ?_
 refine Dq 10 ?_
 refine Dq 11 ?_
 refine Db 12 1 ?_
 have ⟨i,a,b⟩:=bnd H
 refine Dk [4,4,4,0,0,0,0] [] (HV a) λ⟨⟨c,d⟩,⟨e,f⟩⟩=> ?_
 refine Dt 0 ?_
 refine Dn ?_
 refine Z0 ?_
 cases b
 exact Eo ((c,d),(e,f),(none,0)) [1,6,6,6,6,1,1,1,1,1] [0,1] (.cell 0 rfl rfl rfl .nil)
theorem qn {s_:aH} {r:Bool} (H:iJ s_=some r):CT G 68 [.agg (k8 s_ A0 C0 A1 C1).toArray] [] [Im.sl aC A0 C0 s_.rows,Im.sl aD A1 C1 s_.begun] (λ_:Unit=> .bool r) (λh=>[]) (λh=>[]):=by
 delta iJ at H
 refine Cf Go.Proofs.Tryz.func68 λK=> ?_
 refine Z1 ?_
 refine Lx λg1=> ?_
 refine Y1 ?_
 have ⟨k,l,m⟩:=bnd H
 refine Tj0 [(2,.bool k)] [] [] [0] ?_ ?_
 ·refine Z0 ?_
  refine Lw 6 l (λa=> ?_) λa=> ?_
  ·refine Z0 ?_
   refine Lw 11 a (λb=> ?_) λb=> ?_
   ·refine Z0 ?_
    refine Lw 16 b (λc=> ?_) λc=> ?_
    ·refine Z0 ?_
     refine Lw 21 c (λd=> ?_) λd=> ?_
     ·refine Z0 ?_
      refine Lw 26 d (λe=> ?_) λe=> ?_
      ·refine Z0 ?_
       refine Lw 31 e (λf=> ?_) λf=> ?_
       ·refine Z0 ?_
        refine Lw 37 f (λg=> ?_) λg=> ?_
        ·refine Z0 ?_
         refine Lw 42 g (λi=> ?_) λi=> ?_
         ·refine Z0 ?_
          refine Lw 47 i (λj=> ?_) λj=> ?_
          ·refine Z0 ?_
           cases j
           exact Eg0 [0] 0
          refine Z0 ?_
          cases j
          exact Eg0 [0] 0
         refine Z0 ?_
         cases i
         exact Eg0 [0] 0
        refine Z0 ?_
        cases g
        exact Eg0 [0] 0
       refine Z0 ?_
       cases f
       exact Eg0 [0] 0
      refine Z0 ?_
      cases e
      exact Eg0 [0] 0
     refine Z0 ?_
     cases d
     exact Eg0 [0] 0
    refine Z0 ?_
    cases c
    exact Eg0 [0] 0
   refine Z0 ?_
   cases b
   exact Eg0 [0] 0
  refine Z0 ?_
  cases a
  exact Eg0 [0] 0
 refine Z0 ?_
 cases m
 exact Eo1 () [] []
theorem iC {n_:Int} {lo:Int} {hi:Int} {r:Bool} (H:eX n_ lo hi=some r):CT G 108 [.int .i64 n_,.int .i64 lo,.int .i64 hi] [] [] (λ_:Unit=> .bool r) (λh=>[]) (λh=>[]):=by
 delta eX at H
 refine Cf Go.Proofs.Tryz.func108 λK=> ?_
 refine Y2 ?_
 have ⟨e4,H5,H6⟩:=bnd H
 refine Tj0 [(6,.bool e4)] [] [] [] ?_ ?_
 ·refine Z0 ?_
  refine Lw 10 H5 (λH7=> ?_) λH7=> ?_
  ·refine Z0 ?_
   cases H7
   exact Eg0 [] 0
  refine Z0 ?_
  cases H7
  exact Eg0 [] 0
 refine Z0 ?_
 cases H6
 exact Eo1 () [] []
theorem wK {s_:aH} {r:Bool} (H:kS s_=some r):CT G 69 [.agg (k8 s_ A0 C0 A1 C1).toArray] [] [Im.sl aC A0 C0 s_.rows,Im.sl aD A1 C1 s_.begun] (λ_:Unit=> .bool r) (λh=>[]) (λh=>[]):=by
 delta kS at H
 refine Cf Go.Proofs.Tryz.func69 λK=> ?_
 refine Z1 ?_
 refine Lx λg1=> ?_
 refine Y1 ?_
 have ⟨k,l,m⟩:=bnd H
 refine Tj0 [(2,.bool k)] [] [] [0] ?_ ?_
 ·refine Z0 ?_
  have ⟨C,n,o⟩:=bnd l
  refine Lk [] [] (iC n) λ⟨⟩=> ?_
  refine Z0 ?_
  refine Lw 6 o (λa=> ?_) λa=> ?_
  ·refine Z0 ?_
   have ⟨F,p,q⟩:=bnd a
   refine Lk [] [] (iC p) λ⟨⟩=> ?_
   refine Z0 ?_
   refine Lw 11 q (λb=> ?_) λb=> ?_
   ·refine Z0 ?_
    have ⟨I,s,t⟩:=bnd b
    refine Lk [] [] (iC s) λ⟨⟩=> ?_
    refine Z0 ?_
    refine Lw 16 t (λc=> ?_) λc=> ?_
    ·refine Z0 ?_
     have ⟨J,u,v⟩:=bnd c
     refine Lk [] [] (iC u) λ⟨⟩=> ?_
     refine Z0 ?_
     refine Lw 24 v (λd=> ?_) λd=> ?_
     ·refine Z0 ?_
      have ⟨M,w,x⟩:=bnd d
      refine Lk [] [] (iC w) λ⟨⟩=> ?_
      refine Z0 ?_
      refine Lw 32 x (λe=> ?_) λe=> ?_
      ·refine Z0 ?_
       refine Lw 40 e (λf=> ?_) λf=> ?_
       ·refine Z0 ?_
        refine Lw 46 f (λg=> ?_) λg=> ?_
        ·refine Z0 ?_
         have ⟨N,y,z⟩:=bnd g
         refine Lk [] [] (iC y) λ⟨⟩=> ?_
         refine Z0 ?_
         refine Lw 51 z (λi=> ?_) λi=> ?_
         ·refine Z0 ?_
          have ⟨O,A,B⟩:=bnd i
          refine Lk [] [] (iC A) λ⟨⟩=> ?_
          refine Z0 ?_
          refine Lw 56 B (λj=> ?_) λj=> ?_
          ·refine Z0 ?_
           cases j
           exact Eg0 [0] 0
          refine Z0 ?_
          cases j
          exact Eg0 [0] 0
         refine Z0 ?_
         cases i
         exact Eg0 [0] 0
        refine Z0 ?_
        cases g
        exact Eg0 [0] 0
       refine Z0 ?_
       cases f
       exact Eg0 [0] 0
      refine Z0 ?_
      cases e
      exact Eg0 [0] 0
     refine Z0 ?_
     cases d
     exact Eg0 [0] 0
    refine Z0 ?_
    cases c
    exact Eg0 [0] 0
   refine Z0 ?_
   cases b
   exact Eg0 [0] 0
  refine Z0 ?_
  cases a
  exact Eg0 [0] 0
 refine Z0 ?_
 cases m
 exact Eo1 () [] []
theorem wL {r_:Int} {aM:Int} {r:Bool} (H:mM r_ aM=some r):CT G 72 [.int .i32 r_,.int .i64 aM] [] [] (λ_:Unit=> .bool r) (λh=>[]) (λh=>[]):=by
 delta mM at H
 refine Cf Go.Proofs.Tryz.func72 λK=> ?_
 refine Y2 ?_
 have ⟨b,c,d⟩:=bnd H
 refine Tj0 [(4,.bool b)] [] [] [] ?_ ?_
 ·refine Z0 ?_
  have ⟨j,e,f⟩:=bnd c
  refine Lk [] [] (iC e) λ⟨⟩=> ?_
  refine Z0 ?_
  refine Lw 8 f (λa=> ?_) λa=> ?_
  ·refine Z0 ?_
   have ⟨k,g,i⟩:=bnd a
   refine Lk [] [] (iC g) λ⟨⟩=> ?_
   refine Z0 ?_
   cases i
   exact Eg0 [] 0
  refine Z0 ?_
  cases a
  exact Eg0 [] 0
 refine Z0 ?_
 cases d
 exact Eo1 () [] []
theorem uB {g:aJ} {r:Bool} (H:jR g=some r):CT G 71 [.agg #[.int .i32 g.rune,.int .i64 g.aM]] [] [] (λ_:Unit=> .bool r) (λh=>[]) (λh=>[]):=by
 delta jR at H
 refine Cf Go.Proofs.Tryz.func71 λK=> ?_
 refine Z1 ?_
 refine Lx λg1=> ?_
 refine Z1 ?_
 have ⟨r2,h3,H4⟩:=bnd H
 refine Lk [] [] (wL h3) λ⟨⟩=> ?_
 refine Z0 ?_
 cases H4
 exact Eo1 () [] []
theorem l8 {s_:List aJ} {r:Int} (H:dQ s_=some r):CT G 109 [.slice A0 s_.length C0,.func (.func 71) #[] #[]] [] [Im.sl aD A0 C0 s_] (λ_:Unit=> .int .i64 r) (λh=>[]) (λh=>[]):=by
 delta dQ at H
 refine Cf Go.Proofs.Tryz.func109 λK=> ?_
 refine Z3 ?_
 have ⟨a,i,e⟩:=bnd H
 refine Tj (η:=Unit×Unit) (λh=>a = .inl h.1) (λ_=>[]) [] (λ_=>[]) [] (λ_=>[]) ?_ ?_
 ·refine Yl0 ?_
  refine Tq (η:=Unit) (λf h=>[(8,.int .i64 f)]) [0,1,7] (λ_ _=>[]) [] (λ_ _=>[]) () [] [] i ?_
  rintro k_ f ⟨⟩ j k l g
  refine Y2 ?_
  refine Tb k (λb=> ?_) λb=> ?_
  ·refine Z1 ?_
   refine Zl ?_
   refine Z2 ?_
   have ⟨s,c,m⟩:=bnd b
   refine L.addr 0 rfl (cJ c) λt u n=> ?_
   subst n
   refine Ly (Yl.ia c rfl rfl rfl rfl rfl rfl) ?_
   refine L.el 0 rfl (aU c).2 ?_
   rintro _
   refine Lc 0 0 ?_
   have ⟨v,o,p⟩:=bnd m
   refine Lk [] [] (uB o) λ⟨⟩=> ?_
   refine Z0 ?_
   refine Tb p (λd=> ?_) λd=> ?_
   ·refine Z1 ?_
    obtain ⟨w,hz,q⟩:=fH d
    subst j
    have hb:=g _ rfl
    subst a
    obtain rfl:=(sm e).symm
    refine Z0 ?_
    cases q
    exact Eo1 () [] []
   refine Z0 ?_
   cases d
   exact Eg (_,()) (l _ rfl) [] [] 1
  refine Z0 ?_
  cases b
  have hb:=g _ rfl
  subst a
  exact Eg (_,()) rfl [] [] 0
 rintro ⟨x,⟨⟩⟩ hy
 subst hy
 refine Z1 ?_
 cases e
 exact Eo1 () [] []
theorem lF {s_:List aJ} {r:Bool} (H:cM s_=some r):CT G 70 [.slice A0 s_.length C0,.func (.func 71) #[] #[]] [] [Im.sl aD A0 C0 s_] (λ_:Unit=> .bool r) (λh=>[]) (λh=>[]):=by
 delta cM at H
 refine Cf Go.Proofs.Tryz.func70 λK=> ?_
 refine Z2 ?_
 have ⟨r1,h2,H3⟩:=bnd H
 refine Lk [] [0] (l8 h2) λ⟨⟩=> ?_
 refine Z0 ?_
 cases H3
 exact Eo1 () [] []
theorem DX {c:aG} {r:Bool} (H:oH c=some r):CT G 75 [.agg #[.int .i32 c.rune,.int .i64 c.aM,.int .i64 c.part]] [] [] (λ_:Unit=> .bool r) (λh=>[]) (λh=>[]):=by
 delta oH at H
 refine Cf Go.Proofs.Tryz.func75 λK=> ?_
 refine Z1 ?_
 refine Lx λg1=> ?_
 refine Y1 ?_
 have ⟨b,d,e⟩:=bnd H
 refine Tj0 [(2,.bool b)] [] [] [0] ?_ ?_
 ·refine Z0 ?_
  have ⟨k,f,g⟩:=bnd d
  refine Lk [] [] (wL f) λ⟨⟩=> ?_
  refine Z0 ?_
  refine Lw 8 g (λa=> ?_) λa=> ?_
  ·refine Z0 ?_
   have ⟨l,i,j⟩:=bnd a
   refine Lk [] [] (iC i) λ⟨⟩=> ?_
   refine Z0 ?_
   cases j
   exact Eg0 [0] 0
  refine Z0 ?_
  cases a
  exact Eg0 [0] 0
 refine Z0 ?_
 cases e
 exact Eo1 () [] []
theorem uC {c:aG} {r:Bool} (H:jS c=some r):CT G 74 [.agg #[.int .i32 c.rune,.int .i64 c.aM,.int .i64 c.part]] [] [] (λ_:Unit=> .bool r) (λh=>[]) (λh=>[]):=by
 delta jS at H
 refine Cf Go.Proofs.Tryz.func74 λK=> ?_
 refine Z1 ?_
 refine Lx λg1=> ?_
 refine Z1 ?_
 have ⟨r2,h3,H4⟩:=bnd H
 refine Lk [] [] (DX h3) λ⟨⟩=> ?_
 refine Z0 ?_
 cases H4
 exact Eo1 () [] []
theorem mi {s_:List aG} {r:Int} (H:dV s_=some r):CT G 110 [.slice A0 s_.length C0,.func (.func 74) #[] #[]] [] [Im.sl aQ A0 C0 s_] (λ_:Unit=> .int .i64 r) (λh=>[]) (λh=>[]):=by
 delta dV at H
 refine Cf Go.Proofs.Tryz.func110 λK=> ?_
 refine Z3 ?_
 have ⟨a,i,e⟩:=bnd H
 refine Tj (η:=Unit×Unit) (λh=>a = .inl h.1) (λ_=>[]) [] (λ_=>[]) [] (λ_=>[]) ?_ ?_
 ·refine Yl0 ?_
  refine Tq (η:=Unit) (λf h=>[(8,.int .i64 f)]) [0,1,7] (λ_ _=>[]) [] (λ_ _=>[]) () [] [] i ?_
  rintro k_ f ⟨⟩ j k l g
  refine Y2 ?_
  refine Tb k (λb=> ?_) λb=> ?_
  ·refine Z1 ?_
   refine Zl ?_
   refine Z2 ?_
   have ⟨s,c,m⟩:=bnd b
   refine L.addr 0 rfl (cJ c) λt u n=> ?_
   subst n
   refine Ly (Yl.ia c rfl rfl rfl rfl rfl rfl) ?_
   refine L.el 0 rfl (aU c).2 ?_
   rintro _
   refine Lc 0 0 ?_
   have ⟨v,o,p⟩:=bnd m
   refine Lk [] [] (uC o) λ⟨⟩=> ?_
   refine Z0 ?_
   refine Tb p (λd=> ?_) λd=> ?_
   ·refine Z1 ?_
    obtain ⟨w,hz,q⟩:=fH d
    subst j
    have hb:=g _ rfl
    subst a
    obtain rfl:=(sm e).symm
    refine Z0 ?_
    cases q
    exact Eo1 () [] []
   refine Z0 ?_
   cases d
   exact Eg (_,()) (l _ rfl) [] [] 1
  refine Z0 ?_
  cases b
  have hb:=g _ rfl
  subst a
  exact Eg (_,()) rfl [] [] 0
 rintro ⟨x,⟨⟩⟩ hy
 subst hy
 refine Z1 ?_
 cases e
 exact Eo1 () [] []
theorem lH {s_:List aG} {r:Bool} (H:cA s_=some r):CT G 73 [.slice A0 s_.length C0,.func (.func 74) #[] #[]] [] [Im.sl aQ A0 C0 s_] (λ_:Unit=> .bool r) (λh=>[]) (λh=>[]):=by
 delta cA at H
 refine Cf Go.Proofs.Tryz.func73 λK=> ?_
 refine Z2 ?_
 have ⟨r1,h2,H3⟩:=bnd H
 refine Lk [] [0] (mi h2) λ⟨⟩=> ?_
 refine Z0 ?_
 cases H3
 exact Eo1 () [] []
theorem mv {s_:aH} {r:Int} (H:eY s_=some r):CT G 34 [.agg (k8 s_ A0 C0 A1 C1).toArray] [] [Im.sl aC A0 C0 s_.rows,Im.sl aD A1 C1 s_.begun] (λ_:Unit=> .int .i64 r) (λh=>[]) (λh=>[]):=by
 delta eY at H
 refine Cf Go.Proofs.Tryz.func34 λK=> ?_
 refine Z1 ?_
 refine Lx λg1=> ?_
 refine Z2 ?_
 have ⟨r2,h3,H4⟩:=bnd H
 refine Lk [] [0,1] (qn h3) λ⟨⟩=> ?_
 refine Z0 ?_
 refine Tb H4 (λH6=> ?_) λH6=> ?_
 ·refine Z1 ?_
  cases H6
  exact Eo1 () [] []
 refine Y2 ?_
 have ⟨l,m,n⟩:=bnd H6
 refine Tj0 [(14,.bool l)] [1] [] [0] ?_ ?_
 ·refine Z0 ?_
  have ⟨J,o,p⟩:=bnd m
  refine Lk [] [0,1] (wK o) λ⟨⟩=> ?_
  refine Z0 ?_
  refine Lw 10 p (λa=> ?_) λa=> ?_
  ·refine Z0 ?_
   cases a
   exact Eg0 [0] 0
  refine Z0 ?_
  have ⟨M,q,s⟩:=bnd a
  refine Lk [] [1] (lF q) λ⟨⟩=> ?_
  refine Z0 ?_
  cases s
  exact Eg0 [0] 0
 refine Tb n (λb=> ?_) λb=> ?_
 ·refine Z1 ?_
  cases b
  exact Eo1 () [] []
 refine Z2 ?_
 have ⟨c,t,i⟩:=bnd b
 refine Tj (η:=Unit×Unit) (λh=>c = .inl h.1) (λ_=>[]) [] (λ_=>[]) [0] (λ_=>[]) ?_ ?_
 ·refine Yl0 ?_
  refine Tq (η:=Unit) (λj h=>[(18,.int .i64 j)]) [1,16,17] (λ_ _=>[]) [0] (λ_ _=>[]) () [0] [] t ?_
  rintro k_ j ⟨⟩ u v w k
  refine Y2 ?_
  refine Tb v (λd=> ?_) λd=> ?_
  ·refine Z1 ?_
   refine Zl ?_
   refine Z1 ?_
   have ⟨N,e,x⟩:=bnd d
   refine L.addr 0 rfl (cJ e) λO P y=> ?_
   subst y
   refine Ly (Yl.ia e rfl rfl rfl rfl rfl rfl) ?_
   refine L.el 0 rfl (aU e).2 ?_
   rintro ⟨Q,R⟩
   refine Lc 0 0 ?_
   refine Ll λS=> ?_
   refine Lt 0 ?_
   refine Y1 ?_
   have ⟨z,A,B⟩:=bnd x
   refine Tj0 [(32,.bool z)] [1,16,17,18] [] [0,1] ?_ ?_
   ·refine Z0 ?_
    refine Lw 28 A (λf=> ?_) λf=> ?_
    ·refine Z0 ?_
     cases f
     exact Eg0 [0,0] 0
    refine Z0 ?_
    have ⟨U,C,F⟩:=bnd f
    refine Lk [] [1] (lH C) λ⟨⟩=> ?_
    refine Z0 ?_
    cases F
    exact Eg0 [0,0] 0
   refine Tb B (λg=> ?_) λg=> ?_
   ·refine Z1 ?_
    obtain ⟨V,hz,I⟩:=fH g
    subst u
    have hb:=k _ rfl
    subst c
    obtain rfl:=(sm i).symm
    refine Z0 ?_
    cases I
    exact Eo1 () [] []
   refine Z0 ?_
   cases g
   exact Eg (_,()) (w _ rfl) [1] [] 2
  refine Z0 ?_
  cases d
  have hb:=k _ rfl
  subst c
  exact Eg (_,()) rfl [0] [] 0
 rintro ⟨W,⟨⟩⟩ hy
 subst hy
 refine Z1 ?_
 cases i
 exact Eo1 () [] []
theorem oa {s_:aH} {r:aH} (H:iK s_=some r):CT G 35 [.agg (k8 s_ A0 C0 A1 C1).toArray] [] [Im.sl aC A0 C0 s_.rows,Im.sl aD A1 C1 s_.begun] (λh:(Option Addr×Nat)×(Option Addr×Nat)=> .agg (k8 r h.1.1 h.1.2 h.2.1 h.2.2).toArray) (λh=>[]) (λh=>[Im.sl aC h.1.1 h.1.2 r.rows,Im.sl aD h.2.1 h.2.2 r.begun]):=by
 delta iK at H
 refine Cf Go.Proofs.Tryz.func35 λK=> ?_
 refine Z1 ?_
 refine Lx λg1=> ?_
 refine Ll λg2=> ?_
 refine Z3 ?_
 have ⟨f,j,k⟩:=bnd H
 refine Tjh (η:=(Option Addr×Nat)) (λh=>(λa b=>[(3,.slice a f.length b)]) h.1 h.2) [1,2] (λh=>(λa b=>[Ch.arr aC 107 a b f]) h.1 h.2) [0,1] (λ_=>[]) ?_ ?_
 ·refine Yl0 ?_
  refine T.iS aC 107 ?_
  refine Tq (η:=(Option Addr×Nat)) (λc h=>(λd e=>[(3,.slice d c.1.length e),(9,.int .i64 c.2)]) h.1 h.2) [1,2,7,8] (λc h=>(λd e=>[Ch.arr aC 107 d e c.1]) h.1 h.2) [1,2] (λ_ _=>[]) (none,0) [0,0,0] [] j ?_
  rintro k_ c ⟨d,e⟩ N l m n
  refine Y2 ?_
  refine Tb l (λg=> ?_) λg=> ?_
  ·refine Z1 ?_
   refine Zl ?_
   refine Z1 ?_
   have ⟨o,i,p⟩:=bnd g
   refine L.addr 0 rfl (cJ i) λO P q=> ?_
   subst q
   refine Ly (Yl.ia i rfl rfl rfl rfl rfl rfl) ?_
   refine L.el 0 rfl (aU i).2 ?_
   rintro ⟨s,t⟩
   refine Lc 0 0 ?_
   refine Ll λQ=> ?_
   refine Lt 0 ?_
   refine Z0 ?_
   refine Td [] [0,1,1] mo ?_
   refine Dq 0 ?_
   refine Dq 1 ?_
   refine Db 2 0 ?_
   refine Dq 4 ?_
   refine Db 5 0 ?_
   have ⟨u,v,w⟩:=bnd p
   refine Dk [] [1] (lE s t v) λ⟨x,y⟩=> ?_
   refine Dq 6 ?_
   refine D.frz 0 rfl ?_
   refine Da [] [0] rfl rfl (Ac.bs (ty:=aC) (xs:=[(aE.mk u o.wrapped)]) (.cons (x,y) [0] rfl .nil) rfl rfl rfl rfl rfl rfl rfl) λR=> ?_
   refine D.frz 0 rfl ?_
   have ⟨_,z,A⟩:=bnd w
   refine Da [0] [0] rfl rfl (Ac.ap (ty:=aC) z rfl rfl rfl rfl rfl rfl rfl) ?_
   rintro ⟨B,C⟩
   refine Dq 9 ?_
   refine Dn ?_
   refine Z0 ?_
   cases A
   exact Eg (_,(B,C)) (m _ rfl) [3,1,1] [] 4
  refine Z0 ?_
  cases g
  have hb:=n _ rfl
  subst f
  exact Eg (d,e) trivial [0,0,0] [] 0
 rintro ⟨a,b⟩
 refine Z1 ?_
 have ⟨S,F,I⟩:=bnd k
 refine Lk [] [1] (k9 A1 C1 F) λ⟨J,M⟩=> ?_
 refine Z0 ?_
 refine Lt 3 ?_
 refine Z0 ?_
 refine Lt 0 ?_
 refine Z1 ?_
 refine Lt 3 ?_
 refine Z0 ?_
 refine E.frz 3 rfl ?_
 refine E.frz 2 rfl ?_
 cases I
 exact Eo ((a,b),(J,M)) [] [1,0] (.cell 0 rfl rfl rfl .nil)
theorem oS {s_:aK} {x_:aH} {r:Bool×aK} (H:fC s_ x_=some r):CT G 12 [.pointer (some ⟨N0,0,none⟩),.agg (k8 x_ A7 C7 A8 C8).toArray] [Ch.box N0 83 (qt s_ A0 C0 A1 C1 A2 C2 A3 C3 A4 C4 A5 C5 A6 C6),Ch.aro bO 42 A4 C4 s_.kept,Ch.arr Ty.bool 4 A6 C6 s_.message.there] [Im.sl aC A0 C0 s_.current.rows,Im.sl aD A1 C1 s_.current.begun,Im.sl aC A2 C2 s_.aN.rows,Im.sl aD A3 C3 s_.aN.begun,Im.sl Ty.str A5 C5 s_.message.parts,Im.sl aC A7 C7 x_.rows,Im.sl aD A8 C8 x_.begun] (λh:(Option Addr×Nat)×(Option Addr×Nat)=> .bool r.1) (λh=>[Ch.box N0 83 (qt r.2 h.1.1 h.1.2 h.2.1 h.2.2 A2 C2 A3 C3 A4 C4 A5 C5 A6 C6),Ch.aro bO 42 A4 C4 r.2.kept,Ch.arr Ty.bool 4 A6 C6 r.2.message.there]) (λh=>[Im.sl aC h.1.1 h.1.2 r.2.current.rows,Im.sl aD h.2.1 h.2.2 r.2.current.begun,Im.sl aC A2 C2 r.2.aN.rows,Im.sl aD A3 C3 r.2.aN.begun,Im.sl Ty.str A5 C5 r.2.message.parts]):=by
 delta fC at H
 refine Cf Go.Proofs.Tryz.func12 λK=> ?_
 refine Z1 ?_
 refine Lx λg1=> ?_
 refine Y2 ?_
 have ⟨c,d,e⟩:=bnd H
 refine Tj0 [(17,.bool c)] [0,3] [] [0,1,2,3] ?_ ?_
 ·refine Td [] [0,0,0,0] mo ?_
  refine Db 0 0 ?_
  have ⟨o,f,g⟩:=bnd d
  refine Dk [] [5,6] (mv f) λ⟨⟩=> ?_
  refine Dq 2 ?_
  refine Dq 3 ?_
  refine D.cs 8 g rfl (λhc a=> ?_) (λhc a=> ?_)
  ·refine Ds 4 ?_
   refine Ds 5 ?_
   refine Ds 6 ?_
   refine Ds 7 ?_
   refine Ds 8 ?_
   refine Ds 9 ?_
   refine Ds 10 ?_
   refine Ds 11 ?_
   refine Dq 12 ?_
   refine Dn ?_
   cases a
   exact Eg0 [0,0,0,0] 0
  refine Dq 4 ?_
  refine Db 5 0 ?_
  refine Dq 6 ?_
  refine Dq 7 ?_
  refine Dq 8 ?_
  refine Dq 9 ?_
  refine Db 10 1 ?_
  refine Dq 11 ?_
  refine Dq 12 ?_
  refine Dn ?_
  cases a
  exact Eg0 [0,0,0,0] 0
 refine Tb e (λb=> ?_) λb=> ?_
 ·refine Z1 ?_
  cases b
  exact Eo1 ((A0,C0),(A1,C1)) [1,1,1] [0,1,2,3,4]
 refine Z1 ?_
 have ⟨p,i,j⟩:=bnd b
 refine Lk [] [5,6] (oa i) λ⟨⟨k,l⟩,⟨m,n⟩⟩=> ?_
 refine Z0 ?_
 refine Lt 1 ?_
 refine Z1 ?_
 cases j
 exact Eo1 ((k,l),(m,n)) [0,1,1] [0,1,4,5,6]
theorem ng {o:cG} {l:List ByteArray} {r:cG} (H:iA o l=some r):CT G 116 [.pointer (some ⟨N0,0,none⟩),.slice A1 l.length C1] [Ch.box N0 182 [.slice A0 o.b.length C0],Ch.arr (Ty.int .u8) 5 A0 C0 o.b] [Im.sl Ty.str A1 C1 l] (λh:(Option Addr×Nat)=> .pointer (some ⟨N0,0,none⟩)) (λh=>[Ch.box N0 182 [.slice h.1 r.b.length h.2],Ch.arr (Ty.int .u8) 5 h.1 h.2 r.b]) (λh=>[]):=by
 delta iA at H
 refine Cf Go.Proofs.Tryz.func116 λK=> ?_
 refine Z3 ?_
 have ⟨g,k,m⟩:=bnd H
 refine Tjh (η:=(Option Addr×Nat)) (λ_=>[]) [0] (λh=>(λe f=>[Ch.arr (Ty.int .u8) 5 e f g.b,Ch.box N0 182 [.slice e g.b.length f]]) h.1 h.2) [] (λ_=>[]) ?_ ?_
 ·refine Yl0 ?_
  refine Tq (η:=(Option Addr×Nat)) (λa h=>(λc d=>[(9,.int .i64 a.2)]) h.1 h.2) [0,7,8] (λa h=>(λc d=>[Ch.arr (Ty.int .u8) 5 c d a.1.b,Ch.box N0 182 [.slice c a.1.b.length d]]) h.1 h.2) [] (λ_ _=>[]) (A0,C0) [1,0] [] k ?_
  rintro k_ a ⟨c,d⟩ y n p q
  refine Y2 ?_
  refine Tb n (λi=> ?_) λi=> ?_
  ·refine Z1 ?_
   refine Zl ?_
   refine Z1 ?_
   have ⟨z,j,s⟩:=bnd i
   refine L.addr 0 rfl (cJ j) λA B t=> ?_
   subst t
   refine Ly (Yl.ia j rfl rfl rfl rfl rfl rfl) ?_
   refine L.el 0 rfl (aU j).2 ?_
   rintro _
   refine Lc 0 0 ?_
   refine Z0 ?_
   have ⟨_,u,v⟩:=bnd s
   refine La [0] [] (Ac.aps u rfl rfl rfl rfl rfl rfl rfl rfl rfl NR) ?_
   rintro ⟨w,x⟩
   refine Z0 ?_
   refine Lt 1 ?_
   refine Z0 ?_
   cases v
   exact Eg (_,(w,x)) (p _ rfl) [1,0] [] 1
  refine Z0 ?_
  cases i
  have hb:=q _ rfl
  subst g
  exact Eg (c,d) trivial [0,0] [] 0
 rintro ⟨e,f⟩
 refine Z1 ?_
 cases m
 exact Eo1 (e,f) [1,0] []
theorem tK {o:cG} {l:List ByteArray} {r:cG} (H:lq o l=some r):CT G 115 [.pointer (some ⟨N0,0,none⟩),.slice A1 l.length C1] [Ch.box N0 182 [.slice A0 o.b.length C0],Ch.arr (Ty.int .u8) 5 A0 C0 o.b] [Im.sl Ty.str A1 C1 l] (λh:(Option Addr×Nat)=> .pointer (some ⟨N0,0,none⟩)) (λh=>[Ch.box N0 182 [.slice h.1 r.b.length h.2],Ch.arr (Ty.int .u8) 5 h.1 h.2 r.b]) (λh=>[]):=by
 delta lq at H
 refine Cf Go.Proofs.Tryz.func115 λK=> ?_
 refine Z3 ?_
 have ⟨g,m,n⟩:=bnd H
 refine Tjh (η:=(Option Addr×Nat)) (λ_=>[]) [0] (λh=>(λe f=>[Ch.arr (Ty.int .u8) 5 e f g.b,Ch.box N0 182 [.slice e g.b.length f]]) h.1 h.2) [] (λ_=>[]) ?_ ?_
 ·refine Yl0 ?_
  refine Tq (η:=(Option Addr×Nat)) (λa h=>(λc d=>[(9,.int .i64 a.2)]) h.1 h.2) [0,7,8] (λa h=>(λc d=>[Ch.arr (Ty.int .u8) 5 c d a.1.b,Ch.box N0 182 [.slice c a.1.b.length d]]) h.1 h.2) [] (λ_ _=>[]) (A0,C0) [1,0] [] m ?_
  rintro k_ a ⟨c,d⟩ B p q s
  refine Y2 ?_
  refine Tb p (λi=> ?_) λi=> ?_
  ·refine Z1 ?_
   refine Zl ?_
   refine Z1 ?_
   have ⟨k,j,t⟩:=bnd i
   refine L.addr 0 rfl (cJ j) λC F u=> ?_
   subst u
   refine Ly (Yl.ia j rfl rfl rfl rfl rfl rfl) ?_
   refine L.el 0 rfl (aU j).2 ?_
   rintro _
   refine Lc 0 0 ?_
   refine Z0 ?_
   refine La [] [] (Ac.bs (ty:=(Ty.int .i64)) (xs:=[(k.size:Int)]) (.cons () [] rfl .nil) rfl rfl rfl rfl rfl rfl rfl) λI=> ?_
   refine L.frz 0 rfl ?_
   have ⟨J,v,w⟩:=bnd t
   refine Lk [1,0] [0] (gL v) λ⟨M,N⟩=> ?_
   refine Z0 ?_
   refine La [] [] (Ac.bs (ty:=Ty.str) (xs:=[k]) (.cons () [] rfl .nil) rfl rfl rfl rfl rfl rfl rfl) λO=> ?_
   refine L.frz 0 rfl ?_
   have ⟨P,x,y⟩:=bnd w
   refine Lk [0,0] [0] (ng x) λ⟨z,A⟩=> ?_
   refine Z0 ?_
   cases y
   exact Eg (_,(z,A)) (q _ rfl) [1,0] [] 3
  refine Z0 ?_
  cases i
  have hb:=s _ rfl
  subst g
  exact Eg (c,d) trivial [0,0] [] 0
 rintro ⟨e,f⟩
 refine Z1 ?_
 cases n
 exact Eo1 (e,f) [1,0] []
theorem Fu {is:Bool} {r:Int} (H:rG is=some r):CT G 166 [.bool is] [] [] (λ_:Unit=> .int .i64 r) (λh=>[]) (λh=>[]):=by
 delta rG at H
 refine Cf Go.Proofs.Tryz.func166 λK=> ?_
 refine Z3 ?_
 refine Tb H (λH2=> ?_) λH2=> ?_
 ·refine Z1 ?_
  cases H2
  exact Eo1 () [] []
 refine Z1 ?_
 cases H2
 exact Eo1 () [] []
theorem DY {l:List aG} {r:(List aG)} (H:p8 l=some r):CT G 167 [.slice A0 l.length C0] [] [Im.sl aQ A0 C0 l] (λh:Nat=> .func (.func 201) #[] #[.pointer (some ⟨h,0,none⟩)]) (λh=>[Ch.box h 105 [.slice A0 r.length C0]]) (λh=>[Im.sl aQ A0 C0 r]):=by
 delta p8 at H
 refine Cf Go.Proofs.Tryz.func167 λK=> ?_
 refine Z1 ?_
 refine Lx λg1=> ?_
 refine Z1 ?_
 cases H
 exact Eo1 g1 [0] [0]
theorem Aj {σ η:Type} {Y:σ->(Int×aG)->Option (σ×Bool)} {y0:σ} {x1:List aG} {yl:Nat} {C:σ->η->Ch} (hY: ∀ s (h:η) (x:Int×aG) (t:Unit) z,Y s x=some z->YT G yl [.int .i64 x.1,.agg #[.int .i32 x.2.rune,.int .i64 x.2.aM,.int .i64 x.2.part]] [C s h] [] (λ_:η=> .bool z.2) (λh2=>[C z.1 h2]) (λ_=>[])) (h0:η) (g_1:Nat) (a_1_0:Option Addr) (c_1_0:Nat) {r:σ×(List aG)} (H:oA Y y0 x1=some r):CT G 201 [.func (.yield yl) #[] #[],.pointer (some ⟨g_1,0,none⟩)] [C y0 h0,Ch.box g_1 105 [.slice a_1_0 x1.length c_1_0]] [Im.sl aQ a_1_0 c_1_0 x1] (λh:η×(Option Addr×Nat)=> .tuple #[]) (λh=>[C r.1 h.1,Ch.box g_1 105 [.slice h.2.1 r.2.length h.2.2]]) (λh=>[Im.sl aQ h.2.1 h.2.2 r.2]):=by
  delta oA at H
  refine Cf Go.Proofs.Tryz.func201 λK=> ?_
  have ⟨j,B,q⟩:=bnd H
  refine T.sR (η:=((List aG)×σ)×((Option Addr×Nat)×η)) (λh=>j = .inl h.1) (λh=>(λa=>(λb c e=>[]) h.2.1.1 h.2.1.2 h.2.2) h.1) (λh=>(λa=>(λb c e=>[C a.2 e,Ch.box g_1 105 [.slice b a.1.length c]]) h.2.1.1 h.2.1.2 h.2.2) h.1) (λh=>(λa=>(λb c e=>[Im.sl aQ b c a.1,Im.sl aQ a_1_0 c_1_0 x1]) h.2.1.1 h.2.1.2 h.2.2) h.1) ?_ ?_
  ·refine Yl0 ?_
   refine Tq (η:=(Option Addr×Nat)×η) (λ_ _=>[]) [0,1] (λf h=>(λg d i=>[C f.2 i,Ch.box g_1 105 [.slice g f.1.length d]]) h.1.1 h.1.2 h.2) [] (λf h=>(λg d i=>[Im.sl aQ g d f.1]) h.1.1 h.1.2 h.2) ((a_1_0,c_1_0),h0) [0,0] [0] B ?_
   rintro k_ f ⟨⟨g,d⟩,i⟩ F I J u
   refine Z2 ?_
   refine Tb I (λk=> ?_) λk=> ?_
   ·refine Zl ?_
    refine Y2 ?_
    have ⟨v,M,N⟩:=bnd k
    refine Tj0 [(3,.int .i64 v)] [0,1] [] [0,1] ?_ ?_
    ·refine Yl0 ?_
     refine Tq (η:=Unit) (λw h=>[(3,.int .i64 w)]) [0,1] (λ_ _=>[]) [0,1] (λ_ _=>[]) () [0,0] [] M ?_
     rintro k_ w ⟨⟩ ak O P Q
     refine Y2 ?_
     have ⟨R,S,U⟩:=bnd O
     refine Tj0 [(20,.bool R)] [0,1,3] [] [0,1] ?_ ?_
     ·refine Td [] [0,0] mo ?_
      refine Dq 0 ?_
      refine Db 1 1 ?_
      refine Dq 2 ?_
      refine Dq 3 ?_
      refine Dq 4 ?_
      refine D.cs 11 S rfl (λhc l=> ?_) (λhc l=> ?_)
      ·refine Db 5 1 ?_
       refine Dq 6 ?_
       have ⟨al,m,V⟩:=bnd l
       refine D.addr 0 rfl (cJ m) λam an W=> ?_
       subst W
       refine Dy 7 (Yl.ia m rfl rfl rfl rfl rfl rfl) ?_
       refine D.el 0 rfl (aU m).2 ?_
       rintro _
       refine Dy 8 (Yl.ldc 0 0 rfl rfl rfl rfl) ?_
       refine Db 9 1 ?_
       have ⟨ao,y,X⟩:=bnd V
       refine Dy 10 (Yl.ia y rfl rfl rfl rfl rfl rfl) ?_
       refine D.el 1 rfl (aU y).2 ?_
       rintro _
       refine Dy 11 (Yl.ldc 0 0 rfl rfl rfl rfl) ?_
       refine Dq 12 ?_
       refine Dq 13 ?_
       refine Dn ?_
       cases X
       exact Eg0 [0,0] 2
      refine Ds 5 ?_
      refine Ds 6 ?_
      refine Ds 7 ?_
      refine Ds 8 ?_
      refine Ds 9 ?_
      refine Ds 10 ?_
      refine Ds 11 ?_
      refine Ds 12 ?_
      refine Dq 13 ?_
      refine Dn ?_
      cases l
      exact Eg0 [0,0] 0
     refine Tb U (λn=> ?_) λn=> ?_
     ·refine Zl ?_
      cases n
      exact Eg (_,()) (P _ rfl) [0,0] [] 0
     refine Z0 ?_
     cases n
     have hb:=Q _ rfl
     subst v
     exact Eg0 [0,0] 0
    refine Z2 ?_
    have ⟨ap,o,Z⟩:=bnd N
    refine L.addr 0 rfl (cJ o) λaa ab ac=> ?_
    subst ac
    refine Ly (Yl.ia o rfl rfl rfl rfl rfl rfl) ?_
    refine L.el 0 rfl (aU o).2 ?_
    rintro _
    refine Lc 0 0 ?_
    have ⟨aq,ad,ae⟩:=bnd Z
    refine L.yd [0] [] (hY _ _ _ () _ ad) rfl rfl rfl rfl rfl rfl rfl rfl ?_
    intro A
    refine Z0 ?_
    refine Tb ae (λp=> ?_) λp=> ?_
    ·refine Z0 ?_
     obtain ⟨ar,hz,af⟩:=fH p
     subst F
     have hb:=u _ rfl
     subst j
     obtain rfl:=(sm q).symm
     refine Z0 ?_
     cases af
     exact Eo (A,((some ⟨aa,ab,none⟩),d)) [0,0] [1] .nil
    refine Z0 ?_
    have ⟨_,ag,ah⟩:=bnd p
    refine L.rs 1 ag rfl rfl rfl rfl rfl rfl rfl rfl rfl rfl rfl rfl ?_
    intro ai aj
    refine Lt 1 ?_
    refine Z0 ?_
    cases ah
    exact Eg (_,((ai,aj),A)) (J _ rfl) [1,0] [0] 3
   refine Z0 ?_
   cases k
   have hb:=u _ rfl
   subst j
   exact Egx (_,((g,d),i)) rfl [0,0] [0,1]
  rintro ⟨a,⟨⟨b,c⟩,e⟩⟩ hy
  subst hy
  refine E.off ?_
  cases q
  exact Eo (e,(b,c)) [0,0] [0] .nil
theorem tL {r_:aE} {r:ByteArray} (H:ko r_=some r):CT G 120 [.agg #[.slice A0 r_.cells.length C0,.bool r_.wrapped]] [] [Im.sl aQ A0 C0 r_.cells] (λ_:Unit=> .string r) (λh=>[]) (λh=>[]):=by
 delta ko at H
 refine Cf Go.Proofs.Tryz.func120 λK=> ?_
 refine T.yS ?_
 refine Z1 ?_
 refine Lx λg1=> ?_
 refine Z1 ?_
 refine Ll λg2=> ?_
 refine Z1 ?_
 have ⟨r3,h4,H5⟩:=bnd H
 refine Lk [] [] (Fu h4) λ⟨⟩=> ?_
 refine La [] [] (Ac.bs (ty:=(Ty.int .i64)) (xs:=[r3]) (.cons () [] rfl .nil) rfl rfl rfl rfl rfl rfl rfl) λg6=> ?_
 refine L.iS (Ty.int .u8) 5 ?_
 refine L.frz 1 rfl ?_
 have ⟨B,f,g⟩:=bnd H5
 refine Lk [1,0] [0] (gL f) λ⟨i,j⟩=> ?_
 refine Z2 ?_
 have ⟨k,l,m⟩:=bnd g
 refine Lk [] [1] (DY l) λn=> ?_
 refine Yl0 ?_
 have ⟨o,p,q⟩:=bnd m
 refine T.rf2 (σ:=cG) (η:=(Option Addr×Nat)) (X:=Int×aG) (θ:=Unit) (τ:=(Option Addr×Nat)×(Option Addr×Nat)) (s1:=o.1) (hx:=λx=>x.1) (λx t=>[.int .i64 x.1,.agg #[.int .i32 x.2.rune,.int .i64 x.2.aM,.int .i64 x.2.part]]) (λx t=>[]) (λ_=>none) (λa h=>(λc d=>[Ch.arr (Ty.int .u8) 5 c d a.b,Ch.box g2 182 [.slice c a.b.length d],Ch.box g1 107 [.slice A0 r_.cells.length C0,.bool r_.wrapped]]) h.1 h.2) (λa h=>(λc d=>[Im.sl aQ A0 C0 k,Im.sl (Ty.int .i64) (some ⟨g6,0,none⟩) 1 [r3],Im.sl aQ A0 C0 r_.cells]) h.1 h.2) 4 [2,1,1,0] [0,1,2] [0] rfl rfl (λ_ _=>rfl) rfl (λyl C hY=>(Aj hY (i,j) n A0 C0 p:_)) (λ_ _ _ _=>rfl) rfl rfl rfl rfl rfl ?_ rfl ?_
 ·rintro yl K2 a ⟨c,d⟩ e ⟨⟩ F s
  refine Z1 ?_
  refine Ll λI=> ?_
  refine Lt 0 ?_
  refine Z0 ?_
  refine E.begin λK3=> ?_
  refine Zl ?_
  refine La [] [] (Ac.bs (ty:=(Ty.int .i64)) (xs:=[e.1,(IntKind.i64.wrap e.2.rune),e.2.aM,e.2.part]) (.cons () [] rfl (.cons () [] rfl (.cons () [] rfl (.cons () [] rfl .nil)))) rfl rfl rfl rfl rfl rfl rfl) λJ=> ?_
  refine L.frz 0 rfl ?_
  have ⟨M,u,v⟩:=bnd s
  refine Lk [2,1] [0] (gL u) λ⟨w,y⟩=> ?_
  refine Z0 ?_
  cases v
  exact E.on (w,y) [1,0,1] [1,2,3] rfl rfl rfl rfl
 rintro ⟨N,⟨O,P⟩⟩ Q
 refine Z1 ?_
 have ⟨R,z,A⟩:=bnd q
 refine Lk [2,1] [] (nq z) λ⟨⟩=> ?_
 refine Z0 ?_
 cases A
 exact E.vu () 2 [] [] rfl (.tmp rfl .nil) rfl rfl rfl
theorem rq {s_:aH} {r:ByteArray} (H:ki s_=some r):CT G 133 [.agg (k8 s_ A0 C0 A1 C1).toArray] [] [Im.sl aC A0 C0 s_.rows,Im.sl aD A1 C1 s_.begun] (λ_:Unit=> .string r) (λh=>[]) (λh=>[]):=by
 delta ki at H
 refine Cf Go.Proofs.Tryz.func133 λK=> ?_
 refine Z1 ?_
 refine Lx λg1=> ?_
 refine Y2 ?_
 have ⟨p,q,s⟩:=bnd H
 refine Tj0 [(12,.bool p)] [1] [] [0] ?_ ?_
 ·refine Z0 ?_
  have ⟨al,t,u⟩:=bnd q
  refine Lk [] [0,1] (qn t) λ⟨⟩=> ?_
  refine Z0 ?_
  refine Lw 8 u (λf=> ?_) λf=> ?_
  ·refine Z0 ?_
   cases f
   exact Eg0 [0] 0
  refine Z0 ?_
  have ⟨am,v,z⟩:=bnd f
  refine Lk [] [0,1] (mv v) λ⟨⟩=> ?_
  refine Z0 ?_
  cases z
  exact Eg0 [0] 0
 refine Tb s (λg=> ?_) λg=> ?_
 ·refine Z1 ?_
  cases g
  exact Eo1 () [] []
 refine Z1 ?_
 refine Ll λo=> ?_
 refine Y1 ?_
 refine Td [] [1] mo ?_
 refine Dq 0 ?_
 refine Db 1 0 ?_
 refine Dq 2 ?_
 refine Db 3 0 ?_
 refine Dq 4 ?_
 refine Db 5 0 ?_
 refine Dq 6 ?_
 refine Db 7 0 ?_
 refine Dq 8 ?_
 refine Db 9 0 ?_
 refine Dq 12 ?_
 refine Db 13 0 ?_
 refine Dq 16 ?_
 refine Db 17 0 ?_
 refine Dq 18 ?_
 refine Db 19 0 ?_
 refine Dq 22 ?_
 refine Db 23 0 ?_
 refine DF.of rfl ?_
 refine DF.add _ (FSp.ac 10 [] (Ac.frz (Ac.bs (ty:=(Ty.int .i64)) (xs:=[s_.k,s_.w,s_.h,s_.x,s_.y]) (.cons () [] rfl (.cons () [] rfl (.cons () [] rfl (.cons () [] rfl (.cons () [] rfl .nil))))) rfl rfl rfl rfl rfl rfl rfl)) rfl rfl rfl rfl rfl) rfl ?_
 refine DF.add _ (FSp.ac 14 [] (Ac.frz (Ac.bs (ty:=Ty.str) (xs:=[s_.title]) (.cons () [] rfl .nil) rfl rfl rfl rfl rfl rfl rfl)) rfl rfl rfl rfl rfl) rfl ?_
 refine DF.add _ (FSp.ac 20 [] (Ac.frz (Ac.bs (ty:=(Ty.int .i64)) (xs:=[s_.len,s_.chain]) (.cons () [] rfl (.cons () [] rfl .nil)) rfl rfl rfl rfl rfl rfl rfl)) rfl rfl rfl rfl rfl) rfl ?_
 refine DF.step 11 rfl rfl rfl rfl rfl ?_
 refine DFp.use 2 rfl rfl rfl ?_
 intro an
 refine DFp.iS (Ty.int .u8) 5 ?_
 have ⟨ao,A,B⟩:=bnd g
 refine DFp.a [1,0] [0] (Ac.call (gL A) rfl rfl rfl rfl) rfl rfl rfl rfl rfl rfl rfl rfl ?_
 rintro ⟨ap,aq⟩
 refine DF.step 15 rfl rfl rfl rfl rfl ?_
 refine DFp.use 1 rfl rfl rfl ?_
 intro ar
 have ⟨au,C,F⟩:=bnd B
 refine DFp.a [0,0] [0] (Ac.call (tK C) rfl rfl rfl rfl) rfl rfl rfl rfl rfl rfl rfl rfl ?_
 rintro ⟨av,aw⟩
 refine DF.step 21 rfl rfl rfl rfl rfl ?_
 refine DFp.use 0 rfl rfl rfl ?_
 intro ax
 have ⟨ay,I,J⟩:=bnd F
 refine DFp.a [0,0] [0] (Ac.call (gL I) rfl rfl rfl rfl) rfl rfl rfl rfl rfl rfl rfl rfl ?_
 rintro ⟨az,a0⟩
 have ⟨M,N,O⟩:=bnd J
 refine DF.add _ (FSp.ac 24 [4] (Ac.call (tz N) rfl rfl rfl rfl) rfl rfl rfl rfl rfl) rfl ?_
 refine DF.add _ (FSp.dep 0 rfl rfl λ⟨⟩=>FSp.ac 25 [] (Ac.frz (Ac.bs (ty:=Ty.str) (xs:=[M]) (.cons () [] rfl .nil) rfl rfl rfl rfl rfl rfl rfl)) rfl rfl rfl rfl rfl) rfl ?_
 refine DF.step 26 rfl rfl rfl rfl rfl ?_
 refine DFp.use 0 rfl rfl rfl ?_
 intro a1
 refine DFp.use 0 rfl rfl rfl ?_
 rintro ⟨⟩
 have ⟨a2,P,Q⟩:=bnd O
 refine DFp.a [0,0] [0] (Ac.call (ng P) rfl rfl rfl rfl) rfl rfl rfl rfl rfl rfl rfl rfl ?_
 rintro ⟨R,S⟩
 refine DF.fin rfl rfl rfl rfl rfl ?_
 refine DFe.nil ?_
 refine Z2 ?_
 have ⟨i,U,V⟩:=bnd Q
 refine Tjh (η:=(Option Addr×Nat)) (λ_=>[]) [3] (λh=>(λj l=>[Ch.arr (Ty.int .u8) 5 j l i.b,Ch.box o 182 [.slice j i.b.length l]]) h.1 h.2) [0] (λ_=>[]) ?_ ?_
 ·refine Yl0 ?_
  refine Tq (η:=(Option Addr×Nat)) (λc h=>(λd e=>[(43,.int .i64 c.2)]) h.1 h.2) [3,41,42] (λc h=>(λd e=>[Ch.arr (Ty.int .u8) 5 d e c.1.b,Ch.box o 182 [.slice d c.1.b.length e]]) h.1 h.2) [0] (λ_ _=>[]) (R,S) [2,1,0] [] U ?_
  rintro k_ c ⟨d,e⟩ a3 W X Y
  refine Y2 ?_
  refine Tb W (λm=> ?_) λm=> ?_
  ·refine Z1 ?_
   refine Zl ?_
   refine Z1 ?_
   have ⟨a4,n,Z⟩:=bnd m
   refine L.addr 4 rfl (cJ n) λa5 a6 aa=> ?_
   subst aa
   refine Ly (Yl.ia n rfl rfl rfl rfl rfl rfl) ?_
   refine L.el 4 rfl (aU n).2 ?_
   rintro ⟨a7,a8⟩
   refine Lc 0 0 ?_
   refine Ll λa9=> ?_
   refine Lt 0 ?_
   refine Z0 ?_
   have ⟨ab,ad,ae⟩:=bnd Z
   refine Lk [] [1] (tL ad) λ⟨⟩=> ?_
   refine La [] [] (Ac.bs (ty:=Ty.str) (xs:=[ab]) (.cons () [] rfl .nil) rfl rfl rfl rfl rfl rfl rfl) λba=> ?_
   refine L.frz 0 rfl ?_
   have ⟨bb,af,ag⟩:=bnd ae
   refine Lk [2,1] [0] (ng af) λ⟨ah,ai⟩=> ?_
   refine Z0 ?_
   cases ag
   exact Eg (_,(ah,ai)) (X _ rfl) [1,0,1] [] 3
  refine Z0 ?_
  cases m
  have hb:=Y _ rfl
  subst i
  exact Eg (d,e) trivial [0,0,0] [] 0
 rintro ⟨j,l⟩
 refine Z1 ?_
 have ⟨bc,aj,ak⟩:=bnd V
 refine Lk [1,0] [] (nq aj) λ⟨⟩=> ?_
 refine Z0 ?_
 cases ak
 exact Eo1 () [] []
theorem ya {s_:aH} {r:Bool} (H:kT s_=some r):CT G 113 [.agg (k8 s_ A0 C0 A1 C1).toArray] [] [Im.sl aC A0 C0 s_.rows,Im.sl aD A1 C1 s_.begun] (λ_:Unit=> .bool r) (λh=>[]) (λh=>[]):=by
 delta kT at H
 refine Cf Go.Proofs.Tryz.func113 λK=> ?_
 refine Z1 ?_
 refine Lx λg1=> ?_
 refine Z1 ?_
 have ⟨r2,h3,H4⟩:=bnd H
 refine Lk [] [0,1] (rq h3) λ⟨⟩=> ?_
 refine Z0 ?_
 cases H4
 exact Eo1 () [] []
theorem sD {s_:aH} {r:Int} (H:kD s_=some r):CT G 92 [.agg (k8 s_ A0 C0 A1 C1).toArray] [] [Im.sl aC A0 C0 s_.rows,Im.sl aD A1 C1 s_.begun,Im.sl (Ty.int .u32) (some ⟨2,0,none⟩) 16 dA] (λ_:Unit=> .int .i64 r) (λh=>[]) (λh=>[]):=by
 delta kD at H
 refine Cf Go.Proofs.Tryz.func92 λK=> ?_
 refine Z1 ?_
 refine Lx λg1=> ?_
 refine Z1 ?_
 have ⟨r2,h3,H4⟩:=bnd H
 refine Lk [] [0,1] (rq h3) λ⟨⟩=> ?_
 refine La [] [] (Ac.bs (ty:=Ty.str) (xs:=[r2]) (.cons () [] rfl .nil) rfl rfl rfl rfl rfl rfl rfl) λg5=> ?_
 have ⟨r7,h8,H9⟩:=bnd H4
 refine L.br (Ac.call (DV h8) rfl rfl rfl rfl) (Bw.ch 0 rfl (Bw.im 2 rfl (Bw.nil))) rfl rfl rfl ?_
 intro _
 refine Z0 ?_
 cases H9
 exact Eo1 () [] []
theorem sE {a:aH} {b:aH} {r:(aH×aH)} (H:kE a b=some r):CT G 119 [.agg (k8 a A0 C0 A1 C1).toArray,.agg (k8 b A2 C2 A3 C3).toArray] [] [Im.sl aC A0 C0 a.rows,Im.sl aD A1 C1 a.begun,Im.sl aC A2 C2 b.rows,Im.sl aD A3 C3 b.begun] (λh:Nat×Nat=> .func (.func 165) #[] #[.pointer (some ⟨h.1,0,none⟩),.pointer (some ⟨h.2,0,none⟩)]) (λh=>[Ch.box h.1 42 (k8 r.1 A2 C2 A3 C3),Ch.box h.2 42 (k8 r.2 A0 C0 A1 C1)]) (λh=>[Im.sl aC A2 C2 r.1.rows,Im.sl aD A3 C3 r.1.begun,Im.sl aC A0 C0 r.2.rows,Im.sl aD A1 C1 r.2.begun]):=by
 delta kE at H
 refine Cf Go.Proofs.Tryz.func119 λK=> ?_
 refine Z1 ?_
 refine Lx λg1=> ?_
 refine Lx λg2=> ?_
 refine Z1 ?_
 cases H
 exact Eo1 (g2,g1) [0,0] [2,3,0,1]
theorem uS {s_:aH} {y:Int} {r:aE×Bool} (H:jm s_ y=some r):CT G 134 [.agg (k8 s_ A0 C0 A1 C1).toArray,.int .i64 y] [] [Im.sl aC A0 C0 s_.rows,Im.sl aD A1 C1 s_.begun] (λh:(Option Addr×Nat)=> .tuple #[.agg #[.slice h.1 r.1.cells.length h.2,.bool r.1.wrapped],.bool r.2]) (λh=>[]) (λh=>[Im.sl aQ h.1 h.2 r.1.cells]):=by
 delta jm at H
 refine Cf Go.Proofs.Tryz.func134 λK=> ?_
 refine Z1 ?_
 refine Lx λg1=> ?_
 refine Ll λg2=> ?_
 refine Y2 ?_
 have ⟨e6,H7,H8⟩:=bnd H
 refine Tj0 [(14,.bool e6)] [1,2,4] [] [0,1] ?_ ?_
 ·refine Z0 ?_
  refine Lw 8 H7 (λH9=> ?_) λH9=> ?_
  ·refine Z0 ?_
   cases H9
   exact Eg0 [0,0] 0
  refine Z0 ?_
  cases H9
  exact Eg0 [0,0] 0
 refine Tb H8 (λa=> ?_) λa=> ?_
 ·refine Z1 ?_
  refine Lt 0 ?_
  refine Z0 ?_
  refine E.jk [Im.sl aQ none 0 []] (λA w _ _ f hf=>by rw [List.mem_singleton.1 hf]; exact Im.gF A w) ?_
  cases a
  exact Eo (none,0) [] [0] (.cell 0 rfl rfl rfl (.tmp rfl .nil))
 refine Z1 ?_
 have ⟨i,b,c⟩:=bnd a
 refine L.addr 0 rfl (cJ b) λj k d=> ?_
 subst d
 refine Ly (Yl.ia b rfl rfl rfl rfl rfl rfl) ?_
 refine L.el 0 rfl (aU b).2 ?_
 rintro ⟨e,g⟩
 refine Lc 0 0 ?_
 refine Lt 0 ?_
 refine Z0 ?_
 cases c
 exact Eo (e,g) [] [1] (.cell 0 rfl rfl rfl (.tmp rfl .nil))
theorem ry {s1_:List aG} {s2_:List aG} {r:Bool} (H:gR s1_ s2_=some r):CT G 94 [.slice A0 s1_.length C0,.slice A1 s2_.length C1] [] [Im.sl aQ A0 C0 s1_,Im.sl aQ A1 C1 s2_] (λ_:Unit=> .bool r) (λh=>[]) (λh=>[]):=by
 delta gR at H
 refine Cf Go.Proofs.Tryz.func94 λK=> ?_
 refine Z3 ?_
 refine Tb H (λH2=> ?_) λH2=> ?_
 ·refine Z1 ?_
  cases H2
  exact Eo1 () [] []
 refine Z2 ?_
 have ⟨a,j,f⟩:=bnd H2
 refine Tj (η:=Unit×Unit) (λh=>a = .inl h.1) (λ_=>[]) [] (λ_=>[]) [] (λ_=>[]) ?_ ?_
 ·refine Yl0 ?_
  refine Tq (η:=Unit) (λg h=>[(13,.int .i64 g)]) [0,1,12] (λ_ _=>[]) [] (λ_ _=>[]) () [] [] j ?_
  rintro k_ g ⟨⟩ k l m i
  refine Y2 ?_
  refine Tb l (λb=> ?_) λb=> ?_
  ·refine Z1 ?_
   refine Zl ?_
   refine Y2 ?_
   refine Td [] [] mo ?_
   refine Dq 0 ?_
   refine Dq 1 ?_
   have ⟨t,c,n⟩:=bnd b
   refine D.addr 0 rfl (cJ c) λu v o=> ?_
   subst o
   refine Dy 2 (Yl.ia c rfl rfl rfl rfl rfl rfl) ?_
   refine D.el 0 rfl (aU c).2 ?_
   rintro _
   refine Dy 3 (Yl.ldc 0 0 rfl rfl rfl rfl) ?_
   refine Dq 4 ?_
   refine Dq 5 ?_
   have ⟨w,d,p⟩:=bnd n
   refine D.addr 2 rfl (cJ d) λx y q=> ?_
   subst q
   refine Dy 6 (Yl.ia d rfl rfl rfl rfl rfl rfl) ?_
   refine D.el 2 rfl (aU d).2 ?_
   rintro _
   refine Dy 7 (Yl.ldc 0 0 rfl rfl rfl rfl) ?_
   refine Dq 8 ?_
   refine Dn ?_
   refine Z0 ?_
   refine Tb p (λe=> ?_) λe=> ?_
   ·refine Z1 ?_
    obtain ⟨z,hz,s⟩:=fH e
    subst k
    have hb:=i _ rfl
    subst a
    obtain rfl:=(sm f).symm
    refine Z0 ?_
    cases s
    exact Eo1 () [] []
   refine Z0 ?_
   cases e
   exact Eg (_,()) (m _ rfl) [] [] 2
  refine Z0 ?_
  cases b
  have hb:=i _ rfl
  subst a
  exact Eg (_,()) rfl [] [] 0
 rintro ⟨A,⟨⟩⟩ hy
 subst hy
 refine Z1 ?_
 cases f
 exact Eo1 () [] []
theorem pU {r_:aE} {q:aE} {r:Bool} (H:jw r_ q=some r):CT G 52 [.agg #[.slice A0 r_.cells.length C0,.bool r_.wrapped],.agg #[.slice A1 q.cells.length C1,.bool q.wrapped]] [] [Im.sl aQ A0 C0 r_.cells,Im.sl aQ A1 C1 q.cells] (λ_:Unit=> .bool r) (λh=>[]) (λh=>[]):=by
 delta jw at H
 refine Cf Go.Proofs.Tryz.func52 λK=> ?_
 refine Z1 ?_
 refine Lx λg1=> ?_
 refine Lx λg2=> ?_
 refine Y1 ?_
 have ⟨b,c,d⟩:=bnd H
 refine Tj0 [(4,.bool b)] [] [] [0,1] ?_ ?_
 ·refine Z0 ?_
  refine Lw 10 c (λa=> ?_) λa=> ?_
  ·refine Z0 ?_
   have ⟨g,e,f⟩:=bnd a
   refine Lk [] [0,1] (ry e) λ⟨⟩=> ?_
   refine Z0 ?_
   cases f
   exact Eg0 [0,0] 0
  refine Z0 ?_
  cases a
  exact Eg0 [0,0] 0
 refine Z0 ?_
 cases d
 exact Eo1 () [] []
theorem qo {σ η:Type} {Y:σ->(Int×aE)->Option (σ×Bool)} {y0:σ} {x1:aH} {x2:aH} {yl:Nat} {C:σ->η->Ch} (hY: ∀ s (h:η) (x:Int×aE) (t:(Option Addr×Nat)) z,Y s x=some z->YT G yl [.int .i64 x.1,.agg #[.slice t.1 x.2.cells.length t.2,.bool x.2.wrapped]] [C s h] [Im.sl aQ t.1 t.2 x.2.cells] (λ_:η=> .bool z.2) (λh2=>[C z.1 h2]) (λ_=>[])) (h0:η) (g_1:Nat) (a_1_0:Option Addr) (c_1_0:Nat) (a_1_1:Option Addr) (c_1_1:Nat) (g_2:Nat) (a_2_0:Option Addr) (c_2_0:Nat) (a_2_1:Option Addr) (c_2_1:Nat) {r:σ} (H:iL Y y0 x1 x2=some r):CT G 165 [.func (.yield yl) #[] #[],.pointer (some ⟨g_1,0,none⟩),.pointer (some ⟨g_2,0,none⟩)] [C y0 h0,Ch.box g_1 42 (k8 x1 a_1_0 c_1_0 a_1_1 c_1_1),Ch.box g_2 42 (k8 x2 a_2_0 c_2_0 a_2_1 c_2_1)] [Im.sl aC a_1_0 c_1_0 x1.rows,Im.sl aD a_1_1 c_1_1 x1.begun,Im.sl aC a_2_0 c_2_0 x2.rows,Im.sl aD a_2_1 c_2_1 x2.begun] (λh:η=> .tuple #[]) (λh=>[C r h,Ch.box g_1 42 (k8 x1 a_1_0 c_1_0 a_1_1 c_1_1),Ch.box g_2 42 (k8 x2 a_2_0 c_2_0 a_2_1 c_2_1)]) (λh=>[]):=by
  delta iL at H
  refine Cf Go.Proofs.Tryz.func165 λK=> ?_
  refine Z1 ?_
  have ⟨e,v,m⟩:=bnd H
  refine T.sR (η:=σ×(η)) (λh=>e = .inl h.1) (λh=>(λc=>(λa=>[]) h.2) h.1) (λh=>(λc=>(λa=>[C c a,Ch.box g_1 42 (k8 x1 a_1_0 c_1_0 a_1_1 c_1_1),Ch.box g_2 42 (k8 x2 a_2_0 c_2_0 a_2_1 c_2_1)]) h.2) h.1) (λh=>(λc=>(λa=>[Im.sl aC a_1_0 c_1_0 x1.rows,Im.sl aD a_1_1 c_1_1 x1.begun,Im.sl aC a_2_0 c_2_0 x2.rows,Im.sl aD a_2_1 c_2_1 x2.begun]) h.2) h.1) ?_ ?_
  ·refine Yl0 ?_
   refine Tq (η:=η) (λd h=>(λb=>[(11,.int .i64 d.1)]) h) [0,2,9,10] (λd h=>(λb=>[C d.2 b]) h) [1,2] (λ_ _=>[]) h0 [0,0,0] [] v ?_
   rintro k_ d b w y A n
   refine Y2 ?_
   refine Tb y (λf=> ?_) λf=> ?_
   ·refine Y1 ?_
    have ⟨o,B,p⟩:=bnd f
    refine Tj (η:=σ×(η)) (λh=>o = .inl h.1) (λ_=>[]) [0,2,9,10,11] (λh=>(λq=>(λg=>[C q g]) h.2) h.1) [1,2] (λ_=>[]) ?_ ?_
    ·refine Zl ?_
     refine Z1 ?_
     have ⟨aa,i,F⟩:=bnd B
     refine L.addr 0 rfl (cJ i) λab ac I=> ?_
     subst I
     refine Ly (Yl.ia i rfl rfl rfl rfl rfl rfl) ?_
     refine L.el 0 rfl (aU i).2 ?_
     rintro ⟨J,M⟩
     refine Lc 0 0 ?_
     refine Ll λad=> ?_
     refine Z0 ?_
     refine Lt 0 ?_
     refine Z2 ?_
     have ⟨ae,N,O⟩:=bnd F
     refine Lk [] [4,5] (uS N) λ⟨af,ag⟩=> ?_
     refine Z0 ?_
     refine Ll λah=> ?_
     refine Lt 0 ?_
     refine Y1 ?_
     have ⟨P,Q,R⟩:=bnd O
     refine Tj0 [(27,.bool P)] [0,2,4,5,9,10,11] [] [0,1,2,3,4] ?_ ?_
     ·refine Z0 ?_
      refine Lw 23 Q (λj=> ?_) λj=> ?_
      ·refine Z0 ?_
       have ⟨ai,S,U⟩:=bnd j
       refine Lk [] [0,2] (pU S) λ⟨⟩=> ?_
       refine Z0 ?_
       cases U
       exact Eg0 [0,0,0,0,0] 0
      refine Z0 ?_
      cases j
      exact Eg0 [0,0,0,0,0] 0
     refine Tb R (λk=> ?_) λk=> ?_
     ·refine Z0 ?_
      cases k
      exact Eg (_,b) rfl [2,2,2] [] 3
     refine Z1 ?_
     have ⟨aj,V,W⟩:=bnd k
     refine L.yd [2] [2] (hY _ _ _ (J,M) _ V) rfl rfl rfl rfl rfl rfl rfl rfl ?_
     intro u
     refine Z0 ?_
     refine Tb W (λl=> ?_) λl=> ?_
     ·refine Z0 ?_
      obtain ⟨ak,hz,X⟩:=eC l
      subst o
      obtain rfl:=(sm p).symm
      refine Z0 ?_
      obtain ⟨al,hz,Z⟩:=fH X
      subst w
      have hb:=n _ rfl
      subst e
      obtain rfl:=(sm m).symm
      refine Z0 ?_
      cases Z
      exact Eo u [0,2,2] [] .nil
     refine Z0 ?_
     cases l
     exact Eg (_,u) rfl [0,2,2] [] 3
    rintro ⟨q,g⟩ hy
    subst hy
    refine Z0 ?_
    cases p
    exact Eg (_,g) (A _ rfl) [0,0,0] [] 0
   refine Z0 ?_
   cases f
   have hb:=n _ rfl
   subst e
   exact Egx (_,b) rfl [0,0,0] [0,1,2,3]
  rintro ⟨c,a⟩ hy
  subst hy
  refine E.off ?_
  cases m
  exact Eo a [0,0,0] [] .nil
end Go.Tw.X
namespace Go.Tw.X
open Go Go.Tw
variable {A0 A1 A2 A3 A4 A5 A6 A7 A8 : Option Addr} {C0 C1 C2 C3 C4 C5 C6 C7 C8 : Nat}
variable {N0 N1 N2 N3 N4 : Nat}
variable {M0 : Option Nat}
theorem yj {a:aH} {b:aH} {r:(List Int)} (H:lY a b=some r):CT G 118 [.agg (k8 a A0 C0 A1 C1).toArray,.agg (k8 b A2 C2 A3 C3).toArray] [] [Im.sl aC A0 C0 a.rows,Im.sl aD A1 C1 a.begun,Im.sl aC A2 C2 b.rows,Im.sl aD A3 C3 b.begun] (λh:(Option Addr×Nat)=> .slice h.1 r.length h.2) (λh=>[Ch.arr (Ty.int .i64) 3 h.1 h.2 r]) (λh=>[]):=by
 delta lY at H
 refine Cf Go.Proofs.Tryz.func118 λK=> ?_
 refine T.yS ?_
 refine Z1 ?_
 refine Lx λg1=> ?_
 refine Lx λg2=> ?_
 refine Z1 ?_
 refine Ll λg3=> ?_
 refine Z2 ?_
 have ⟨r4,h5,H6⟩:=bnd H
 refine Lk [] [0,1,2,3] (sE h5) λ⟨g7,g8⟩=> ?_
 refine Yl0 ?_
 refine T.iS (Ty.int .i64) 3 ?_
 have ⟨g,i,j⟩:=bnd H6
 refine T.rf2 (σ:=(List Int)) (η:=(Option Addr×Nat)) (X:=Int×aE) (θ:=(Option Addr×Nat)) (τ:=(Option Addr×Nat)) (s1:=g) (hx:=λx=>x) (λx t=>[.int .i64 x.1,.agg #[.slice t.1 x.2.cells.length t.2,.bool x.2.wrapped]]) (λx t=>[Im.sl aQ t.1 t.2 x.2.cells]) (λ_=>none) (λc h=>(λd e=>[Ch.arr (Ty.int .i64) 3 d e c,Ch.box g3 23 [.slice d c.length e],Ch.box g2 42 (k8 b A2 C2 A3 C3),Ch.box g1 42 (k8 a A0 C0 A1 C1)]) h.1 h.2) (λc h=>(λd e=>[Im.sl aC A2 C2 r4.1.rows,Im.sl aD A3 C3 r4.1.begun,Im.sl aC A0 C0 r4.2.rows,Im.sl aD A1 C1 r4.2.begun,Im.sl aC A0 C0 a.rows,Im.sl aD A1 C1 a.begun,Im.sl aC A2 C2 b.rows,Im.sl aD A3 C3 b.begun]) h.1 h.2) 6 [0,2,2,2,0,0] [0,1,2,3,4,5,6,7] [0,1,2,3] rfl rfl (λ_ _=>rfl) rfl (λyl C hY=>(qo hY (none,0) g7 A2 C2 A3 C3 g8 A0 C0 A1 C1 i:_)) (λ_ _ _ _=>rfl) rfl rfl rfl rfl rfl ?_ rfl ?_
 ·rintro yl K2 c ⟨d,e⟩ k ⟨q,s⟩ u l
  refine Z0 ?_
  refine E.begin λK3=> ?_
  refine Zl ?_
  refine La [] [] (Ac.bs (ty:=(Ty.int .i64)) (xs:=[k.1]) (.cons () [] rfl .nil) rfl rfl rfl rfl rfl rfl rfl) λv=> ?_
  refine L.frz 0 rfl ?_
  have ⟨_,m,n⟩:=bnd l
  refine La [0] [0] (Ac.ap (ty:=(Ty.int .i64)) m rfl rfl rfl rfl rfl rfl rfl) ?_
  rintro ⟨o,p⟩
  refine Lt 1 ?_
  refine Z0 ?_
  cases n
  exact E.on (o,p) [1,0,0,0] [2,3,4,5,6,7,8,9] rfl rfl rfl rfl
 rintro f w
 refine Z1 ?_
 cases j
 exact E.vu (f.1,f.2) 0 [0] [] rfl (.tmp rfl .nil) rfl rfl rfl
theorem Cb {a:aH} {b:aH} {r:ByteArray} (H:nK a b=some r):CT G 84 [.agg (k8 a A0 C0 A1 C1).toArray,.agg (k8 b A2 C2 A3 C3).toArray] [] [Im.sl aC A0 C0 a.rows,Im.sl aD A1 C1 a.begun,Im.sl aC A2 C2 b.rows,Im.sl aD A3 C3 b.begun,Im.sl (Ty.int .u32) (some ⟨2,0,none⟩) 16 dA] (λ_:Unit=> .string r) (λh=>[]) (λh=>[]):=by
 delta nK at H
 refine Cf Go.Proofs.Tryz.func84 λK=> ?_
 refine T.yS ?_
 refine Z1 ?_
 refine Lx λg1=> ?_
 refine Lx λg2=> ?_
 refine Y2 ?_
 have ⟨p,s,u⟩:=bnd H
 refine T.Ar (η:=Unit×Unit) (λh=>True) (λh=>[]) (λh=>[(2,.pointer (some ⟨g1,0,none⟩)),(3,.pointer (some ⟨g2,0,none⟩)),(15,.bool p)]) (λh=>[Ch.box g2 42 (k8 b A2 C2 A3 C3),Ch.box g1 42 (k8 a A0 C0 A1 C1),Ch.dfs []]) (λh=>[Im.sl aC A0 C0 a.rows,Im.sl aD A1 C1 a.begun,Im.sl aC A2 C2 b.rows,Im.sl aD A3 C3 b.begun,Im.sl (Ty.int .u32) (some ⟨2,0,none⟩) 16 dA]) ?_ ?_
 ·refine Z0 ?_
  have ⟨a6,v,z⟩:=bnd s
  refine Lk [] [0,1] (mv v) λ⟨⟩=> ?_
  refine Z0 ?_
  refine Lw 11 z (λg=> ?_) λg=> ?_
  ·refine Z0 ?_
   cases g
   exact E.qF ((),()) [0,0,0] [0,1,2,3,4] trivial rfl ⟨rfl,rfl,rfl,trivial⟩ rfl rfl
  refine Z0 ?_
  have ⟨a7,A,B⟩:=bnd g
  refine Lk [] [2,3] (ya A) λ⟨⟩=> ?_
  refine Z0 ?_
  cases B
  exact E.qF ((),()) [0,0,0] [0,1,2,3,4] trivial rfl ⟨rfl,rfl,rfl,trivial⟩ rfl rfl
 rintro ⟨_,⟨⟩⟩ _
 refine Tb u (λi=> ?_) λi=> ?_
 ·refine Z1 ?_
  cases i
  exact E.vu () 2 [] [] rfl (.tmp rfl .nil) rfl rfl rfl
 refine Z1 ?_
 refine Ll λF=> ?_
 refine Y1 ?_
 refine Td [] [1,1,1] mo ?_
 refine Db 0 1 ?_
 refine Dq 2 ?_
 refine Db 3 0 ?_
 refine Dq 4 ?_
 refine Db 5 0 ?_
 refine Dq 6 ?_
 refine Db 7 0 ?_
 refine Dq 8 ?_
 refine Db 9 0 ?_
 refine Dq 10 ?_
 refine Db 11 0 ?_
 refine Dq 14 ?_
 refine Db 15 0 ?_
 refine Dq 18 ?_
 refine Db 19 0 ?_
 refine Dq 20 ?_
 refine Db 21 0 ?_
 refine Dq 24 ?_
 refine Db 25 0 ?_
 refine Db 29 1 ?_
 refine Db 30 0 ?_
 refine DF.of rfl ?_
 have ⟨l,I,J⟩:=bnd i
 refine DF.add _ (FSp.ac 1 [0,1,4] (Ac.call (sD I) rfl rfl rfl rfl) rfl rfl rfl rfl rfl) rfl ?_
 refine DF.add _ (FSp.dep 0 rfl rfl λ⟨⟩=>FSp.ac 12 [] (Ac.frz (Ac.bs (ty:=(Ty.int .i64)) (xs:=[l,b.k,b.w,b.h,b.x,b.y]) (.cons () [] rfl (.cons () [] rfl (.cons () [] rfl (.cons () [] rfl (.cons () [] rfl (.cons () [] rfl .nil)))))) rfl rfl rfl rfl rfl rfl rfl)) rfl rfl rfl rfl rfl) rfl ?_
 refine DF.add _ (FSp.ac 16 [] (Ac.frz (Ac.bs (ty:=Ty.str) (xs:=[b.title]) (.cons () [] rfl .nil) rfl rfl rfl rfl rfl rfl rfl)) rfl rfl rfl rfl rfl) rfl ?_
 refine DF.add _ (FSp.ac 22 [] (Ac.frz (Ac.bs (ty:=(Ty.int .i64)) (xs:=[b.len,b.chain]) (.cons () [] rfl (.cons () [] rfl .nil)) rfl rfl rfl rfl rfl rfl rfl)) rfl rfl rfl rfl rfl) rfl ?_
 refine DF.step 13 rfl rfl rfl rfl rfl ?_
 refine DFp.use 2 rfl rfl rfl ?_
 intro M
 refine DFp.use 2 rfl rfl rfl ?_
 rintro ⟨⟩
 refine DFp.iS (Ty.int .u8) 5 ?_
 have ⟨a8,N,O⟩:=bnd J
 refine DFp.a [1,0] [0] (Ac.call (gL N) rfl rfl rfl rfl) rfl rfl rfl rfl rfl rfl rfl rfl ?_
 rintro ⟨a9,ba⟩
 refine DF.step 17 rfl rfl rfl rfl rfl ?_
 refine DFp.use 1 rfl rfl rfl ?_
 intro P
 have ⟨bb,Q,R⟩:=bnd O
 refine DFp.a [0,0] [0] (Ac.call (tK Q) rfl rfl rfl rfl) rfl rfl rfl rfl rfl rfl rfl rfl ?_
 rintro ⟨bc,bd⟩
 refine DF.step 23 rfl rfl rfl rfl rfl ?_
 refine DFp.use 0 rfl rfl rfl ?_
 intro S
 have ⟨be,U,V⟩:=bnd R
 refine DFp.a [0,0] [0] (Ac.call (gL U) rfl rfl rfl rfl) rfl rfl rfl rfl rfl rfl rfl rfl ?_
 rintro ⟨bf,bg⟩
 have ⟨m,W,Y⟩:=bnd V
 refine DF.add _ (FSp.ac 26 [6] (Ac.call (tz W) rfl rfl rfl rfl) rfl rfl rfl rfl rfl) rfl ?_
 refine DF.add _ (FSp.dep 0 rfl rfl λ⟨⟩=>FSp.ac 27 [] (Ac.frz (Ac.bs (ty:=Ty.str) (xs:=[m]) (.cons () [] rfl .nil) rfl rfl rfl rfl rfl rfl rfl)) rfl rfl rfl rfl rfl) rfl ?_
 refine DF.step 28 rfl rfl rfl rfl rfl ?_
 refine DFp.use 0 rfl rfl rfl ?_
 intro Z
 refine DFp.use 0 rfl rfl rfl ?_
 rintro ⟨⟩
 have ⟨bh,aa,ab⟩:=bnd Y
 refine DFp.a [0,0] [0] (Ac.call (ng aa) rfl rfl rfl rfl) rfl rfl rfl rfl rfl rfl rfl rfl ?_
 rintro ⟨bi,bj⟩
 have ⟨j,ad,ae⟩:=bnd ab
 refine DF.add _ (FSp.ac 31 [4,5,6,7] (Ac.frz (Ac.call (yj ad) rfl rfl rfl rfl)) rfl rfl rfl rfl rfl) rfl ?_
 refine DF.add _ (FSp.dep 0 rfl rfl λ⟨n,o⟩=>FSp.q 32 rfl rfl rfl rfl rfl) rfl ?_
 refine DF.add _ (FSp.dep 0 rfl rfl λ_=>FSp.ac 33 [] (Ac.frz (Ac.bs (ty:=(Ty.int .i64)) (xs:=[(j.length:Int)]) (.cons () [] rfl .nil) rfl rfl rfl rfl rfl rfl rfl)) rfl rfl rfl rfl rfl) rfl ?_
 refine DF.step 34 rfl rfl rfl rfl rfl ?_
 refine DFp.use 0 rfl rfl rfl ?_
 intro af
 refine DFp.use 1 rfl rfl rfl ?_
 rintro ⟨n,o⟩
 have ⟨bk,ag,ah⟩:=bnd ae
 refine DFp.a [0,0] [1] (Ac.call (gL ag) rfl rfl rfl rfl) rfl rfl rfl rfl rfl rfl rfl rfl ?_
 rintro ⟨ai,aj⟩
 refine DF.fin rfl rfl rfl rfl rfl ?_
 refine DFe.use ?_
 intro _
 refine DFe.nil ?_
 refine Z2 ?_
 have ⟨c,ak,al⟩:=bnd ah
 refine Lk [] [6,7,8,9] (sE ak) λ⟨am,an⟩=> ?_
 refine Yl0 ?_
 have ⟨ao,ap,aq⟩:=bnd al
 refine T.rf2 (σ:=cG) (η:=(Option Addr×Nat)) (X:=Int×aE) (θ:=(Option Addr×Nat)) (τ:=(Option Addr×Nat)) (s1:=ao) (hx:=λx=>x) (λx t=>[.int .i64 x.1,.agg #[.slice t.1 x.2.cells.length t.2,.bool x.2.wrapped]]) (λx t=>[Im.sl aQ t.1 t.2 x.2.cells]) (λ_=>none) (λd h=>(λe f=>[Ch.arr (Ty.int .u8) 5 e f d.b,Ch.box g2 42 (k8 b A2 C2 A3 C3),Ch.box g1 42 (k8 a A0 C0 A1 C1),Ch.box F 182 [.slice e d.b.length f]]) h.1 h.2) (λd h=>(λe f=>[Im.sl aC A2 C2 c.1.rows,Im.sl aD A3 C3 c.1.begun,Im.sl aC A0 C0 c.2.rows,Im.sl aD A1 C1 c.2.begun,Im.sl (Ty.int .i64) n o j,Im.sl (Ty.int .i64) (some ⟨af,0,none⟩) 1 [(j.length:Int)],Im.sl Ty.str (some ⟨Z,0,none⟩) 1 [m],Im.sl (Ty.int .i64) (some ⟨S,0,none⟩) 2 [b.len,b.chain],Im.sl Ty.str (some ⟨P,0,none⟩) 1 [b.title],Im.sl (Ty.int .i64) (some ⟨M,0,none⟩) 6 [l,b.k,b.w,b.h,b.x,b.y],Im.sl aC A0 C0 a.rows,Im.sl aD A1 C1 a.begun,Im.sl aC A2 C2 b.rows,Im.sl aD A3 C3 b.begun,Im.sl (Ty.int .u32) (some ⟨2,0,none⟩) 16 dA]) h.1 h.2) 4 [5,2,2,2,0,0] [0,1,2,3,4,5,6,7,8,9,10,11,12,13,14] [0,1,2,3] rfl rfl (λ_ _=>rfl) rfl (λyl C hY=>(qo hY (ai,aj) am A2 C2 A3 C3 an A0 C0 A1 C1 ap:_)) (λ_ _ _ _=>rfl) rfl rfl rfl rfl rfl ?_ rfl ?_
 ·rintro yl K2 d ⟨e,f⟩ ar ⟨bl,bm⟩ bn au
  refine Z1 ?_
  refine Ll λbo=> ?_
  refine Lt 0 ?_
  refine Z0 ?_
  refine E.begin λK3=> ?_
  refine Yl0 ?_
  refine Td [] [0,1,1] mo ?_
  refine Dq 0 ?_
  refine Db 3 0 ?_
  refine Da [] [] rfl rfl (Ac.bs (ty:=(Ty.int .i64)) (xs:=[ar.1]) (.cons () [] rfl .nil) rfl rfl rfl rfl rfl rfl rfl) λbp=> ?_
  refine D.frz 0 rfl ?_
  have ⟨bq,av,aw⟩:=bnd au
  refine Dk [1,0] [0] (gL av) λ⟨br,bt⟩=> ?_
  have ⟨ax,ay,az⟩:=bnd aw
  refine Dk [] [1] (tL ay) λ⟨⟩=> ?_
  refine Da [] [] rfl rfl (Ac.bs (ty:=Ty.str) (xs:=[ax]) (.cons () [] rfl .nil) rfl rfl rfl rfl rfl rfl rfl) λbu=> ?_
  refine D.frz 0 rfl ?_
  have ⟨bv,a0,a1⟩:=bnd az
  refine Dk [0,0] [0] (ng a0) λ⟨a2,a3⟩=> ?_
  refine Dn ?_
  refine Z0 ?_
  cases a1
  exact E.on (a2,a3) [4,1,1,1] [3,4,5,6,7,8,9,10,11,12,13,14,15,16,17] rfl rfl rfl rfl
 rintro bw bx
 refine Z1 ?_
 have ⟨bz,a4,a5⟩:=bnd aq
 refine Lk [4,1] [] (nq a4) λ⟨⟩=> ?_
 refine Z0 ?_
 cases a5
 exact E.vu () 2 [] [] rfl (.tmp rfl .nil) rfl rfl rfl
theorem Ak {s_:ByteArray} {size:Int} {r:(List ByteArray)} (H:mW s_ size=some r):CT G 83 [.string s_,.int .i64 size] [] [] (λh:(Option Addr×Nat)=> .slice h.1 r.length h.2) (λh=>[Ch.arr Ty.str 9 h.1 h.2 r]) (λh=>[]):=by
 delta mW at H
 refine Cf Go.Proofs.Tryz.func83 λK=> ?_
 refine Z3 ?_
 refine Y1 ?_
 have ⟨b,i,j⟩:=bnd H
 refine Tjh (η:=(Option Addr×Nat)) (λh=>(λe f=>[(0,.string b.1),(5,.slice e b.2.length f)]) h.1 h.2) [] (λh=>(λe f=>[Ch.arr Ty.str 9 e f b.2]) h.1 h.2) [] (λ_=>[]) ?_ ?_
 ·refine Yl0 ?_
  refine T.iS Ty.str 9 ?_
  refine Tq (η:=(Option Addr×Nat)) (λa h=>(λc d=>[(0,.string a.1),(5,.slice c a.2.length d)]) h.1 h.2) [1] (λa h=>(λc d=>[Ch.arr Ty.str 9 c d a.2]) h.1 h.2) [] (λ_ _=>[]) (none,0) [0] [] i ?_
  rintro k_ a ⟨c,d⟩ A k l m
  refine Z2 ?_
  refine Tb k (λg=> ?_) λg=> ?_
  ·refine Zl ?_
   refine Z1 ?_
   have ⟨_,n,o⟩:=bnd g
   refine Ly (Yl.sc n rfl rfl rfl rfl rfl rfl) ?_
   refine La [] [] (Ac.bs (ty:=Ty.str) (xs:=[(iU a.1 0 (imax 1 (eO size 8000)))]) (.cons () [] rfl .nil) rfl rfl rfl rfl rfl rfl rfl) λB=> ?_
   refine L.frz 0 rfl ?_
   have ⟨_,p,q⟩:=bnd o
   refine La [0] [0] (Ac.ap (ty:=Ty.str) p rfl rfl rfl rfl rfl rfl rfl) ?_
   rintro ⟨s,t⟩
   refine Z0 ?_
   have ⟨_,u,v⟩:=bnd q
   refine Ly (Yl.sc u rfl rfl rfl rfl rfl rfl) ?_
   refine Z0 ?_
   cases v
   exact Eg (_,(s,t)) (l _ rfl) [0] [] 1
  refine Z0 ?_
  cases g
  have hb:=m _ rfl
  subst b
  exact Eg (c,d) trivial [0] [] 0
 rintro ⟨e,f⟩
 refine Z1 ?_
 refine La [] [] (Ac.bs (ty:=Ty.str) (xs:=[b.1]) (.cons () [] rfl .nil) rfl rfl rfl rfl rfl rfl rfl) λC=> ?_
 refine L.frz 0 rfl ?_
 have ⟨_,w,x⟩:=bnd j
 refine La [0] [0] (Ac.ap (ty:=Ty.str) w rfl rfl rfl rfl rfl rfl rfl) ?_
 rintro ⟨y,z⟩
 refine Z0 ?_
 cases x
 exact Eo1 (y,z) [0] []
theorem pV {x_:aH} {x1:aK} {r:Bool} (H:fO x_ x1=some r):CT G 86 [.agg (k8 x_ A0 C0 A1 C1).toArray,.pointer (some ⟨N0,0,none⟩)] [] [Im.sl aC A0 C0 x_.rows,Im.sl aD A1 C1 x_.begun,Im.cells N0 0 [.pointer (some ⟨N1,0,none⟩)],Im.cells N1 0 [.int .i64 x1.config.part,.int .i64 x1.config.every,.int .i64 x1.config.most,.int .i64 x1.current.k,.int .i64 x1.current.w,.int .i64 x1.current.h,.int .i64 x1.current.x,.int .i64 x1.current.y,.string x1.current.title,.slice A2 x1.current.rows.length C2,.int .i64 x1.current.len,.int .i64 x1.current.chain,.slice A3 x1.current.begun.length C3,.int .i64 x1.aN.k,.int .i64 x1.aN.w,.int .i64 x1.aN.h,.int .i64 x1.aN.x,.int .i64 x1.aN.y,.string x1.aN.title,.slice A4 x1.aN.rows.length C4,.int .i64 x1.aN.len,.int .i64 x1.aN.chain,.slice A5 x1.aN.begun.length C5,.slice A6 x1.kept.length C6,.int .i64 x1.message.id,.int .i64 x1.message.key,.int .i64 x1.message.base,.slice A7 x1.message.parts.length C7,.slice A8 x1.message.there.length C8,.int .i64 x1.message.due,.int .i64 x1.next],Im.sl aC A2 C2 x1.current.rows,Im.sl aD A3 C3 x1.current.begun,Im.sl aC A4 C4 x1.aN.rows,Im.sl aD A5 C5 x1.aN.begun,Im.sl bO A6 C6 x1.kept,Im.sl Ty.str A7 C7 x1.message.parts,Im.sl Ty.bool A8 C8 x1.message.there] (λ_:Unit=> .bool r) (λh=>[]) (λh=>[]):=by
 delta fO at H
 refine Cf Go.Proofs.Tryz.func86 λK=> ?_
 refine Z1 ?_
 refine Lx λg1=> ?_
 refine Y1 ?_
 refine Td [] [0] mo ?_
 refine Dq 0 ?_
 refine Db 1 0 ?_
 refine Dy 2 (Yl.ldc 2 0 rfl rfl rfl rfl) ?_
 refine Dq 3 ?_
 refine Dq 4 ?_
 refine Dq 5 ?_
 refine Dy 6 (Yl.ldc 3 3 rfl rfl rfl rfl) ?_
 refine Dq 7 ?_
 refine Dq 8 ?_
 refine Dn ?_
 refine Z0 ?_
 cases H
 exact Eo1 () [] []
theorem la {s_:List aH} {f_0:aK} {r:Int} (H:dD s_ f_0=some r):CT G 47 [.slice A0 s_.length C0,.func (.func 86) #[] #[.pointer (some ⟨N0,0,none⟩)]] [] [Im.sl bO A0 C0 s_,Im.cells N0 0 [.pointer (some ⟨N1,0,none⟩)],Im.cells N1 0 [.int .i64 f_0.config.part,.int .i64 f_0.config.every,.int .i64 f_0.config.most,.int .i64 f_0.current.k,.int .i64 f_0.current.w,.int .i64 f_0.current.h,.int .i64 f_0.current.x,.int .i64 f_0.current.y,.string f_0.current.title,.slice A1 f_0.current.rows.length C1,.int .i64 f_0.current.len,.int .i64 f_0.current.chain,.slice A2 f_0.current.begun.length C2,.int .i64 f_0.aN.k,.int .i64 f_0.aN.w,.int .i64 f_0.aN.h,.int .i64 f_0.aN.x,.int .i64 f_0.aN.y,.string f_0.aN.title,.slice A3 f_0.aN.rows.length C3,.int .i64 f_0.aN.len,.int .i64 f_0.aN.chain,.slice A4 f_0.aN.begun.length C4,.slice A5 f_0.kept.length C5,.int .i64 f_0.message.id,.int .i64 f_0.message.key,.int .i64 f_0.message.base,.slice A6 f_0.message.parts.length C6,.slice A7 f_0.message.there.length C7,.int .i64 f_0.message.due,.int .i64 f_0.next],Im.sl aC A1 C1 f_0.current.rows,Im.sl aD A2 C2 f_0.current.begun,Im.sl aC A3 C3 f_0.aN.rows,Im.sl aD A4 C4 f_0.aN.begun,Im.sl bO A5 C5 f_0.kept,Im.sl Ty.str A6 C6 f_0.message.parts,Im.sl Ty.bool A7 C7 f_0.message.there] (λ_:Unit=> .int .i64 r) (λh=>[]) (λh=>[]):=by
 delta dD at H
 refine Cf Go.Proofs.Tryz.func47 λK=> ?_
 refine Z3 ?_
 have ⟨a,i,e⟩:=bnd H
 refine Tj (η:=Unit×Unit) (λh=>a = .inl h.1) (λ_=>[]) [] (λ_=>[]) [] (λ_=>[]) ?_ ?_
 ·refine Yl0 ?_
  refine Tq (η:=Unit) (λf h=>[(8,.int .i64 f)]) [0,1,7] (λ_ _=>[]) [] (λ_ _=>[]) () [] [] i ?_
  rintro k_ f ⟨⟩ j l m g
  refine Y2 ?_
  refine Tb l (λb=> ?_) λb=> ?_
  ·refine Z1 ?_
   refine Zl ?_
   refine Z2 ?_
   have ⟨t,c,n⟩:=bnd b
   refine L.addr 0 rfl (cJ c) λu v o=> ?_
   subst o
   refine Ly (Yl.ia c rfl rfl rfl rfl rfl rfl) ?_
   refine L.el 0 rfl (aU c).2 ?_
   rintro ⟨⟨z,A⟩,⟨B,C⟩⟩
   refine Lc 0 0 ?_
   have ⟨F,p,q⟩:=bnd n
   refine Lk [] [1,2,4,5,6,7,8,9,10,11,12] (pV p) λ⟨⟩=> ?_
   refine Z0 ?_
   refine Tb q (λd=> ?_) λd=> ?_
   ·refine Z1 ?_
    obtain ⟨I,hz,s⟩:=fH d
    subst j
    have hb:=g _ rfl
    subst a
    obtain rfl:=(sm e).symm
    refine Z0 ?_
    cases s
    exact Eo1 () [] []
   refine Z0 ?_
   cases d
   exact Eg (_,()) (m _ rfl) [] [] 3
  refine Z0 ?_
  cases b
  have hb:=g _ rfl
  subst a
  exact Eg (_,()) rfl [] [] 0
 rintro ⟨J,⟨⟩⟩ hy
 subst hy
 refine Z1 ?_
 cases e
 exact Eo1 () [] []
theorem kA {s_:List aH} {f_0:aK} {r:Bool} (H:cD s_ f_0=some r):CT G 85 [.slice A0 s_.length C0,.func (.func 86) #[] #[.pointer (some ⟨N0,0,none⟩)]] [] [Im.sl bO A0 C0 s_,Im.cells N0 0 [.pointer (some ⟨N1,0,none⟩)],Im.cells N1 0 [.int .i64 f_0.config.part,.int .i64 f_0.config.every,.int .i64 f_0.config.most,.int .i64 f_0.current.k,.int .i64 f_0.current.w,.int .i64 f_0.current.h,.int .i64 f_0.current.x,.int .i64 f_0.current.y,.string f_0.current.title,.slice A1 f_0.current.rows.length C1,.int .i64 f_0.current.len,.int .i64 f_0.current.chain,.slice A2 f_0.current.begun.length C2,.int .i64 f_0.aN.k,.int .i64 f_0.aN.w,.int .i64 f_0.aN.h,.int .i64 f_0.aN.x,.int .i64 f_0.aN.y,.string f_0.aN.title,.slice A3 f_0.aN.rows.length C3,.int .i64 f_0.aN.len,.int .i64 f_0.aN.chain,.slice A4 f_0.aN.begun.length C4,.slice A5 f_0.kept.length C5,.int .i64 f_0.message.id,.int .i64 f_0.message.key,.int .i64 f_0.message.base,.slice A6 f_0.message.parts.length C6,.slice A7 f_0.message.there.length C7,.int .i64 f_0.message.due,.int .i64 f_0.next],Im.sl aC A1 C1 f_0.current.rows,Im.sl aD A2 C2 f_0.current.begun,Im.sl aC A3 C3 f_0.aN.rows,Im.sl aD A4 C4 f_0.aN.begun,Im.sl bO A5 C5 f_0.kept,Im.sl Ty.str A6 C6 f_0.message.parts,Im.sl Ty.bool A7 C7 f_0.message.there] (λ_:Unit=> .bool r) (λh=>[]) (λh=>[]):=by
 delta cD at H
 refine Cf Go.Proofs.Tryz.func85 λK=> ?_
 refine Z2 ?_
 have ⟨r1,h2,H3⟩:=bnd H
 refine Lk [] [0,1,2,3,4,5,6,7,8,9] (la h2) λ⟨⟩=> ?_
 refine Z0 ?_
 cases H3
 exact Eo1 () [] []
theorem sO {s_:aK} {now:Int} {r:aK} (H:gE s_ now=some r):CT G 37 [.pointer (some ⟨N0,0,none⟩),.int .i64 now] [Ch.box N0 83 (qt s_ A0 C0 A1 C1 A2 C2 A3 C3 A4 C4 A5 C5 A6 C6),Ch.aro bO 42 A4 C4 s_.kept,Ch.arr Ty.bool 4 A6 C6 s_.message.there] [Im.sl aC A0 C0 s_.current.rows,Im.sl aD A1 C1 s_.current.begun,Im.sl aC A2 C2 s_.aN.rows,Im.sl aD A3 C3 s_.aN.begun,Im.sl Ty.str A5 C5 s_.message.parts,Im.sl (Ty.int .u32) (some ⟨2,0,none⟩) 16 dA] (λh:(Option Addr×Nat)×(Option Addr×Nat)×(Option Addr×Nat)=> .tuple #[]) (λh=>[Ch.box N0 83 (qt r A0 C0 A1 C1 A2 C2 A3 C3 h.1.1 h.1.2 h.2.1.1 h.2.1.2 h.2.2.1 h.2.2.2),Ch.aro bO 42 h.1.1 h.1.2 r.kept,Ch.arr Ty.bool 4 h.2.2.1 h.2.2.2 r.message.there]) (λh=>[Im.sl aC A0 C0 r.current.rows,Im.sl aD A1 C1 r.current.begun,Im.sl aC A2 C2 r.aN.rows,Im.sl aD A3 C3 r.aN.begun,Im.sl Ty.str h.2.1.1 h.2.1.2 r.message.parts]):=by
 delta gE at H
 refine Cf Go.Proofs.Tryz.func37 λK=> ?_
 refine Z1 ?_
 refine Lx λg1=> ?_
 refine Y1 ?_
 refine Td [34] [0,0,0,0] mo ?_
 refine Db 0 0 ?_
 refine Db 1 0 ?_
 refine Dq 2 ?_
 refine Dq 3 ?_
 refine Db 4 1 ?_
 refine Db 5 0 ?_
 refine Dq 6 ?_
 refine Dq 7 ?_
 refine Dq 8 ?_
 refine Db 9 1 ?_
 refine Db 10 0 ?_
 refine Dq 11 ?_
 refine Dq 12 ?_
 refine Dq 13 ?_
 refine Db 14 1 ?_
 refine Db 15 0 ?_
 refine Dq 16 ?_
 refine Dq 17 ?_
 refine Db 18 1 ?_
 refine Db 19 0 ?_
 refine Dq 20 ?_
 refine Dq 21 ?_
 refine Db 22 1 ?_
 refine Db 24 0 ?_
 refine Dq 25 ?_
 refine Dq 26 ?_
 refine Dq 27 ?_
 refine Db 28 1 ?_
 refine Dq 30 ?_
 have ⟨J,m,n⟩:=bnd H
 refine Dk [] [2,3,0,1,5] (Cb m) λ⟨⟩=> ?_
 have ⟨k,o,p⟩:=bnd n
 refine Dk [] [] (Ak o) λ⟨g,i⟩=> ?_
 refine Dq 31 ?_
 refine Dq 32 ?_
 refine Dq 33 ?_
 refine Dt 1 ?_
 refine Dn ?_
 refine Y1 ?_
 refine Td [11] [0,0,0,0,0] mo ?_
 refine Db 0 1 ?_
 refine Db 1 1 ?_
 refine Dq 2 ?_
 refine Dq 3 ?_
 refine Dq 4 ?_
 refine Db 5 0 ?_
 refine Dq 6 ?_
 have ⟨_,q,s⟩:=bnd p
 refine Da [] [] rfl rfl (Ac.mk (ty:=Ty.bool) false () q (λ_ _ f hf=>by cases hf) rfl rfl rfl rfl rfl rfl rfl) λl=> ?_
 refine Dq 8 ?_
 refine Dq 9 ?_
 refine Dq 10 ?_
 refine Dt 0 ?_
 refine Dn ?_
 refine Z1 ?_
 refine Lt 0 ?_
 refine Z2 ?_
 have ⟨M,t,u⟩:=bnd s
 refine L.br (Ac.call (kA t) rfl rfl rfl rfl) (Bw.cho 2 rfl (Bw.bx 1 rfl (Bw.bx 0 rfl (Bw.im 0 rfl (Bw.im 1 rfl (Bw.im 2 rfl (Bw.im 3 rfl (Bw.cho 2 rfl (Bw.ch 4 rfl (Bw.ch 5 rfl (Bw.nil))))))))))) rfl rfl rfl ?_
 intro _
 refine Z0 ?_
 have ⟨a,v,w⟩:=bnd u
 refine Tjh (η:=(Option Addr×Nat)×(Option Addr×Nat)) (λ_=>[]) [2] (λh=>(λd e b c=>[Ch.aro bO 42 d e a.kept,Ch.arr Ty.str 9 g i a.message.parts,Ch.arr Ty.bool 4 b c a.message.there,Ch.box N0 83 (qt a A0 C0 A1 C1 A2 C2 A3 C3 d e g i b c)]) h.1.1 h.1.2 h.2.1 h.2.2) [1] (λh=>(λd e b c=>[Im.sl aC A0 C0 a.current.rows,Im.sl aD A1 C1 a.current.begun,Im.sl aC A2 C2 a.aN.rows,Im.sl aD A3 C3 a.aN.begun]) h.1.1 h.1.2 h.2.1 h.2.2) ?_ ?_
 ·refine Tb v (λj=> ?_) λj=> ?_
  ·refine Td [13] [0,0,1,1,1] mo ?_
   refine Db 0 1 ?_
   refine Db 1 1 ?_
   refine Dq 2 ?_
   refine Dq 3 ?_
   refine Db 4 0 ?_
   refine Db 5 1 ?_
   refine Dq 6 ?_
   refine Dq 7 ?_
   refine Db 8 0 ?_
   refine Da [] [0,1] rfl rfl (Ac.bs (ty:=bO) (xs:=[s_.current]) (.cons ((A0,C0),(A1,C1)) [0,1] rfl .nil) rfl rfl rfl rfl rfl rfl rfl) λN=> ?_
   refine D.frz 0 rfl ?_
   have ⟨_,x,y⟩:=bnd j
   refine Da [0] [0] rfl rfl (Ac.oap (ty:=bO) x rfl rfl rfl rfl rfl rfl rfl) ?_
   rintro ⟨z,A⟩
   refine Dq 11 ?_
   refine Dq 12 ?_
   refine Dt 0 ?_
   refine Dn ?_
   cases y
   exact Eg ((z,A),((some ⟨l,0,none⟩),(k.length:Int).toNat)) trivial [5,3,3,0,0] [1,2,3,4] 1
  refine Z0 ?_
  cases j
  exact Eg ((A4,C4),((some ⟨l,0,none⟩),(k.length:Int).toNat)) trivial [2,3,3,0,0] [0,1,2,3] 0
 rintro ⟨⟨d,e⟩,⟨b,c⟩⟩
 refine Td [20] [1,1,1,1] mo ?_
 refine Db 0 3 ?_
 refine Db 1 3 ?_
 refine Dq 2 ?_
 refine Dq 3 ?_
 refine Db 4 2 ?_
 refine Db 5 3 ?_
 refine Dq 6 ?_
 refine Dq 7 ?_
 refine Db 8 2 ?_
 refine Dq 9 ?_
 refine Db 10 3 ?_
 refine Dq 11 ?_
 refine Dq 12 ?_
 refine Dq 13 ?_
 refine Db 14 2 ?_
 refine Dq 15 ?_
 refine Dq 16 ?_
 have ⟨_,B,C⟩:=bnd w
 refine Da [0] [] rfl rfl (Ac.ors (ty:=bO) B rfl rfl rfl rfl rfl rfl rfl rfl) ?_
 rintro ⟨F,I⟩
 refine Dq 18 ?_
 refine Dq 19 ?_
 refine Dt 2 ?_
 refine Dn ?_
 refine E.off ?_
 refine E.frz 1 rfl ?_
 cases C
 exact Eo ((F,I),(g,i),(b,c)) [0,2,0] [1,2,3,4,0] .nil
theorem sr {σ η:Type} {m_:bC} {Y:σ->(Int×ByteArray)->Option (σ×Bool)} {y0:σ} (a_0_0:Option Addr) (c_0_0:Nat) (a_0_1:Option Addr) (c_0_1:Nat) {yl:Nat} {C:σ->η->Ch} (hY: ∀ s (h:η) (x:Int×ByteArray) (t:Unit) z,Y s x=some z->YT G yl [.int .i64 x.1,.string x.2] [C s h] [] (λ_:η=> .bool z.2) (λh2=>[C z.1 h2]) (λ_=>[])) (h0:η) {r:σ} (H:iN m_ Y y0=some r):CT G 38 [.agg (QJ m_ a_0_0 c_0_0 a_0_1 c_0_1).toArray,.func (.yield yl) #[] #[]] [C y0 h0,Ch.arr Ty.bool 4 a_0_1 c_0_1 m_.there] [Im.sl Ty.str a_0_0 c_0_0 m_.parts] (λh:η=> .tuple #[]) (λh=>[C r h,Ch.arr Ty.bool 4 a_0_1 c_0_1 m_.there]) (λh=>[]):=by
  delta iN at H
  refine Cf Go.Proofs.Tryz.func38 λK=> ?_
  refine Z1 ?_
  refine Lx λg1=> ?_
  refine Z1 ?_
  have ⟨f,p,m⟩:=bnd H
  refine T.sR (η:=σ×(η)) (λh=>f = .inl h.1) (λh=>(λe=>(λa=>[]) h.2) h.1) (λh=>(λe=>(λa=>[C e a,Ch.box g1 81 (QJ m_ a_0_0 c_0_0 a_0_1 c_0_1),Ch.arr Ty.bool 4 a_0_1 c_0_1 m_.there]) h.2) h.1) (λh=>(λe=>(λa=>[Im.sl Ty.str a_0_0 c_0_0 m_.parts]) h.2) h.1) ?_ ?_
  ·refine Yl0 ?_
   refine Tq (η:=η) (λb h=>(λc=>[(9,.int .i64 b.1)]) h) [1,2,7,8] (λb h=>(λc=>[C b.2 c]) h) [0,2] (λ_ _=>[]) h0 [1,0,0] [] p ?_
   rintro k_ b c q u w n
   refine Y2 ?_
   refine Tb u (λg=> ?_) λg=> ?_
   ·refine Z1 ?_
    refine Zl ?_
    refine Z1 ?_
    have ⟨R,i,y⟩:=bnd g
    refine L.addr 0 rfl (cJ i) λS U A=> ?_
    subst A
    refine Ly (Yl.ia i rfl rfl rfl rfl rfl rfl) ?_
    refine L.el 0 rfl (aU i).2 ?_
    rintro _
    refine Lc 0 0 ?_
    refine Y1 ?_
    have ⟨o,B,F⟩:=bnd y
    refine Tjh (η:=η) (λh=>(λd=>[(26,.bool o.1)]) h) [1,2,7,8,9] (λh=>(λd=>[C o.2 d]) h) [1,2] (λ_=>[]) ?_ ?_
    ·refine Z0 ?_
     have ⟨I,j,J⟩:=bnd B
     refine L.mj 2 rfl (cJ j) λV M=> ?_
     subst M
     refine Ly (Yl.ia j rfl rfl rfl rfl rfl rfl) ?_
     refine Ly (Yl.lo (v:= .bool I) 2 b.1.toNat 0 (aU j).2 rfl rfl rfl rfl (λ_=>rfl)) ?_
     refine Z0 ?_
     refine Lw 20 J (λk=> ?_) λk=> ?_
     ·refine Z0 ?_
      have ⟨W,N,O⟩:=bnd k
      refine L.yd [0] [] (hY _ _ _ () _ N) rfl rfl rfl rfl rfl rfl rfl rfl ?_
      intro P
      refine Z0 ?_
      cases O
      exact Eg P trivial [0,0,0] [] 0
     refine Z0 ?_
     cases k
     exact Eg c trivial [0,0,0] [] 0
    rintro d
    refine Tb F (λl=> ?_) λl=> ?_
    ·refine Z0 ?_
     obtain ⟨X,hz,Q⟩:=fH l
     subst q
     have hb:=n _ rfl
     subst f
     obtain rfl:=(sm m).symm
     refine Z0 ?_
     cases Q
     exact Eo d [0,1] [] .nil
    refine Z0 ?_
    cases l
    exact Eg (_,d) (w _ rfl) [0,0,0] [] 1
   refine Z0 ?_
   cases g
   have hb:=n _ rfl
   subst f
   exact Egx (_,c) rfl [0,0,0] [0]
  rintro ⟨e,a⟩ hy
  subst hy
  refine E.off ?_
  cases m
  exact Eo a [0,1] [] .nil
theorem oT {s_:aK} {now:Int} {r:(List dN)×aK} (H:fP s_ now=some r):CT G 14 [.pointer (some ⟨N0,0,none⟩),.int .i64 now] [Ch.box N0 83 (qt s_ A0 C0 A1 C1 A2 C2 A3 C3 A4 C4 A5 C5 A6 C6),Ch.aro bO 42 A4 C4 s_.kept,Ch.arr Ty.bool 4 A6 C6 s_.message.there] [Im.sl aC A0 C0 s_.current.rows,Im.sl aD A1 C1 s_.current.begun,Im.sl aC A2 C2 s_.aN.rows,Im.sl aD A3 C3 s_.aN.begun,Im.sl Ty.str A5 C5 s_.message.parts,Im.sl (Ty.int .u32) (some ⟨2,0,none⟩) 16 dA] (λh:(Option Addr×Nat)×(Option Addr×Nat)×(Option Addr×Nat)×(Option Addr×Nat)=> .slice h.1.1 r.1.length h.1.2) (λh=>[Ch.arr k7 46 h.1.1 h.1.2 r.1,Ch.box N0 83 (qt r.2 A0 C0 A1 C1 A2 C2 A3 C3 h.2.1.1 h.2.1.2 h.2.2.1.1 h.2.2.1.2 h.2.2.2.1 h.2.2.2.2),Ch.aro bO 42 h.2.1.1 h.2.1.2 r.2.kept,Ch.arr Ty.bool 4 h.2.2.2.1 h.2.2.2.2 r.2.message.there]) (λh=>[Im.sl aC A0 C0 r.2.current.rows,Im.sl aD A1 C1 r.2.current.begun,Im.sl aC A2 C2 r.2.aN.rows,Im.sl aD A3 C3 r.2.aN.begun,Im.sl Ty.str h.2.2.1.1 h.2.2.1.2 r.2.message.parts]):=by
 delta fP at H
 refine Cf Go.Proofs.Tryz.func14 λK=> ?_
 refine T.yS ?_
 refine Z1 ?_
 refine Lx λg1=> ?_
 refine Y2 ?_
 refine Td [] [0,0,0,0,0] mo ?_
 refine Db 0 0 ?_
 refine Dq 1 ?_
 refine Dq 2 ?_
 refine Dq 3 ?_
 refine Db 4 2 ?_
 refine Db 5 0 ?_
 refine Dq 6 ?_
 refine Dq 7 ?_
 refine Dq 8 ?_
 refine Db 9 2 ?_
 refine Dq 10 ?_
 refine Dn ?_
 refine Z0 ?_
 refine Tb H (λH3=> ?_) λH3=> ?_
 ·refine Z1 ?_
  refine Lt 2 ?_
  refine Z1 ?_
  refine E.iS k7 46 ?_
  refine E.jk [Im.sl Ty.str none 0 []] (λA w _ _ f hf=>by rw [List.mem_singleton.1 hf]; exact Im.gF A w) ?_
  refine E.iS Ty.bool 4 ?_
  cases H3
  exact E.vu ((none,0),(A4,C4),(none,0),(none,0)) 4 [1,1,2,0] [1,2,3,4,0] rfl (.tmp rfl .nil) rfl rfl rfl
 refine Y2 ?_
 have ⟨v,z,B⟩:=bnd H3
 refine T.Ar (η:=Unit×Unit) (λh=>True) (λh=>[]) (λh=>[(1,.int .i64 now),(2,.pointer (some ⟨g1,0,none⟩)),(54,.bool v)]) (λh=>[Ch.box g1 26 [.pointer (some ⟨N0,0,none⟩)],Ch.dfs [],Ch.box N0 83 (qt s_ A0 C0 A1 C1 A2 C2 A3 C3 A4 C4 A5 C5 A6 C6),Ch.aro bO 42 A4 C4 s_.kept,Ch.arr Ty.bool 4 A6 C6 s_.message.there]) (λh=>[Im.sl aC A0 C0 s_.current.rows,Im.sl aD A1 C1 s_.current.begun,Im.sl aC A2 C2 s_.aN.rows,Im.sl aD A3 C3 s_.aN.begun,Im.sl Ty.str A5 C5 s_.message.parts,Im.sl (Ty.int .u32) (some ⟨2,0,none⟩) 16 dA]) ?_ ?_
 ·refine Td [] [0,0,0,0,0] mo ?_
  refine Db 0 0 ?_
  refine Dq 1 ?_
  refine Dq 2 ?_
  refine Dq 3 ?_
  refine Db 4 2 ?_
  refine Dq 5 ?_
  refine Dq 6 ?_
  refine D.cs 29 z rfl (λhc n=> ?_) (λhc n=> ?_)
  ·refine Ds 7 ?_
   refine Ds 8 ?_
   refine Ds 9 ?_
   refine Ds 10 ?_
   refine Ds 11 ?_
   refine Ds 12 ?_
   refine Ds 13 ?_
   refine Ds 14 ?_
   refine Ds 15 ?_
   refine Ds 16 ?_
   refine Ds 17 ?_
   refine Dq 18 ?_
   refine Dq 19 ?_
   refine Ds 20 ?_
   refine Ds 21 ?_
   refine Ds 22 ?_
   refine Ds 23 ?_
   refine Ds 24 ?_
   refine Ds 25 ?_
   refine Ds 26 ?_
   refine Ds 27 ?_
   refine Ds 28 ?_
   refine Ds 29 ?_
   refine Ds 30 ?_
   refine Dq 31 ?_
   refine Dn ?_
   cases n
   exact E.qF ((),()) [0,0,0,0,0] [0,1,2,3,4,5] trivial rfl ⟨rfl,rfl,rfl,trivial⟩ rfl rfl
  refine Db 7 0 ?_
  refine Dq 8 ?_
  refine Dq 9 ?_
  refine Dq 10 ?_
  refine Db 11 2 ?_
  refine Db 12 0 ?_
  refine Dq 13 ?_
  refine Dq 14 ?_
  refine Dq 15 ?_
  refine Db 16 2 ?_
  refine Dq 17 ?_
  refine Dq 18 ?_
  refine Dq 19 ?_
  refine D.cs 42 n rfl (λhc o=> ?_) (λhc o=> ?_)
  ·refine Ds 20 ?_
   refine Ds 21 ?_
   refine Ds 22 ?_
   refine Ds 23 ?_
   refine Ds 24 ?_
   refine Ds 25 ?_
   refine Ds 26 ?_
   refine Ds 27 ?_
   refine Ds 28 ?_
   refine Ds 29 ?_
   refine Ds 30 ?_
   refine Dq 31 ?_
   refine Dn ?_
   cases o
   exact E.qF ((),()) [0,0,0,0,0] [0,1,2,3,4,5] trivial rfl ⟨rfl,rfl,rfl,trivial⟩ rfl rfl
  refine Db 20 0 ?_
  refine Dq 21 ?_
  refine Dq 22 ?_
  refine Dq 23 ?_
  refine Db 24 2 ?_
  refine Db 25 0 ?_
  refine Dq 26 ?_
  refine Dq 27 ?_
  refine Dq 28 ?_
  refine Db 29 2 ?_
  refine Dq 30 ?_
  refine Dq 31 ?_
  refine Dn ?_
  cases o
  exact E.qF ((),()) [0,0,0,0,0] [0,1,2,3,4,5] trivial rfl ⟨rfl,rfl,rfl,trivial⟩ rfl rfl
 rintro ⟨_,⟨⟩⟩ _
 have ⟨a,F,I⟩:=bnd B
 refine T.Ar (η:=Unit×((Option Addr×Nat)×(Option Addr×Nat)×(Option Addr×Nat))) (λh=>True) (λh=>(λd e b c g i=>[]) h.2.1.1 h.2.1.2 h.2.2.1.1 h.2.2.1.2 h.2.2.2.1 h.2.2.2.2) (λh=>(λd e b c g i=>[(1,.int .i64 now),(2,.pointer (some ⟨g1,0,none⟩))]) h.2.1.1 h.2.1.2 h.2.2.1.1 h.2.2.1.2 h.2.2.2.1 h.2.2.2.2) (λh=>(λd e b c g i=>[Ch.aro bO 42 d e a.kept,Ch.arr Ty.bool 4 g i a.message.there,Ch.box g1 26 [.pointer (some ⟨N0,0,none⟩)],Ch.dfs [],Ch.box N0 83 (qt a A0 C0 A1 C1 A2 C2 A3 C3 d e b c g i)]) h.2.1.1 h.2.1.2 h.2.2.1.1 h.2.2.1.2 h.2.2.2.1 h.2.2.2.2) (λh=>(λd e b c g i=>[Im.sl aC A0 C0 a.current.rows,Im.sl aD A1 C1 a.current.begun,Im.sl aC A2 C2 a.aN.rows,Im.sl aD A3 C3 a.aN.begun,Im.sl Ty.str b c a.message.parts,Im.sl aC A0 C0 s_.current.rows,Im.sl aD A1 C1 s_.current.begun,Im.sl aC A2 C2 s_.aN.rows,Im.sl aD A3 C3 s_.aN.begun,Im.sl Ty.str A5 C5 s_.message.parts,Im.sl (Ty.int .u32) (some ⟨2,0,none⟩) 16 dA]) h.2.1.1 h.2.1.2 h.2.2.1.1 h.2.2.1.2 h.2.2.2.1 h.2.2.2.2) ?_ ?_
 ·refine Tb F (λp=> ?_) λp=> ?_
  ·refine Z0 ?_
   have ⟨af,J,M⟩:=bnd p
   refine Lk [2,2,2] [0,1,2,3,4,5] (sO J) λ⟨⟨N,O⟩,⟨P,Q⟩,⟨R,S⟩⟩=> ?_
   refine Z0 ?_
   cases M
   exact E.qF ((),((N,O),(P,Q),(R,S))) [1,1,1,1,0] [0,1,2,3,4,5,6,7,8,9,10] trivial rfl ⟨rfl,rfl,trivial⟩ rfl rfl
  refine Z0 ?_
  cases p
  exact E.qF ((),((A4,C4),(A5,C5),(A6,C6))) [3,3,0,0,0] [0,1,2,3,4,0,1,2,3,4,5] trivial rfl ⟨rfl,rfl,trivial⟩ rfl rfl
 rintro ⟨_,⟨⟨d,e⟩,⟨b,c⟩,⟨g,i⟩⟩⟩ _
 refine Z2 ?_
 refine Tb I (λq=> ?_) λq=> ?_
 ·refine Z1 ?_
  refine E.iS k7 46 ?_
  cases q
  exact E.vu ((none,0),(d,e),(b,c),(g,i)) 4 [0,3,0,0] [0,1,2,3,4] rfl (.tmp rfl .nil) rfl rfl rfl
 refine Y1 ?_
 refine Td [11] [0,0,0,0,0] mo ?_
 refine Db 0 2 ?_
 refine Dq 1 ?_
 refine Db 2 2 ?_
 refine Dq 3 ?_
 refine Dq 4 ?_
 refine Dq 5 ?_
 refine Db 6 4 ?_
 refine Dq 7 ?_
 refine Dq 8 ?_
 refine Dq 9 ?_
 refine Dq 10 ?_
 refine Dt 4 ?_
 refine Dn ?_
 refine Z1 ?_
 refine Ll λU=> ?_
 refine Z2 ?_
 refine Yl0 ?_
 refine T.iS k7 46 ?_
 have ⟨V,W,Y⟩:=bnd q
 refine T.rf2 (σ:=(List dN)) (η:=(Option Addr×Nat)) (X:=Int×ByteArray) (θ:=Unit) (τ:=(Option Addr×Nat)) (s1:=V) (hx:=λx=>x) (λx t=>[.int .i64 x.1,.string x.2]) (λx t=>[]) (λ_=>none) (λj h=>(λl m=>[Ch.arr k7 46 l m j,Ch.box U 32 [.slice l j.length m],Ch.box N0 83 [.int .i64 a.config.part,.int .i64 a.config.every,.int .i64 a.config.most,.int .i64 a.current.k,.int .i64 a.current.w,.int .i64 a.current.h,.int .i64 a.current.x,.int .i64 a.current.y,.string a.current.title,.slice A0 a.current.rows.length C0,.int .i64 a.current.len,.int .i64 a.current.chain,.slice A1 a.current.begun.length C1,.int .i64 a.aN.k,.int .i64 a.aN.w,.int .i64 a.aN.h,.int .i64 a.aN.x,.int .i64 a.aN.y,.string a.aN.title,.slice A2 a.aN.rows.length C2,.int .i64 a.aN.len,.int .i64 a.aN.chain,.slice A3 a.aN.begun.length C3,.slice d a.kept.length e,.int .i64 a.message.id,.int .i64 a.message.key,.int .i64 a.message.base,.slice b a.message.parts.length c,.slice g a.message.there.length i,.int .i64 (IntKind.i64.wrap (now+a.config.every)),.int .i64 a.next],Ch.box g1 26 [.pointer (some ⟨N0,0,none⟩)],Ch.aro bO 42 d e a.kept]) h.1 h.2) (λj h=>(λl m=>[Im.sl aC A0 C0 a.current.rows,Im.sl aD A1 C1 a.current.begun,Im.sl aC A2 C2 a.aN.rows,Im.sl aD A3 C3 a.aN.begun,Im.sl Ty.str b c a.message.parts,Im.sl aC A0 C0 s_.current.rows,Im.sl aD A1 C1 s_.current.begun,Im.sl aC A2 C2 s_.aN.rows,Im.sl aD A3 C3 s_.aN.begun,Im.sl Ty.str A5 C5 s_.message.parts,Im.sl (Ty.int .u32) (some ⟨2,0,none⟩) 16 dA]) h.1 h.2) 6 [0,0,0,2,0,0] [0,1,2,3,4,5,6,7,8,9,10] [4] rfl rfl (λ_ _=>rfl) rfl (λyl C hY=>(sr b c g i hY (none,0) W:_)) (λ_ _ _ _=>rfl) rfl rfl rfl rfl rfl ?_ rfl ?_
 ·rintro yl K2 j ⟨l,m⟩ s ⟨⟩ ag Z
  refine Z1 ?_
  refine E.begin λK3=> ?_
  refine Yl0 ?_
  refine Td [28] [1,1,1,1] mo ?_
  refine Db 0 0 ?_
  refine Db 1 2 ?_
  refine Dq 2 ?_
  refine Dq 3 ?_
  refine Dq 4 ?_
  refine Db 5 1 ?_
  refine Db 6 2 ?_
  refine Dq 7 ?_
  refine Dq 8 ?_
  refine Dq 9 ?_
  refine Db 10 1 ?_
  refine Db 11 2 ?_
  refine Dq 12 ?_
  refine Dq 13 ?_
  refine Dq 14 ?_
  refine Db 15 1 ?_
  refine Dq 16 ?_
  refine Db 17 2 ?_
  refine Dq 18 ?_
  refine Dq 19 ?_
  refine Dq 20 ?_
  refine Db 21 1 ?_
  refine Dq 22 ?_
  refine Dq 24 ?_
  refine Da [] [] rfl rfl (Ac.bs (ty:=(Ty.int .i64)) (xs:=[a.message.id,a.message.key,a.message.base,s.1,(a.message.parts.length:Int)]) (.cons () [] rfl (.cons () [] rfl (.cons () [] rfl (.cons () [] rfl (.cons () [] rfl .nil))))) rfl rfl rfl rfl rfl rfl rfl) λaa=> ?_
  refine Dq 25 ?_
  refine D.frz 0 rfl ?_
  refine Da [] [0] rfl rfl (Ac.bs (ty:=k7) (xs:=[(dN.mk 1 1 [a.message.id,a.message.key,a.message.base,s.1,(a.message.parts.length:Int)] s.2)]) (.cons ((some ⟨aa,0,none⟩),5) [0] rfl .nil) rfl rfl rfl rfl rfl rfl rfl) λah=> ?_
  refine D.frz 0 rfl ?_
  have ⟨_,ab,ac⟩:=bnd Z
  refine Da [0] [0] rfl rfl (Ac.ap (ty:=k7) ab rfl rfl rfl rfl rfl rfl rfl) ?_
  rintro ⟨ad,ae⟩
  refine Dt 0 ?_
  refine Dn ?_
  refine Z0 ?_
  cases ac
  exact E.on (ad,ae) [4,0,0,0,0] [2,3,4,5,6,7,8,9,10,11,12] rfl rfl rfl rfl
 rintro u ai
 refine Z1 ?_
 cases Y
 exact E.vu ((u.1,u.2),(d,e),(b,c),(g,i)) 0 [0,1,2,2] [0,1,2,3,4] rfl (.tmp rfl .nil) rfl rfl rfl
theorem xE {s_:cQ} {key:Int} {index:Int} {count:Int} {data:ByteArray} {r:Int×cQ} (H:jf s_ key index count data=some r):CT G 87 [.pointer (some ⟨N0,0,none⟩),.int .i64 key,.int .i64 index,.int .i64 count,.string data] [Ch.box N0 86 (lD s_ M0),Ch.mp Ty.str false M0 s_.parts] [] (λh:Option Nat=> .int .i64 r.1) (λh=>[Ch.box N0 86 (lD r.2 h),Ch.mp Ty.str false h r.2.parts]) (λh=>[]):=by
 delta jf at H
 refine Cf Go.Proofs.Tryz.func87 λK=> ?_
 refine Y2 ?_
 have ⟨b,q,c⟩:=bnd H
 refine Tj (η:=cQ×(Option Nat)) (λh=>b = .inl h.1) (λ_=>[]) [0,2,4] (λh=>(λd=>(λa=>[Ch.mp Ty.str false a d.parts,Ch.box N0 86 (lD d a)]) h.2) h.1) [] (λ_=>[]) ?_ ?_
 ·refine Zl ?_
  refine Y1 ?_
  have ⟨s,t,u⟩:=bnd q
  refine Tj0 [(13,.bool s)] [0,1,2,3,4] [] [0,1] ?_ ?_
  ·refine Z0 ?_
   refine Lw 16 t (λe=> ?_) λe=> ?_
   ·refine Z0 ?_
    cases e
    exact Eg0 [0,0] 0
   refine Z0 ?_
   refine Lw 20 e (λg=> ?_) λg=> ?_
   ·refine Z0 ?_
    cases g
    exact Eg0 [0,0] 0
   refine Z0 ?_
   refine Lw 24 g (λi=> ?_) λi=> ?_
   ·refine Z0 ?_
    cases i
    exact Eg0 [0,0] 0
   refine Z0 ?_
   refine Lw 29 i (λj=> ?_) λj=> ?_
   ·refine Z0 ?_
    cases j
    exact Eg0 [0,0] 0
   refine Z0 ?_
   cases j
   exact Eg0 [0,0] 0
  refine Tb u (λk=> ?_) λk=> ?_
  ·refine Z1 ?_
   obtain ⟨F,hz,v⟩:=eC k
   subst b
   obtain rfl:=(sm c).symm
   refine Z0 ?_
   cases v
   exact Eo1 M0 [0,0] []
  refine Z1 ?_
  refine Tb k (λl=> ?_) λl=> ?_
  ·refine Z1 ?_
   obtain ⟨I,hz,w⟩:=eC l
   subst b
   obtain rfl:=(sm c).symm
   refine Z0 ?_
   cases w
   exact Eo1 M0 [0,0] []
  refine Z1 ?_
  refine Tb l (λm=> ?_) λm=> ?_
  ·refine Z0 ?_
   refine La [] [] (Ac.mkm (ty:=Ty.str) (ag:=false) rfl rfl rfl) λx=> ?_
   refine Z0 ?_
   refine Lt 1 ?_
   refine Z0 ?_
   cases m
   exact Eg (_,(some x)) rfl [1,0] [] 0
  refine Z1 ?_
  refine Tb m (λn=> ?_) λn=> ?_
  ·refine Z1 ?_
   obtain ⟨J,hz,y⟩:=eC n
   subst b
   obtain rfl:=(sm c).symm
   refine Z0 ?_
   cases y
   exact Eo1 M0 [0,0] []
  refine Z0 ?_
  cases n
  exact Eg (_,M0) rfl [1,0] [] 0
 rintro ⟨d,a⟩ hy
 subst hy
 refine Z2 ?_
 refine La [0] [] (Ac.ml (ty:=Ty.str) (ag:=false) (vv:=(λ_:Unit=> .string (mgd d.parts index (ByteArray.mk #[])))) index (ByteArray.mk #[]) () rfl rfl rfl rfl rfl rfl rfl rfl rfl (λ_ _ f hf=>by cases hf) KT (λ_=>rfl)) ?_
 rintro ⟨⟩
 refine Z1 ?_
 have ⟨p,z,A⟩:=bnd c
 refine Tj0 [] [] [Ch.mp Ty.str false a p.parts,Ch.box N0 86 (lD p a)] [] ?_ ?_
 ·refine Tb z (λo=> ?_) λo=> ?_
  ·refine Z1 ?_
   have ⟨_,B,C⟩:=bnd o
   refine La [0] [] (Ac.mu (ty:=Ty.str) (ag:=false) index data () B (.inl rfl) rfl rfl rfl rfl rfl rfl rfl rfl) λ_=> ?_
   refine Z0 ?_
   refine Lt 1 ?_
   refine Z0 ?_
   cases C
   exact Eg0 [1,0] 0
  refine Z0 ?_
  cases o
  exact Eg0 [0,0] 0
 refine Z1 ?_
 cases A
 exact Eo1 a [1,0] []
theorem uD {t_:bA} {g:dN} {r:Int×bA} (H:dH t_ g=some r):CT G 39 [.pointer (some ⟨N0,0,none⟩),.agg (HU g A2 C2).toArray] [Ch.box N0 65 (sH t_ N1 A0 C0 A1 C1),Ch.box N1 86 (lD t_.slot M0),Ch.mp Ty.str false M0 t_.slot.parts] [Im.sl aC A0 C0 t_.bR.rows,Im.sl aD A1 C1 t_.bR.begun,Im.sl (Ty.int .i64) A2 C2 g.bJ] (λh:Option Nat=> .int .i64 r.1) (λh=>[Ch.box N0 65 (sH r.2 N1 A0 C0 A1 C1),Ch.box N1 86 (lD r.2.slot h),Ch.mp Ty.str false h r.2.slot.parts]) (λh=>[Im.sl aC A0 C0 r.2.bR.rows,Im.sl aD A1 C1 r.2.bR.begun]):=by
 delta dH at H
 refine Cf Go.Proofs.Tryz.func39 λK=> ?_
 refine Z1 ?_
 refine Lx λg1=> ?_
 refine Z1 ?_
 refine Zl ?_
 refine Z1 ?_
 refine Tb H (λa=> ?_) λa=> ?_
 ·refine Z1 ?_
  cases a
  exact Eo1 M0 [1,1,1] [0,1]
 refine Z1 ?_
 refine Tb a (λb=> ?_) λb=> ?_
 ·refine Z1 ?_
  cases b
  exact Eo1 M0 [1,1,1] [0,1]
 refine Y1 ?_
 refine Td [] [0,0,0,0] mo ?_
 refine Dq 0 ?_
 refine Db 1 0 ?_
 have ⟨B,c,n⟩:=bnd b
 refine D.addr 2 rfl (cJ c) λC F o=> ?_
 subst o
 refine Dy 2 (Yl.ia c rfl rfl rfl rfl rfl rfl) ?_
 refine D.el 2 rfl (aU c).2 ?_
 rintro _
 refine Dy 3 (Yl.ldc 0 0 rfl rfl rfl rfl) ?_
 refine Dq 4 ?_
 refine Dq 5 ?_
 refine Dq 6 ?_
 refine Dq 7 ?_
 refine Db 8 1 ?_
 refine Dq 9 ?_
 refine Dq 10 ?_
 refine Dn ?_
 refine Z0 ?_
 refine Tb n (λd=> ?_) λd=> ?_
 ·refine Z1 ?_
  cases d
  exact Eo1 M0 [1,1,1] [1,2]
 refine Y1 ?_
 have ⟨p,q,s⟩:=bnd d
 refine Tj0 [(25,.bool p)] [0,3] [] [0,1,2,3] ?_ ?_
 ·refine Td [] [0,0,0,0] mo ?_
  refine Dq 0 ?_
  refine Db 1 0 ?_
  have ⟨I,i,t⟩:=bnd q
  refine Dy 2 (Yl.ia i rfl rfl rfl rfl rfl rfl) ?_
  refine D.el 3 rfl (aU i).2 ?_
  rintro _
  refine Dy 3 (Yl.ldc 0 0 rfl rfl rfl rfl) ?_
  refine Dq 4 ?_
  refine Dq 5 ?_
  refine D.cs 31 t rfl (λhc e=> ?_) (λhc e=> ?_)
  ·refine Dq 6 ?_
   refine Db 7 0 ?_
   have ⟨J,j,u⟩:=bnd e
   refine Dy 8 (Yl.ia j rfl rfl rfl rfl rfl rfl) ?_
   refine D.el 4 rfl (aU j).2 ?_
   rintro _
   refine Dy 9 (Yl.ldc 0 0 rfl rfl rfl rfl) ?_
   refine Dq 10 ?_
   refine Dq 11 ?_
   refine Dq 12 ?_
   refine Dq 13 ?_
   refine Db 14 1 ?_
   refine Dq 15 ?_
   refine Dq 16 ?_
   refine Dq 17 ?_
   refine Dn ?_
   cases u
   exact Eg0 [0,0,0,0] 2
  refine Ds 6 ?_
  refine Ds 7 ?_
  refine Ds 8 ?_
  refine Ds 9 ?_
  refine Ds 10 ?_
  refine Ds 11 ?_
  refine Ds 12 ?_
  refine Ds 13 ?_
  refine Ds 14 ?_
  refine Ds 15 ?_
  refine Dq 16 ?_
  refine Dq 17 ?_
  refine Dn ?_
  cases e
  exact Eg0 [0,0,0,0] 1
 refine Tb s (λf=> ?_) λf=> ?_
 ·refine Z1 ?_
  cases f
  exact Eo1 M0 [1,1,1] [1,2]
 refine Y1 ?_
 refine Td [] [0,0] mo ?_
 refine Dq 0 ?_
 refine Dq 1 ?_
 refine Dq 2 ?_
 refine Db 3 1 ?_
 refine Dq 4 ?_
 refine Db 5 0 ?_
 have ⟨M,k,v⟩:=bnd f
 refine Dy 6 (Yl.ia k rfl rfl rfl rfl rfl rfl) ?_
 refine D.el 3 rfl (aU k).2 ?_
 rintro _
 refine Dy 7 (Yl.ldc 0 0 rfl rfl rfl rfl) ?_
 refine Dq 8 ?_
 refine Db 9 0 ?_
 have ⟨N,l,w⟩:=bnd v
 refine Dy 10 (Yl.ia l rfl rfl rfl rfl rfl rfl) ?_
 refine D.el 4 rfl (aU l).2 ?_
 rintro _
 refine Dy 11 (Yl.ldc 0 0 rfl rfl rfl rfl) ?_
 refine Dq 12 ?_
 refine Db 13 0 ?_
 have ⟨O,m,x⟩:=bnd w
 refine Dy 14 (Yl.ia m rfl rfl rfl rfl rfl rfl) ?_
 refine D.el 5 rfl (aU m).2 ?_
 rintro _
 refine Dy 15 (Yl.ldc 0 0 rfl rfl rfl rfl) ?_
 refine Dq 16 ?_
 refine Db 17 0 ?_
 have ⟨P,y,z⟩:=bnd x
 refine Dk [0,0] [] (xE y) λA=> ?_
 refine Dq 19 ?_
 refine Dn ?_
 refine Z0 ?_
 cases z
 exact Eo1 A [1,1,1] [4,5]
theorem qp {σ η:Type} {s_:cQ} {Y:σ->(Int×Bool)->Option (σ×Bool)} {y0:σ} (g_0:Nat) (v_0_0:Option Nat) {yl:Nat} {C:σ->η->Ch} (hY: ∀ s (h:η) (x:Int×Bool) (t:Unit) z,Y s x=some z->YT G yl [.int .i64 x.1,.bool x.2] [C s h,Ch.box g_0 86 (lD s_ v_0_0),Ch.mp Ty.str false v_0_0 s_.parts] [] (λ_:η=> .bool z.2) (λh2=>[C z.1 h2,Ch.box g_0 86 (lD s_ v_0_0),Ch.mp Ty.str false v_0_0 s_.parts]) (λ_=>[])) (h0:η) {r:σ} (H:jK s_ Y y0=some r):CT G 88 [.pointer (some ⟨g_0,0,none⟩),.func (.yield yl) #[] #[]] [C y0 h0,Ch.box g_0 86 (lD s_ v_0_0),Ch.mp Ty.str false v_0_0 s_.parts] [] (λh:η=> .tuple #[]) (λh=>[C r h,Ch.box g_0 86 (lD s_ v_0_0),Ch.mp Ty.str false v_0_0 s_.parts]) (λh=>[]):=by
  delta jK at H
  refine Cf Go.Proofs.Tryz.func88 λK=> ?_
  refine Z1 ?_
  have ⟨e,m,j⟩:=bnd H
  refine T.sR (η:=σ×(η)) (λh=>e = .inl h.1) (λh=>(λc=>(λb=>[]) h.2) h.1) (λh=>(λc=>(λb=>[C c b,Ch.box g_0 86 (lD s_ v_0_0),Ch.mp Ty.str false v_0_0 s_.parts]) h.2) h.1) (λh=>(λc=>(λb=>[]) h.2) h.1) ?_ ?_
  ·refine Yl0 ?_
   refine Tq (η:=η) (λa h=>(λd=>[(11,.int .i64 a.1)]) h) [0,1,10] (λa h=>(λd=>[C a.2 d]) h) [1,2] (λ_ _=>[]) h0 [0,0,0] [] m ?_
   rintro k_ a d n o p k
   refine Y2 ?_
   refine Tb o (λg=> ?_) λg=> ?_
   ·refine Z1 ?_
    refine Zl ?_
    refine Z2 ?_
    refine La [2] [] (Ac.ml (ty:=Ty.str) (ag:=false) (vv:=(λh:Unit=> .string (mgd s_.parts a.1 (ByteArray.mk #[])))) a.1 (ByteArray.mk #[]) () rfl rfl rfl rfl rfl rfl rfl rfl rfl (λ_ _ f hf=>by cases hf) KT (λ_=>rfl)) ?_
    rintro ⟨⟩
    refine Z1 ?_
    have ⟨w,q,u⟩:=bnd g
    refine L.yd [1,1,0] [] (hY _ _ _ () _ q) rfl rfl rfl rfl rfl rfl rfl rfl ?_
    intro l
    refine Z0 ?_
    refine Tb u (λi=> ?_) λi=> ?_
    ·refine Z0 ?_
     obtain ⟨y,hz,v⟩:=fH i
     subst n
     have hb:=k _ rfl
     subst e
     obtain rfl:=(sm j).symm
     refine Z0 ?_
     cases v
     exact Eo l [0,0,0] [] .nil
    refine Z0 ?_
    cases i
    exact Eg (_,l) (p _ rfl) [0,0,0] [] 0
   refine Z0 ?_
   cases g
   have hb:=k _ rfl
   subst e
   exact Egx (_,d) rfl [0,0,0] []
  rintro ⟨c,b⟩ hy
  subst hy
  refine E.off ?_
  cases j
  exact Eo b [0,0,0] [] .nil
theorem pr (g:Nat) (u:Bool) (v:Value):CT G 122 [.pointer (some ⟨g,0,none⟩)] [Ch.box g 156 [.pointer (Aw u g),v]] [] (λ_:Unit=> .tuple #[]) (λ_=>[Ch.box g 156 [.pointer (Aw true g),v]]) (λ_=>[]):=by
 refine Cf Go.Proofs.Tryz.func122 λK=> ?_
 cases u
 ·refine Z1 ?_
  refine Ly (Yl.pz rfl rfl rfl rfl rfl) ?_
  refine Z0 ?_
  refine T.cond rfl (λ_=> ?_) (λh=>nomatch h)
  refine Z0 ?_
  refine Ly (Yl.tou (t:=156) 0 rfl rfl rfl (by kernel_rfl) (by kernel_rfl) rfl rfl rfl) ?_
  refine Ly (Yl.Q1 rfl rfl rfl Go.Proofs.Tryz.func168 (by kernel_rfl) (by kernel_rfl) (by kernel_rfl) (by kernel_rfl)) ?_
  refine Ly (Yl.fru (u:=156) 0 rfl rfl rfl (by kernel_rfl) (by kernel_rfl) rfl (by kernel_rfl)) ?_
  refine Z0 ?_
  refine Lt 0 ?_
  refine Z0 ?_
  refine E.off ?_
  exact Eo () [0] [] .nil
 refine Z1 ?_
 refine Ly (Yl.pn rfl rfl rfl rfl rfl rfl) ?_
 refine Z0 ?_
 refine T.cond rfl (λh=>nomatch h) (λ_=> ?_)
 refine Z1 ?_
 refine Ly (Yl.ps rfl rfl rfl rfl rfl rfl) ?_
 refine Z0 ?_
 refine T.cond rfl (λh=>nomatch h) (λ_=> ?_)
 refine Z0 ?_
 refine E.off ?_
 exact Eo () [0] [] .nil
theorem oU {b:cY} {s_:ByteArray} (g_0:Nat) (a_0_0:Option Addr) (c_0_0:Nat) {r:cY} (H:fA b s_=some r):CT G 89 [.pointer (some ⟨g_0,0,none⟩),.string s_] [Ch.box g_0 156 [.pointer (Aw b.addr g_0),.slice a_0_0 b.buf.length c_0_0],Ch.arr (Ty.int .u8) 5 a_0_0 c_0_0 b.buf] [] (λh:(Option Addr×Nat)=> .tuple #[.int .i64 (s_.size:Int),.nilIface]) (λh=>[Ch.box g_0 156 [.pointer (Aw r.addr g_0),.slice h.1 r.buf.length h.2],Ch.arr (Ty.int .u8) 5 h.1 h.2 r.buf]) (λh=>[]):=by
  delta fA at H
  refine Cf Go.Proofs.Tryz.func89 λK=> ?_
  refine Z2 ?_
  refine Lk [0] [] (pr g_0 b.addr _) λ⟨⟩=> ?_
  refine Z1 ?_
  have ⟨_,h1,H2⟩:=bnd H
  refine La [1] [] (Ac.aps h1 rfl rfl rfl rfl rfl rfl rfl rfl rfl NR) λ⟨a,c⟩=> ?_
  refine Z0 ?_
  refine Lt 1 ?_
  refine Z1 ?_
  cases H2
  exact Eo (a,c) [0,0] [] (.tmp rfl (.tmp rfl .nil))
theorem qw {b:cY} (g_0:Nat) (a_0_0:Option Addr) (c_0_0:Nat) {r:ByteArray} (H:kY b=some r):CT G 90 [.pointer (some ⟨g_0,0,none⟩)] [Ch.box g_0 156 [.pointer (Aw b.addr g_0),.slice a_0_0 b.buf.length c_0_0],Ch.arr (Ty.int .u8) 5 a_0_0 c_0_0 b.buf] [] (λh:Unit=> .string r) (λh=>[]) (λh=>[]):=by
  delta kY at H
  refine Cf Go.Proofs.Tryz.func90 λK=> ?_
  refine Y2 ?_
  refine Td [] [0] mo ?_
  refine Dq 0 ?_
  refine Dq 1 ?_
  refine Dq 2 ?_
  refine Db 3 0 ?_
  refine Dq 5 ?_
  refine Dq 6 ?_
  refine Dq 7 ?_
  refine Db 8 0 ?_
  refine Dq 9 ?_
  refine Da [0] [] rfl rfl (Ac.usd (e:=5) rfl rfl (by kernel_rfl)) λp=> ?_
  refine Da [0] [] rfl rfl (Ac.ust (T:=5) rfl rfl rfl (by kernel_rfl) (by kernel_rfl)) λ_=> ?_
  refine Dq 11 ?_
  refine Dn ?_
  refine Z0 ?_
  cases H
  exact Eo1 () [] []
theorem vp {s_:cQ} {r:ByteArray×Bool} (H:ku s_=some r):CT G 40 [.pointer (some ⟨N0,0,none⟩)] [Ch.box N0 86 (lD s_ M0),Ch.mp Ty.str false M0 s_.parts] [] (λ_:Unit=> .tuple #[.string r.1,.bool r.2]) (λh=>[Ch.box N0 86 (lD s_ M0),Ch.mp Ty.str false M0 s_.parts]) (λh=>[]):=by
 delta ku at H
 refine Cf Go.Proofs.Tryz.func40 λK=> ?_
 refine T.yS ?_
 refine Z1 ?_
 refine Lx λg1=> ?_
 refine Y2 ?_
 have ⟨e7,H8,H9⟩:=bnd H
 refine T.Ar (η:=Unit×Unit) (λh=>True) (λh=>[]) (λh=>[(1,.pointer (some ⟨g1,0,none⟩)),(22,.bool e7)]) (λh=>[Ch.box g1 63 [.pointer (some ⟨N0,0,none⟩)],Ch.dfs [],Ch.box N0 86 (lD s_ M0),Ch.mp Ty.str false M0 s_.parts]) (λh=>[]) ?_ ?_
 ·refine Td [] [0,0,0,0] mo ?_
  refine Db 0 0 ?_
  refine Dq 1 ?_
  refine Dq 2 ?_
  refine Db 3 2 ?_
  refine Dq 4 ?_
  refine Dq 5 ?_
  refine D.cs 11 H8 rfl (λhc e=> ?_) (λhc e=> ?_)
  ·refine Ds 6 ?_
   refine Ds 7 ?_
   refine Ds 8 ?_
   refine Ds 9 ?_
   refine Ds 10 ?_
   refine Ds 11 ?_
   refine Ds 12 ?_
   refine Ds 13 ?_
   refine Ds 14 ?_
   refine Ds 15 ?_
   refine Dq 16 ?_
   refine Dn ?_
   cases e
   exact E.qF ((),()) [0,0,0,0] [] trivial rfl ⟨rfl,rfl,trivial⟩ rfl rfl
  refine Db 6 0 ?_
  refine Dq 7 ?_
  refine Dq 8 ?_
  refine Db 9 2 ?_
  refine Db 11 0 ?_
  refine Dq 12 ?_
  refine Dq 13 ?_
  refine Db 14 2 ?_
  refine Dy 10 (Yl.mn 3 rfl rfl rfl rfl rfl) ?_
  refine Dq 15 ?_
  refine Dq 16 ?_
  refine Dn ?_
  cases e
  exact E.qF ((),()) [0,0,0,0] [] trivial rfl ⟨rfl,rfl,trivial⟩ rfl rfl
 rintro ⟨_,⟨⟩⟩ _
 refine Tb H9 (λg=> ?_) λg=> ?_
 ·refine Z1 ?_
  cases g
  exact E.vu () 1 [1,1] [] rfl (.tmp rfl (.tmp rfl .nil)) rfl rfl rfl
 refine Z1 ?_
 refine Ll λd=> ?_
 refine Z2 ?_
 refine Yl0 ?_
 refine T.iS (Ty.int .u8) 5 ?_
 have ⟨k,l,m⟩:=bnd g
 refine T.rf3 (σ:=cY) (η:=(Option Addr×Nat)) (X:=Int×Bool) (θ:=Unit) (τ:=(Option Addr×Nat)) (s1:=k) (hx:=λx=>x) (λx t=>[.int .i64 x.1,.bool x.2]) (λx t=>[]) (λ_=>none) [Ch.box N0 86 (lD s_ M0),Ch.mp Ty.str false M0 s_.parts] (λa h=>(λb c=>[Ch.arr (Ty.int .u8) 5 b c a.buf,Ch.box d 156 [.pointer (Aw a.addr d),.slice b a.buf.length c],Ch.box g1 63 [.pointer (some ⟨N0,0,none⟩)]]) h.1 h.2) (λa h=>(λb c=>[]) h.1 h.2) 3 [0,0,0,0,0] [] [] rfl rfl (λ_ _=>rfl) rfl (λyl C hY=>(qp N0 M0 hY (none,0) l:_)) (λ_ _ _ _=>rfl) rfl rfl rfl rfl rfl ?_ rfl ?_
 ·rintro yl K2 a ⟨b,c⟩ i ⟨⟩ w n
  refine Z0 ?_
  refine E.begin λK3=> ?_
  refine Zl ?_
  refine La [4] [] (Ac.ml1 (ty:=Ty.str) (ag:=false) (vv:=(λ_:Unit=> .string (mgd s_.parts i.1 (ByteArray.mk #[])))) i.1 (ByteArray.mk #[]) () rfl rfl rfl rfl rfl rfl rfl rfl rfl (λ_ _ f hf=>by cases hf) KT (λ_=>rfl)) ?_
  rintro ⟨⟩
  have ⟨y,o,p⟩:=bnd n
  refine Lk [2,1] [] (oU d b c o) λ⟨q,s⟩=> ?_
  refine Z0 ?_
  cases p
  exact E.on (q,s) [1,0,1,1,0] [] rfl rfl rfl rfl
 rintro j z
 refine Z1 ?_
 have ⟨A,u,v⟩:=bnd m
 refine Lk [2,1] [] (qw d j.1 j.2 u) λ⟨⟩=> ?_
 refine Z0 ?_
 cases v
 exact E.vu () 0 [1,1] [] rfl (.tmp rfl (.tmp rfl .nil)) rfl rfl rfl
theorem uE {s_:cQ} {r:cQ} (H:lg s_=some r):CT G 41 [.pointer (some ⟨N0,0,none⟩)] [Ch.box N0 86 (lD s_ M0),Ch.mp Ty.str false M0 s_.parts] [] (λh:Option Nat=> .tuple #[]) (λh=>[Ch.box N0 86 (lD r h),Ch.mp Ty.str false h r.parts]) (λh=>[]):=by
 delta lg at H
 refine Cf Go.Proofs.Tryz.func41 λK=> ?_
 refine Z0 ?_
 refine Lt 0 ?_
 refine Ln (E.off ?_)
 refine E.mp0 Ty.str false ?_
 cases H
 exact Eo none [1,0] [] .nil
theorem KU {s_:ByteArray} {r:aT} (H:vI s_=some r):CT G 123 [.string s_] [] [] (λh:Nat=> .pointer (some ⟨h,0,none⟩)) (λh=>[Ch.box h 225 [.string r.s,.int .i64 r.e]]) (λh=>[]):=by
 delta vI at H
 refine Cf Go.Proofs.Tryz.func123 λK=> ?_
 refine Z2 ?_
 refine Lx λg1=> ?_
 refine Z0 ?_
 cases H
 exact Eo1 g1 [0] []
theorem gM {in_:aT} {e:Int} {r:aT} (H:bU in_ e=some r):CT G 129 [.pointer (some ⟨N0,0,none⟩),.int .i64 e] [Ch.box N0 225 [.string in_.s,.int .i64 in_.e]] [] (λ_:Unit=> .tuple #[]) (λh=>[Ch.box N0 225 [.string r.s,.int .i64 r.e]]) (λh=>[]):=by
 delta bU at H
 refine Cf Go.Proofs.Tryz.func129 λK=> ?_
 refine Y1 ?_
 have ⟨e4,H5,H6⟩:=bnd H
 refine Tj0 [(12,.bool e4)] [0,1] [] [0] ?_ ?_
 ·refine Z0 ?_
  refine Lw 9 H5 (λH7=> ?_) λH7=> ?_
  ·refine Z0 ?_
   cases H7
   exact Eg0 [0] 0
  refine Z0 ?_
  cases H7
  exact Eg0 [0] 0
 refine Tb H6 (λH8=> ?_) λH8=> ?_
 ·refine Z0 ?_
  refine Lt 0 ?_
  refine Z0 ?_
  refine Lt 0 ?_
  refine Ln (E.off ?_)
  cases H8
  exact Eo () [0] [] .nil
 refine Tk (E.off ?_)
 cases H8
 exact Eo () [0] [] .nil
end Go.Tw.X
namespace Go.Tw.X
open Go Go.Tw
variable {A0 A1 A2 A3 A4 A5 A6 A7 A8 : Option Addr} {C0 C1 C2 C3 C4 C5 C6 C7 C8 : Nat}
variable {N0 N1 N2 N3 N4 : Nat}
variable {M0 : Option Nat}
theorem fL {in_:aT} {r:Int×aT} (H:bW in_=some r):CT G 124 [.pointer (some ⟨N0,0,none⟩)] [Ch.box N0 225 [.string in_.s,.int .i64 in_.e]] [] (λ_:Unit=> .int .i64 r.1) (λh=>[Ch.box N0 225 [.string r.2.s,.int .i64 r.2.e]]) (λh=>[]):=by
 delta bW at H
 refine Cf Go.Proofs.Tryz.func124 λK=> ?_
 refine Z3 ?_
 refine Z1 ?_
 have ⟨a,o,b⟩:=bnd H
 refine Tj (η:=Unit×Unit) (λh=>a = .inl h.1) (λ_=>[]) [0] (λ_=>[]) [0] (λ_=>[]) ?_ ?_
 ·refine Yl0 ?_
  refine Tq (η:=Unit) (λc h=>[(3,.int .i64 c.2),(12,.int .i64 c.1)]) [0,11] (λ_ _=>[]) [0] (λ_ _=>[]) () [0] [] o ?_
  rintro k_ c ⟨⟩ m p q d
  refine Y2 ?_
  refine Tb p (λf=> ?_) λf=> ?_
  ·refine Z1 ?_
   refine Zl ?_
   refine Z2 ?_
   have ⟨S,t,u⟩:=bnd f
   refine Ly (Yl.si t rfl rfl rfl rfl rfl) ?_
   refine Z1 ?_
   have ⟨_,v,w⟩:=bnd u
   refine Ly (Yl.shl (nb:=64) rfl v rfl rfl rfl) ?_
   refine Z2 ?_
   refine Tb w (λg=> ?_) λg=> ?_
   ·refine Z0 ?_
    cases g
    exact Eg (_,()) (q _ rfl) [0] [] 0
   refine Y2 ?_
   have ⟨x,y,z⟩:=bnd g
   refine Tj0 [(40,.bool x)] [0,3,4] [] [0] ?_ ?_
   ·refine Z0 ?_
    refine Lw 33 y (λi=> ?_) λi=> ?_
    ·refine Z0 ?_
     refine Lw 37 i (λj=> ?_) λj=> ?_
     ·refine Z0 ?_
      cases j
      exact Eg0 [0] 0
     refine Z0 ?_
     cases j
     exact Eg0 [0] 0
    refine Z0 ?_
    cases i
    exact Eg0 [0] 0
   refine Tb z (λk=> ?_) λk=> ?_
   ·refine Z1 ?_
    have ⟨U,A,B⟩:=bnd k
    refine Lk [0] [] (gM A) λ⟨⟩=> ?_
    refine Z1 ?_
    obtain ⟨V,hz,C⟩:=fH B
    subst m
    have hb:=d _ rfl
    subst a
    obtain rfl:=(sm b).symm
    refine Z0 ?_
    cases C
    exact Eo1 () [0] []
   refine Z1 ?_
   have ⟨_,F,I⟩:=bnd k
   refine Ly (Yl.sc F rfl rfl rfl rfl rfl rfl) ?_
   refine Z0 ?_
   refine Lt 0 ?_
   refine Z1 ?_
   obtain ⟨W,hz,J⟩:=fH I
   subst m
   have hb:=d _ rfl
   subst a
   obtain rfl:=(sm b).symm
   refine Z0 ?_
   cases J
   exact Eo1 () [0] []
  refine Z0 ?_
  cases f
  have hb:=d _ rfl
  subst a
  exact Eg (_,()) rfl [0] [] 0
 rintro ⟨X,⟨⟩⟩ hy
 subst hy
 refine Z2 ?_
 have ⟨n,M,N⟩:=bnd b
 refine Tj0 [] [0] [Ch.box N0 225 [.string n.s,.int .i64 n.e]] [] ?_ ?_
 ·refine Tb M (λl=> ?_) λl=> ?_
  ·refine Z0 ?_
   have ⟨Y,O,P⟩:=bnd l
   refine Lk [0] [] (gM O) λ⟨⟩=> ?_
   refine Z0 ?_
   cases P
   exact Eg0 [0] 0
  refine Z0 ?_
  cases l
  exact Eg0 [0] 0
 refine Z1 ?_
 have ⟨Z,Q,R⟩:=bnd N
 refine Lk [0] [] (gM Q) λ⟨⟩=> ?_
 refine Z1 ?_
 cases R
 exact Eo1 () [0] []
theorem wM {in_:aT} {r:Int×aT} (H:lN in_=some r):CT G 125 [.pointer (some ⟨N0,0,none⟩)] [Ch.box N0 225 [.string in_.s,.int .i64 in_.e]] [] (λ_:Unit=> .int .i64 r.1) (λh=>[Ch.box N0 225 [.string r.2.s,.int .i64 r.2.e]]) (λh=>[]):=by
 delta lN at H
 refine Cf Go.Proofs.Tryz.func125 λK=> ?_
 refine Z2 ?_
 have ⟨r1,h2,H3⟩:=bnd H
 refine Lk [0] [] (fL h2) λ⟨⟩=> ?_
 refine Z2 ?_
 refine Tb H3 (λH8=> ?_) λH8=> ?_
 ·refine Z1 ?_
  have ⟨r9,a,b⟩:=bnd H8
  refine Lk [0] [] (gM a) λ⟨⟩=> ?_
  refine Z1 ?_
  cases b
  exact Eo1 () [0] []
 refine Z1 ?_
 cases H8
 exact Eo1 () [0] []
theorem Cc {in_:aT} {n_:Int} {r:ByteArray×aT} (H:nG in_ n_=some r):CT G 169 [.pointer (some ⟨N0,0,none⟩),.int .i64 n_] [Ch.box N0 225 [.string in_.s,.int .i64 in_.e]] [] (λ_:Unit=> .string r.1) (λh=>[Ch.box N0 225 [.string r.2.s,.int .i64 r.2.e]]) (λh=>[]):=by
 delta nG at H
 refine Cf Go.Proofs.Tryz.func169 λK=> ?_
 refine Z3 ?_
 refine Z1 ?_
 refine Tb H (λH5=> ?_) λH5=> ?_
 ·refine Z1 ?_
  have ⟨r6,h7,H8⟩:=bnd H5
  refine Lk [0] [] (gM h7) λ⟨⟩=> ?_
  refine Z1 ?_
  cases H8
  exact Eo1 () [0] []
 refine Z1 ?_
 have ⟨_,h9,a⟩:=bnd H5
 refine Ly (Yl.sc h9 rfl rfl rfl rfl rfl rfl) ?_
 refine Z1 ?_
 have ⟨_,b,c⟩:=bnd a
 refine Ly (Yl.sc b rfl rfl rfl rfl rfl rfl) ?_
 refine Z0 ?_
 refine Lt 0 ?_
 refine Z1 ?_
 cases c
 exact Eo1 () [0] []
theorem Al {in_:aT} {r:ByteArray×aT} (H:l9 in_=some r):CT G 126 [.pointer (some ⟨N0,0,none⟩)] [Ch.box N0 225 [.string in_.s,.int .i64 in_.e]] [] (λ_:Unit=> .string r.1) (λh=>[Ch.box N0 225 [.string r.2.s,.int .i64 r.2.e]]) (λh=>[]):=by
 delta l9 at H
 refine Cf Go.Proofs.Tryz.func126 λK=> ?_
 refine Z2 ?_
 have ⟨r1,h2,H3⟩:=bnd H
 refine Lk [0] [] (fL h2) λ⟨⟩=> ?_
 have ⟨r4,h5,H6⟩:=bnd H3
 refine Lk [0] [] (Cc h5) λ⟨⟩=> ?_
 refine Z0 ?_
 cases H6
 exact Eo1 () [0] []
theorem pW {in_:aT} {most:Int} {r:Int×aT} (H:iE in_ most=some r):CT G 170 [.pointer (some ⟨N0,0,none⟩),.int .i64 most] [Ch.box N0 225 [.string in_.s,.int .i64 in_.e]] [] (λ_:Unit=> .int .i64 r.1) (λh=>[Ch.box N0 225 [.string r.2.s,.int .i64 r.2.e]]) (λh=>[]):=by
 delta iE at H
 refine Cf Go.Proofs.Tryz.func170 λK=> ?_
 refine Z2 ?_
 have ⟨r1,h2,H3⟩:=bnd H
 refine Lk [0] [] (fL h2) λ⟨⟩=> ?_
 refine Z2 ?_
 refine Tb H3 (λH8=> ?_) λH8=> ?_
 ·refine Z1 ?_
  have ⟨r9,a,b⟩:=bnd H8
  refine Lk [0] [] (gM a) λ⟨⟩=> ?_
  refine Z1 ?_
  cases b
  exact Eo1 () [0] []
 refine Z1 ?_
 cases H8
 exact Eo1 () [0] []
theorem oc {in_:aT} {r:Int} (H:dU in_=some r):CT G 128 [.pointer (some ⟨N0,0,none⟩)] [Ch.box N0 225 [.string in_.s,.int .i64 in_.e]] [] (λ_:Unit=> .int .i64 r) (λh=>[Ch.box N0 225 [.string in_.s,.int .i64 in_.e]]) (λh=>[]):=by
 delta dU at H
 refine Cf Go.Proofs.Tryz.func128 λK=> ?_
 refine Z2 ?_
 cases H
 exact Eo1 () [0] []
theorem DZ {in_:aT} {r:(List aJ)×aT} (H:nw in_=some r):CT G 127 [.pointer (some ⟨N0,0,none⟩)] [Ch.box N0 225 [.string in_.s,.int .i64 in_.e]] [] (λh:(Option Addr×Nat)=> .slice h.1 r.1.length h.2) (λh=>[Ch.arr aD 112 h.1 h.2 r.1,Ch.box N0 225 [.string r.2.s,.int .i64 r.2.e]]) (λh=>[]):=by
 delta nw at H
 refine Cf Go.Proofs.Tryz.func127 λK=> ?_
 refine Z3 ?_
 refine Z1 ?_
 have ⟨r1,h2,H3⟩:=bnd H
 refine Lk [0] [] (pW h2) λ⟨⟩=> ?_
 refine Z0 ?_
 have ⟨b,k,l⟩:=bnd H3
 refine Tjh (η:=(Option Addr×Nat)) (λh=>(λc d=>[(3,.slice c b.1.length d)]) h.1 h.2) [0] (λh=>(λc d=>[Ch.arr aD 112 c d b.1,Ch.box N0 225 [.string b.2.s,.int .i64 b.2.e]]) h.1 h.2) [] (λ_=>[]) ?_ ?_
 ·refine Yl0 ?_
  refine T.iS aD 112 ?_
  refine Tq (η:=(Option Addr×Nat)) (λa h=>(λf g=>[(3,.slice f a.2.1.length g),(6,.int .i64 a.2.2)]) h.1 h.2) [0,5] (λa h=>(λf g=>[Ch.arr aD 112 f g a.2.1,Ch.box N0 225 [.string a.1.s,.int .i64 a.1.e]]) h.1 h.2) [] (λ_ _=>[]) (none,0) [0,0] [] k ?_
  rintro k_ a ⟨f,g⟩ F m n o
  refine Y2 ?_
  refine Tb m (λi=> ?_) λi=> ?_
  ·refine Z1 ?_
   refine Zl ?_
   have ⟨p,q,t⟩:=bnd i
   refine Lk [1] [] (pW q) λ⟨⟩=> ?_
   refine Z0 ?_
   have ⟨u,v,w⟩:=bnd t
   refine Lk [0] [] (pW v) λ⟨⟩=> ?_
   refine Z0 ?_
   refine La [] [] (Ac.bs (ty:=aD) (xs:=[(aJ.mk (IntKind.i32.wrap p.1) u.1)]) (.cons () [] rfl .nil) rfl rfl rfl rfl rfl rfl rfl) λI=> ?_
   refine L.frz 0 rfl ?_
   have ⟨_,x,y⟩:=bnd w
   refine La [1] [0] (Ac.ap (ty:=aD) x rfl rfl rfl rfl rfl rfl rfl) ?_
   rintro ⟨z,A⟩
   refine Z0 ?_
   cases y
   exact Eg (_,(z,A)) (n _ rfl) [0,0] [] 1
  refine Z0 ?_
  cases i
  have hb:=o _ rfl
  subst b
  exact Eg (f,g) trivial [0,0] [] 0
 rintro ⟨c,d⟩
 refine Z2 ?_
 have ⟨J,B,C⟩:=bnd l
 refine Lk [1] [] (oc B) λ⟨⟩=> ?_
 refine Z0 ?_
 refine Tb C (λj=> ?_) λj=> ?_
 ·refine Z1 ?_
  refine E.iS aD 112 ?_
  cases j
  exact Eo1 (none,0) [0,0] []
 refine Z1 ?_
 cases j
 exact Eo1 (c,d) [1,0] []
theorem Fv {in_:aT} {left:Int} {r:Int×aG×Bool×aT} (H:ou in_ left=some r):CT G 171 [.pointer (some ⟨N0,0,none⟩),.int .i64 left] [Ch.box N0 225 [.string in_.s,.int .i64 in_.e]] [] (λ_:Unit=> .tuple #[.int .i64 r.1,.agg #[.int .i32 r.2.1.rune,.int .i64 r.2.1.aM,.int .i64 r.2.1.part],.bool r.2.2.1]) (λh=>[Ch.box N0 225 [.string r.2.2.2.s,.int .i64 r.2.2.2.e]]) (λh=>[]):=by
 delta ou at H
 refine Cf Go.Proofs.Tryz.func171 λK=> ?_
 refine Z1 ?_
 refine Ll λg1=> ?_
 refine Z1 ?_
 have ⟨r2,h3,H4⟩:=bnd H
 refine Lk [1] [] (fL h3) λ⟨⟩=> ?_
 refine Y2 ?_
 have ⟨e8,H9,n⟩:=bnd H4
 refine Tj0 [(19,.bool e8)] [0,5,7] [] [0,1] ?_ ?_
 ·refine Z0 ?_
  refine Lw 15 H9 (λd=> ?_) λd=> ?_
  ·refine Z0 ?_
   cases d
   exact Eg0 [0,0] 0
  refine Z0 ?_
  cases d
  exact Eg0 [0,0] 0
 have ⟨l,o,p⟩:=bnd n
 refine Tj0 [] [0,5,7] [Ch.box N0 225 [.string l.s,.int .i64 l.e]] [1] ?_ ?_
 ·refine Tb o (λf=> ?_) λf=> ?_
  ·refine Z0 ?_
   have ⟨V,q,t⟩:=bnd f
   refine Lk [0] [] (gM q) λ⟨⟩=> ?_
   refine Z0 ?_
   cases t
   exact Eg0 [0,0] 0
  refine Z0 ?_
  cases f
  exact Eg0 [0,0] 0
 refine Z1 ?_
 refine Ll λg=> ?_
 refine Lt 0 ?_
 refine Z2 ?_
 have ⟨b,u,v⟩:=bnd p
 refine Tj0 [] [0,5,7,8] [Ch.box g 256 [.int .i64 b.1.e0,.int .i64 b.1.e1,.int .i64 b.1.e2],Ch.box N0 225 [.string b.2.s,.int .i64 b.2.e]] [2] ?_ ?_
 ·refine Yl0 ?_
  refine Tq (η:=Unit) (λa h=>[(24,.int .i64 a.2.2)]) [0,5,7,8,23] (λa h=>[Ch.box g 256 [.int .i64 a.1.e0,.int .i64 a.1.e1,.int .i64 a.1.e2],Ch.box N0 225 [.string a.2.1.s,.int .i64 a.2.1.e]]) [2] (λ_ _=>[]) () [0,0,0] [] u ?_
  rintro k_ a ⟨⟩ W w x y
  refine Y2 ?_
  refine Tb w (λi=> ?_) λi=> ?_
  ·refine Y1 ?_
   have ⟨c,z,A⟩:=bnd i
   refine Tj0 [] [0,5,7,8,23,24] [Ch.box g 256 [.int .i64 c.1.e0,.int .i64 c.1.e1,.int .i64 c.1.e2],Ch.box N0 225 [.string c.2.s,.int .i64 c.2.e]] [2] ?_ ?_
   ·refine Zl ?_
    refine Z1 ?_
    have ⟨X,B,C⟩:=bnd z
    refine Ly (Yl.xa B rfl rfl rfl rfl rfl rfl rfl rfl rfl) ?_
    refine Z1 ?_
    have ⟨Y,F,I⟩:=bnd C
    refine Lk [1] [] (fL F) λ⟨⟩=> ?_
    have ⟨_,m,J⟩:=bnd I
    refine Ly (Yl.xp m rfl rfl rfl rfl rfl rfl rfl) ?_
    refine La [1] [] (Ac.sx m [a.1.e0,a.1.e1,a.1.e2] rfl rfl rfl rfl rfl rfl rfl rfl) λ_=> ?_
    refine Z1 ?_
    have ⟨_,M,N⟩:=bnd J
    refine Ly (Yl.xp M rfl rfl rfl rfl rfl rfl rfl) ?_
    have ⟨Z,O,P⟩:=bnd N
    refine Ly (Yl.xl 0 O rfl rfl rfl rfl rfl rfl) ?_
    refine Z0 ?_
    refine Tb P (λj=> ?_) λj=> ?_
    ·refine Z0 ?_
     have ⟨aa,Q,R⟩:=bnd j
     refine Lk [1] [] (gM Q) λ⟨⟩=> ?_
     refine Z0 ?_
     cases R
     exact Eg0 [1,0,0] 0
    refine Z0 ?_
    cases j
    exact Eg0 [0,0,0] 0
   refine Z0 ?_
   cases A
   exact Eg (_,()) (x _ rfl) [0,0,0] [] 0
  refine Z0 ?_
  cases i
  have hb:=y _ rfl
  subst b
  exact Eg0 [0,0,0] 0
 refine Z2 ?_
 have ⟨ab,S,U⟩:=bnd v
 refine Lk [1] [] (oc S) λ⟨⟩=> ?_
 refine Z0 ?_
 refine Tb U (λk=> ?_) λk=> ?_
 ·refine Z1 ?_
  refine Lt 2 ?_
  refine Z0 ?_
  cases k
  exact Eo () [1] [] (.tmp rfl (.cell 0 rfl rfl rfl (.tmp rfl .nil)))
 refine Y1 ?_
 refine Td [10] [0,0,0] mo ?_
 refine Dq 0 ?_
 refine Dq 1 ?_
 refine Db 2 1 ?_
 refine Dq 3 ?_
 refine Dq 4 ?_
 refine Db 5 1 ?_
 refine Dq 6 ?_
 refine Db 7 1 ?_
 refine Dq 8 ?_
 refine Dq 9 ?_
 refine Dt 2 ?_
 refine Dq 11 ?_
 refine Dn ?_
 refine Z0 ?_
 cases k
 exact Eo () [1] [] (.tmp rfl (.cell 0 rfl rfl rfl (.tmp rfl .nil)))
theorem z9 {in_:aT} {w:Int} {r:aE×aT} (H:lA in_ w=some r):CT G 130 [.pointer (some ⟨N0,0,none⟩),.int .i64 w] [Ch.box N0 225 [.string in_.s,.int .i64 in_.e]] [] (λh:(Option Addr×Nat)=> .agg #[.slice h.1 r.1.cells.length h.2,.bool r.1.wrapped]) (λh=>[Ch.box N0 225 [.string r.2.s,.int .i64 r.2.e]]) (λh=>[Im.sl aQ h.1 h.2 r.1.cells]):=by
 delta lA at H
 refine Cf Go.Proofs.Tryz.func130 λK=> ?_
 refine Z1 ?_
 refine Ll λg1=> ?_
 refine Z1 ?_
 have ⟨r2,h3,H4⟩:=bnd H
 refine Lk [1] [] (fL h3) λ⟨⟩=> ?_
 refine Z2 ?_
 have ⟨x,y,z⟩:=bnd H4
 refine Tj0 [] [0,1,4,5] [Ch.box N0 225 [.string x.s,.int .i64 x.e]] [1] ?_ ?_
 ·refine Tb y (λj=> ?_) λj=> ?_
  ·refine Z0 ?_
   have ⟨al,B,C⟩:=bnd j
   refine Lk [0] [] (gM B) λ⟨⟩=> ?_
   refine Z0 ?_
   cases C
   exact Eg0 [0,0] 0
  refine Z0 ?_
  cases j
  exact Eg0 [0,0] 0
 refine Y2 ?_
 have ⟨d,F,I⟩:=bnd z
 refine Tjh (η:=(Option Addr×Nat)) (λh=>(λg i=>[(6,.slice g d.1.length i)]) h.1 h.2) [0,4,5] (λh=>(λg i=>[Ch.arr aQ 143 g i d.1,Ch.box N0 225 [.string d.2.s,.int .i64 d.2.e]]) h.1 h.2) [1] (λ_=>[]) ?_ ?_
 ·refine Yl0 ?_
  refine T.iS aQ 143 ?_
  refine Tq (η:=(Option Addr×Nat)) (λa h=>(λb c=>[(6,.slice b a.2.length c)]) h.1 h.2) [0,1,4,5] (λa h=>(λb c=>[Ch.arr aQ 143 b c a.2,Ch.box N0 225 [.string a.1.s,.int .i64 a.1.e]]) h.1 h.2) [2] (λ_ _=>[]) (none,0) [0,0,0] [] F ?_
  rintro k_ a ⟨b,c⟩ am J k M
  refine Y2 ?_
  have ⟨N,O,P⟩:=bnd J
  refine Tj0 [(24,.bool N)] [0,1,4,5,6] [] [1,2,0] ?_ ?_
  ·refine Z0 ?_
   refine Lw 20 O (λl=> ?_) λl=> ?_
   ·refine Z0 ?_
    have ⟨an,Q,R⟩:=bnd l
    refine Lk [1] [] (oc Q) λ⟨⟩=> ?_
    refine Z0 ?_
    cases R
    exact Eg0 [0,1,0] 0
   refine Z0 ?_
   cases l
   exact Eg0 [1,1,0] 0
  refine Tb P (λm=> ?_) λm=> ?_
  ·refine Zl ?_
   refine Z1 ?_
   have ⟨S,U,V⟩:=bnd m
   refine Lk [0] [] (Fv U) λ⟨⟩=> ?_
   refine Z0 ?_
   refine Ll λao=> ?_
   refine Z0 ?_
   refine Lt 0 ?_
   refine Zl ?_
   refine Z1 ?_
   refine Tb V (λn=> ?_) λn=> ?_
   ·refine Z0 ?_
    cases n
    exact Eg (_,(b,c)) (k _ rfl) [3,1,1] [] 0
   refine Y1 ?_
   have ⟨W,X,Y⟩:=bnd n
   refine Tj0 [(44,.bool W)] [0,1,4,5,6,7,8] [] [0,1,2,3] ?_ ?_
   ·refine Td [] [0,0,0,0] mo ?_
    refine Dq 0 ?_
    refine Dq 1 ?_
    refine Dq 2 ?_
    refine Dq 3 ?_
    refine D.cs 48 X rfl (λhc o=> ?_) (λhc o=> ?_)
    ·refine Dq 4 ?_
     refine Dq 5 ?_
     refine Dq 6 ?_
     refine Dq 7 ?_
     have ⟨p,q,Z⟩:=bnd o
     refine D.mj 3 rfl (cJ q) λaq aa=> ?_
     subst aa
     refine Dy 8 (Yl.ia q rfl rfl rfl rfl rfl rfl) ?_
     refine Dy 9 (Yl.lo (v:= .agg #[.int .i32 p.rune,.int .i64 p.aM,.int .i64 p.part]) 3 ((IntKind.i64.wrap ((a.2.length:Int) - 1)).toNat) 0 (aU q).2 rfl rfl rfl rfl (λ_=>rfl)) ?_
     refine Db 10 0 ?_
     refine Dq 11 ?_
     refine Dq 12 ?_
     refine Dq 13 ?_
     refine Dn ?_
     cases Z
     exact Eg0 [0,0,0,0] 0
    refine Ds 4 ?_
    refine Ds 5 ?_
    refine Ds 6 ?_
    refine Ds 7 ?_
    refine Ds 8 ?_
    refine Ds 9 ?_
    refine Ds 10 ?_
    refine Ds 11 ?_
    refine Dq 12 ?_
    refine Dq 13 ?_
    refine Dn ?_
    cases o
    exact Eg0 [0,0,0,0] 0
   refine Tb Y (λt=> ?_) λt=> ?_
   ·refine Z0 ?_
    have ⟨ar,ab,ac⟩:=bnd t
    refine Lk [1] [] (gM ab) λ⟨⟩=> ?_
    refine Z0 ?_
    cases ac
    exact Eg (_,(b,c)) (k _ rfl) [3,0,1] [] 0
   refine Z0 ?_
   refine La [] [] (Ac.bs (ty:=aQ) (xs:=[S.2.1]) (.cons () [] rfl .nil) rfl rfl rfl rfl rfl rfl rfl) λau=> ?_
   refine Z0 ?_
   refine L.frz 0 rfl ?_
   have ⟨av,ad,ae⟩:=bnd t
   refine Lk [] [0] (m6 ad) λ⟨aw,ax⟩=> ?_
   refine L.frz 0 rfl ?_
   have ⟨_,af,ag⟩:=bnd ae
   refine La [3] [0] (Ac.ap (ty:=aQ) af rfl rfl rfl rfl rfl rfl rfl) ?_
   rintro ⟨ah,ai⟩
   refine Z0 ?_
   cases ag
   exact Eg (_,(ah,ai)) (k _ rfl) [0,1,1] [] 2
  refine Z0 ?_
  cases m
  have hb:=M _ rfl
  subst d
  exact Eg (b,c) trivial [2,0,0] [] 0
 rintro ⟨g,i⟩
 refine Z2 ?_
 have ⟨ay,aj,ak⟩:=bnd I
 refine Lk [1] [] (oc aj) λ⟨⟩=> ?_
 refine Z0 ?_
 refine Tb ak (λu=> ?_) λu=> ?_
 ·refine Z1 ?_
  refine Lt 2 ?_
  refine Z0 ?_
  refine E.jk [Im.sl aQ none 0 []] (λA w _ _ f hf=>by rw [List.mem_singleton.1 hf]; exact Im.gF A w) ?_
  cases u
  exact Eo (none,0) [1] [0] (.cell 0 rfl rfl rfl .nil)
 refine Z1 ?_
 refine Lt 2 ?_
 refine Z0 ?_
 refine E.frz 2 rfl ?_
 cases u
 exact Eo (g,i) [1] [0] (.cell 0 rfl rfl rfl .nil)
theorem Cd {in_:aT} {r:Int} (H:nH in_=some r):CT G 131 [.pointer (some ⟨N0,0,none⟩)] [Ch.box N0 225 [.string in_.s,.int .i64 in_.e]] [] (λ_:Unit=> .int .i64 r) (λh=>[Ch.box N0 225 [.string in_.s,.int .i64 in_.e]]) (λh=>[]):=by
 delta nH at H
 refine Cf Go.Proofs.Tryz.func131 λK=> ?_
 refine Z3 ?_
 refine Tb H (λH2=> ?_) λH2=> ?_
 ·refine Z1 ?_
  cases H2
  exact Eo1 () [0] []
 refine Z1 ?_
 cases H2
 exact Eo1 () [0] []
theorem Ce {s_:ByteArray} {r:bQ×Int} (H:nL s_=some r):CT G 91 [.string s_] [] [] (λh:(Option Addr×Nat)×Option Nat=> .tuple #[.agg (DT r.1 none 0 h.1.1 h.1.2 h.2).toArray,.int .i64 r.2]) (λh=>[Ch.mp aC true h.2 r.1.rows]) (λh=>[Im.sl aC none 0 r.1.to.rows,Im.sl aD h.1.1 h.1.2 r.1.to.begun]):=by
 delta nL at H
 refine Cf Go.Proofs.Tryz.func91 λK=> ?_
 refine Z1 ?_
 refine Ll λg1=> ?_
 refine Z1 ?_
 have ⟨r2,h3,H4⟩:=bnd H
 refine Lk [] [] (KU h3) λg5=> ?_
 refine Z1 ?_
 have ⟨r6,h7,H8⟩:=bnd H4
 refine Lk [0] [] (fL h7) λ⟨⟩=> ?_
 refine La [] [] (Ac.mkm (ty:=aC) (ag:=true) rfl rfl rfl) λg9=> ?_
 refine Z0 ?_
 refine Ll λn=> ?_
 refine Lt 0 ?_
 refine Z1 ?_
 have ⟨a1,p,q⟩:=bnd H8
 refine Lk [2] [] (fL p) λ⟨⟩=> ?_
 refine Z0 ?_
 have ⟨a2,t,u⟩:=bnd q
 refine Lk [0] [] (wM t) λ⟨⟩=> ?_
 refine Z0 ?_
 have ⟨a3,v,x⟩:=bnd u
 refine Lk [0] [] (wM v) λ⟨⟩=> ?_
 refine Z0 ?_
 have ⟨a4,y,z⟩:=bnd x
 refine Lk [0] [] (fL y) λ⟨⟩=> ?_
 refine Z0 ?_
 have ⟨a5,B,C⟩:=bnd z
 refine Lk [0] [] (fL B) λ⟨⟩=> ?_
 refine Z0 ?_
 have ⟨a6,F,I⟩:=bnd C
 refine Lk [0] [] (Al F) λ⟨⟩=> ?_
 refine Z0 ?_
 have ⟨a7,J,M⟩:=bnd I
 refine Lk [0] [] (fL J) λ⟨⟩=> ?_
 refine Z0 ?_
 have ⟨a8,N,O⟩:=bnd M
 refine Lk [0] [] (fL N) λ⟨⟩=> ?_
 refine Z0 ?_
 have ⟨a9,P,Q⟩:=bnd O
 refine Lk [0] [] (DZ P) λ⟨d,g⟩=> ?_
 refine Z0 ?_
 refine Lt 2 ?_
 refine Z3 ?_
 have ⟨ba,R,S⟩:=bnd Q
 refine Lk [2] [] (fL R) λ⟨⟩=> ?_
 refine Z0 ?_
 have ⟨b,U,V⟩:=bnd S
 refine Tjh (η:=Option Nat) (λ_=>[]) [2,4,5] (λh=>(λi=>[Ch.arr aD 112 d g b.2.to.begun,Ch.mp aC true i b.2.rows,Ch.box g5 225 [.string b.1.s,.int .i64 b.1.e],Ch.box n 164 (GO b.2 d g i)]) h) [4] (λ_=>[]) ?_ ?_
 ·refine Yl0 ?_
  refine Tq (η:=Option Nat) (λa h=>(λc=>[(6,.int .i64 a.2.2.1),(7,.int .i64 a.2.2.2)]) h) [2,4,5] (λa h=>(λc=>[Ch.arr aD 112 d g a.1.to.begun,Ch.mp aC true c a.1.rows,Ch.box g5 225 [.string a.2.1.s,.int .i64 a.2.1.e],Ch.box n 164 (GO a.1 d g c)]) h) [4] (λ_ _=>[]) (some g9) [2,2,0,0,0] [] U ?_
  rintro k_ a c bb W X Y
  refine Y2 ?_
  have ⟨Z,aa,ac⟩:=bnd W
  refine Tj0 [(43,.bool Z)] [2,4,5,6,7] [] [2,3,4,0,1] ?_ ?_
  ·refine Z0 ?_
   refine Lw 39 aa (λj=> ?_) λj=> ?_
   ·refine Z0 ?_
    have ⟨bc,ad,ae⟩:=bnd j
    refine Lk [2] [] (oc ad) λ⟨⟩=> ?_
    refine Z0 ?_
    cases ae
    exact Eg0 [0,2,2,0,0] 0
   refine Z0 ?_
   cases j
   exact Eg0 [2,2,2,0,0] 0
  refine Tb ac (λk=> ?_) λk=> ?_
  ·refine Z1 ?_
   refine Zl ?_
   refine Z1 ?_
   have ⟨af,ah,ai⟩:=bnd k
   refine Lk [0] [] (fL ah) λ⟨⟩=> ?_
   refine Y2 ?_
   have ⟨aj,ak,al⟩:=bnd ai
   refine Tj0 [(57,.bool aj)] [2,4,5,7,8] [] [0,1,2,3,4] ?_ ?_
   ·refine Z0 ?_
    refine Lw 51 ak (λl=> ?_) λl=> ?_
    ·refine Z0 ?_
     cases l
     exact Eg0 [0,0,0,0,0] 0
    refine Z0 ?_
    cases l
    exact Eg0 [0,0,0,0,0] 0
   have ⟨o,am,an⟩:=bnd al
   refine Tj0 [] [2,4,5,7,8] [Ch.box g5 225 [.string o.s,.int .i64 o.e]] [1,2,3,4] ?_ ?_
   ·refine Tb am (λm=> ?_) λm=> ?_
    ·refine Z0 ?_
     have ⟨bd,ao,ap⟩:=bnd m
     refine Lk [0] [] (gM ao) λ⟨⟩=> ?_
     refine Z0 ?_
     cases ap
     exact Eg0 [0,0,0,0,0] 0
    refine Z0 ?_
    cases m
    exact Eg0 [0,0,0,0,0] 0
   refine Z1 ?_
   refine Td [] [1,1,1] mo ?_
   refine Dq 0 ?_
   refine Db 1 0 ?_
   refine Dq 2 ?_
   refine Dq 3 ?_
   refine Dq 4 ?_
   refine Dq 5 ?_
   refine Db 6 0 ?_
   have ⟨aq,ar,au⟩:=bnd an
   refine Dk [0] [] (z9 ar) λ⟨av,aw⟩=> ?_
   have ⟨_,ax,ay⟩:=bnd au
   refine Da [1] [0] rfl rfl (Ac.mu (ty:=aC) (ag:=true) af.1 aq.1 (av,aw) ax (.inl rfl) rfl rfl rfl rfl rfl rfl rfl rfl) λ_=> ?_
   refine Dn ?_
   refine Z0 ?_
   cases ay
   exact Eg (_,c) (X _ rfl) [2,2,2,0,0] [] 1
  refine Z0 ?_
  cases k
  have hb:=Y _ rfl
  subst b
  exact Eg c trivial [3,3,0,0,0] [] 0
 rintro i
 refine Y1 ?_
 refine Td [3] [0,0,0,0,0] mo ?_
 refine Db 0 3 ?_
 refine Dq 1 ?_
 have ⟨be,az,a0⟩:=bnd V
 refine D.one rfl rfl rfl (Dp.ab [2] [] [1,1,0,0,0] (Ac.call (Cd az) rfl rfl rfl rfl) rfl rfl rfl rfl rfl rfl (λ_=>rfl) ?_)
 rintro ⟨⟩
 refine Dt 4 ?_
 refine Dq 4 ?_
 refine Dn ?_
 refine Z0 ?_
 refine E.jk [Im.sl aC none 0 []] (λA w _ _ f hf=>by rw [List.mem_singleton.1 hf]; exact Im.gF A w) ?_
 refine E.frz 1 rfl ?_
 cases a0
 exact Eo ((d,g),i) [1] [1,0] (.cell 0 rfl rfl rfl (.tmp rfl .nil))
theorem uF {p:bQ} {a:aH} {r:Bool×bQ} (H:fW p a=some r):CT G 93 [.pointer (some ⟨N0,0,none⟩),.agg (k8 a A2 C2 A3 C3).toArray] [Ch.box N0 164 (DT p A0 C0 A1 C1 M0),Ch.arr aC 107 A0 C0 p.to.rows,Ch.mp aC true M0 p.rows] [Im.sl aD A1 C1 p.to.begun,Im.sl aC A2 C2 a.rows,Im.sl aD A3 C3 a.begun] (λh:(Option Addr×Nat)=> .bool r.1) (λh=>[Ch.box N0 164 (DT r.2 h.1 h.2 A1 C1 M0),Ch.mp aC true M0 r.2.rows]) (λh=>[Im.sl aC h.1 h.2 r.2.to.rows,Im.sl aD A1 C1 r.2.to.begun]):=by
 delta fW at H
 refine Cf Go.Proofs.Tryz.func93 λK=> ?_
 refine Z1 ?_
 refine Lx λg1=> ?_
 refine Z2 ?_
 have ⟨m,C,y⟩:=bnd H
 refine Tj (η:=bQ×((Option Addr×Nat))) (λh=>m = .inl h.1) (λ_=>[]) [0] (λh=>(λe=>(λi j=>[Ch.arr aC 107 i j e.to.rows,Ch.mp aC true M0 e.rows,Ch.box N0 164 (DT e i j A1 C1 M0)]) h.2.1 h.2.2) h.1) [0] (λh=>(λe=>(λi j=>[Im.sl aD A1 C1 e.to.begun]) h.2.1 h.2.2) h.1) ?_ ?_
 ·refine Yl0 ?_
  refine Tq (η:=(Option Addr×Nat)) (λb h=>(λc d=>[(15,.int .i64 b.2)]) h.1 h.2) [0,3,14] (λb h=>(λc d=>[Ch.arr aC 107 c d b.1.to.rows,Ch.mp aC true M0 b.1.rows,Ch.box N0 164 (DT b.1 c d A1 C1 M0)]) h.1 h.2) [0] (λb h=>(λc d=>[Im.sl aD A1 C1 b.1.to.begun]) h.1 h.2) (A0,C0) [2,2,1,0] [0] C ?_
  rintro k_ b ⟨c,d⟩ F I J z
  refine Y2 ?_
  refine Tb I (λn=> ?_) λn=> ?_
  ·refine Z1 ?_
   refine Zl ?_
   refine Z2 ?_
   have ⟨ak,M,N⟩:=bnd n
   refine Lk [] [2,3] (uS M) λ⟨O,P⟩=> ?_
   refine Z0 ?_
   refine Ll λal=> ?_
   refine Lt 0 ?_
   refine Z1 ?_
   refine La [2] [] (Ac.ml (ty:=aC) (ag:=true) (vv:=(λh:(Option Addr×Nat)=>(λo q=> .agg #[.slice o ((mgd b.1.rows b.2 (aE.mk ([]:List aG) false)).cells).length q,.bool ((mgd b.1.rows b.2 (aE.mk ([]:List aG) false)).wrapped)]) h.1 h.2)) b.2 (aE.mk ([]:List aG) false) (none,0) rfl rfl rfl rfl rfl rfl rfl rfl rfl (λ_ _ f hf=>by rw [List.mem_singleton.1 hf]; exact Im.gF _ _) Nn (λ_=>rfl)) ?_
   rintro ⟨o,q⟩
   refine Z0 ?_
   refine Ll λQ=> ?_
   refine Lt 0 ?_
   refine Y1 ?_
   have ⟨A,R,B⟩:=bnd N
   refine Tj (η:=aE×((Option Addr×Nat))) (λh=>A = .inl h.1) (λ_=>[]) [0,3,8,14,15] (λh=>(λg=>(λk l=>[Ch.box Q 107 [.slice k g.cells.length l,.bool g.wrapped]]) h.2.1 h.2.2) h.1) [2,4,5,1,3] (λh=>(λg=>(λk l=>[Im.sl aQ k l g.cells]) h.2.1 h.2.2) h.1) ?_ ?_
   ·refine Zl ?_
    refine Y2 ?_
    have ⟨S,U,V⟩:=bnd R
    refine Tj0 [(33,.bool S)] [0,3,6,7,8,9,14,15] [] [0,2,4,5,1,3] ?_ ?_
    ·refine Z0 ?_
     refine Lw 35 U (λs=> ?_) λs=> ?_
     ·refine Z0 ?_
      refine Lw 38 s (λt=> ?_) λt=> ?_
      ·refine Z0 ?_
       have ⟨am,W,X⟩:=bnd t
       refine Lk [] [1,0] (pU W) λ⟨⟩=> ?_
       refine Z0 ?_
       cases X
       exact Eg0 [0,1,2,2,0,0] 0
      refine Z0 ?_
      cases t
      exact Eg0 [0,1,2,2,0,0] 0
     refine Z0 ?_
     cases s
     exact Eg0 [0,1,2,2,0,0] 0
    have ⟨Y,Z,aa⟩:=bnd V
    refine Tj0 [(33,.bool Y)] [0,3,6,8,9,14,15] [] [0,1,2,3,4,5] ?_ ?_
    ·refine Tb Z (λu=> ?_) λu=> ?_
     ·refine Z0 ?_
      cases u
      exact Eg0 [0,0,0,0,0,0] 0
     refine Z0 ?_
     refine Lw 45 u (λv=> ?_) λv=> ?_
     ·refine Z0 ?_
      cases v
      exact Eg0 [0,0,0,0,0,0] 0
     refine Z0 ?_
     cases v
     exact Eg0 [0,0,0,0,0,0] 0
    refine Tb aa (λw=> ?_) λw=> ?_
    ·refine Z1 ?_
     obtain ⟨an,hz,ab⟩:=eC w
     subst A
     obtain rfl:=(sm B).symm
     refine Z0 ?_
     obtain ⟨ao,hz,ac⟩:=fH ab
     subst F
     have hb:=z _ rfl
     subst m
     obtain rfl:=(sm y).symm
     refine Z0 ?_
     refine E.frz 5 rfl ?_
     cases ac
     exact Eo1 (c,d) [2,3] [0,3]
    refine Z1 ?_
    refine Tb w (λx=> ?_) λx=> ?_
    ·refine Z0 ?_
     refine Lt 0 ?_
     refine Z0 ?_
     cases x
     exact Eg (_,(O,P)) rfl [0,0,0,0,0,0] [1] 0
    refine Z0 ?_
    cases x
    exact Eg (_,(o,q)) rfl [0,0,0,0,0,0] [0] 0
   rintro ⟨g,⟨k,l⟩⟩ hy
   subst hy
   refine Td [12] [0,0,0,0,0] mo ?_
   refine Dq 0 ?_
   refine Dq 1 ?_
   refine Dq 2 ?_
   refine Dq 3 ?_
   refine Dq 4 ?_
   refine Db 5 2 ?_
   refine Db 6 0 ?_
   refine Da [] [0] rfl rfl (Ac.bs (ty:=aC) (xs:=[g]) (.cons (k,l) [0] rfl .nil) rfl rfl rfl rfl rfl rfl rfl) λaq=> ?_
   refine D.frz 0 rfl ?_
   have ⟨_,ad,ae⟩:=bnd B
   refine Da [0] [0] rfl rfl (Ac.ap (ty:=aC) ad rfl rfl rfl rfl rfl rfl rfl) ?_
   rintro ⟨af,ah⟩
   refine Dq 9 ?_
   refine Dq 10 ?_
   refine Dq 11 ?_
   refine Dt 2 ?_
   refine Dn ?_
   refine Z0 ?_
   cases ae
   exact Eg (_,(af,ah)) (J _ rfl) [5,4,0,2] [4] 5
  refine Z0 ?_
  cases n
  have hb:=z _ rfl
  subst m
  exact Eg (_,(c,d)) rfl [0,0,0,0] [0] 1
 rintro ⟨e,⟨i,j⟩⟩ hy
 subst hy
 refine Z1 ?_
 refine L.frz 0 rfl ?_
 have ⟨ar,ai,aj⟩:=bnd y
 refine Lk [] [0,1] (ya ai) λ⟨⟩=> ?_
 refine Z0 ?_
 cases aj
 exact Eo1 (i,j) [1,0] [0,1]
theorem Am {a:aH} {s_:ByteArray} {r:aH×Int} (H:mb a s_=some r):CT G 42 [.agg (k8 a A0 C0 A1 C1).toArray,.string s_] [] [Im.sl aC A0 C0 a.rows,Im.sl aD A1 C1 a.begun,Im.sl (Ty.int .u32) (some ⟨2,0,none⟩) 16 dA] (λh:(Option Addr×Nat)×(Option Addr×Nat)=> .tuple #[.agg (k8 r.1 h.1.1 h.1.2 h.2.1 h.2.2).toArray,.int .i64 r.2]) (λh=>[]) (λh=>[Im.sl aC h.1.1 h.1.2 r.1.rows,Im.sl aD h.2.1 h.2.2 r.1.begun]):=by
 delta mb at H
 refine Cf Go.Proofs.Tryz.func42 λK=> ?_
 refine Z1 ?_
 refine Lx λg1=> ?_
 refine Ll λg2=> ?_
 refine Z2 ?_
 have ⟨r3,h4,H5⟩:=bnd H
 refine Lk [] [0,1] (mv h4) λ⟨⟩=> ?_
 refine Z0 ?_
 refine Tb H5 (λH7=> ?_) λH7=> ?_
 ·refine Z1 ?_
  refine Lt 0 ?_
  refine Z0 ?_
  refine E.jk [Im.sl aC none 0 []] (λA w _ _ f hf=>by rw [List.mem_singleton.1 hf]; exact Im.gF A w) ?_
  refine E.jk [Im.sl aD none 0 []] (λA w _ _ f hf=>by rw [List.mem_singleton.1 hf]; exact Im.gF A w) ?_
  cases H7
  exact Eo ((none,0),(none,0)) [] [1,0] (.cell 0 rfl rfl rfl (.tmp rfl .nil))
 refine Z1 ?_
 have ⟨t,e,g⟩:=bnd H7
 refine Lk [] [] (Ce e) λ⟨⟨u,v⟩,x⟩=> ?_
 refine Z0 ?_
 refine Ll λy=> ?_
 refine Lt 0 ?_
 refine Z1 ?_
 refine Zl ?_
 refine Z1 ?_
 refine Tb g (λb=> ?_) λb=> ?_
 ·refine Z1 ?_
  refine Lt 2 ?_
  refine Z0 ?_
  refine E.jk [Im.sl aC none 0 []] (λA w _ _ f hf=>by rw [List.mem_singleton.1 hf]; exact Im.gF A w) ?_
  refine E.jk [Im.sl aD none 0 []] (λA w _ _ f hf=>by rw [List.mem_singleton.1 hf]; exact Im.gF A w) ?_
  cases b
  exact Eo ((none,0),(none,0)) [] [1,0] (.cell 0 rfl rfl rfl (.tmp rfl .nil))
 refine Y1 ?_
 refine Td [] [0,0,0,0] mo ?_
 refine Dq 0 ?_
 refine Db 1 0 ?_
 refine Db 2 3 ?_
 have ⟨z,i,j⟩:=bnd b
 refine Dk [] [2,3,4] (sD i) λ⟨⟩=> ?_
 refine Dq 4 ?_
 refine Dq 5 ?_
 refine Dn ?_
 refine Z0 ?_
 refine Tb j (λc=> ?_) λc=> ?_
 ·refine Z1 ?_
  refine Lt 2 ?_
  refine Z0 ?_
  refine E.jk [Im.sl aC none 0 []] (λA w _ _ f hf=>by rw [List.mem_singleton.1 hf]; exact Im.gF A w) ?_
  refine E.jk [Im.sl aD none 0 []] (λA w _ _ f hf=>by rw [List.mem_singleton.1 hf]; exact Im.gF A w) ?_
  cases c
  exact Eo ((none,0),(none,0)) [] [1,0] (.cell 0 rfl rfl rfl (.tmp rfl .nil))
 refine Z1 ?_
 refine L.Oh 0 107 rfl ?_
 have ⟨B,k,l⟩:=bnd c
 refine Lk [1,0,0] [1,2,3] (uF k) λ⟨C,F⟩=> ?_
 refine Z0 ?_
 refine Tb l (λd=> ?_) λd=> ?_
 ·refine Z1 ?_
  refine Lt 2 ?_
  refine Z0 ?_
  refine E.jk [Im.sl aC none 0 []] (λA w _ _ f hf=>by rw [List.mem_singleton.1 hf]; exact Im.gF A w) ?_
  refine E.jk [Im.sl aD none 0 []] (λA w _ _ f hf=>by rw [List.mem_singleton.1 hf]; exact Im.gF A w) ?_
  cases d
  exact Eo ((none,0),(none,0)) [] [1,0] (.cell 0 rfl rfl rfl (.tmp rfl .nil))
 refine Z1 ?_
 have ⟨I,m,n⟩:=bnd d
 refine Lk [] [0,1] (oa m) λ⟨⟨o,p⟩,⟨q,s⟩⟩=> ?_
 refine Lt 2 ?_
 refine Z0 ?_
 cases n
 exact Eo ((o,p),(q,s)) [] [0,1] (.cell 0 rfl rfl rfl (.tmp rfl .nil))
theorem pX {t_:bA} {g:dN} {r:Int×bA} (H:cT t_ g=some r):CT G 15 [.pointer (some ⟨N0,0,none⟩),.agg (HU g A2 C2).toArray] [Ch.box N0 65 (sH t_ N1 A0 C0 A1 C1),Ch.box N1 86 (lD t_.slot M0),Ch.mp Ty.str false M0 t_.slot.parts] [Im.sl aC A0 C0 t_.bR.rows,Im.sl aD A1 C1 t_.bR.begun,Im.sl (Ty.int .i64) A2 C2 g.bJ,Im.sl (Ty.int .u32) (some ⟨2,0,none⟩) 16 dA] (λh:Option Nat×(Option Addr×Nat)×(Option Addr×Nat)=> .int .i64 r.1) (λh=>[Ch.box N0 65 (sH r.2 N1 h.2.1.1 h.2.1.2 h.2.2.1 h.2.2.2),Ch.box N1 86 (lD r.2.slot h.1),Ch.mp Ty.str false h.1 r.2.slot.parts]) (λh=>[Im.sl aC h.2.1.1 h.2.1.2 r.2.bR.rows,Im.sl aD h.2.2.1 h.2.2.2 r.2.bR.begun]):=by
 delta cT at H
 refine Cf Go.Proofs.Tryz.func15 λK=> ?_
 refine Z1 ?_
 refine Lx λg1=> ?_
 refine Z2 ?_
 have ⟨r2,h3,H4⟩:=bnd H
 refine Lk [1,1,1] [0,1,2] (uD h3) λv5=> ?_
 refine Z1 ?_
 refine Tb H4 (λl=> ?_) λl=> ?_
 ·refine Z1 ?_
  cases l
  exact Eo1 (v5,(A0,C0),(A1,C1)) [0,0,0] [0,1]
 refine Z1 ?_
 have ⟨ae,x,y⟩:=bnd l
 refine Lk [1,1] [] (vp x) λ⟨⟩=> ?_
 refine Z2 ?_
 refine Tb y (λm=> ?_) λm=> ?_
 ·refine Z1 ?_
  cases m
  exact Eo1 (v5,(A0,C0),(A1,C1)) [2,0,0] [0,1]
 refine Z1 ?_
 have ⟨af,z,B⟩:=bnd m
 refine Lk [0,0] [] (uE z) λC=> ?_
 refine Z1 ?_
 refine Ll λF=> ?_
 refine Z2 ?_
 have ⟨ag,n,I⟩:=bnd B
 refine L.addr 4 rfl (cJ n) λah ai J=> ?_
 subst J
 refine Ly (Yl.ia n rfl rfl rfl rfl rfl rfl) ?_
 refine L.el 4 rfl (aU n).2 ?_
 rintro _
 refine Lc 0 0 ?_
 refine Z0 ?_
 have ⟨o,M,N⟩:=bnd I
 refine Tjh (η:=(Option Addr×Nat)×(Option Addr×Nat)) (λ_=>[]) [0,3,6,8] (λh=>(λe i j k=>[Ch.box F 42 (k8 o e i j k)]) h.1.1 h.1.2 h.2.1 h.2.2) [1,3,4,2] (λh=>(λe i j k=>[Im.sl aC e i o.rows,Im.sl aD j k o.begun]) h.1.1 h.1.2 h.2.1 h.2.2) ?_ ?_
 ·refine Tb M (λp=> ?_) λp=> ?_
  ·refine Z0 ?_
   refine Lt 0 ?_
   refine Z0 ?_
   cases p
   exact Eg ((A0,C0),(A1,C1)) trivial [0,0,1,1,0] [1,2] 0
  refine Z0 ?_
  refine E.jk [Im.sl aC none 0 []] (λA w _ _ f hf=>by rw [List.mem_singleton.1 hf]; exact Im.gF A w) ?_
  refine E.jk [Im.sl aD none 0 []] (λA w _ _ f hf=>by rw [List.mem_singleton.1 hf]; exact Im.gF A w) ?_
  cases p
  exact Eg ((none,0),(none,0)) trivial [0,0,1,1,0] [1,0] 2
 rintro ⟨⟨e,i⟩,⟨j,k⟩⟩
 refine Z1 ?_
 have ⟨aj,O,P⟩:=bnd N
 refine Lk [] [0,1,8] (Am O) λ⟨⟨Q,R⟩,⟨S,U⟩⟩=> ?_
 refine Z0 ?_
 refine Ll λak=> ?_
 refine Lt 0 ?_
 refine Y2 ?_
 have ⟨V,W,X⟩:=bnd P
 refine Tj0 [(57,.bool V)] [0,9,10] [] [0,1,2,3,4,5] ?_ ?_
 ·refine Td [] [0,0,0,0,0,0] mo ?_
  refine Dq 0 ?_
  refine Dq 1 ?_
  refine Dq 2 ?_
  refine D.cs 49 W rfl (λhc q=> ?_) (λhc q=> ?_)
  ·refine Dq 3 ?_
   refine Db 4 0 ?_
   refine Dq 5 ?_
   refine Db 6 4 ?_
   have ⟨al,v,Y⟩:=bnd q
   refine Dy 7 (Yl.ia v rfl rfl rfl rfl rfl rfl) ?_
   refine D.el 9 rfl (aU v).2 ?_
   rintro _
   refine Dy 8 (Yl.ldc 0 0 rfl rfl rfl rfl) ?_
   refine Dq 9 ?_
   refine Dq 10 ?_
   refine Dn ?_
   cases Y
   exact Eg0 [0,0,0,0,0,0] 1
  refine Ds 3 ?_
  refine Ds 4 ?_
  refine Ds 5 ?_
  refine Ds 6 ?_
  refine Ds 7 ?_
  refine Ds 8 ?_
  refine Ds 9 ?_
  refine Dq 10 ?_
  refine Dn ?_
  cases q
  exact Eg0 [0,0,0,0,0,0] 0
 have ⟨Z,aa,ab⟩:=bnd X
 refine Tj0 [(10,.int .i64 Z)] [0,9] [] [0,1,2,3,4,5] ?_ ?_
 ·refine Tb aa (λs=> ?_) λs=> ?_
  ·refine Z0 ?_
   cases s
   exact Eg0 [0,0,0,0,0,0] 0
  refine Z0 ?_
  cases s
  exact Eg0 [0,0,0,0,0,0] 0
 refine Z2 ?_
 have ⟨t,ac,ad⟩:=bnd ab
 refine Tjh (η:=(Option Addr×Nat)×(Option Addr×Nat)) (λ_=>[]) [10] (λh=>(λa b c d=>[Ch.box N0 65 (sH t N1 a b c d)]) h.1.1 h.1.2 h.2.1 h.2.2) [0,1,2,4,5] (λh=>(λa b c d=>[Im.sl aC a b t.bR.rows,Im.sl aD c d t.bR.begun]) h.1.1 h.1.2 h.2.1 h.2.2) ?_ ?_
 ·refine Tb ac (λu=> ?_) λu=> ?_
  ·refine Z0 ?_
   refine Lt 3 ?_
   refine Z0 ?_
   cases u
   exact Eg ((Q,R),(S,U)) trivial [0,0,0,0,0,0] [0,1] 0
  refine Z0 ?_
  cases u
  exact Eg ((A0,C0),(A1,C1)) trivial [3,0,0,0,0,0] [5,6] 0
 rintro ⟨⟨a,b⟩,⟨c,d⟩⟩
 refine Z1 ?_
 cases ad
 exact Eo1 (C,(a,b),(c,d)) [0,2,3] [0,1]
theorem vq {s_:cQ} {r:Int} (H:kq s_=some r):CT G 43 [.pointer (some ⟨N0,0,none⟩)] [Ch.box N0 86 (lD s_ M0),Ch.mp Ty.str false M0 s_.parts] [] (λ_:Unit=> .int .i64 r) (λh=>[Ch.box N0 86 (lD s_ M0),Ch.mp Ty.str false M0 s_.parts]) (λh=>[]):=by
 delta kq at H
 refine Cf Go.Proofs.Tryz.func43 λK=> ?_
 refine Z2 ?_
 cases H
 exact Eo1 () [0,0] []
theorem vr {s_:cQ} {there:Bool} {r:(List Int)} (H:kr s_ there=some r):CT G 54 [.pointer (some ⟨N0,0,none⟩),.bool there] [Ch.box N0 86 (lD s_ M0),Ch.mp Ty.str false M0 s_.parts] [] (λh:(Option Addr×Nat)=> .slice h.1 r.length h.2) (λh=>[Ch.arr (Ty.int .i64) 3 h.1 h.2 r,Ch.box N0 86 (lD s_ M0),Ch.mp Ty.str false M0 s_.parts]) (λh=>[]):=by
 delta kr at H
 refine Cf Go.Proofs.Tryz.func54 λK=> ?_
 refine T.yS ?_
 refine Z1 ?_
 refine Lx λg1=> ?_
 refine Z1 ?_
 refine Ll λg2=> ?_
 refine Z2 ?_
 refine Yl0 ?_
 refine T.iS (Ty.int .i64) 3 ?_
 have ⟨f,g,i⟩:=bnd H
 refine T.rf3 (σ:=(List Int)) (η:=(Option Addr×Nat)) (X:=Int×Bool) (θ:=Unit) (τ:=(Option Addr×Nat)) (s1:=f) (hx:=λx=>x) (λx t=>[.int .i64 x.1,.bool x.2]) (λx t=>[]) (λ_=>none) [Ch.box N0 86 (lD s_ M0),Ch.mp Ty.str false M0 s_.parts] (λc h=>(λa b=>[Ch.arr (Ty.int .i64) 3 a b c,Ch.box g2 23 [.slice a c.length b],Ch.box g1 4 [.bool there]]) h.1 h.2) (λc h=>(λa b=>[]) h.1 h.2) 3 [0,0,0,0,0] [] [] rfl rfl (λ_ _=>rfl) rfl (λyl C hY=>(qp N0 M0 hY (none,0) g:_)) (λ_ _ _ _=>rfl) rfl rfl rfl rfl rfl ?_ rfl ?_
 ·rintro yl K2 c ⟨a,b⟩ x3 ⟨⟩ o j
  refine Z1 ?_
  refine E.begin λK3=> ?_
  refine Zl ?_
  refine Z1 ?_
  refine Tb j (λd=> ?_) λd=> ?_
  ·refine Z0 ?_
   refine La [] [] (Ac.bs (ty:=(Ty.int .i64)) (xs:=[x3.1]) (.cons () [] rfl .nil) rfl rfl rfl rfl rfl rfl rfl) λp=> ?_
   refine L.frz 0 rfl ?_
   have ⟨_,k,l⟩:=bnd d
   refine La [0] [0] (Ac.ap (ty:=(Ty.int .i64)) k rfl rfl rfl rfl rfl rfl rfl) ?_
   rintro ⟨m,n⟩
   refine Lt 1 ?_
   refine Z0 ?_
   cases l
   exact E.on (m,n) [1,0,0,0,0] [] rfl rfl rfl rfl
  refine Z0 ?_
  cases d
  exact E.on (a,b) [0,0,0,0,0] [] rfl rfl rfl rfl
 rintro e q
 refine Z1 ?_
 cases i
 exact E.vu (e.1,e.2) 0 [0,2,2] [] rfl (.tmp rfl .nil) rfl rfl rfl
theorem wN {s_:cQ} {r:(List Int)} (H:iM s_=some r):CT G 44 [.pointer (some ⟨N0,0,none⟩)] [Ch.box N0 86 (lD s_ M0),Ch.mp Ty.str false M0 s_.parts] [] (λh:(Option Addr×Nat)=> .slice h.1 r.length h.2) (λh=>[Ch.arr (Ty.int .i64) 3 h.1 h.2 r,Ch.box N0 86 (lD s_ M0),Ch.mp Ty.str false M0 s_.parts]) (λh=>[]):=by
 delta iM at H
 refine Cf Go.Proofs.Tryz.func44 λK=> ?_
 refine Z2 ?_
 have ⟨r1,h2,H3⟩:=bnd H
 refine Lk [0,0] [] (vr h2) λ⟨a4,c5⟩=> ?_
 refine Z0 ?_
 cases H3
 exact Eo1 (a4,c5) [0,0,0] []
theorem xF {s_:cQ} {r:Int} (H:ov s_=some r):CT G 45 [.pointer (some ⟨N0,0,none⟩)] [Ch.box N0 86 (lD s_ M0),Ch.mp Ty.str false M0 s_.parts] [] (λ_:Unit=> .int .i64 r) (λh=>[Ch.box N0 86 (lD s_ M0),Ch.mp Ty.str false M0 s_.parts]) (λh=>[]):=by
 delta ov at H
 refine Cf Go.Proofs.Tryz.func45 λK=> ?_
 refine Z2 ?_
 cases H
 exact Eo1 () [0,0] []
theorem qq {t_:bA} {r:dN} (H:eZ t_=some r):CT G 16 [.pointer (some ⟨N0,0,none⟩)] [Ch.box N0 65 (sH t_ N1 A0 C0 A1 C1),Ch.box N1 86 (lD t_.slot M0),Ch.mp Ty.str false M0 t_.slot.parts] [Im.sl aC A0 C0 t_.bR.rows,Im.sl aD A1 C1 t_.bR.begun] (λh:(Option Addr×Nat)=> .agg (HU r h.1 h.2).toArray) (λh=>[Ch.box N0 65 (sH t_ N1 A0 C0 A1 C1),Ch.box N1 86 (lD t_.slot M0),Ch.mp Ty.str false M0 t_.slot.parts]) (λh=>[Im.sl (Ty.int .i64) h.1 h.2 r.bJ]):=by
 delta eZ at H
 refine Cf Go.Proofs.Tryz.func16 λK=> ?_
 refine Z1 ?_
 refine Ll λg1=> ?_
 refine Z1 ?_
 have ⟨r2,h3,H4⟩:=bnd H
 refine Lk [2,2] [] (vq h3) λ⟨⟩=> ?_
 refine Z0 ?_
 have ⟨_,h5,H6⟩:=bnd H4
 refine La [] [] (Ac.mk (ty:=(Ty.int .u8)) 0 () h5 (λ_ _ f hf=>by cases hf) rfl rfl rfl rfl rfl rfl rfl) λg7=> ?_
 refine Z2 ?_
 have ⟨r9,s,t⟩:=bnd H6
 refine Lk [1,1] [] (wN s) λ⟨U,V⟩=> ?_
 refine Z0 ?_
 have ⟨j,u,w⟩:=bnd t
 refine Tjh (η:=(Option Addr×Nat)) (λh=>(λg i=>[(3,.slice g j.length i)]) h.1 h.2) [0,2] (λh=>(λg i=>[Ch.arr (Ty.int .u8) 5 g i j]) h.1 h.2) [1,4,5,2] (λ_=>[]) ?_ ?_
 ·refine Yl0 ?_
  refine Tq (η:=(Option Addr×Nat)) (λb h=>(λd c=>[(3,.slice d b.2.length c),(21,.int .i64 b.1)]) h.1 h.2) [0,2,19,20] (λb h=>(λd c=>[Ch.arr (Ty.int .u8) 5 d c b.2]) h.1 h.2) [1,4,5,0,2] (λ_ _=>[]) ((some ⟨g7,0,none⟩),(IntKind.i64.wrap ((IntKind.i64.wrap ((IntKind.i64.wrap (r2+8)) - 1)).tdiv 8)).toNat) [3,1,2,2,0,0] [] u ?_
  rintro k_ b ⟨d,c⟩ W x z A
  refine Y2 ?_
  refine Tb x (λl=> ?_) λl=> ?_
  ·refine Z1 ?_
   refine Zl ?_
   refine Z1 ?_
   have ⟨e,m,B⟩:=bnd l
   refine L.mj 4 rfl (cJ m) λX C=> ?_
   subst C
   refine Ly (Yl.ia m rfl rfl rfl rfl rfl rfl) ?_
   refine Ly (Yl.lo (v:= .int .i64 e) 4 b.1.toNat 0 (aU m).2 rfl rfl rfl rfl (λ_=>rfl)) ?_
   refine Z0 ?_
   refine Td [10] [0,0,0,0,0,0] mo ?_
   refine Dq 0 ?_
   refine Dq 1 ?_
   refine Dq 2 ?_
   have ⟨n,o,F⟩:=bnd B
   refine D.mj 0 rfl (cJ o) λI J=> ?_
   subst J
   refine Dy 3 (Yl.ia o rfl rfl rfl rfl rfl rfl) ?_
   refine Dy 4 (Yl.lo (v:= .int .u8 n) 0 ((IntKind.i64.wrap (e.tdiv 8)).toNat) 0 (aU o).2 rfl rfl rfl rfl (λ_=>rfl)) ?_
   refine Dq 5 ?_
   refine Dq 6 ?_
   have ⟨_,M,N⟩:=bnd F
   refine Dy 7 (Yl.shl (nb:=8) rfl M rfl rfl rfl) ?_
   refine Dq 8 ?_
   have ⟨Y,p,O⟩:=bnd N
   refine Dy 9 (Yl.ia p rfl rfl rfl rfl rfl rfl) ?_
   refine D.one rfl rfl rfl (Dp.al [0] [] (Ac.se 0 (Go.bits .or .u8 n (IntKind.u8.wrap (1*2 ^ (min (e.tmod 8).toNat 8)))) (aU p).2 rfl rfl rfl rfl rfl rfl (λ_=>⟨(),rfl,[],rfl⟩)) rfl rfl rfl rfl rfl rfl rfl ?_)
   intro _
   refine Dn ?_
   refine E.sl 3 (k':=(b.2.set ((IntKind.i64.wrap (e.tdiv 8)).toNat) (Go.bits .or .u8 n (IntKind.u8.wrap (1*2 ^ (min (e.tmod 8).toNat 8))))).length) (List.length_set ..) rfl ?_
   refine Z0 ?_
   cases O
   exact Eg (_,((some ⟨I,0,none⟩),c)) (z _ rfl) [0,0,0,0,0,0] [] 0
  refine Z0 ?_
  cases l
  have hb:=A _ rfl
  subst j
  exact Eg (d,c) trivial [0,0,0,0,1] [] 0
 rintro ⟨g,i⟩
 refine Y1 ?_
 refine Td [14] [0,1,1] mo ?_
 refine Dq 0 ?_
 refine Dq 1 ?_
 refine Dq 2 ?_
 refine Dq 3 ?_
 refine Db 4 2 ?_
 refine Dq 5 ?_
 refine Dq 6 ?_
 refine Dq 7 ?_
 refine Db 8 2 ?_
 refine Dq 11 ?_
 refine DF.of rfl ?_
 refine DF.add _ (FSp.y 12 (Yl.bs 0 rfl rfl rfl rfl rfl rfl rfl rfl rfl) rfl rfl rfl rfl) rfl ?_
 refine DF.step 9 rfl rfl rfl rfl rfl ?_
 have ⟨P,Q,R⟩:=bnd w
 refine DFp.a [0,0] [] (Ac.call (xF Q) rfl rfl rfl rfl) rfl rfl rfl rfl rfl rfl rfl rfl ?_
 rintro ⟨⟩
 refine DF.step 10 rfl rfl rfl rfl rfl ?_
 refine DFp.a [] [] (Ac.bs (ty:=(Ty.int .i64)) (xs:=[t_.bR.k,P]) (.cons () [] rfl (.cons () [] rfl .nil)) rfl rfl rfl rfl rfl rfl rfl) rfl rfl rfl rfl rfl rfl rfl rfl ?_
 intro S
 refine DF.step 13 rfl rfl rfl rfl rfl ?_
 refine DFp.use 0 rfl rfl rfl ?_
 intro _
 refine DFp.a [] [] (Ac.q rfl) rfl rfl rfl rfl rfl rfl rfl rfl ?_
 intro _
 refine DF.step 14 rfl rfl rfl rfl rfl ?_
 refine DFp.al [1] [] (Ac.stb rfl rfl rfl rfl rfl rfl) rfl rfl rfl rfl rfl rfl rfl ?_
 intro _
 refine DF.fin rfl rfl rfl rfl rfl ?_
 refine DFe.nil ?_
 refine Z0 ?_
 refine E.frz 3 rfl ?_
 cases R
 exact Eo ((some ⟨S,0,none⟩),2) [2,2,2] [0] (.cell 0 rfl rfl rfl .nil)
theorem An {n_:Int} {lo:Int} {hi:Int} {r:Bool} (H:qs n_ lo hi=some r):CT G 50 [.int .i64 n_,.int .i64 lo,.int .i64 hi] [] [] (λ_:Unit=> .bool r) (λh=>[]) (λh=>[]):=by
 delta qs at H
 refine Cf Go.Proofs.Tryz.func50 λK=> ?_
 refine Y2 ?_
 have ⟨e4,H5,H6⟩:=bnd H
 refine Tj0 [(6,.bool e4)] [] [] [] ?_ ?_
 ·refine Z0 ?_
  refine Lw 10 H5 (λH7=> ?_) λH7=> ?_
  ·refine Z0 ?_
   cases H7
   exact Eg0 [] 0
  refine Z0 ?_
  cases H7
  exact Eg0 [] 0
 refine Z0 ?_
 cases H6
 exact Eo1 () [] []
theorem oY {g:dN} {i:Int} {r:Int} (H:gO g i=some r):CT G 18 [.agg (HU g A0 C0).toArray,.int .i64 i] [] [Im.sl (Ty.int .i64) A0 C0 g.bJ] (λ_:Unit=> .int .i64 r) (λh=>[]) (λh=>[]):=by
 delta gO at H
 refine Cf Go.Proofs.Tryz.func18 λK=> ?_
 refine Z1 ?_
 refine Lx λg1=> ?_
 refine Z2 ?_
 have ⟨r2,h3,H4⟩:=bnd H
 refine Lk [] [] (An h3) λ⟨⟩=> ?_
 refine Z0 ?_
 refine Tb H4 (λH6=> ?_) λH6=> ?_
 ·refine Z1 ?_
  cases H6
  exact Eo1 () [] []
 refine Z1 ?_
 have ⟨x7,h8,H9⟩:=bnd H6
 refine L.addr 0 rfl (cJ h8) λb c a=> ?_
 subst a
 refine Ly (Yl.ia h8 rfl rfl rfl rfl rfl rfl) ?_
 refine L.el 0 rfl (aU h8).2 ?_
 rintro _
 refine Lc 0 0 ?_
 refine Z0 ?_
 cases H9
 exact Eo1 () [] []
theorem tM {s_:aK} {bR:ByteArray} {r:aK} (H:gV s_ bR=some r):CT G 46 [.pointer (some ⟨N0,0,none⟩),.string bR] [Ch.box N0 83 (qt s_ A0 C0 A1 C1 A2 C2 A3 C3 A4 C4 A5 C5 A6 C6),Ch.aro bO 42 A4 C4 s_.kept,Ch.arr Ty.bool 4 A6 C6 s_.message.there] [Im.sl aC A0 C0 s_.current.rows,Im.sl aD A1 C1 s_.current.begun,Im.sl aC A2 C2 s_.aN.rows,Im.sl aD A3 C3 s_.aN.begun,Im.sl Ty.str A5 C5 s_.message.parts] (λ_:Unit=> .tuple #[]) (λh=>[Ch.box N0 83 (qt r A0 C0 A1 C1 A2 C2 A3 C3 A4 C4 A5 C5 A6 C6),Ch.aro bO 42 A4 C4 r.kept,Ch.arr Ty.bool 4 A6 C6 r.message.there]) (λh=>[Im.sl aC A0 C0 r.current.rows,Im.sl aD A1 C1 r.current.begun,Im.sl aC A2 C2 r.aN.rows,Im.sl aD A3 C3 r.aN.begun,Im.sl Ty.str A5 C5 r.message.parts]):=by
 delta gV at H
 refine Cf Go.Proofs.Tryz.func46 λK=> ?_
 refine Z1 ?_
 have ⟨b,g,i⟩:=bnd H
 refine T.sR (η:=Unit×Unit) (λh=>True) (λh=>[]) (λh=>[Ch.aro bO 42 A4 C4 b.kept,Ch.arr Ty.bool 4 A6 C6 b.message.there,Ch.box N0 83 (qt b A0 C0 A1 C1 A2 C2 A3 C3 A4 C4 A5 C5 A6 C6)]) (λh=>[Im.sl aC A0 C0 b.current.rows,Im.sl aD A1 C1 b.current.begun,Im.sl aC A2 C2 b.aN.rows,Im.sl aD A3 C3 b.aN.begun,Im.sl Ty.str A5 C5 b.message.parts,Im.sl aC A0 C0 s_.current.rows,Im.sl aD A1 C1 s_.current.begun,Im.sl aC A2 C2 s_.aN.rows,Im.sl aD A3 C3 s_.aN.begun,Im.sl Ty.str A5 C5 s_.message.parts]) ?_ ?_
 ·refine Yl0 ?_
  refine Tq (η:=Unit) (λa h=>[(15,.int .i64 a.2)]) [0,1,14] (λa h=>[Ch.aro bO 42 A4 C4 a.1.kept,Ch.arr Ty.bool 4 A6 C6 a.1.message.there,Ch.box N0 83 (qt a.1 A0 C0 A1 C1 A2 C2 A3 C3 A4 C4 A5 C5 A6 C6)]) [] (λa h=>[Im.sl aC A0 C0 a.1.current.rows,Im.sl aD A1 C1 a.1.current.begun,Im.sl aC A2 C2 a.1.aN.rows,Im.sl aD A3 C3 a.1.aN.begun,Im.sl Ty.str A5 C5 a.1.message.parts]) () [1,1,0] [0,1,2,3,4] g ?_
  rintro k_ a ⟨⟩ A j l m
  refine Y2 ?_
  refine Tb j (λd=> ?_) λd=> ?_
  ·refine Y1 ?_
   have ⟨c,n,o⟩:=bnd d
   refine Tjh (η:=Unit) (λ_=>[]) [0,1,14,15] (λh=>[Ch.aro bO 42 A4 C4 c.kept,Ch.arr Ty.bool 4 A6 C6 c.message.there,Ch.box N0 83 (qt c A0 C0 A1 C1 A2 C2 A3 C3 A4 C4 A5 C5 A6 C6)]) [] (λh=>[Im.sl aC A0 C0 c.current.rows,Im.sl aD A1 C1 c.current.begun,Im.sl aC A2 C2 c.aN.rows,Im.sl aD A3 C3 c.aN.begun,Im.sl Ty.str A5 C5 c.message.parts]) ?_ ?_
   ·refine Zl ?_
    refine Z2 ?_
    have ⟨B,p,q⟩:=bnd n
    refine Ly (Yl.si p rfl rfl rfl rfl rfl) ?_
    refine Z0 ?_
    have ⟨_,s,t⟩:=bnd q
    refine Ly (Yl.shr (nb:=8) rfl s rfl rfl rfl) ?_
    refine Z0 ?_
    refine Tb t (λe=> ?_) λe=> ?_
    ·refine Z0 ?_
     have ⟨C,f,u⟩:=bnd e
     refine L.mj 1 rfl (cJ f) λv z=> ?_
     subst z
     refine Ly (Yl.ia f rfl rfl rfl rfl rfl rfl) ?_
     refine La [1] [] (Ac.se 0 true (aU f).2 rfl rfl rfl rfl rfl rfl (λ_=>⟨(),rfl,[],rfl⟩)) λ_=> ?_
     refine L.bx 2 (cs':=[.int .i64 a.1.config.part,.int .i64 a.1.config.every,.int .i64 a.1.config.most,.int .i64 a.1.current.k,.int .i64 a.1.current.w,.int .i64 a.1.current.h,.int .i64 a.1.current.x,.int .i64 a.1.current.y,.string a.1.current.title,.slice A0 a.1.current.rows.length C0,.int .i64 a.1.current.len,.int .i64 a.1.current.chain,.slice A1 a.1.current.begun.length C1,.int .i64 a.1.aN.k,.int .i64 a.1.aN.w,.int .i64 a.1.aN.h,.int .i64 a.1.aN.x,.int .i64 a.1.aN.y,.string a.1.aN.title,.slice A2 a.1.aN.rows.length C2,.int .i64 a.1.aN.len,.int .i64 a.1.aN.chain,.slice A3 a.1.aN.begun.length C3,.slice A4 a.1.kept.length C4,.int .i64 a.1.message.id,.int .i64 a.1.message.key,.int .i64 a.1.message.base,.slice A5 a.1.message.parts.length C5,.slice (some ⟨v,0,none⟩) (a.1.message.there.set a.2.toNat true).length C6,.int .i64 a.1.message.due,.int .i64 a.1.next]) (by rw [List.length_set ..]) rfl ?_
     refine Z0 ?_
     cases u
     exact Eg () trivial [2,1,0] [0,1,2,3,4] 0
    refine Z0 ?_
    cases e
    exact Eg () trivial [0,0,0] [0,1,2,3,4] 0
   rintro ⟨⟩
   refine Z0 ?_
   cases o
   exact Eg (_,()) (l _ rfl) [0,0,0] [0,1,2,3,4] 10
  refine Z0 ?_
  cases d
  have hb:=m _ rfl
  subst b
  exact Egx ((),()) trivial [0,0,0] [0,1,2,3,4,5,6,7,8,9]
 rintro ⟨_,⟨⟩⟩ _
 refine E.off ?_
 cases i
 exact Eo () [2,0,0] [0,1,2,3,4] .nil
theorem qy {x_:aH} {x1:Int} {r:Bool} (H:gK x_ x1=some r):CT G 48 [.agg (k8 x_ A0 C0 A1 C1).toArray,.pointer (some ⟨N0,0,none⟩)] [] [Im.sl aC A0 C0 x_.rows,Im.sl aD A1 C1 x_.begun,Im.cells N0 0 [.int .i64 x1]] (λ_:Unit=> .bool r) (λh=>[]) (λh=>[]):=by
 delta gK at H
 refine Cf Go.Proofs.Tryz.func48 λK=> ?_
 refine Z1 ?_
 refine Lx λg1=> ?_
 refine Z1 ?_
 refine Lc 2 0 ?_
 refine Z0 ?_
 cases H
 exact Eo1 () [] []
theorem lG {s_:List aH} {f_0:Int} {r:Int} (H:cN s_ f_0=some r):CT G 47 [.slice A0 s_.length C0,.func (.func 48) #[] #[.pointer (some ⟨N0,0,none⟩)]] [] [Im.sl bO A0 C0 s_,Im.cells N0 0 [.int .i64 f_0]] (λ_:Unit=> .int .i64 r) (λh=>[]) (λh=>[]):=by
 delta cN at H
 refine Cf Go.Proofs.Tryz.func47 λK=> ?_
 refine Z3 ?_
 have ⟨a,i,e⟩:=bnd H
 refine Tj (η:=Unit×Unit) (λh=>a = .inl h.1) (λ_=>[]) [] (λ_=>[]) [] (λ_=>[]) ?_ ?_
 ·refine Yl0 ?_
  refine Tq (η:=Unit) (λf h=>[(8,.int .i64 f)]) [0,1,7] (λ_ _=>[]) [] (λ_ _=>[]) () [] [] i ?_
  rintro k_ f ⟨⟩ j k l g
  refine Y2 ?_
  refine Tb k (λb=> ?_) λb=> ?_
  ·refine Z1 ?_
   refine Zl ?_
   refine Z2 ?_
   have ⟨s,c,m⟩:=bnd b
   refine L.addr 0 rfl (cJ c) λt u n=> ?_
   subst n
   refine Ly (Yl.ia c rfl rfl rfl rfl rfl rfl) ?_
   refine L.el 0 rfl (aU c).2 ?_
   rintro ⟨⟨v,w⟩,⟨x,y⟩⟩
   refine Lc 0 0 ?_
   have ⟨z,o,p⟩:=bnd m
   refine Lk [] [1,2,4] (qy o) λ⟨⟩=> ?_
   refine Z0 ?_
   refine Tb p (λd=> ?_) λd=> ?_
   ·refine Z1 ?_
    obtain ⟨A,hz,q⟩:=fH d
    subst j
    have hb:=g _ rfl
    subst a
    obtain rfl:=(sm e).symm
    refine Z0 ?_
    cases q
    exact Eo1 () [] []
   refine Z0 ?_
   cases d
   exact Eg (_,()) (l _ rfl) [] [] 3
  refine Z0 ?_
  cases b
  have hb:=g _ rfl
  subst a
  exact Eg (_,()) rfl [] [] 0
 rintro ⟨B,⟨⟩⟩ hy
 subst hy
 refine Z1 ?_
 cases e
 exact Eo1 () [] []
theorem qz {s_:List aH} (a_0:Option Addr) (c_0:Nat) {r:List aH} (H:gJ s_=some r):CT G 49 [.slice a_0 s_.length c_0] [] [Im.sl bO a_0 c_0 s_] (λh:(Option Addr×Nat)=> .slice h.1 r.length h.2) (λh=>[Ch.arr bO 42 h.1 h.2 r]) (λh=>[]):=by
  delta gJ at H
  refine Cf Go.Proofs.Tryz.func49 λK=> ?_
  have ⟨_,h0,H⟩:=bnd H
  have hr:=Option.some.inj H
  refine T.seq (T.region (L.q 1 rfl (L.nil (E.then (T.seq (T.seq (T.region ?_)))))))
  refine L.q 1 rfl ?_
  refine L.Oa 0 rfl rfl rfl rfl rfl rfl rfl rfl rfl (λha hx=> ?_) ?_
  · refine L.nil (E.then (T.cond rfl (λ_=> ?_) (λh=>nomatch h)))
    refine T.seq (T.region (L.q 1 rfl (L.nil (E.then (T.ret (E.qB ?_))))))
    subst hx
    subst r
    refine E.iS bO 42 ?_
    exact E.ret (none,0) [0] [] (.tmp rfl .nil) rfl rfl rfl
  · refine L.nil (E.then (T.cond rfl (λh=>nomatch h) (λ_=> ?_)))
    refine T.skip (E.then (T.seq (T.region ?_)))
    refine L.a [] [] (Ac.bs (ty:=bO) (xs:=[]) .nil rfl rfl rfl rfl rfl rfl rfl) rfl rfl rfl rfl rfl ?_
    intro g1
    refine L.q 1 rfl ?_
    refine L.a [0] [0] (Ac.ap (ty:=bO) h0 rfl rfl rfl rfl rfl rfl rfl) rfl rfl rfl rfl rfl ?_
    rintro ⟨a1,c1⟩
    refine L.q 1 rfl ?_
    refine L.nil (E.then (T.ret ?_))
    subst r
    exact E.ret (a1,c1) [0] [] (.tmp rfl .nil) rfl rfl rfl
theorem uG {s_:aK} {k:Int} {id:Int} {bR:ByteArray} {r:Bool×aK} (H:iO s_ k id bR=some r):CT G 17 [.pointer (some ⟨N0,0,none⟩),.int .i64 k,.int .i64 id,.string bR] [Ch.box N0 83 (qt s_ A0 C0 A1 C1 A2 C2 A3 C3 A4 C4 A5 C5 A6 C6),Ch.aro bO 42 A4 C4 s_.kept,Ch.arr Ty.bool 4 A6 C6 s_.message.there] [Im.sl aC A0 C0 s_.current.rows,Im.sl aD A1 C1 s_.current.begun,Im.sl aC A2 C2 s_.aN.rows,Im.sl aD A3 C3 s_.aN.begun,Im.sl Ty.str A5 C5 s_.message.parts] (λh:(Option Addr×Nat)×(Option Addr×Nat)×(Option Addr×Nat)=> .bool r.1) (λh=>[Ch.box N0 83 (qt r.2 A0 C0 A1 C1 h.1.1 h.1.2 h.2.1.1 h.2.1.2 h.2.2.1 h.2.2.2 A5 C5 A6 C6),Ch.aro bO 42 h.2.2.1 h.2.2.2 r.2.kept,Ch.arr Ty.bool 4 A6 C6 r.2.message.there]) (λh=>[Im.sl aC A0 C0 r.2.current.rows,Im.sl aD A1 C1 r.2.current.begun,Im.sl aC h.1.1 h.1.2 r.2.aN.rows,Im.sl aD h.2.1.1 h.2.1.2 r.2.aN.begun,Im.sl Ty.str A5 C5 r.2.message.parts]):=by
 delta iO at H
 refine Cf Go.Proofs.Tryz.func17 λK=> ?_
 refine Z1 ?_
 refine Lx λg1=> ?_
 refine Y2 ?_
 have ⟨e5,H6,H7⟩:=bnd H
 refine Tj0 [(20,.bool e5)] [0,3,5] [] [0,1,2,3] ?_ ?_
 ·refine Z0 ?_
  refine Lw 17 H6 (λH8=> ?_) λH8=> ?_
  ·refine Z0 ?_
   cases H8
   exact Eg0 [0,0,0,0] 0
  refine Z0 ?_
  cases H8
  exact Eg0 [0,0,0,0] 0
 have ⟨a,n,o⟩:=bnd H7
 refine Tjh (η:=Unit) (λ_=>[]) [0,5] (λh=>[Ch.aro bO 42 A4 C4 a.kept,Ch.arr Ty.bool 4 A6 C6 a.message.there,Ch.box N0 83 (qt a A0 C0 A1 C1 A2 C2 A3 C3 A4 C4 A5 C5 A6 C6)]) [0] (λh=>[Im.sl aC A0 C0 a.current.rows,Im.sl aD A1 C1 a.current.begun,Im.sl aC A2 C2 a.aN.rows,Im.sl aD A3 C3 a.aN.begun,Im.sl Ty.str A5 C5 a.message.parts]) ?_ ?_
 ·refine Tb n (λb=> ?_) λb=> ?_
  ·refine Z0 ?_
   have ⟨S,p,q⟩:=bnd b
   refine Lk [1,1,1] [0,1,2,3,4] (tM p) λ⟨⟩=> ?_
   refine Z0 ?_
   cases q
   exact Eg () trivial [1,1,0,0] [0,1,2,3,4] 5
  refine Z0 ?_
  cases b
  exact Eg () trivial [2,2,1,0] [0,1,2,3,4] 0
 rintro ⟨⟩
 refine Y2 ?_
 have ⟨s,t,u⟩:=bnd o
 refine Tj0 [(39,.bool s)] [0,5] [] [2,3,0,1] ?_ ?_
 ·refine Td [] [0,0,0,0] mo ?_
  refine Db 0 3 ?_
  refine Dq 1 ?_
  refine Dq 2 ?_
  refine Dq 3 ?_
  refine Dq 4 ?_
  refine Db 5 2 ?_
  refine Dq 6 ?_
  refine Dq 7 ?_
  refine D.cs 31 t rfl (λhc c=> ?_) (λhc c=> ?_)
  ·refine Ds 8 ?_
   refine Ds 9 ?_
   refine Ds 10 ?_
   refine Ds 11 ?_
   refine Ds 12 ?_
   refine Ds 13 ?_
   refine Ds 14 ?_
   refine Dq 15 ?_
   refine Dn ?_
   cases c
   exact Eg0 [2,2,0,0] 0
  refine Db 8 3 ?_
  refine Dq 9 ?_
  refine Dq 10 ?_
  refine Dq 11 ?_
  refine Dq 12 ?_
  refine Db 13 2 ?_
  refine Dq 14 ?_
  refine Dq 15 ?_
  refine Dn ?_
  cases c
  exact Eg0 [2,2,0,0] 0
 refine Tb u (λd=> ?_) λd=> ?_
 ·refine Z1 ?_
  cases d
  exact Eo1 ((A2,C2),(A3,C3),(A4,C4)) [0,1,1] [0,1,2,3,4]
 refine Z1 ?_
 have ⟨x,y,z⟩:=bnd d
 refine L.br (Ac.call (lG y) rfl rfl rfl rfl) (Bw.cho 2 rfl (Bw.bx 1 rfl (Bw.nil))) rfl rfl rfl ?_
 intro _
 refine Z2 ?_
 refine Tb z (λe=> ?_) λe=> ?_
 ·refine Z1 ?_
  refine Lt 0 ?_
  refine Z1 ?_
  refine E.jk [Im.sl aC none 0 []] (λA w _ _ f hf=>by rw [List.mem_singleton.1 hf]; exact Im.gF A w) ?_
  refine E.jk [Im.sl aD none 0 []] (λA w _ _ f hf=>by rw [List.mem_singleton.1 hf]; exact Im.gF A w) ?_
  cases e
  exact Eo1 ((none,0),(none,0),(A4,C4)) [0,1,1] [2,3,1,0,6]
 refine Z1 ?_
 have ⟨B,g,C⟩:=bnd e
 refine L.PK 2 rfl (cJ g) λU V F=> ?_
 subst F
 refine Ly (Yl.ia g rfl rfl rfl rfl rfl rfl) ?_
 refine La [2] [] (Ac.olo x.toNat 0 (v:=(λh:(Option Addr×Nat)×(Option Addr×Nat)=>(λi j l m=> .agg (k8 B i j l m).toArray) h.1.1 h.1.2 h.2.1 h.2.2)) (aU g).2 rfl rfl rfl (λ_=>rfl)) ?_
 rintro ⟨⟨i,j⟩,⟨l,m⟩⟩
 refine Z0 ?_
 refine Lt 1 ?_
 refine Z1 ?_
 have ⟨_,I,J⟩:=bnd C
 refine La [1] [] (Ac.ors (ty:=bO) I rfl rfl rfl rfl rfl rfl rfl rfl) ?_
 rintro ⟨M,N⟩
 refine L.QV 0 rfl ?_
 have ⟨W,O,P⟩:=bnd J
 refine Lk [] [0] (qz M N O) λ⟨Q,R⟩=> ?_
 refine Z0 ?_
 refine Lt 1 ?_
 refine Z1 ?_
 refine E.PJ 1 rfl ?_
 cases P
 exact Eo1 ((i,j),(l,m),(Q,R)) [1,0,1] [3,4,1,2,7]
end Go.Tw.X
namespace Go.Tw.X
open Go Go.Tw
variable {A0 A1 A2 A3 A4 A5 A6 A7 A8 : Option Addr} {C0 C1 C2 C3 C4 C5 C6 C7 C8 : Nat}
variable {N0 N1 N2 N3 N4 : Nat}
variable {M0 : Option Nat}
theorem pY {t_:bA} {r:aH} (H:jg t_=some r):CT G 19 [.pointer (some ⟨N0,0,none⟩)] [Ch.box N0 65 (sH t_ N1 A0 C0 A1 C1),Ch.box N1 86 (lD t_.slot M0),Ch.mp Ty.str false M0 t_.slot.parts] [Im.sl aC A0 C0 t_.bR.rows,Im.sl aD A1 C1 t_.bR.begun] (λh:(Option Addr×Nat)×(Option Addr×Nat)=> .agg (k8 r h.1.1 h.1.2 h.2.1 h.2.2).toArray) (λh=>[Ch.box N0 65 (sH t_ N1 A0 C0 A1 C1),Ch.box N1 86 (lD t_.slot M0),Ch.mp Ty.str false M0 t_.slot.parts]) (λh=>[Im.sl aC h.1.1 h.1.2 r.rows,Im.sl aD h.2.1 h.2.2 r.begun]):=by
 delta jg at H
 refine Cf Go.Proofs.Tryz.func19 λK=> ?_
 refine Z1 ?_
 refine Ll λg1=> ?_
 refine Z1 ?_
 have ⟨r2,h3,H4⟩:=bnd H
 refine Lk [] [0,1] (oa h3) λ⟨⟨a5,c6⟩,⟨a7,c8⟩⟩=> ?_
 refine Lt 0 ?_
 refine Z0 ?_
 cases H4
 exact Eo ((a5,c6),(a7,c8)) [1,1,1] [0,1] (.cell 0 rfl rfl rfl .nil)
theorem nh {s1_:List aE} {s2_:List aE} {r:Bool} (H:dL s1_ s2_=some r):CT G 51 [.slice A0 s1_.length C0,.slice A1 s2_.length C1,.func (.func 52) #[] #[]] [] [Im.sl aC A0 C0 s1_,Im.sl aC A1 C1 s2_] (λ_:Unit=> .bool r) (λh=>[]) (λh=>[]):=by
 delta dL at H
 refine Cf Go.Proofs.Tryz.func51 λK=> ?_
 refine Z3 ?_
 refine Tb H (λH2=> ?_) λH2=> ?_
 ·refine Z1 ?_
  cases H2
  exact Eo1 () [] []
 refine Z2 ?_
 have ⟨a,j,f⟩:=bnd H2
 refine Tj (η:=Unit×Unit) (λh=>a = .inl h.1) (λ_=>[]) [] (λ_=>[]) [] (λ_=>[]) ?_ ?_
 ·refine Yl0 ?_
  refine Tq (η:=Unit) (λg h=>[(17,.int .i64 g)]) [1,2,15,16] (λ_ _=>[]) [] (λ_ _=>[]) () [] [] j ?_
  rintro k_ g ⟨⟩ k l m i
  refine Y2 ?_
  refine Tb l (λb=> ?_) λb=> ?_
  ·refine Z1 ?_
   refine Zl ?_
   refine Z1 ?_
   have ⟨v,c,n⟩:=bnd b
   refine L.addr 0 rfl (cJ c) λw x o=> ?_
   subst o
   refine Ly (Yl.ia c rfl rfl rfl rfl rfl rfl) ?_
   refine L.el 0 rfl (aU c).2 ?_
   rintro ⟨y,z⟩
   refine Lc 0 0 ?_
   refine Ll λA=> ?_
   refine Z0 ?_
   refine Lt 0 ?_
   refine Z1 ?_
   have ⟨B,d,p⟩:=bnd n
   refine L.addr 3 rfl (cJ d) λC F q=> ?_
   subst q
   refine Ly (Yl.ia d rfl rfl rfl rfl rfl rfl) ?_
   refine L.el 3 rfl (aU d).2 ?_
   rintro ⟨I,J⟩
   refine Lc 0 0 ?_
   refine Ll λM=> ?_
   refine Lt 0 ?_
   refine Z1 ?_
   have ⟨N,s,t⟩:=bnd p
   refine Lk [] [3,1] (pU s) λ⟨⟩=> ?_
   refine Z0 ?_
   refine Tb t (λe=> ?_) λe=> ?_
   ·refine Z1 ?_
    obtain ⟨O,hz,u⟩:=fH e
    subst k
    have hb:=i _ rfl
    subst a
    obtain rfl:=(sm f).symm
    refine Z0 ?_
    cases u
    exact Eo1 () [] []
   refine Z0 ?_
   cases e
   exact Eg (_,()) (m _ rfl) [] [] 4
  refine Z0 ?_
  cases b
  have hb:=i _ rfl
  subst a
  exact Eg (_,()) rfl [] [] 0
 rintro ⟨P,⟨⟩⟩ hy
 subst hy
 refine Z1 ?_
 cases f
 exact Eo1 () [] []
theorem qA {s1_:List aJ} {s2_:List aJ} {r:Bool} (H:gH s1_ s2_=some r):CT G 53 [.slice A0 s1_.length C0,.slice A1 s2_.length C1] [] [Im.sl aD A0 C0 s1_,Im.sl aD A1 C1 s2_] (λ_:Unit=> .bool r) (λh=>[]) (λh=>[]):=by
 delta gH at H
 refine Cf Go.Proofs.Tryz.func53 λK=> ?_
 refine Z3 ?_
 refine Tb H (λH2=> ?_) λH2=> ?_
 ·refine Z1 ?_
  cases H2
  exact Eo1 () [] []
 refine Z2 ?_
 have ⟨a,j,f⟩:=bnd H2
 refine Tj (η:=Unit×Unit) (λh=>a = .inl h.1) (λ_=>[]) [] (λ_=>[]) [] (λ_=>[]) ?_ ?_
 ·refine Yl0 ?_
  refine Tq (η:=Unit) (λg h=>[(13,.int .i64 g)]) [0,1,12] (λ_ _=>[]) [] (λ_ _=>[]) () [] [] j ?_
  rintro k_ g ⟨⟩ k l m i
  refine Y2 ?_
  refine Tb l (λb=> ?_) λb=> ?_
  ·refine Z1 ?_
   refine Zl ?_
   refine Y2 ?_
   refine Td [] [] mo ?_
   refine Dq 0 ?_
   refine Dq 1 ?_
   have ⟨t,c,n⟩:=bnd b
   refine D.addr 0 rfl (cJ c) λu v o=> ?_
   subst o
   refine Dy 2 (Yl.ia c rfl rfl rfl rfl rfl rfl) ?_
   refine D.el 0 rfl (aU c).2 ?_
   rintro _
   refine Dy 3 (Yl.ldc 0 0 rfl rfl rfl rfl) ?_
   refine Dq 4 ?_
   refine Dq 5 ?_
   have ⟨w,d,p⟩:=bnd n
   refine D.addr 2 rfl (cJ d) λx y q=> ?_
   subst q
   refine Dy 6 (Yl.ia d rfl rfl rfl rfl rfl rfl) ?_
   refine D.el 2 rfl (aU d).2 ?_
   rintro _
   refine Dy 7 (Yl.ldc 0 0 rfl rfl rfl rfl) ?_
   refine Dq 8 ?_
   refine Dn ?_
   refine Z0 ?_
   refine Tb p (λe=> ?_) λe=> ?_
   ·refine Z1 ?_
    obtain ⟨z,hz,s⟩:=fH e
    subst k
    have hb:=i _ rfl
    subst a
    obtain rfl:=(sm f).symm
    refine Z0 ?_
    cases s
    exact Eo1 () [] []
   refine Z0 ?_
   cases e
   exact Eg (_,()) (m _ rfl) [] [] 2
  refine Z0 ?_
  cases b
  have hb:=i _ rfl
  subst a
  exact Eg (_,()) rfl [] [] 0
 rintro ⟨A,⟨⟩⟩ hy
 subst hy
 refine Z1 ?_
 cases f
 exact Eo1 () [] []
theorem rz {s_:aH} {t_:aH} {r:Bool} (H:fT s_ t_=some r):CT G 20 [.agg (k8 s_ A0 C0 A1 C1).toArray,.agg (k8 t_ A2 C2 A3 C3).toArray] [] [Im.sl aC A0 C0 s_.rows,Im.sl aD A1 C1 s_.begun,Im.sl aC A2 C2 t_.rows,Im.sl aD A3 C3 t_.begun] (λ_:Unit=> .bool r) (λh=>[]) (λh=>[]):=by
 delta fT at H
 refine Cf Go.Proofs.Tryz.func20 λK=> ?_
 refine Z1 ?_
 refine Lx λg1=> ?_
 refine Lx λg2=> ?_
 refine Y1 ?_
 have ⟨k,l,m⟩:=bnd H
 refine Tj0 [(4,.bool k)] [] [] [0,1] ?_ ?_
 ·refine Tra ?_
  refine Z0 ?_
  refine Lw 10 l (λa=> ?_) λa=> ?_
  ·refine Z0 ?_
   refine Lw 17 a (λb=> ?_) λb=> ?_
   ·refine Z0 ?_
    refine Lw 24 b (λc=> ?_) λc=> ?_
    ·refine Z0 ?_
     refine Lw 31 c (λd=> ?_) λd=> ?_
     ·refine Z0 ?_
      refine Lw 38 d (λe=> ?_) λe=> ?_
      ·refine Z0 ?_
       refine Lw 45 e (λf=> ?_) λf=> ?_
       ·refine Z0 ?_
        refine Lw 52 f (λg=> ?_) λg=> ?_
        ·refine Z0 ?_
         refine Lw 59 g (λi=> ?_) λi=> ?_
         ·refine Z0 ?_
          have ⟨s,n,o⟩:=bnd i
          refine Lk [] [0,2] (nh n) λ⟨⟩=> ?_
          refine Z0 ?_
          refine Lw 66 o (λj=> ?_) λj=> ?_
          ·refine Z0 ?_
           have ⟨t,p,q⟩:=bnd j
           refine Lk [] [1,3] (qA p) λ⟨⟩=> ?_
           refine Z0 ?_
           cases q
           exact Eg0 [0,0] 0
          refine Z0 ?_
          cases j
          exact Eg0 [0,0] 0
         refine Z0 ?_
         cases i
         exact Eg0 [0,0] 0
        refine Z0 ?_
        cases g
        exact Eg0 [0,0] 0
       refine Z0 ?_
       cases f
       exact Eg0 [0,0] 0
      refine Z0 ?_
      cases e
      exact Eg0 [0,0] 0
     refine Z0 ?_
     cases d
     exact Eg0 [0,0] 0
    refine Z0 ?_
    cases c
    exact Eg0 [0,0] 0
   refine Z0 ?_
   cases b
   exact Eg0 [0,0] 0
  refine Z0 ?_
  cases a
  exact Eg0 [0,0] 0
 refine Z0 ?_
 cases m
 exact Eo1 () [] []
theorem oZ {t_:bA} {r:Int} (H:iQ t_=some r):CT G 25 [.pointer (some ⟨N0,0,none⟩)] [Ch.box N0 65 (sH t_ N1 A0 C0 A1 C1),Ch.box N1 86 (lD t_.slot M0),Ch.mp Ty.str false M0 t_.slot.parts] [Im.sl aC A0 C0 t_.bR.rows,Im.sl aD A1 C1 t_.bR.begun] (λ_:Unit=> .int .i64 r) (λh=>[Ch.box N0 65 (sH t_ N1 A0 C0 A1 C1),Ch.box N1 86 (lD t_.slot M0),Ch.mp Ty.str false M0 t_.slot.parts]) (λh=>[]):=by
 delta iQ at H
 refine Cf Go.Proofs.Tryz.func25 λK=> ?_
 refine Z2 ?_
 cases H
 exact Eo1 () [0,0,0] []
theorem Ao {r:Bool} (H:mY=some r):CT G 23 [] [] [Im.sl (Ty.int .u32) (some ⟨2,0,none⟩) 16 dA] (λ_:Unit=> .bool r) (λh=>[]) (λh=>[]):=by
 delta mY at H
 refine Cf Go.Proofs.Tryz.func23 λK=> ?_
 refine Z2 ?_
 have ⟨r1,h2,H3⟩:=bnd H
 refine Lk [] [] (wz h2) λ⟨g4,⟨a5,c6⟩,⟨a7,c8⟩,⟨a9,bo⟩,⟨bp,bq⟩,⟨br,bs⟩,⟨bt,bu⟩,⟨bv,bw⟩⟩=> ?_
 have ⟨bx,aa,ab⟩:=bnd H3
 refine Lk [] [] (x8 aa) λ⟨A,k,ac,⟨ad,ae⟩,⟨af,ag⟩⟩=> ?_
 have ⟨bz,ah,ai⟩:=bnd ab
 refine Lk [] [] (x6 ah) λ⟨aj,B,⟨C,F⟩,⟨I,J⟩,⟨M,N⟩,O,⟨P,Q⟩,⟨b0,b1⟩,R,S,⟨U,V⟩⟩=> ?_
 refine Z2 ?_
 refine Ly (Yl.pn rfl rfl rfl rfl rfl rfl) ?_
 refine Z0 ?_
 refine Ly (Yl.pn rfl rfl rfl rfl rfl rfl) ?_
 refine Z0 ?_
 refine Ly (Yl.pn rfl rfl rfl rfl rfl rfl) ?_
 refine Z0 ?_
 refine T.cond rfl (λh=>nomatch h) (λ_=> ?_)
 refine Z1 ?_
 have ⟨b2,ak,al⟩:=bnd ai
 refine Lk [0,0,0,0,0,0,0,0,0,0] [] (lV ak) λ⟨⟨b3,b4⟩,⟨b5,b6⟩,⟨b7,b8⟩⟩=> ?_
 have ⟨b9,am,an⟩:=bnd al
 refine Lk [13,13,13] [4,5,6,7,8,0,1] (oS am) λ⟨⟨ca,cb⟩,⟨cc,cd⟩⟩=> ?_
 refine Z2 ?_
 have ⟨ce,ao,ap⟩:=bnd an
 refine Lk [0,0,0] [0,1,2,3,4,14] (oT ao) λ⟨⟨cf,cg⟩,⟨ch,ci⟩,⟨cj,ck⟩,⟨cl,cm⟩⟩=> ?_
 refine Z0 ?_
 have ⟨s,aq,W⟩:=bnd ap
 refine Tj (η:=bA×(Option Nat×(Option Addr×Nat)×(Option Addr×Nat))) (λh=>s = .inl h.1) (λ_=>[]) [2,3] (λh=>(λc=>(λm n o p q=>[Ch.mp Ty.str false m c.slot.parts,Ch.box A 65 (sH c k n o p q),Ch.box k 86 (lD c.slot m)]) h.2.1 h.2.2.1.1 h.2.2.1.2 h.2.2.2.1 h.2.2.2.2) h.1) [1,4,5,9,11,12,2,3,6,7,8,10,13] (λh=>(λc=>(λm n o p q=>[Im.sl aC n o c.bR.rows,Im.sl aD p q c.bR.begun]) h.2.1 h.2.2.1.1 h.2.2.1.2 h.2.2.2.1 h.2.2.2.2) h.1) ?_ ?_
 ·refine Yl0 ?_
  refine Tq (η:=Option Nat×(Option Addr×Nat)×(Option Addr×Nat)) (λb h=>(λd e f i j=>[(27,.int .i64 b.2)]) h.1 h.2.1.1 h.2.1.2 h.2.2.1 h.2.2.2) [2,3,25,26] (λb h=>(λd e f i j=>[Ch.mp Ty.str false d b.1.slot.parts,Ch.box A 65 (sH b.1 k e f i j),Ch.box k 86 (lD b.1.slot d)]) h.1 h.2.1.1 h.2.1.2 h.2.2.1 h.2.2.2) [1,4,5,9,11,12,0,2,3,6,7,8,10,13] (λb h=>(λd e f i j=>[Im.sl aC e f b.1.bR.rows,Im.sl aD i j b.1.bR.begun]) h.1 h.2.1.1 h.2.1.2 h.2.2.1 h.2.2.2) (ac,(ad,ae),(af,ag)) [16,14,14,1,3,3,6,7,7,0,0,0,0,0,0,0,0] [12,13] aq ?_
  rintro k_ b ⟨d,⟨e,f⟩,⟨i,j⟩⟩ ar au av X
  refine Y2 ?_
  refine Tb au (λt=> ?_) λt=> ?_
  ·refine Z1 ?_
   refine Zl ?_
   refine Z1 ?_
   have ⟨aw,u,ax⟩:=bnd t
   refine L.mj 9 rfl (cJ u) λcn ay=> ?_
   subst ay
   refine Ly (Yl.ia u rfl rfl rfl rfl rfl rfl) ?_
   refine La [9] [] (Ac.lo b.2.toNat 0 (v:=(λh:(Option Addr×Nat)=>(λY Z=> .agg (HU aw Y Z).toArray) h.1 h.2)) (aU u).2 rfl rfl rfl (λ_=>rfl)) ?_
   rintro ⟨Y,Z⟩
   refine Ll λco=> ?_
   refine Lt 0 ?_
   refine Z1 ?_
   have ⟨cp,az,a0⟩:=bnd ax
   refine Lk [3,3,2] [1,2,0,22] (pX az) λ⟨a1,⟨a2,a3⟩,⟨a4,a6⟩⟩=> ?_
   refine Z0 ?_
   refine Tb a0 (λx=> ?_) λx=> ?_
   ·refine Z1 ?_
    obtain ⟨cq,hz,a8⟩:=fH x
    subst ar
    have hb:=X _ rfl
    subst s
    obtain rfl:=(sm W).symm
    refine Z0 ?_
    cases a8
    exact Eo1 () [] []
   refine Z0 ?_
   cases x
   exact Eg (_,(a1,(a2,a3),(a4,a6))) (av _ rfl) [2,0,0,2,2,2,2,2,2,1,1,1,1,1,1,1,1] [0,1] 5
  refine Z0 ?_
  cases t
  have hb:=X _ rfl
  subst s
  exact Eg (_,(d,(e,f),(i,j))) rfl [0,0,0,0,0,0,0,0,0,1,1,1,1,1,1,1] [0,1] 2
 rintro ⟨c,⟨m,⟨n,o⟩,⟨p,q⟩⟩⟩ hy
 subst hy
 refine Y1 ?_
 have ⟨a,ba,bb⟩:=bnd W
 refine Tj0 [(0,.bool a.1)] [] [Ch.arr (Ty.slice aD) 40 C F a.2.book.l,Ch.arr (Ty.int .i64) 3 I J a.2.book.bV,Ch.arr aD 112 M N a.2.book.begun,Ch.opt (a.2.parser.state == (3:Int)) (Ty.int .i64) 3 P Q a.2.parser.order.bJ,Ch.arr aC 107 U V a.2.aV.g.l,Ch.box aj 56 (sb a.2 B O R),Ch.box B 115 [.slice C a.2.book.l.length F,.slice I a.2.book.bV.length J,.slice M a.2.book.begun.length N],Ch.box O 76 (mh a.2.parser P Q),Ch.box R 124 (cI a.2.aV S),Ch.box S 169 [.int .i64 a.2.aV.g.w,.slice U a.2.aV.g.l.length V]] [1,2,3,0,9,10] ?_ ?_
 ·refine Z0 ?_
  have ⟨cr,bc,bd⟩:=bnd ba
  refine Lk [1,1,0] [0,1] (oZ bc) λ⟨⟩=> ?_
  refine Z0 ?_
  refine Lw 39 bd (λy=> ?_) λy=> ?_
  ·refine Z0 ?_
   have ⟨cs,be,bf⟩:=bnd y
   refine Lk [0,0,0] [0,1] (pY be) λ⟨⟨ct,cu⟩,⟨cv,cw⟩⟩=> ?_
   refine Z0 ?_
   have ⟨cx,bg,bh⟩:=bnd bf
   refine Lk [4,4,9,9,9,4,8,4,4,6] [] (lV bg) λ⟨⟨cy,cz⟩,⟨c0,c1⟩,⟨c2,c3⟩⟩=> ?_
   have ⟨c4,bi,bj⟩:=bnd bh
   refine Lk [] [2,3,0,1] (rz bi) λ⟨⟩=> ?_
   refine Z0 ?_
   refine Lw 46 bj (λz=> ?_) λz=> ?_
   ·refine Z0 ?_
    have ⟨c5,bk,bl⟩:=bnd z
    refine Lk [10,10,10] [4,5] (qq bk) λ⟨c7,c9⟩=> ?_
    have ⟨da,bm,bn⟩:=bnd bl
    refine Lk [] [0] (oY bm) λ⟨⟩=> ?_
    refine Z0 ?_
    cases bn
    exact Eg0 [5,5,5,6,8,3,3,3,3,3,0,0,1,0,0,0] 5
   refine Z0 ?_
   cases z
   exact Eg0 [2,2,2,3,5,0,0,0,0,0,0,0,1,0,0,0] 4
  refine Z0 ?_
  cases y
  exact Eg0 [11,11,11,11,11,4,4,4,4,4,0,0,1,0,0,0] 0
 refine Z0 ?_
 cases bb
 exact Eo1 () [] []
theorem D1 {e:cK} {r:cK} (H:nA e=some r):CT G 24 [.agg (Nm e).toArray] [] [] (λ_:Unit=> .agg (Nm r).toArray) (λh=>[]) (λh=>[]):=by
 delta nA at H
 refine Cf Go.Proofs.Tryz.func24 λK=> ?_
 refine Z1 ?_
 refine Lx λg1=> ?_
 refine Ll λg2=> ?_
 refine Z1 ?_
 have ⟨r3,h4,H5⟩:=bnd H
 refine Lk [] [] (DU h4) λ⟨⟩=> ?_
 refine Z0 ?_
 refine Lt 1 ?_
 refine Y2 ?_
 have ⟨e9,f,g⟩:=bnd H5
 refine Tj0 [(14,.bool e9)] [1,2] [] [0,1] ?_ ?_
 ·refine Z0 ?_
  refine Lw 10 f (λa=> ?_) λa=> ?_
  ·refine Z0 ?_
   cases a
   exact Eg0 [0,0] 0
  refine Z0 ?_
  cases a
  exact Eg0 [0,0] 0
 have ⟨i,j,k⟩:=bnd g
 refine Tj0 [] [1,2] [Ch.box g1 60 (Nm i)] [1] ?_ ?_
 ·refine Tb j (λb=> ?_) λb=> ?_
  ·refine Z0 ?_
   refine Lt 0 ?_
   refine Z0 ?_
   cases b
   exact Eg0 [0,0] 0
  refine Z0 ?_
  cases b
  exact Eg0 [0,0] 0
 refine Y2 ?_
 have ⟨l,m,n⟩:=bnd k
 refine Tj0 [(23,.bool l)] [1,2] [] [0,1] ?_ ?_
 ·refine Z0 ?_
  refine Lw 19 m (λc=> ?_) λc=> ?_
  ·refine Z0 ?_
   cases c
   exact Eg0 [0,0] 0
  refine Z0 ?_
  cases c
  exact Eg0 [0,0] 0
 have ⟨o,p,q⟩:=bnd n
 refine Tj0 [] [1,2] [Ch.box g1 60 (Nm o)] [1] ?_ ?_
 ·refine Tb p (λd=> ?_) λd=> ?_
  ·refine Z0 ?_
   refine Lt 0 ?_
   refine Z0 ?_
   cases d
   exact Eg0 [0,0] 0
  refine Z0 ?_
  cases d
  exact Eg0 [0,0] 0
 refine Z1 ?_
 refine Lt 1 ?_
 refine Z0 ?_
 cases q
 exact Eo () [] [] (.cell 0 rfl rfl rfl .nil)
end Go.Tw.X
namespace Go.Tw.X
open Go Go.Tw
variable {A0 A1 A2 A3 A4 A5 A6 A7 A8 : Option Addr} {C0 C1 C2 C3 C4 C5 C6 C7 C8 : Nat}
variable {N0 N1 N2 N3 N4 : Nat}
variable {M0 : Option Nat}
theorem wO {events:List cK} {picks:List Int} {part:Int} {r:Bool} (H:mq events picks part=some r):CT G 5 [.slice A0 events.length C0,.slice A1 picks.length C1,.int .i64 part] [] [Im.sl n9 A0 C0 events,Im.sl (Ty.int .i64) A1 C1 picks,Im.sl cL (some ⟨0,0,none⟩) 13 dC,Im.sl cL (some ⟨1,0,none⟩) 14 dK,Im.sl (Ty.int .u32) (some ⟨2,0,none⟩) 16 dA,Im.sl eQ (some ⟨3,0,none⟩) 8 bX] (λ_:Unit=> .bool r) (λh=>[]) (λh=>[]):=by
 delta mq at H
 refine Cf Go.Proofs.Tryz.func5 λK=> ?_
 refine Z3 ?_
 have ⟨r1,h2,H3⟩:=bnd H
 refine Lk [] [4] (Ao h2) λ⟨⟩=> ?_
 refine Z0 ?_
 refine Tb H3 (λH5=> ?_) λH5=> ?_
 ·refine Z1 ?_
  cases H5
  exact Eo1 () [] []
 refine Z1 ?_
 have ⟨r6,h7,H8⟩:=bnd H5
 refine Lk [] [] (x6 h7) λ⟨g9,j,⟨de,df⟩,⟨dg,dh⟩,⟨di,dj⟩,k,⟨dk,dl⟩,⟨hq,hr⟩,m,dm,⟨dn,dp⟩⟩=> ?_
 refine Z1 ?_
 have ⟨hs,dq,dr⟩:=bnd H8
 refine Lk [] [] (wz dq) λ⟨cd,⟨ds,dt⟩,⟨du,dv⟩,⟨dw,dx⟩,⟨dy,dz⟩,⟨d0,d1⟩,⟨d2,d3⟩,⟨d4,d5⟩⟩=> ?_
 have ⟨ht,d6,d7⟩:=bnd dr
 refine Lk [] [] (x8 d6) λ⟨bf,n,d8,⟨d9,ea⟩,⟨eb,ec⟩⟩=> ?_
 refine Z2 ?_
 refine Ly (Yl.pn rfl rfl rfl rfl rfl rfl) ?_
 refine Z0 ?_
 refine Ly (Yl.pn rfl rfl rfl rfl rfl rfl) ?_
 refine Z0 ?_
 refine Ly (Yl.pn rfl rfl rfl rfl rfl rfl) ?_
 refine Z0 ?_
 refine T.cond rfl (λh=>nomatch h) (λ_=> ?_)
 refine Z1 ?_
 refine L.jk [Im.sl aC none 0 []] (λA w _ _ f hf=>by rw [List.mem_singleton.1 hf]; exact Im.gF A w) ?_
 refine L.jk [Im.sl aD none 0 []] (λA w _ _ f hf=>by rw [List.mem_singleton.1 hf]; exact Im.gF A w) ?_
 refine La [] [1,0] (Ac.bs (ty:=bO) (xs:=[(aH.mk 0 0 0 0 0 (ByteArray.mk #[]) ([]:List aE) 0 0 ([]:List aJ))]) (.cons ((none,0),(none,0)) [0,1] rfl .nil) rfl rfl rfl rfl rfl rfl rfl) λed=> ?_
 refine Z3 ?_
 refine Z1 ?_
 have ⟨ce,ee,c4⟩:=bnd d7
 refine Tj (η:=(bA×aK×bB)×(Option Nat×(Option Addr×Nat)×(Option Addr×Nat)×(Option Addr×Nat)×(Option Addr×Nat)×(Option Addr×Nat)×(Option Addr×Nat)×(Option Addr×Nat)×(Option Addr×Nat)×(Option Addr×Nat)×(Option Addr×Nat)×(Option Addr×Nat)×(Option Addr×Nat)×(Option Addr×Nat)×Nat×(Option Addr×Nat))) (λh=>ce = .inl h.1) (λ_=>[]) [] (λh=>(λc=>(λbg bh bi bj bk bl bm bn bo bp bq br bt bu bv bw bx bz b0 b1 b2 b3 b4 b5 b6 b7 b8 b9 ca cb=>[Ch.mp Ty.str false bg c.1.slot.parts,Ch.aro bO 42 bu bv c.2.1.kept,Ch.arr Ty.bool 4 bz b0 c.2.1.message.there,Ch.arr (Ty.slice aD) 40 b1 b2 c.2.2.book.l,Ch.arr (Ty.int .i64) 3 b3 b4 c.2.2.book.bV,Ch.arr aD 112 b5 b6 c.2.2.book.begun,Ch.opt (c.2.2.parser.state == (3:Int)) (Ty.int .i64) 3 b7 b8 c.2.2.parser.order.bJ,Ch.arr aC 107 ca cb c.2.2.aV.g.l,Ch.box bf 65 (sH c.1 n bh bi bj bk),Ch.box n 86 (lD c.1.slot bg),Ch.box cd 83 (qt c.2.1 bl bm bn bo bp bq br bt bu bv bw bx bz b0),Ch.box g9 56 (sb c.2.2 j k m),Ch.box j 115 [.slice b1 c.2.2.book.l.length b2,.slice b3 c.2.2.book.bV.length b4,.slice b5 c.2.2.book.begun.length b6],Ch.box k 76 (mh c.2.2.parser b7 b8),Ch.box m 124 (cI c.2.2.aV b9),Ch.box b9 169 [.int .i64 c.2.2.aV.g.w,.slice ca c.2.2.aV.g.l.length cb]]) h.2.1 h.2.2.1.1 h.2.2.1.2 h.2.2.2.1.1 h.2.2.2.1.2 h.2.2.2.2.1.1 h.2.2.2.2.1.2 h.2.2.2.2.2.1.1 h.2.2.2.2.2.1.2 h.2.2.2.2.2.2.1.1 h.2.2.2.2.2.2.1.2 h.2.2.2.2.2.2.2.1.1 h.2.2.2.2.2.2.2.1.2 h.2.2.2.2.2.2.2.2.1.1 h.2.2.2.2.2.2.2.2.1.2 h.2.2.2.2.2.2.2.2.2.1.1 h.2.2.2.2.2.2.2.2.2.1.2 h.2.2.2.2.2.2.2.2.2.2.1.1 h.2.2.2.2.2.2.2.2.2.2.1.2 h.2.2.2.2.2.2.2.2.2.2.2.1.1 h.2.2.2.2.2.2.2.2.2.2.2.1.2 h.2.2.2.2.2.2.2.2.2.2.2.2.1.1 h.2.2.2.2.2.2.2.2.2.2.2.2.1.2 h.2.2.2.2.2.2.2.2.2.2.2.2.2.1.1 h.2.2.2.2.2.2.2.2.2.2.2.2.2.1.2 h.2.2.2.2.2.2.2.2.2.2.2.2.2.2.1.1 h.2.2.2.2.2.2.2.2.2.2.2.2.2.2.1.2 h.2.2.2.2.2.2.2.2.2.2.2.2.2.2.2.1 h.2.2.2.2.2.2.2.2.2.2.2.2.2.2.2.2.1 h.2.2.2.2.2.2.2.2.2.2.2.2.2.2.2.2.2) h.1) [] (λh=>(λc=>(λbg bh bi bj bk bl bm bn bo bp bq br bt bu bv bw bx bz b0 b1 b2 b3 b4 b5 b6 b7 b8 b9 ca cb=>[Im.sl aC bh bi c.1.bR.rows,Im.sl aD bj bk c.1.bR.begun,Im.sl aC bl bm c.2.1.current.rows,Im.sl aD bn bo c.2.1.current.begun,Im.sl aC bp bq c.2.1.aN.rows,Im.sl aD br bt c.2.1.aN.begun,Im.sl Ty.str bw bx c.2.1.message.parts]) h.2.1 h.2.2.1.1 h.2.2.1.2 h.2.2.2.1.1 h.2.2.2.1.2 h.2.2.2.2.1.1 h.2.2.2.2.1.2 h.2.2.2.2.2.1.1 h.2.2.2.2.2.1.2 h.2.2.2.2.2.2.1.1 h.2.2.2.2.2.2.1.2 h.2.2.2.2.2.2.2.1.1 h.2.2.2.2.2.2.2.1.2 h.2.2.2.2.2.2.2.2.1.1 h.2.2.2.2.2.2.2.2.1.2 h.2.2.2.2.2.2.2.2.2.1.1 h.2.2.2.2.2.2.2.2.2.1.2 h.2.2.2.2.2.2.2.2.2.2.1.1 h.2.2.2.2.2.2.2.2.2.2.1.2 h.2.2.2.2.2.2.2.2.2.2.2.1.1 h.2.2.2.2.2.2.2.2.2.2.2.1.2 h.2.2.2.2.2.2.2.2.2.2.2.2.1.1 h.2.2.2.2.2.2.2.2.2.2.2.2.1.2 h.2.2.2.2.2.2.2.2.2.2.2.2.2.1.1 h.2.2.2.2.2.2.2.2.2.2.2.2.2.1.2 h.2.2.2.2.2.2.2.2.2.2.2.2.2.2.1.1 h.2.2.2.2.2.2.2.2.2.2.2.2.2.2.1.2 h.2.2.2.2.2.2.2.2.2.2.2.2.2.2.2.1 h.2.2.2.2.2.2.2.2.2.2.2.2.2.2.2.2.1 h.2.2.2.2.2.2.2.2.2.2.2.2.2.2.2.2.2) h.1) ?_ ?_
 ·refine Yl0 ?_
  refine T.iS k7 46 ?_
  refine Tq (η:=(Option Addr×Nat)×(Option Addr×Nat)×(Option Addr×Nat)×(Option Addr×Nat)×(Option Addr×Nat)×(Option Addr×Nat)×(Option Addr×Nat)×Option Nat×(Option Addr×Nat)×(Option Addr×Nat)×(Option Addr×Nat)×(Option Addr×Nat)×(Option Addr×Nat)×(Option Addr×Nat)×Nat×(Option Addr×Nat)×(Option Addr×Nat)×(Option Addr×Nat)) (λa h=>(λaf ag ah ai p q s t aj ak al am an ao u x y z B C F I J M N O P Q R S aq ar a0 a1=>[(10,.slice aq a.2.2.2.1.length ar),(11,.slice a0 a.2.2.2.2.1.length a1),(12,.int .i64 a.2.2.2.2.2.1),(13,.int .i64 a.2.2.2.2.2.2)]) h.1.1 h.1.2 h.2.1.1 h.2.1.2 h.2.2.1.1 h.2.2.1.2 h.2.2.2.1.1 h.2.2.2.1.2 h.2.2.2.2.1.1 h.2.2.2.2.1.2 h.2.2.2.2.2.1.1 h.2.2.2.2.2.1.2 h.2.2.2.2.2.2.1.1 h.2.2.2.2.2.2.1.2 h.2.2.2.2.2.2.2.1 h.2.2.2.2.2.2.2.2.1.1 h.2.2.2.2.2.2.2.2.1.2 h.2.2.2.2.2.2.2.2.2.1.1 h.2.2.2.2.2.2.2.2.2.1.2 h.2.2.2.2.2.2.2.2.2.2.1.1 h.2.2.2.2.2.2.2.2.2.2.1.2 h.2.2.2.2.2.2.2.2.2.2.2.1.1 h.2.2.2.2.2.2.2.2.2.2.2.1.2 h.2.2.2.2.2.2.2.2.2.2.2.2.1.1 h.2.2.2.2.2.2.2.2.2.2.2.2.1.2 h.2.2.2.2.2.2.2.2.2.2.2.2.2.1.1 h.2.2.2.2.2.2.2.2.2.2.2.2.2.1.2 h.2.2.2.2.2.2.2.2.2.2.2.2.2.2.1 h.2.2.2.2.2.2.2.2.2.2.2.2.2.2.2.1.1 h.2.2.2.2.2.2.2.2.2.2.2.2.2.2.2.1.2 h.2.2.2.2.2.2.2.2.2.2.2.2.2.2.2.2.1.1 h.2.2.2.2.2.2.2.2.2.2.2.2.2.2.2.2.1.2 h.2.2.2.2.2.2.2.2.2.2.2.2.2.2.2.2.2.1 h.2.2.2.2.2.2.2.2.2.2.2.2.2.2.2.2.2.2) [0,1,7,8,9] (λa h=>(λaf ag ah ai p q s t aj ak al am an ao u x y z B C F I J M N O P Q R S aq ar a0 a1=>[Ch.aro bO 42 aj ak a.1.kept,Ch.arr Ty.bool 4 an ao a.1.message.there,Ch.mp Ty.str false u a.2.1.slot.parts,Ch.arr (Ty.slice aD) 40 C F a.2.2.1.book.l,Ch.arr (Ty.int .i64) 3 I J a.2.2.1.book.bV,Ch.arr aD 112 M N a.2.2.1.book.begun,Ch.opt (a.2.2.1.parser.state == (3:Int)) (Ty.int .i64) 3 O P a.2.2.1.parser.order.bJ,Ch.arr aC 107 R S a.2.2.1.aV.g.l,Ch.arr bO 42 aq ar a.2.2.2.1,Ch.arr k7 46 a0 a1 a.2.2.2.2.1,Ch.box bf 65 (sH a.2.1 n x y z B),Ch.box n 86 (lD a.2.1.slot u),Ch.box cd 83 (qt a.1 af ag ah ai p q s t aj ak al am an ao),Ch.box g9 56 (sb a.2.2.1 j k m),Ch.box j 115 [.slice C a.2.2.1.book.l.length F,.slice I a.2.2.1.book.bV.length J,.slice M a.2.2.1.book.begun.length N],Ch.box k 76 (mh a.2.2.1.parser O P),Ch.box m 124 (cI a.2.2.1.aV Q),Ch.box Q 169 [.int .i64 a.2.2.1.aV.g.w,.slice R a.2.2.1.aV.g.l.length S]]) h.1.1 h.1.2 h.2.1.1 h.2.1.2 h.2.2.1.1 h.2.2.1.2 h.2.2.2.1.1 h.2.2.2.1.2 h.2.2.2.2.1.1 h.2.2.2.2.1.2 h.2.2.2.2.2.1.1 h.2.2.2.2.2.1.2 h.2.2.2.2.2.2.1.1 h.2.2.2.2.2.2.1.2 h.2.2.2.2.2.2.2.1 h.2.2.2.2.2.2.2.2.1.1 h.2.2.2.2.2.2.2.2.1.2 h.2.2.2.2.2.2.2.2.2.1.1 h.2.2.2.2.2.2.2.2.2.1.2 h.2.2.2.2.2.2.2.2.2.2.1.1 h.2.2.2.2.2.2.2.2.2.2.1.2 h.2.2.2.2.2.2.2.2.2.2.2.1.1 h.2.2.2.2.2.2.2.2.2.2.2.1.2 h.2.2.2.2.2.2.2.2.2.2.2.2.1.1 h.2.2.2.2.2.2.2.2.2.2.2.2.1.2 h.2.2.2.2.2.2.2.2.2.2.2.2.2.1.1 h.2.2.2.2.2.2.2.2.2.2.2.2.2.1.2 h.2.2.2.2.2.2.2.2.2.2.2.2.2.2.1 h.2.2.2.2.2.2.2.2.2.2.2.2.2.2.2.1.1 h.2.2.2.2.2.2.2.2.2.2.2.2.2.2.2.1.2 h.2.2.2.2.2.2.2.2.2.2.2.2.2.2.2.2.1.1 h.2.2.2.2.2.2.2.2.2.2.2.2.2.2.2.2.1.2 h.2.2.2.2.2.2.2.2.2.2.2.2.2.2.2.2.2.1 h.2.2.2.2.2.2.2.2.2.2.2.2.2.2.2.2.2.2) [] (λa h=>(λaf ag ah ai p q s t aj ak al am an ao u x y z B C F I J M N O P Q R S aq ar a0 a1=>[Im.sl aC af ag a.1.current.rows,Im.sl aD ah ai a.1.current.begun,Im.sl aC p q a.1.aN.rows,Im.sl aD s t a.1.aN.begun,Im.sl Ty.str al am a.1.message.parts,Im.sl aC x y a.2.1.bR.rows,Im.sl aD z B a.2.1.bR.begun]) h.1.1 h.1.2 h.2.1.1 h.2.1.2 h.2.2.1.1 h.2.2.1.2 h.2.2.2.1.1 h.2.2.2.1.2 h.2.2.2.2.1.1 h.2.2.2.2.1.2 h.2.2.2.2.2.1.1 h.2.2.2.2.2.1.2 h.2.2.2.2.2.2.1.1 h.2.2.2.2.2.2.1.2 h.2.2.2.2.2.2.2.1 h.2.2.2.2.2.2.2.2.1.1 h.2.2.2.2.2.2.2.2.1.2 h.2.2.2.2.2.2.2.2.2.1.1 h.2.2.2.2.2.2.2.2.2.1.2 h.2.2.2.2.2.2.2.2.2.2.1.1 h.2.2.2.2.2.2.2.2.2.2.1.2 h.2.2.2.2.2.2.2.2.2.2.2.1.1 h.2.2.2.2.2.2.2.2.2.2.2.1.2 h.2.2.2.2.2.2.2.2.2.2.2.2.1.1 h.2.2.2.2.2.2.2.2.2.2.2.2.1.2 h.2.2.2.2.2.2.2.2.2.2.2.2.2.1.1 h.2.2.2.2.2.2.2.2.2.2.2.2.2.1.2 h.2.2.2.2.2.2.2.2.2.2.2.2.2.2.1 h.2.2.2.2.2.2.2.2.2.2.2.2.2.2.2.1.1 h.2.2.2.2.2.2.2.2.2.2.2.2.2.2.2.1.2 h.2.2.2.2.2.2.2.2.2.2.2.2.2.2.2.2.1.1 h.2.2.2.2.2.2.2.2.2.2.2.2.2.2.2.2.1.2 h.2.2.2.2.2.2.2.2.2.2.2.2.2.2.2.2.2.1 h.2.2.2.2.2.2.2.2.2.2.2.2.2.2.2.2.2.2) ((ds,dt),(du,dv),(dw,dx),(dy,dz),(d0,d1),(d2,d3),(d4,d5),d8,(d9,ea),(eb,ec),(de,df),(dg,dh),(di,dj),(dk,dl),dm,(dn,dp),((some ⟨ed,0,none⟩),1),(none,0)) [6,6,4,7,7,7,8,10,1,0,0,0,0,0,0,0,0,0] [4,5,6,7,8,2,3] ee ?_
  rintro k_ a ⟨⟨af,ag⟩,⟨ah,ai⟩,⟨p,q⟩,⟨s,t⟩,⟨aj,ak⟩,⟨al,am⟩,⟨an,ao⟩,u,⟨x,y⟩,⟨z,B⟩,⟨C,F⟩,⟨I,J⟩,⟨M,N⟩,⟨O,P⟩,Q,⟨R,S⟩,⟨aq,ar⟩,⟨a0,a1⟩⟩ ef eg eh c5
  refine Y2 ?_
  have ⟨ei,ej,ek⟩:=bnd eg
  refine Tj0 [(50,.bool ei)] [0,1,7,8,9,10,11,12,13] [] [10,11,12,13,14,15,16,17,0,1,2,3,4,5,6,7,8,9] ?_ ?_
  ·refine Z0 ?_
   refine Lw 47 ej (λcf=> ?_) λcf=> ?_
   ·refine Z0 ?_
    cases cf
    exact Eg0 [10,10,10,10,10,10,10,10,0,0,0,0,0,0,0,0,0,0] 0
   refine Z0 ?_
   cases cf
   exact Eg0 [10,10,10,10,10,10,10,10,0,0,0,0,0,0,0,0,0,0] 0
  refine Tb ek (λcg=> ?_) λcg=> ?_
  ·refine Z1 ?_
   refine Zl ?_
   refine Z1 ?_
   have ⟨em,ch,en⟩:=bnd cg
   refine L.addr 17 rfl (cJ ch) λhu hv eo=> ?_
   subst eo
   refine Ly (Yl.ia ch rfl rfl rfl rfl rfl rfl) ?_
   refine L.el 17 rfl (aU ch).2 ?_
   rintro _
   refine Lc 0 0 ?_
   refine Y2 ?_
   have ⟨ep,eq,er⟩:=bnd en
   refine Tj0 [(70,.bool ep)] [0,1,7,8,9,10,11,12,13,14] [] [0,1,2,3,4,5,6,7,8,9,10,11,12,13,14,15,16,17] ?_ ?_
   ·refine Z0 ?_
    refine Lw 61 eq (λci=> ?_) λci=> ?_
    ·refine Z0 ?_
     refine Lw 67 ci (λcj=> ?_) λcj=> ?_
     ·refine Z0 ?_
      cases cj
      exact Eg0 [0,0,0,0,0,0,0,0,0,0,0,0,0,0,0,0,0,0] 0
     refine Z0 ?_
     cases cj
     exact Eg0 [0,0,0,0,0,0,0,0,0,0,0,0,0,0,0,0,0,0] 0
    refine Z0 ?_
    cases ci
    exact Eg0 [0,0,0,0,0,0,0,0,0,0,0,0,0,0,0,0,0,0] 0
   have ⟨e,es,et⟩:=bnd er
   refine Tjh (η:=(Option Addr×Nat)×(Option Addr×Nat)×(Option Addr×Nat)×(Option Addr×Nat)×Nat×(Option Addr×Nat)) (λh=>(λU V W X Y Z aa ab ac ad ae=>[(12,.int .i64 e.1)]) h.1.1 h.1.2 h.2.1.1 h.2.1.2 h.2.2.1.1 h.2.2.1.2 h.2.2.2.1.1 h.2.2.2.1.2 h.2.2.2.2.1 h.2.2.2.2.2.1 h.2.2.2.2.2.2) [0,1,7,8,9,10,11,13,14] (λh=>(λU V W X Y Z aa ab ac ad ae=>[Ch.arr (Ty.slice aD) 40 U V e.2.book.l,Ch.arr (Ty.int .i64) 3 W X e.2.book.bV,Ch.arr aD 112 Y Z e.2.book.begun,Ch.opt (e.2.parser.state == (3:Int)) (Ty.int .i64) 3 aa ab e.2.parser.order.bJ,Ch.arr aC 107 ad ae e.2.aV.g.l,Ch.box g9 56 (sb e.2 j k m),Ch.box j 115 [.slice U e.2.book.l.length V,.slice W e.2.book.bV.length X,.slice Y e.2.book.begun.length Z],Ch.box k 76 (mh e.2.parser aa ab),Ch.box m 124 (cI e.2.aV ac),Ch.box ac 169 [.int .i64 e.2.aV.g.w,.slice ad e.2.aV.g.l.length ae]]) h.1.1 h.1.2 h.2.1.1 h.2.1.2 h.2.2.1.1 h.2.2.1.2 h.2.2.2.1.1 h.2.2.2.1.2 h.2.2.2.2.1 h.2.2.2.2.2.1 h.2.2.2.2.2.2) [0,1,2,8,9,10,16,17] (λ_=>[]) ?_ ?_
   ·refine Tb es (λck=> ?_) λck=> ?_
    ·refine Z1 ?_
     have ⟨hw,cl,eu⟩:=bnd ck
     refine L.addr 17 rfl (cJ cl) λhx h0 ev=> ?_
     subst ev
     refine Ly (Yl.ia cl rfl rfl rfl rfl rfl rfl) ?_
     refine L.el 17 rfl (aU cl).2 ?_
     rintro _
     refine Lc 0 0 ?_
     have ⟨h1,ew,ex⟩:=bnd eu
     refine Lk [] [] (D1 ew) λ⟨⟩=> ?_
     have ⟨h3,ey,ez⟩:=bnd ex
     refine Lk [3,3,9,9,9,3,8,3,3,6] [20,21,22,23] (xB ey) λ⟨⟨e0,e1⟩,⟨e2,e3⟩,⟨e4,e5⟩,⟨e6,e7⟩,⟨h4,h5⟩,e8,⟨e9,fa⟩⟩=> ?_
     refine Z0 ?_
     cases ez
     exact Eg ((e0,e1),(e2,e3),(e4,e5),(e6,e7),e8,(e9,fa)) trivial [2,2,2,3,5,0,0,0,0,0,0,0,0,0,0,0,0,0] [] 1
    refine Z0 ?_
    cases ck
    exact Eg ((C,F),(I,J),(M,N),(O,P),Q,(R,S)) trivial [11,11,11,11,11,3,3,3,3,3,0,0,0,0,0,0,0,0] [] 0
   rintro ⟨⟨U,V⟩,⟨W,X⟩,⟨Y,Z⟩,⟨aa,ab⟩,ac,⟨ad,ae⟩⟩
   refine Z2 ?_
   have ⟨h6,fb,fc⟩:=bnd et
   refine Lk [5,5,0,0,0,2,0,1,1,0] [] (lV fb) λ⟨⟨h8,h9⟩,⟨ib,ic⟩,⟨id,ie⟩⟩=> ?_
   have ⟨ig,fd,fe⟩:=bnd fc
   refine Lk [12,12,12] [3,4,5,6,7,0,1] (oS fd) λ⟨⟨cm,cn⟩,⟨co,cp⟩⟩=> ?_
   refine Z0 ?_
   have ⟨d,ff,fg⟩:=bnd fe
   refine Tjh (η:=(Option Addr×Nat)) (λh=>(λa2 a3=>[(10,.slice a2 d.1.length a3)]) h.1 h.2) [0,1,7,8,9,11,12,13,14] (λh=>(λa2 a3=>[Ch.arr bO 42 a2 a3 d.1,Ch.arr (Ty.slice aD) 40 U V d.2.book.l,Ch.arr (Ty.int .i64) 3 W X d.2.book.bV,Ch.arr aD 112 Y Z d.2.book.begun,Ch.opt (d.2.parser.state == (3:Int)) (Ty.int .i64) 3 aa ab d.2.parser.order.bJ,Ch.arr aC 107 ad ae d.2.aV.g.l,Ch.box g9 56 (sb d.2 j k m),Ch.box j 115 [.slice U d.2.book.l.length V,.slice W d.2.book.bV.length X,.slice Y d.2.book.begun.length Z],Ch.box k 76 (mh d.2.parser aa ab),Ch.box m 124 (cI d.2.aV ac),Ch.box ac 169 [.int .i64 d.2.aV.g.w,.slice ad d.2.aV.g.l.length ae]]) h.1 h.2) [0,13,14,1,2,15,17] (λ_=>[]) ?_ ?_
   ·refine Tb ff (λcq=> ?_) λcq=> ?_
    ·refine Z0 ?_
     have ⟨fh,fi,fj⟩:=bnd cq
     refine Lk [3,3,3,3,3,3,3,3,3,3] [] (lV fi) λ⟨⟨fk,fl⟩,⟨fm,fn⟩,⟨ih,ii⟩⟩=> ?_
     refine La [] [0,1] (Ac.bs (ty:=bO) (xs:=[fh.1]) (.cons ((fk,fl),(fm,fn)) [0,1] rfl .nil) rfl rfl rfl rfl rfl rfl rfl) λij=> ?_
     refine L.frz 0 rfl ?_
     have ⟨_,fo,fp⟩:=bnd fj
     refine La [16] [0] (Ac.ap (ty:=bO) fo rfl rfl rfl rfl rfl rfl rfl) ?_
     rintro ⟨fq,fr⟩
     refine Z0 ?_
     cases fp
     exact Eg (fq,fr) trivial [0,2,2,2,3,5,0,0,0,0,0,0,2,2,0,0,0,0] [] 3
    refine Z0 ?_
    cases cq
    exact Eg (aq,ar) trivial [16,5,5,5,6,8,3,3,3,3,3,0,2,2,0,0,0,0] [] 0
   rintro ⟨a2,a3⟩
   refine Z1 ?_
   have ⟨c6,fs,ft⟩:=bnd fg
   refine Lk [11,13,13] [0,1,2,3,4,28] (oT fs) λ⟨⟨ik,il⟩,⟨fu,fv⟩,⟨cr,cs⟩,⟨ct,cu⟩⟩=> ?_
   refine L.frz 0 rfl ?_
   have ⟨_,fw,fx⟩:=bnd ft
   refine La [17] [0] (Ac.ap (ty:=k7) fw rfl rfl rfl rfl rfl rfl rfl) ?_
   rintro ⟨fy,fz⟩
   refine Z1 ?_
   have ⟨im,f0,f1⟩:=bnd fx
   refine Lk [15,15,15] [19,20] (oZ f0) λ⟨⟩=> ?_
   refine Z2 ?_
   have ⟨au,f2,f3⟩:=bnd f1
   refine Tjh (η:=Option Nat×(Option Addr×Nat)×(Option Addr×Nat)) (λ_=>[]) [0,1,7,8,9,10,11,12,13,14,15] (λh=>(λa4 a5 a6 a7 a8=>[Ch.mp Ty.str false a4 au.slot.parts,Ch.box bf 65 (sH au n a5 a6 a7 a8),Ch.box n 86 (lD au.slot a4)]) h.1 h.2.1.1 h.2.1.2 h.2.2.1 h.2.2.2) [4,13,14,15,16,17,3,5,6,7,8,9,10,11,12] (λh=>(λa4 a5 a6 a7 a8=>[Im.sl aC a5 a6 au.bR.rows,Im.sl aD a7 a8 au.bR.begun]) h.1 h.2.1.1 h.2.1.2 h.2.2.1 h.2.2.2) ?_ ?_
   ·refine Yl0 ?_
    refine Tq (η:=Option Nat×(Option Addr×Nat)×(Option Addr×Nat)) (λi h=>(λav aw ax ay az=>[(16,.int .i64 i.2)]) h.1 h.2.1.1 h.2.1.2 h.2.2.1 h.2.2.2) [0,1,7,8,9,10,11,12,13,14,15] (λi h=>(λav aw ax ay az=>[Ch.mp Ty.str false av i.1.slot.parts,Ch.box bf 65 (sH i.1 n aw ax ay az),Ch.box n 86 (lD i.1.slot av)]) h.1 h.2.1.1 h.2.1.2 h.2.2.1 h.2.2.2) [4,13,14,15,16,17,3,5,6,7,8,9,10,11,12] (λi h=>(λav aw ax ay az=>[Im.sl aC aw ax i.1.bR.rows,Im.sl aD ay az i.1.bR.begun]) h.1 h.2.1.1 h.2.1.2 h.2.2.1 h.2.2.2) (u,(x,y),(z,B)) [2,0,0,1,9,9,9,9,9,0,0,0,0,0,0,0,0,0] [19,20] f2 ?_
    rintro k_ i ⟨av,⟨aw,ax⟩,⟨ay,az⟩⟩ io f4 f5 f6
    refine Y2 ?_
    have ⟨f7,f8,f9⟩:=bnd f4
    refine Tj0 [(102,.bool f7)] [0,1,7,8,9,10,11,12,13,14,15,16] [] [1,2,3,4,5,6,7,8,0,9,10,11,12,13,14,15,16,17] ?_ ?_
    ·refine Z0 ?_
     refine Lw 98 f8 (λcv=> ?_) λcv=> ?_
     ·refine Z0 ?_
      cases cv
      exact Eg0 [1,1,1,1,1,1,1,1,0,0,0,0,0,0,0,0,0,0] 0
     refine Z0 ?_
     cases cv
     exact Eg0 [1,1,1,1,1,1,1,1,0,0,0,0,0,0,0,0,0,0] 0
    refine Tb f9 (λcw=> ?_) λcw=> ?_
    ·refine Z1 ?_
     refine Zl ?_
     have ⟨_,ga,gb⟩:=bnd cw
     refine Ly (Yl.rem (b:=((a.2.2.2.2.1++c6.1).length:Int)) ga rfl rfl rfl) ?_
     have ⟨gc,cx,gd⟩:=bnd gb
     refine L.mj 9 rfl (cJ cx) λip ge=> ?_
     subst ge
     refine Ly (Yl.ia cx rfl rfl rfl rfl rfl rfl) ?_
     refine La [9] [] (Ac.lo (((IntKind.i64.wrap ((Go.bits .and .i64 em 65535)+(IntKind.i64.wrap (7*i.2)))).tmod ((a.2.2.2.2.1++c6.1).length:Int)).toNat) 0 (v:=(λh:(Option Addr×Nat)=>(λc7 c8=> .agg (HU gc c7 c8).toArray) h.1 h.2)) (aU cx).2 rfl rfl rfl (λ_=>rfl)) ?_
     rintro ⟨c7,c8⟩
     have ⟨iq,gf,gg⟩:=bnd gd
     refine Lk [1,1,7] [1,2,0,37] (pX gf) λ⟨gh,⟨gi,gj⟩,⟨gk,gl⟩⟩=> ?_
     refine Z0 ?_
     cases gg
     exact Eg (_,(gh,(gi,gj),(gk,gl))) (f5 _ rfl) [2,0,0,1,1,1,1,1,1,0,0,0,0,0,0,0,0,0] [0,1] 5
    refine Z0 ?_
    cases cw
    have hb:=f6 _ rfl
    subst au
    exact Eg (av,(aw,ax),(ay,az)) trivial [8,0,0,0,0,0,0,0,0,0,0,0,0,0,0,0,0,0] [0,1] 2
   rintro ⟨a4,⟨a5,a6⟩,⟨a7,a8⟩⟩
   refine Z2 ?_
   have ⟨o,gm,gn⟩:=bnd f3
   refine Tjh (η:=(Option Addr×Nat)×(Option Addr×Nat)×(Option Addr×Nat)) (λ_=>[]) [0,1,7,8,9,10,11,12,13,15] (λh=>(λa9 ba bb bc bd be=>[Ch.aro bO 42 bd be o.kept,Ch.arr Ty.bool 4 ct cu o.message.there,Ch.box cd 83 (qt o cm cn co cp a9 ba bb bc bd be cr cs ct cu)]) h.1.1 h.1.2 h.2.1.1 h.2.1.2 h.2.2.1 h.2.2.2) [1,2,4,5,6,7,8,0,9,12,13,14,15,16,17] (λh=>(λa9 ba bb bc bd be=>[Im.sl aC cm cn o.current.rows,Im.sl aD co cp o.current.begun,Im.sl aC a9 ba o.aN.rows,Im.sl aD bb bc o.aN.begun,Im.sl Ty.str cr cs o.message.parts]) h.1.1 h.1.2 h.2.1.1 h.2.1.2 h.2.2.1 h.2.2.2) ?_ ?_
   ·refine Tb gm (λcy=> ?_) λcy=> ?_
    ·refine Z1 ?_
     have ⟨ir,go,gp⟩:=bnd cy
     refine Lk [1,1,0] [0,1] (qq go) λ⟨it,iu⟩=> ?_
     refine Ll λiv=> ?_
     refine Lt 0 ?_
     refine Z0 ?_
     refine Td [] [0,0,0,0,1,1,1,1,1,1,3,3,3,3,3,3] mo ?_
     refine Dq 0 ?_
     refine Db 1 0 ?_
     refine Db 3 0 ?_
     refine Dq 5 ?_
     refine Db 6 0 ?_
     have ⟨iw,gq,gr⟩:=bnd gp
     refine Dk [] [0] (oY gq) λ⟨⟩=> ?_
     have ⟨ix,gs,gt⟩:=bnd gr
     refine Dk [] [0] (oY gs) λ⟨⟩=> ?_
     have ⟨iy,gu,gv⟩:=bnd gt
     refine Dk [0,0,0] [4,5,6,7,8] (uG gu) λ⟨⟨gw,gx⟩,⟨gy,gz⟩,⟨g0,g1⟩⟩=> ?_
     refine Dn ?_
     cases gv
     exact Eg ((gw,gx),(gy,gz),(g0,g1)) trivial [17,17,16,1,1,2,2,2,2,2,1,1,1,1,1,1,1,1] [0,1,2,3,4] 6
    refine Z0 ?_
    cases cy
    exact Eg ((p,q),(s,t),(fu,fv)) trivial [10,10,3,1,1,1,1,1,1,1,0,0,0,0,0,0,0,0] [3,4,5,6,7] 0
   rintro ⟨⟨a9,ba⟩,⟨bb,bc⟩,⟨bd,be⟩⟩
   refine Z1 ?_
   have ⟨iz,g2,g3⟩:=bnd gn
   refine Lk [3,3,8] [5,6] (pY g2) λ⟨⟨i0,i1⟩,⟨i2,i3⟩⟩=> ?_
   refine Ll λi4=> ?_
   refine Lt 0 ?_
   refine Z3 ?_
   have ⟨c9,g4,g5⟩:=bnd g3
   refine Tj0 [(19,.bool c9)] [0,1,7,8,9,10,11,12,13,15] [] [0,1,2,6,7,8,9,10,11,3,4,5,12,13,14,15,16,17,18] ?_ ?_
   ·refine Yl0 ?_
    refine Tq (η:=Unit) (λcc h=>[(19,.bool cc.2),(134,.int .i64 cc.1)]) [0,1,7,8,9,10,11,12,13,15,18,132,133] (λ_ _=>[]) [0,1,2,6,7,8,9,10,11,3,4,5,12,13,14,15,16,17,18] (λ_ _=>[]) () [0,0,0,3,3,3,3,3,3,0,0,0,0,0,0,0,0,0,0] [] g4 ?_
    rintro k_ cc ⟨⟩ i5 g6 g7 g8
    refine Y2 ?_
    refine Tb g6 (λcz=> ?_) λcz=> ?_
    ·refine Y1 ?_
     have ⟨ha,hc,hd⟩:=bnd cz
     refine Tj0 [(19,.bool ha)] [0,1,7,8,9,10,11,12,13,15,18,132,133,134] [] [0,1,2,3,4,5,6,7,8,9,10,11,12,13,14,15,16,17,18] ?_ ?_
     ·refine Zl ?_
      refine Z1 ?_
      have ⟨he,c0,hg⟩:=bnd hc
      refine L.mj 13 rfl (cJ c0) λi6 hh=> ?_
      subst hh
      refine Ly (Yl.ia c0 rfl rfl rfl rfl rfl rfl) ?_
      refine La [13] [] (Ac.lo cc.1.toNat 0 (v:=(λh:(Option Addr×Nat)×(Option Addr×Nat)=>(λda db dc dd=> .agg (k8 he da db dc dd).toArray) h.1.1 h.1.2 h.2.1 h.2.2)) (aU c0).2 rfl rfl rfl (λ_=>rfl)) ?_
      rintro ⟨⟨da,db⟩,⟨dc,dd⟩⟩
      refine Ll λi7=> ?_
      refine Lt 0 ?_
      refine Z0 ?_
      refine Lw 139 hg (λc1=> ?_) λc1=> ?_
      ·refine Z0 ?_
       cases c1
       exact Eg0 [2,2,2,2,2,2,2,2,2,2,2,2,2,1,1,1,1,1,1] 2
      refine Z0 ?_
      have ⟨i8,hi,hj⟩:=bnd c1
      refine Lk [] [0,1,2,3] (rz hi) λ⟨⟩=> ?_
      refine Z0 ?_
      cases hj
      exact Eg0 [2,2,2,2,2,2,2,2,2,2,2,2,2,1,1,1,1,1,1] 2
     refine Z0 ?_
     cases hd
     exact Eg (_,()) (g7 _ rfl) [0,0,0,0,0,0,0,0,0,0,0,0,0,0,0,0,0,0,0] [] 0
    refine Z0 ?_
    cases cz
    have hb:=g8 _ rfl
    subst c9
    exact Eg0 [0,0,0,0,0,0,0,0,0,0,0,0,0,0,0,0,0,0,0] 0
   refine Y1 ?_
   have ⟨hk,hl,hm⟩:=bnd g5
   refine Tj0 [(152,.bool hk)] [0,1,7,8,9,10,11,12,13] [] [0,1,2,3,4,5,6,7,8,9,10,11,12,13,14,15,16,17,18] ?_ ?_
   ·refine Z0 ?_
    have ⟨i9,hn,ho⟩:=bnd hl
    refine Lk [1,1,7] [7,8] (oZ hn) λ⟨⟩=> ?_
    refine Z0 ?_
    refine Lw 149 ho (λc2=> ?_) λc2=> ?_
    ·refine Z0 ?_
     cases c2
     exact Eg0 [3,0,0,1,1,1,1,1,1,0,0,0,0,0,0,0,0,0,0] 0
    refine Z0 ?_
    cases c2
    exact Eg0 [3,0,0,1,1,1,1,1,1,0,0,0,0,0,0,0,0,0,0] 0
   refine Tb hm (λc3=> ?_) λc3=> ?_
   ·refine Z1 ?_
    obtain ⟨ja,hz,hp⟩:=fH c3
    subst ef
    have hb:=c5 _ rfl
    subst ce
    obtain rfl:=(sm c4).symm
    refine Z0 ?_
    cases hp
    exact Eo1 () [] []
   refine Z0 ?_
   cases c3
   exact Eg (_,((cm,cn),(co,cp),(a9,ba),(bb,bc),(bd,be),(cr,cs),(ct,cu),a4,(a5,a6),(a7,a8),(U,V),(W,X),(Y,Z),(aa,ab),ac,(ad,ae),(a2,a3),(fy,fz))) (eh _ rfl) [10,10,9,11,11,11,11,11,10,9,1,1,1,1,1,1,1,1] [2,3,4,5,6,7,8] 30
  refine Z0 ?_
  cases cg
  have hb:=c5 _ rfl
  subst ce
  exact Eg (_,(u,(x,y),(z,B),(af,ag),(ah,ai),(p,q),(s,t),(aj,ak),(al,am),(an,ao),(C,F),(I,J),(M,N),(O,P),Q,(R,S))) rfl [10,8,8,8,8,8,8,8,0,0,0,0,0,0,0,0] [5,6,0,1,2,3,4] 7
 rintro ⟨c,⟨bg,⟨bh,bi⟩,⟨bj,bk⟩,⟨bl,bm⟩,⟨bn,bo⟩,⟨bp,bq⟩,⟨br,bt⟩,⟨bu,bv⟩,⟨bw,bx⟩,⟨bz,b0⟩,⟨b1,b2⟩,⟨b3,b4⟩,⟨b5,b6⟩,⟨b7,b8⟩,b9,⟨ca,cb⟩⟩⟩ hy
 subst hy
 refine Z1 ?_
 cases c4
 exact Eo1 () [] []
end Go.Tw.X
namespace Go.Tw.X
open Go Go.Tw
theorem PA {P:Program} {α β:Type} {t:TypeId} {ty:Ty α} {ty':Ty β} {wf:α->Prop} {wf':β->Prop} (h:Opn P t ty wf) (g:α->β) (gh:ty.Hid->ty'.Hid) (h1: ∀ y hh,ty'.cs (g y) (gh hh)=ty.cs y hh) (h2: ∀ y hh,ty'.im (g y) (gh hh)=ty.im y hh) (h3: ∀ y,wf y->wf' (g y)):Opn P t ty' wf':=Opn.to g gh h h1 h2 h3
theorem Rh:Opn Go.Proofs.Tryz.prog 9 Ty.str (λs:ByteArray=>s.size<=maxLen):=Opn.str (by kernel_rfl)
theorem KV:Opn Go.Proofs.Tryz.prog 3 (Ty.int .i64) (inK .i64):=Opn.int (by kernel_rfl)
theorem QL:Opn Go.Proofs.Tryz.prog 23 (Ty.slice (Ty.int .i64)) (λxs:List Int=> ∀ x∈xs,(inK .i64) x):=Opn.slice (by kernel_rfl) KV (by kernel_rfl) (by decide)
theorem QM:Opn Go.Proofs.Tryz.prog 60 n9 pg:=PA (β:=cK) (ty':=n9) (wf':=pg) (Opn.struct (fs:=[(3,0),(9,1),(3,2),(3,3)]) (by kernel_rfl) (by kernel_rfl) (.cons KV (by kernel_rfl) (.cons Rh (by kernel_rfl) (.cons KV (by kernel_rfl) (.cons KV (by kernel_rfl) .nil))))) (λy=>⟨y.1,y.2.1,y.2.2.1,y.2.2.2.1⟩) (λh=>()) (λ_ _=>rfl) (λ_ _=>rfl) (λy h=>h)
theorem QN:Opn Go.Proofs.Tryz.prog 58 (Ty.slice n9) (λxs:List cK=> ∀ x∈xs,pg x):=Opn.slice (by kernel_rfl) QM (by kernel_rfl) (by decide)
end Go.Tw.X

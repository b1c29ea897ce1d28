import Derived.Test.YthecomompebjaaaGreatDoorWk1
import Derived.Test.YthecomompebjaaaGreatDoorFw2
set_option maxHeartbeats 2000000
set_option linter.unusedVariables false
set_option linter.unusedSimpArgs false
set_option maxRecDepth 10000
namespace Go.Tw.X
open Go Go.Tw
variable {A0 A1 A2 A3 A4 A5 A6 A7 A8 A9 A10 A11 A12 A13 A14 A15 A16 A17 A18 A19 A20 A21 A22 : Option Addr} {C0 C1 C2 C3 C4 C5 C6 C7 C8 C9 C10 C11 C12 C13 C14 C15 C16 C17 C18 C19 C20 C21 C22 : Nat}
variable {N0 N1 N2 N3 N4 N5 N6 : Nat}
theorem jH {r_:aG} {r:(List aH)} (H:fE r_=some r):CT G 277 [.agg #[.slice A0 r_.cells.length C0,.bool r_.wrapped]] [] [Im.sl aT A0 C0 r_.cells] (λh:(Option Addr×Nat)=> .slice h.1 r.length h.2) (λh=>[Ch.arr aT 235 h.1 h.2 r]) (λh=>[]):=by
 delta fE at H
 refine Cf Go.Proofs.Tryz.func277 λK=> ?_
 refine Z1 ?_
 refine Lx λg1=> ?_
 refine Z1 ?_
 have ⟨r2,h3,H4⟩:=bnd H
 refine Lk [] [0] (kB A0 C0 h3) λ⟨a5,c6⟩=> ?_
 refine Z0 ?_
 cases H4
 exact Eo1 (a5,c6) [0] []
theorem zY {l:List aH} {i:Int} {r:Bool} (H:lI l i=some r):CT G 305 [.slice A0 l.length C0,.int .i64 i] [] [Im.sl aT A0 C0 l] (λ_:Unit=> .bool r) (λh=>[]) (λh=>[]):=by
 delta lI at H
 refine Cf Go.Proofs.Tryz.func305 λK=> ?_
 refine Z3 ?_
 have ⟨x1,h2,H3⟩:=bnd H
 refine L.addr 0 rfl (cQ h2) λb4 o5 e6=> ?_
 subst e6
 refine Ly (Yl.ia h2 rfl rfl rfl rfl rfl rfl) ?_
 refine L.el 0 rfl (aY h2).2 ?_
 rintro _
 refine Z0 ?_
 refine Lc 0 2 ?_
 refine Zl ?_
 refine Z1 ?_
 refine Tb H3 (λa=> ?_) λa=> ?_
 ·refine Y1 ?_
  have ⟨j,k,m⟩:=bnd a
  refine Tj0 [(4,.bool j)] [] [] [] ?_ ?_
  ·refine Z0 ?_
   refine Lw 17 k (λb=> ?_) λb=> ?_
   ·refine Z0 ?_
    cases b
    exact Eg0 [] 0
   refine Z0 ?_
   have ⟨t,f,n⟩:=bnd b
   refine Ly (Yl.ia f rfl rfl rfl rfl rfl rfl) ?_
   refine L.el 1 rfl (aY f).2 ?_
   rintro _
   refine Z0 ?_
   refine Lc 0 2 ?_
   refine Z0 ?_
   cases n
   exact Eg0 [] 1
  refine Z0 ?_
  cases m
  exact Eo1 () [] []
 refine Z1 ?_
 refine Tb a (λc=> ?_) λc=> ?_
 ·refine Y1 ?_
  have ⟨o,p,q⟩:=bnd c
  refine Tj0 [(4,.bool o)] [] [] [] ?_ ?_
  ·refine Z0 ?_
   refine Lw 30 p (λd=> ?_) λd=> ?_
   ·refine Z0 ?_
    cases d
    exact Eg0 [] 0
   refine Z0 ?_
   have ⟨u,g,s⟩:=bnd d
   refine Ly (Yl.ia g rfl rfl rfl rfl rfl rfl) ?_
   refine L.el 1 rfl (aY g).2 ?_
   rintro _
   refine Z0 ?_
   refine Lc 0 2 ?_
   refine Z0 ?_
   cases s
   exact Eg0 [] 1
  refine Z0 ?_
  cases q
  exact Eo1 () [] []
 refine Z1 ?_
 refine Tb c (λe=> ?_) λe=> ?_
 ·refine Z1 ?_
  cases e
  exact Eo1 () [] []
 refine Z1 ?_
 cases e
 exact Eo1 () [] []
theorem lD {l:List aH} {r:aG} (H:fz l=some r):CT G 278 [.slice A0 l.length C0] [Ch.arr aT 235 A0 C0 l] [] (λ_:Unit=> .agg #[.slice A0 r.cells.length C0,.bool r.wrapped]) (λh=>[]) (λh=>[Im.sl aT A0 C0 r.cells]):=by
 delta fz at H
 refine Cf Go.Proofs.Tryz.func278 λK=> ?_
 refine Z1 ?_
 refine Ll λg1=> ?_
 refine Z2 ?_
 have ⟨b,j,k⟩:=bnd H
 refine Tj0 [(0,.slice A0 b.length C0)] [2] [Ch.arr aT 235 A0 C0 b] [0] ?_ ?_
 ·refine Yl0 ?_
  refine Tq (η:=Unit) (λa h=>[(0,.slice A0 a.1.length C0),(6,.int .i64 a.2)]) [2,5] (λa h=>[Ch.arr aT 235 A0 C0 a.1]) [0] (λ_ _=>[]) () [1,0] [] j ?_
  rintro k_ a ⟨⟩ B m n o
  refine Y2 ?_
  refine Tb m (λc=> ?_) λc=> ?_
  ·refine Y1 ?_
   have ⟨f,p,q⟩:=bnd c
   refine Tj0 [(0,.slice A0 f.length C0)] [2,5,6] [Ch.arr aT 235 A0 C0 f] [1] ?_ ?_
   ·refine Zl ?_
    refine Z2 ?_
    have ⟨C,s,t⟩:=bnd p
    refine L.br (Ac.call (zY s) rfl rfl rfl rfl) (Bw.ch 0 rfl (Bw.nil)) rfl rfl rfl ?_
    intro _
    refine Z0 ?_
    refine Tb t (λd=> ?_) λd=> ?_
    ·refine Z0 ?_
     have ⟨u,e,w⟩:=bnd d
     refine L.lN 0 rfl (cQ e) λF x=> ?_
     subst x
     refine Ly (Yl.ia e rfl rfl rfl rfl rfl rfl) ?_
     refine Z0 ?_
     refine Ly (Yl.lo (v:= .int .i64 u.aO) 0 a.2.toNat 1 (aY e).2 rfl rfl rfl rfl (λ_=>rfl)) ?_
     have ⟨g,y,z⟩:=bnd w
     refine Lk [] [] (nJ y) λ⟨⟩=> ?_
     have ⟨I,i,A⟩:=bnd z
     refine Ly (Yl.ia i rfl rfl rfl rfl rfl rfl) ?_
     refine La [0] [] (Ac.se 0 g (aY i).2 rfl rfl rfl rfl rfl rfl (λ_=>⟨(),rfl,[],rfl⟩)) λ_=> ?_
     refine L.sl 0 (k':=(a.1.set a.2.toNat g).length) (List.length_set ..) rfl ?_
     refine Z0 ?_
     cases A
     exact Eg0 [0,0] 0
    refine Z0 ?_
    cases d
    exact Eg0 [0,0] 0
   refine Z0 ?_
   cases q
   exact Eg (_,()) (n _ rfl) [0,0] [] 0
  refine Z0 ?_
  cases c
  have hb:=o _ rfl
  subst b
  exact Eg0 [0,0] 0
 refine Z1 ?_
 refine Lt 1 ?_
 refine Z0 ?_
 refine E.frz 1 rfl ?_
 cases k
 exact Eo () [] [0] (.cell 0 rfl rfl rfl .nil)
theorem vw {r_:aG} {w:Int} {r:aG} (H:jj r_ w=some r):CT G 225 [.agg #[.slice A0 r_.cells.length C0,.bool r_.wrapped],.int .i64 w] [] [Im.sl aT A0 C0 r_.cells] (λh:(Option Addr×Nat)=> .agg #[.slice h.1 r.cells.length h.2,.bool r.wrapped]) (λh=>[]) (λh=>[Im.sl aT h.1 h.2 r.cells]):=by
 delta jj at H
 refine Cf Go.Proofs.Tryz.func225 λK=> ?_
 refine Z1 ?_
 refine Lx λg1=> ?_
 refine Ll λg2=> ?_
 refine Z1 ?_
 have ⟨r3,h4,H5⟩:=bnd H
 refine Lk [] [] (oF h4) λ⟨⟩=> ?_
 refine Z1 ?_
 have ⟨r6,h7,H8⟩:=bnd H5
 refine Lk [] [0] (jH h7) λ⟨a9,c⟩=> ?_
 refine Z2 ?_
 refine Tb H8 (λb=> ?_) λb=> ?_
 ·refine Z1 ?_
  refine Lt 1 ?_
  refine Z0 ?_
  refine E.frz 1 rfl ?_
  cases b
  exact Eo (a9,c) [] [0] (.cell 0 rfl rfl rfl .nil)
 refine Y1 ?_
 refine Td [13] [1,1] mo ?_
 refine Dq 0 ?_
 refine Dq 1 ?_
 refine Dq 2 ?_
 refine Dq 3 ?_
 refine Dq 4 ?_
 refine Dq 6 ?_
 refine Dq 7 ?_
 refine Dq 8 ?_
 refine Dq 9 ?_
 refine DF.of rfl ?_
 have ⟨o,d,e⟩:=bnd b
 refine DF.add _ (FSp.ac 10 [] (Ac.frz (Ac.call (od d) rfl rfl rfl rfl)) rfl rfl rfl rfl rfl) rfl ?_
 refine DF.step 5 rfl rfl rfl rfl rfl ?_
 have ⟨_,f,g⟩:=bnd e
 refine DFp.a [0] [] (Ac.rso f rfl rfl rfl rfl rfl rfl rfl) rfl rfl rfl rfl rfl rfl rfl rfl ?_
 intro _
 refine DF.step 11 rfl rfl rfl rfl rfl ?_
 refine DFp.use 0 rfl rfl rfl ?_
 rintro ⟨p,q⟩
 have ⟨_,i,j⟩:=bnd g
 refine DFp.a [0] [0] (Ac.ap (ty:=aT) i rfl rfl rfl rfl rfl rfl rfl) rfl rfl rfl rfl rfl rfl rfl rfl ?_
 rintro ⟨k,l⟩
 refine DF.step 12 rfl rfl rfl rfl rfl ?_
 have ⟨s,m,n⟩:=bnd j
 refine DFp.a [0] [] (Ac.call (lD m) rfl rfl rfl rfl) rfl rfl rfl rfl rfl rfl rfl rfl ?_
 rintro ⟨⟩
 refine DF.step 13 rfl rfl rfl rfl rfl ?_
 refine DFp.al [0] [] (Ac.stb rfl rfl rfl rfl rfl rfl) rfl rfl rfl rfl rfl rfl rfl ?_
 intro _
 refine DF.fin rfl rfl rfl rfl rfl ?_
 refine DFe.nil ?_
 refine Z0 ?_
 cases n
 exact Eo (k,l) [] [0] (.cell 0 rfl rfl rfl .nil)
theorem jI {g:aZ} {y:Int} {r_:aG} {r:Bool×aZ} (H:eR g y r_=some r):CT G 185 [.pointer (some ⟨N0,0,none⟩),.int .i64 y,.agg #[.slice A1 r_.cells.length C1,.bool r_.wrapped]] [Ch.box N0 296 [.int .i64 g.w,.slice A0 g.l.length C0],Ch.arr aD 232 A0 C0 g.l] [Im.sl aT A1 C1 r_.cells] (λ_:Unit=> .bool r.1) (λh=>[Ch.box N0 296 [.int .i64 r.2.w,.slice A0 r.2.l.length C0],Ch.arr aD 232 A0 C0 r.2.l]) (λh=>[]):=by
 delta eR at H
 refine Cf Go.Proofs.Tryz.func185 λK=> ?_
 refine Z1 ?_
 refine Lx λg1=> ?_
 refine Y2 ?_
 have ⟨e5,H6,H7⟩:=bnd H
 refine Tj0 [(17,.bool e5)] [0,1,5] [] [0,1,2] ?_ ?_
 ·refine Z0 ?_
  refine Lw 9 H6 (λH8=> ?_) λH8=> ?_
  ·refine Z0 ?_
   cases H8
   exact Eg0 [0,0,0] 0
  refine Z0 ?_
  cases H8
  exact Eg0 [0,0,0] 0
 refine Tb H7 (λa=> ?_) λa=> ?_
 ·refine Z1 ?_
  cases a
  exact Eo1 () [1,1] []
 refine Y1 ?_
 refine Td [12] [0,0,0] mo ?_
 refine Dq 0 ?_
 refine Dq 1 ?_
 refine Dq 2 ?_
 refine Db 3 1 ?_
 refine Dq 4 ?_
 refine Db 5 0 ?_
 refine Dq 6 ?_
 refine Dq 7 ?_
 refine Dq 8 ?_
 refine Db 9 1 ?_
 have ⟨c,d,e⟩:=bnd a
 refine Dk [] [0] (vw d) λ⟨f,i⟩=> ?_
 have ⟨n,b,j⟩:=bnd e
 refine D.lN 2 rfl (cQ b) λk m=> ?_
 subst m
 refine Dy 11 (Yl.ia b rfl rfl rfl rfl rfl rfl) ?_
 refine D.one rfl rfl rfl (Dp.al [2] [0] (Ac.se 0 c (aY b).2 rfl rfl rfl rfl rfl rfl (λ_=>⟨(f,i),rfl,[1],rfl⟩)) rfl rfl rfl rfl rfl rfl rfl ?_)
 intro _
 refine Dn ?_
 refine E.bx 2 (cs':=[.int .i64 g.w,.slice (some ⟨k,0,none⟩) (g.l.set y.toNat c).length C0]) (by rw [(List.length_set ..)]) rfl ?_
 refine Z1 ?_
 cases j
 exact Eo1 () [0,0] []
theorem tL {g:aZ} {w:Int} {h_:Int} {off:Int} {r:(List aG)×aZ} (H:jr g w h_ off=some r):CT G 130 [.pointer (some ⟨N0,0,none⟩),.int .i64 w,.int .i64 h_,.int .i64 off] [Ch.box N0 296 [.int .i64 g.w,.slice A0 g.l.length C0],Ch.arr aD 232 A0 C0 g.l] [] (λh:(Option Addr×Nat)×(Option Addr×Nat)=> .slice h.1.1 r.1.length h.1.2) (λh=>[Ch.arr aD 232 h.1.1 h.1.2 r.1,Ch.box N0 296 [.int .i64 r.2.w,.slice h.2.1 r.2.l.length h.2.2],Ch.arr aD 232 h.2.1 h.2.2 r.2.l]) (λh=>[]):=by
 delta jr at H
 refine Cf Go.Proofs.Tryz.func130 λK=> ?_
 refine Z2 ?_
 have ⟨r1,h2,H3⟩:=bnd H
 refine Lk [] [] (kH h2) λ⟨⟩=> ?_
 refine Z1 ?_
 have ⟨_,h4,H5⟩:=bnd H3
 refine L.cap 1 rfl λh9=> ?_
 refine Ly (Yl.sv (ty:=aD) h9 h4 rfl rfl rfl rfl rfl rfl rfl rfl) ?_
 have A:Vw aD g.l A0 C0 (kc A0 C0 0 (aD).sz) (C0 - (0:Int).toNat) 0 r1:=u4 h4 h9
 have ⟨a3,B,C⟩:=bnd H5
 refine Lk [1] [] (ij A0 C0 (kc A0 C0 0 (aD).sz) (C0 - (0:Int).toNat) A B) λ⟨F,I⟩=> ?_
 refine Z1 ?_
 have ⟨_,t,J⟩:=bnd C
 refine L.cap 1 rfl λu=> ?_
 refine Ly (Yl.sv (ty:=aD) u t rfl rfl rfl rfl rfl rfl rfl rfl) ?_
 have M:Vw aD g.l A0 C0 (kc A0 C0 r1 (aD).sz) (C0 - r1.toNat) r1 (g.l.length:Int):=u4 t u
 have ⟨a4,N,O⟩:=bnd J
 refine Lk [1] [] (ij A0 C0 (kc A0 C0 r1 (aD).sz) (C0 - r1.toNat) M N) λ⟨P,Q⟩=> ?_
 refine Z1 ?_
 have ⟨a5,R,S⟩:=bnd O
 refine Lk [] [] (mD R) λ⟨⟩=> ?_
 refine Z0 ?_
 have ⟨_,U,V⟩:=bnd S
 refine La [0] [] (Ac.rso U rfl rfl rfl rfl rfl rfl rfl) λ_=> ?_
 refine Y1 ?_
 have ⟨o,W,X⟩:=bnd V
 refine Tjh (η:=(Option Addr×Nat)) (λh=>(λc d=>[(10,.slice c o.length d)]) h.1 h.2) [0,1,9] (λh=>(λc d=>[Ch.arr aD 232 c d o]) h.1 h.2) [3,1,2] (λ_=>[]) ?_ ?_
 ·refine Yl0 ?_
  refine Tq (η:=(Option Addr×Nat)) (λj h=>(λe f=>[(10,.slice e j.length f)]) h.1 h.2) [0,1,2,9] (λj h=>(λe f=>[Ch.arr aD 232 e f j]) h.1 h.2) [3,1,2] (λ_ _=>[]) (P,Q) [0,2,0,0] [] W ?_
  rintro k_ j ⟨e,f⟩ a6 Y Z aa
  refine Z2 ?_
  have ⟨a7,ab,ac⟩:=bnd Y
  refine Lk [] [] (mD ab) λ⟨⟩=> ?_
  refine Z0 ?_
  refine Tb ac (λp=> ?_) λp=> ?_
  ·refine Zl ?_
   have ⟨a8,ad,ae⟩:=bnd p
   refine Lk [] [] (mD ad) λ⟨⟩=> ?_
   have ⟨af,ag,ah⟩:=bnd ae
   refine Lk [] [] (oX ag) λ⟨ai,aj⟩=> ?_
   refine La [] [0] (Ac.bs (ty:=aD) (xs:=[af]) (.cons (ai,aj) [0] rfl .nil) rfl rfl rfl rfl rfl rfl rfl) λa9=> ?_
   refine L.frz 0 rfl ?_
   have ⟨_,ak,al⟩:=bnd ah
   refine La [0] [0] (Ac.ap (ty:=aD) ak rfl rfl rfl rfl rfl rfl rfl) ?_
   rintro ⟨am,an⟩
   refine Z0 ?_
   cases al
   exact Eg (_,(am,an)) (Z _ rfl) [0,0,0,0] [] 2
  refine Z0 ?_
  cases p
  have hb:=aa _ rfl
  subst o
  exact Eg (e,f) trivial [0,0,0,0] [] 0
 rintro ⟨c,d⟩
 refine Z1 ?_
 have ⟨ba,ao,aq⟩:=bnd X
 refine Lk [] [] (mD ao) λ⟨⟩=> ?_
 refine Z0 ?_
 refine Lt 1 ?_
 refine Z0 ?_
 refine Lt 0 ?_
 refine Z2 ?_
 have ⟨k,ar,au⟩:=bnd aq
 refine Tjh (η:=(Option Addr×Nat)) (λ_=>[]) [9] (λh=>(λm n=>[Ch.arr aD 232 m n k.l,Ch.box N0 296 [.int .i64 k.w,.slice m k.l.length n]]) h.1 h.2) [3] (λ_=>[]) ?_ ?_
 ·refine Yl0 ?_
  refine Tq (η:=(Option Addr×Nat)) (λa h=>(λi b=>[(66,.int .i64 a.2)]) h.1 h.2) [0,9,65] (λa h=>(λi b=>[Ch.arr aD 232 i b a.1.l,Ch.box N0 296 [.int .i64 a.1.w,.slice i a.1.l.length b]]) h.1 h.2) [3] (λ_ _=>[]) (c,d) [1,0,1] [] ar ?_
  rintro k_ a ⟨i,b⟩ bb av aw ax
  refine Y2 ?_
  refine Tb av (λq=> ?_) λq=> ?_
  ·refine Z1 ?_
   refine Zl ?_
   refine Z1 ?_
   have ⟨x,s,ay⟩:=bnd q
   refine L.lN 0 rfl (cQ s) λaz a0=> ?_
   subst a0
   refine Ly (Yl.ia s rfl rfl rfl rfl rfl rfl) ?_
   refine La [0] [] (Ac.lo a.2.toNat 0 (v:=(λh:(Option Addr×Nat)=>(λy z=> .agg #[.slice y x.cells.length z,.bool x.wrapped]) h.1 h.2)) (aY s).2 rfl rfl rfl (λ_=>rfl)) ?_
   rintro ⟨y,z⟩
   have ⟨bc,a1,a2⟩:=bnd ay
   refine Lk [1,0] [0] (jI a1) λ⟨⟩=> ?_
   refine Z0 ?_
   cases a2
   exact Eg (_,((some ⟨az,0,none⟩),b)) (aw _ rfl) [1,0,0] [] 1
  refine Z0 ?_
  cases q
  have hb:=ax _ rfl
  subst k
  exact Eg (i,b) trivial [0,0,0] [] 0
 rintro ⟨m,n⟩
 refine Z1 ?_
 cases au
 exact Eo1 ((F,I),(m,n)) [2,1,0] []
theorem lE {s_:aB} {r:Int×Int} (H:dX s_=some r):CT G 132 [.pointer (some ⟨N0,0,none⟩)] [Ch.box N0 224 (bY s_ N1),Ch.box N1 296 [.int .i64 s_.g.w,.slice A0 s_.g.l.length C0],Ch.arr aD 232 A0 C0 s_.g.l] [] (λ_:Unit=> .tuple #[.int .i64 r.1,.int .i64 r.2]) (λh=>[Ch.box N0 224 (bY s_ N1),Ch.box N1 296 [.int .i64 s_.g.w,.slice A0 s_.g.l.length C0],Ch.arr aD 232 A0 C0 s_.g.l]) (λh=>[]):=by
 delta dX at H
 refine Cf Go.Proofs.Tryz.func132 λK=> ?_
 refine Z2 ?_
 have ⟨r1,h2,H3⟩:=bnd H
 refine Lk [1,1] [] (gx h2) λ⟨⟩=> ?_
 refine Z1 ?_
 cases H3
 exact Eo () [2,0,0] [] (.tmp rfl (.tmp rfl .nil))
theorem cE {s_:aB} {x_:Int} {y:Int} {r:aB} (H:bM s_ x_ y=some r):CT G 131 [.pointer (some ⟨N0,0,none⟩),.int .i64 x_,.int .i64 y] [Ch.box N0 224 (bY s_ N1),Ch.box N1 296 [.int .i64 s_.g.w,.slice A0 s_.g.l.length C0],Ch.arr aD 232 A0 C0 s_.g.l] [] (λ_:Unit=> .tuple #[]) (λh=>[Ch.box N0 224 (bY r N1),Ch.box N1 296 [.int .i64 r.g.w,.slice A0 r.g.l.length C0],Ch.arr aD 232 A0 C0 r.g.l]) (λh=>[]):=by
 delta bM at H
 refine Cf Go.Proofs.Tryz.func131 λK=> ?_
 refine Z1 ?_
 have ⟨r1,h2,H3⟩:=bnd H
 refine Lk [0,0,0] [] (lE h2) λ⟨⟩=> ?_
 refine Z0 ?_
 have ⟨r4,h5,H6⟩:=bnd H3
 refine Lk [] [] (k6 h5) λ⟨⟩=> ?_
 refine Z0 ?_
 have ⟨r7,h8,H9⟩:=bnd H6
 refine Lk [] [] (k6 h8) λ⟨⟩=> ?_
 refine Z0 ?_
 refine Lt 0 ?_
 refine Z0 ?_
 refine Lt 0 ?_
 refine Z0 ?_
 refine Lt 0 ?_
 refine Ln (E.off ?_)
 cases H9
 exact Eo () [0,0,0] [] .nil
theorem qu {s_:aB} {w:Int} {h_:Int} {r:(List aG)×aB} (H:gL s_ w h_=some r):CT G 67 [.pointer (some ⟨N0,0,none⟩),.int .i64 w,.int .i64 h_] [Ch.box N0 224 (bY s_ N1),Ch.box N1 296 [.int .i64 s_.g.w,.slice A0 s_.g.l.length C0],Ch.arr aD 232 A0 C0 s_.g.l] [] (λh:(Option Addr×Nat)×(Option Addr×Nat)=> .slice h.1.1 r.1.length h.1.2) (λh=>[Ch.arr aD 232 h.1.1 h.1.2 r.1,Ch.box N0 224 (bY r.2 N1),Ch.box N1 296 [.int .i64 r.2.g.w,.slice h.2.1 r.2.g.l.length h.2.2],Ch.arr aD 232 h.2.1 h.2.2 r.2.g.l]) (λh=>[]):=by
 delta gL at H
 refine Cf Go.Proofs.Tryz.func67 λK=> ?_
 refine Y2 ?_
 refine Td [9] [0,0,0] mo ?_
 refine Dq 0 ?_
 refine Dq 1 ?_
 refine Dq 2 ?_
 refine Dq 3 ?_
 refine Db 4 0 ?_
 refine Dq 5 ?_
 have ⟨p,a,b⟩:=bnd H
 refine Dk [] [] (k6 a) λ⟨⟩=> ?_
 refine Dq 7 ?_
 refine Dq 8 ?_
 refine Dq 9 ?_
 refine Dq 10 ?_
 refine Dn ?_
 refine Z1 ?_
 have ⟨q,c,d⟩:=bnd b
 refine Lk [1,1] [] (tL c) λ⟨⟨e,f⟩,⟨i,j⟩⟩=> ?_
 refine Y1 ?_
 refine Td [13] [0,0,0,0] mo ?_
 refine Dq 0 ?_
 refine Dq 1 ?_
 refine Dq 2 ?_
 refine Dq 3 ?_
 refine Dq 4 ?_
 refine Db 5 3 ?_
 refine Dq 6 ?_
 refine Dq 7 ?_
 refine Dq 8 ?_
 refine Dq 9 ?_
 refine Db 10 3 ?_
 refine Dq 11 ?_
 refine Dq 12 ?_
 have ⟨s,k,m⟩:=bnd d
 refine Dkl [3,1,1] [] (cE k) λ⟨⟩=> ?_
 refine Dn ?_
 refine Z1 ?_
 have ⟨t,n,o⟩:=bnd m
 refine Lk [0,0,0] [] (lE n) λ⟨⟩=> ?_
 refine Z1 ?_
 refine Lt 0 ?_
 refine Z0 ?_
 refine Lt 0 ?_
 refine Z1 ?_
 cases o
 exact Eo1 ((e,f),(i,j)) [3,0,0,0] []
theorem vx {r_:aG} {r:(List aJ)} (H:jh r_=some r):CT G 127 [.agg #[.slice A0 r_.cells.length C0,.bool r_.wrapped]] [] [Im.sl aT A0 C0 r_.cells] (λh:(Option Addr×Nat)=> .slice h.1 r.length h.2) (λh=>[Ch.arr aC 181 h.1 h.2 r]) (λh=>[]):=by
 delta jh at H
 refine Cf Go.Proofs.Tryz.func127 λK=> ?_
 refine Z1 ?_
 refine Lx λg1=> ?_
 refine Y2 ?_
 have ⟨n,A,B⟩:=bnd H
 refine Tjh (η:=(Option Addr×Nat)) (λh=>(λk l=>[(3,.slice k n.length l)]) h.1 h.2) [] (λ_=>[]) [0] (λh=>(λk l=>[Im.sl aT k l n]) h.1 h.2) ?_ ?_
 ·refine Yl0 ?_
  refine Tq (η:=(Option Addr×Nat)) (λm h=>(λc d=>[(3,.slice c m.length d)]) h.1 h.2) [1] (λ_ _=>[]) [0] (λm h=>(λc d=>[Im.sl aT c d m]) h.1 h.2) (A0,C0) [0] [0] A ?_
  rintro k_ m ⟨c,d⟩ an C F I
  refine Y2 ?_
  have ⟨J,M,N⟩:=bnd C
  refine Tj0 [(26,.bool J)] [1,3] [] [0] ?_ ?_
  ·refine Td [] [0] mo ?_
   refine Dq 0 ?_
   refine Db 1 0 ?_
   refine Dq 2 ?_
   refine Dq 3 ?_
   refine D.cs 12 M rfl (λhc o=> ?_) (λhc o=> ?_)
   ·refine Dq 4 ?_
    refine Dq 5 ?_
    refine Dq 6 ?_
    refine Dq 7 ?_
    refine Dq 8 ?_
    refine D.cs 17 o rfl (λhc p=> ?_) (λhc p=> ?_)
    ·refine Dq 9 ?_
     refine Dq 10 ?_
     refine Dq 11 ?_
     refine Dq 12 ?_
     have ⟨ao,q,O⟩:=bnd p
     refine D.addr 0 rfl (cQ q) λaq ar P=> ?_
     subst P
     refine Dy 13 (Yl.ia q rfl rfl rfl rfl rfl rfl) ?_
     refine D.el 0 rfl (aY q).2 ?_
     rintro _
     refine Dy 14 (Yl.ldc 0 0 rfl rfl rfl rfl) ?_
     have ⟨au,Q,R⟩:=bnd O
     refine Dk [] [] (nJ Q) λ⟨⟩=> ?_
     refine Dq 16 ?_
     refine Dq 17 ?_
     refine Dn ?_
     cases R
     exact Eg0 [0] 1
    refine Ds 9 ?_
    refine Ds 10 ?_
    refine Ds 11 ?_
    refine Ds 12 ?_
    refine Ds 13 ?_
    refine Ds 14 ?_
    refine Ds 15 ?_
    refine Ds 16 ?_
    refine Dq 17 ?_
    refine Dn ?_
    cases p
    exact Eg0 [0] 0
   refine Ds 4 ?_
   refine Ds 5 ?_
   refine Ds 6 ?_
   refine Dq 7 ?_
   refine Dq 8 ?_
   refine Ds 9 ?_
   refine Ds 10 ?_
   refine Ds 11 ?_
   refine Ds 12 ?_
   refine Ds 13 ?_
   refine Ds 14 ?_
   refine Ds 15 ?_
   refine Ds 16 ?_
   refine Dq 17 ?_
   refine Dn ?_
   cases o
   exact Eg0 [0] 0
  refine Tb N (λs=> ?_) λs=> ?_
  ·refine Zl ?_
   have ⟨_,S,U⟩:=bnd s
   refine L.rs 0 S rfl rfl rfl rfl rfl rfl rfl rfl rfl rfl rfl rfl ?_
   intro V W
   refine Z0 ?_
   cases U
   exact Eg (_,(V,W)) (F _ rfl) [0] [0] 2
  refine Z0 ?_
  cases s
  have hb:=I _ rfl
  subst n
  exact Eg (c,d) trivial [0] [0] 1
 rintro ⟨k,l⟩
 refine Z3 ?_
 have ⟨t,X,Y⟩:=bnd B
 refine Tjh (η:=(Option Addr×Nat)) (λh=>(λe f=>[(4,.slice e t.length f)]) h.1 h.2) [] (λh=>(λe f=>[Ch.arr aC 181 e f t]) h.1 h.2) [0] (λ_=>[]) ?_ ?_
 ·refine Yl0 ?_
  refine T.gA aC 181 ?_
  refine Tq (η:=(Option Addr×Nat)) (λg h=>(λa b=>[(4,.slice a g.2.length b),(34,.int .i64 g.1)]) h.1 h.2) [32,33] (λg h=>(λa b=>[Ch.arr aC 181 a b g.2]) h.1 h.2) [1] (λ_ _=>[]) (none,0) [0,0] [] X ?_
  rintro k_ g ⟨a,b⟩ av Z aa ab
  refine Y2 ?_
  refine Tb Z (λu=> ?_) λu=> ?_
  ·refine Y1 ?_
   have ⟨y,ac,ad⟩:=bnd u
   refine Tjh (η:=(Option Addr×Nat)) (λh=>(λi j=>[(4,.slice i y.length j)]) h.1 h.2) [32,33,34] (λh=>(λi j=>[Ch.arr aC 181 i j y]) h.1 h.2) [1] (λ_=>[]) ?_ ?_
   ·refine Zl ?_
    refine Z1 ?_
    have ⟨z,v,ae⟩:=bnd ac
    refine L.addr 0 rfl (cQ v) λaw ax af=> ?_
    subst af
    refine Ly (Yl.ia v rfl rfl rfl rfl rfl rfl) ?_
    refine L.el 0 rfl (aY v).2 ?_
    rintro _
    refine Lc 0 0 ?_
    refine Ll λay=> ?_
    refine Lt 0 ?_
    refine Y1 ?_
    have ⟨ag,ah,ai⟩:=bnd ae
    refine Tj0 [(45,.bool ag)] [4,6,32,33,34] [] [0,2,1] ?_ ?_
    ·refine Z0 ?_
     refine Lw 41 ah (λw=> ?_) λw=> ?_
     ·refine Z0 ?_
      cases w
      exact Eg0 [0,1,0] 0
     refine Z0 ?_
     cases w
     exact Eg0 [0,1,0] 0
    refine Tb ai (λx=> ?_) λx=> ?_
    ·refine Z0 ?_
     refine La [] [] (Ac.bs (ty:=aC) (xs:=[(aJ.mk z.rune z.aO)]) (.cons () [] rfl .nil) rfl rfl rfl rfl rfl rfl rfl) λaz=> ?_
     refine L.frz 0 rfl ?_
     have ⟨_,aj,ak⟩:=bnd x
     refine La [2] [0] (Ac.ap (ty:=aC) aj rfl rfl rfl rfl rfl rfl rfl) ?_
     rintro ⟨al,am⟩
     refine Z0 ?_
     cases ak
     exact Eg (al,am) trivial [0,1] [] 2
    refine Z0 ?_
    cases x
    exact Eg (a,b) trivial [2,1] [] 1
   rintro ⟨i,j⟩
   refine Z0 ?_
   cases ad
   exact Eg (_,(i,j)) (aa _ rfl) [0,0] [] 0
  refine Z0 ?_
  cases u
  have hb:=ab _ rfl
  subst t
  exact Eg (a,b) trivial [0,0] [] 0
 rintro ⟨e,f⟩
 refine Z1 ?_
 cases Y
 exact Eo1 (e,f) [0] []
theorem BC {chain:Int} {l:List aJ} {r:Int} (H:nB chain l=some r):CT G 182 [.int .i64 chain,.slice A0 l.length C0] [] [Im.sl aC A0 C0 l,Im.sl (Ty.int .u32) (some ⟨0,0,none⟩) 16 cB] (λ_:Unit=> .int .i64 r) (λh=>[]) (λh=>[]):=by
 delta nB at H
 refine Cf Go.Proofs.Tryz.func182 λK=> ?_
 refine Z2 ?_
 have ⟨r1,h2,H3⟩:=bnd H
 refine Lk [] [0] (oZ h2) λ⟨⟩=> ?_
 refine La [] [] (Ac.bs (ty:=Ty.str) (xs:=[r1]) (.cons () [] rfl .nil) rfl rfl rfl rfl rfl rfl rfl) λg4=> ?_
 have ⟨r6,h7,H8⟩:=bnd H3
 refine L.br (Ac.call (uN h7) rfl rfl rfl rfl) (Bw.ch 0 rfl (Bw.im 1 rfl (Bw.nil))) rfl rfl rfl ?_
 intro _
 refine Z0 ?_
 cases H8
 exact Eo1 () [] []
theorem o7 {b:bT} {l:List aJ} {r:bT} (H:fM b l=some r):CT G 128 [.pointer (some ⟨N0,0,none⟩),.slice A3 l.length C3] [Ch.box N0 178 [.slice A0 b.l.length C0,.slice A1 b.bA.length C1,.slice A2 b.begun.length C2],Ch.arr (Ty.slice aC) 101 A0 C0 b.l,Ch.arr (Ty.int .i64) 3 A1 C1 b.bA] [Im.sl aC A2 C2 b.begun,Im.sl aC A3 C3 l,Im.sl (Ty.int .u32) (some ⟨0,0,none⟩) 16 cB] (λh:(Option Addr×Nat)×(Option Addr×Nat)=> .tuple #[]) (λh=>[Ch.box N0 178 [.slice h.1.1 r.l.length h.1.2,.slice h.2.1 r.bA.length h.2.2,.slice A2 r.begun.length C2],Ch.arr (Ty.slice aC) 101 h.1.1 h.1.2 r.l,Ch.arr (Ty.int .i64) 3 h.2.1 h.2.2 r.bA]) (λh=>[Im.sl aC A2 C2 r.begun]):=by
 delta fM at H
 refine Cf Go.Proofs.Tryz.func128 λK=> ?_
 refine Y1 ?_
 refine Td [11] [0,1] mo ?_
 refine Dq 0 ?_
 refine Dq 1 ?_
 refine Dq 2 ?_
 refine Dq 3 ?_
 refine Db 4 0 ?_
 refine Dq 5 ?_
 have ⟨c,d,e⟩:=bnd H
 refine Dk [] [1] (ig A3 C3 d) λ⟨f,g⟩=> ?_
 refine D.frz 0 rfl ?_
 refine Da [] [0] rfl rfl (Ac.bs (ty:=(Ty.slice aC)) (xs:=[c]) (.cons (f,g) [0] rfl .nil) rfl rfl rfl rfl rfl rfl rfl) λz=> ?_
 refine D.frz 0 rfl ?_
 have ⟨_,i,j⟩:=bnd e
 refine Da [0] [0] rfl rfl (Ac.ap (ty:=(Ty.slice aC)) i rfl rfl rfl rfl rfl rfl rfl) ?_
 rintro ⟨k,m⟩
 refine Dq 9 ?_
 refine Dq 10 ?_
 refine Dt 0 ?_
 refine Dn ?_
 refine Z0 ?_
 refine Td [23] [0,1] mo ?_
 refine Dq 0 ?_
 refine Dq 1 ?_
 refine Dq 2 ?_
 refine Dq 3 ?_
 refine Db 4 0 ?_
 refine Dq 5 ?_
 refine Dq 6 ?_
 refine Dq 7 ?_
 refine Db 8 0 ?_
 refine Dq 9 ?_
 refine Dq 10 ?_
 refine Dq 11 ?_
 refine Db 12 0 ?_
 refine Dq 13 ?_
 refine Dq 14 ?_
 have ⟨n,a,o⟩:=bnd j
 refine D.lN 2 rfl (cQ a) λA p=> ?_
 subst p
 refine Dy 15 (Yl.ia a rfl rfl rfl rfl rfl rfl) ?_
 refine Dq 17 ?_
 refine Da [0] [] rfl rfl (Ac.ofY (Yl.lo (ty:=(Ty.int .i64)) (v:= .int .i64 n) 0 ((IntKind.i64.wrap ((b.bA.length:Int) - 1)).toNat) 0 (aY a).2 rfl rfl rfl rfl (λ_=>rfl))) λ_=> ?_
 have ⟨q,s,t⟩:=bnd o
 refine Dk [] [3,4] (BC s) λ⟨⟩=> ?_
 refine Da [] [] rfl rfl (Ac.bs (ty:=(Ty.int .i64)) (xs:=[q]) (.cons () [] rfl .nil) rfl rfl rfl rfl rfl rfl rfl) λB=> ?_
 refine D.frz 0 rfl ?_
 have ⟨_,u,w⟩:=bnd t
 refine Da [0] [0] rfl rfl (Ac.ap (ty:=(Ty.int .i64)) u rfl rfl rfl rfl rfl rfl rfl) ?_
 rintro ⟨x,y⟩
 refine Dq 21 ?_
 refine Dq 22 ?_
 refine Dt 0 ?_
 refine Dn ?_
 refine E.off ?_
 cases w
 exact Eo ((k,m),(x,y)) [0,0,0] [3] .nil
theorem qH {b:bT} {rows:List aG} {r:Int×bT} (H:iQ b rows=some r):CT G 66 [.pointer (some ⟨N0,0,none⟩),.slice A3 rows.length C3] [Ch.box N0 178 [.slice A0 b.l.length C0,.slice A1 b.bA.length C1,.slice A2 b.begun.length C2],Ch.arr (Ty.slice aC) 101 A0 C0 b.l,Ch.arr (Ty.int .i64) 3 A1 C1 b.bA,Ch.arr aC 181 A2 C2 b.begun] [Im.sl aD A3 C3 rows,Im.sl (Ty.int .u32) (some ⟨0,0,none⟩) 16 cB] (λh:(Option Addr×Nat)×(Option Addr×Nat)×(Option Addr×Nat)=> .int .i64 r.1) (λh=>[Ch.box N0 178 [.slice h.1.1 r.2.l.length h.1.2,.slice h.2.1.1 r.2.bA.length h.2.1.2,.slice h.2.2.1 r.2.begun.length h.2.2.2],Ch.arr (Ty.slice aC) 101 h.1.1 h.1.2 r.2.l,Ch.arr (Ty.int .i64) 3 h.2.1.1 h.2.1.2 r.2.bA,Ch.arr aC 181 h.2.2.1 h.2.2.2 r.2.begun]) (λh=>[]):=by
 delta iQ at H
 refine Cf Go.Proofs.Tryz.func66 λK=> ?_
 refine Z3 ?_
 refine Z1 ?_
 have ⟨c,Y,Z⟩:=bnd H
 refine Tjh (η:=(Option Addr×Nat)×(Option Addr×Nat)×(Option Addr×Nat)) (λ_=>[]) [0,5] (λh=>(λo p q s t u=>[Ch.arr (Ty.slice aC) 101 o p c.l,Ch.arr (Ty.int .i64) 3 q s c.bA,Ch.arr aC 181 t u c.begun,Ch.box N0 178 [.slice o c.l.length p,.slice q c.bA.length s,.slice t c.begun.length u]]) h.1.1 h.1.2 h.2.1.1 h.2.1.2 h.2.2.1 h.2.2.2) [] (λ_=>[]) ?_ ?_
 ·refine Yl0 ?_
  refine Tq (η:=(Option Addr×Nat)×(Option Addr×Nat)×(Option Addr×Nat)) (λa h=>(λf g i j m n=>[(15,.int .i64 a.2)]) h.1.1 h.1.2 h.2.1.1 h.2.1.2 h.2.2.1 h.2.2.2) [0,5,13,14] (λa h=>(λf g i j m n=>[Ch.arr (Ty.slice aC) 101 f g a.1.l,Ch.arr (Ty.int .i64) 3 i j a.1.bA,Ch.arr aC 181 m n a.1.begun,Ch.box N0 178 [.slice f a.1.l.length g,.slice i a.1.bA.length j,.slice m a.1.begun.length n]]) h.1.1 h.1.2 h.2.1.1 h.2.1.2 h.2.2.1 h.2.2.2) [] (λ_ _=>[]) ((A0,C0),(A1,C1),(A2,C2)) [1,1,1,0] [] Y ?_
  rintro k_ a ⟨⟨f,g⟩,⟨i,j⟩,⟨m,n⟩⟩ bh aa ab ac
  refine Y2 ?_
  refine Tb aa (λU=> ?_) λU=> ?_
  ·refine Y1 ?_
   have ⟨k,ad,ae⟩:=bnd U
   refine Tjh (η:=(Option Addr×Nat)×(Option Addr×Nat)×(Option Addr×Nat)) (λ_=>[]) [0,5,13,14,15] (λh=>(λv w x y z A=>[Ch.arr (Ty.slice aC) 101 v w k.l,Ch.arr (Ty.int .i64) 3 x y k.bA,Ch.arr aC 181 z A k.begun,Ch.box N0 178 [.slice v k.l.length w,.slice x k.bA.length y,.slice z k.begun.length A]]) h.1.1 h.1.2 h.2.1.1 h.2.1.2 h.2.2.1 h.2.2.2) [] (λ_=>[]) ?_ ?_
   ·refine Zl ?_
    refine Z1 ?_
    have ⟨bi,V,af⟩:=bnd ad
    refine L.addr 0 rfl (cQ V) λbj bk ag=> ?_
    subst ag
    refine Ly (Yl.ia V rfl rfl rfl rfl rfl rfl) ?_
    refine L.el 0 rfl (aY V).2 ?_
    rintro ⟨bl,bm⟩
    refine Lc 0 0 ?_
    refine Ll λbn=> ?_
    refine Lt 0 ?_
    refine Y1 ?_
    refine Td [10] [0,0,0,1] mo ?_
    refine Dq 0 ?_
    refine Dq 1 ?_
    refine Dq 2 ?_
    refine Dq 3 ?_
    refine Db 4 3 ?_
    refine Db 5 0 ?_
    have ⟨bo,ah,ai⟩:=bnd af
    refine Dk [] [1] (vx ah) λ⟨bp,bq⟩=> ?_
    refine D.frz 0 rfl ?_
    have ⟨_,aj,ak⟩:=bnd ai
    refine Da [0] [0] rfl rfl (Ac.ap (ty:=aC) aj rfl rfl rfl rfl rfl rfl rfl) ?_
    rintro ⟨al,am⟩
    refine Dq 8 ?_
    refine Dq 9 ?_
    refine Dt 3 ?_
    refine Dn ?_
    refine Y1 ?_
    have ⟨d,an,ao⟩:=bnd ak
    refine Tjh (η:=(Option Addr×Nat)×(Option Addr×Nat)×(Option Addr×Nat)) (λ_=>[]) [0,5,7,13,14,15] (λh=>(λB C F I J M=>[Ch.arr (Ty.slice aC) 101 B C d.l,Ch.arr (Ty.int .i64) 3 F I d.bA,Ch.arr aC 181 J M d.begun,Ch.box N0 178 [.slice B d.l.length C,.slice F d.bA.length I,.slice J d.begun.length M]]) h.1.1 h.1.2 h.2.1.1 h.2.1.2 h.2.2.1 h.2.2.2) [1] (λ_=>[]) ?_ ?_
    ·refine Yl0 ?_
     refine Tq (η:=(Option Addr×Nat)×(Option Addr×Nat)×(Option Addr×Nat)) (λ_ _=>[]) [0,5,7,13,14,15] (λe h=>(λN O P Q R S=>[Ch.arr (Ty.slice aC) 101 N O e.l,Ch.arr (Ty.int .i64) 3 P Q e.bA,Ch.arr aC 181 R S e.begun,Ch.box N0 178 [.slice N e.l.length O,.slice P e.bA.length Q,.slice R e.begun.length S]]) h.1.1 h.1.2 h.2.1.1 h.2.1.2 h.2.2.1 h.2.2.2) [1] (λ_ _=>[]) ((f,g),(i,j),(al,am)) [2,2,2,0,0] [] an ?_
     rintro k_ e ⟨⟨N,O⟩,⟨P,Q⟩,⟨R,S⟩⟩ br aq ar au
     refine Z2 ?_
     refine Tb aq (λW=> ?_) λW=> ?_
     ·refine Zl ?_
      refine Z1 ?_
      refine L.frz 2 rfl ?_
      have ⟨_,av,aw⟩:=bnd W
      refine L.rs 0 av rfl rfl rfl rfl rfl rfl rfl rfl rfl rfl rfl rfl ?_
      intro bs bt
      have ⟨bu,ax,ay⟩:=bnd aw
      refine Lk [2,0,0] [1,0,6] (o7 ax) λ⟨⟨az,a0⟩,⟨a1,a2⟩⟩=> ?_
      refine Z0 ?_
      have ⟨_,a3,a4⟩:=bnd ay
      refine L.rs 0 a3 rfl rfl rfl rfl rfl rfl rfl rfl rfl rfl rfl rfl ?_
      intro a5 a6
      have ⟨bv,a7,a8⟩:=bnd a4
      refine Lk [] [0] (ig a5 a6 a7) λ⟨a9,ba⟩=> ?_
      refine Z0 ?_
      refine Lt 1 ?_
      refine Z0 ?_
      cases a8
      exact Eg (_,((az,a0),(a1,a2),(a9,ba))) (ar _ rfl) [2,2,1,0,0] [] 4
     refine Z0 ?_
     cases W
     have hb:=au _ rfl
     subst d
     exact Eg ((N,O),(P,Q),(R,S)) trivial [0,0,0,0,0] [] 0
    rintro ⟨⟨B,C⟩,⟨F,I⟩,⟨J,M⟩⟩
    refine Z1 ?_
    refine Tb ao (λX=> ?_) λX=> ?_
    ·refine Z1 ?_
     refine L.frz 2 rfl ?_
     have ⟨bw,bb,bc⟩:=bnd X
     refine Lk [2,0,0] [0,0,5] (o7 bb) λ⟨⟨bd,be⟩,⟨bf,bg⟩⟩=> ?_
     refine Z0 ?_
     refine Lt 0 ?_
     refine Z0 ?_
     refine E.gA aC 181 ?_
     cases bc
     exact Eg ((bd,be),(bf,bg),(none,0)) trivial [2,2,0,0] [] 5
    refine Z0 ?_
    cases X
    exact Eg ((B,C),(F,I),(J,M)) trivial [0,0,0,0] [] 3
   rintro ⟨⟨v,w⟩,⟨x,y⟩,⟨z,A⟩⟩
   refine Z0 ?_
   cases ae
   exact Eg (_,((v,w),(x,y),(z,A))) (ab _ rfl) [0,0,0,0] [] 0
  refine Z0 ?_
  cases U
  have hb:=ac _ rfl
  subst c
  exact Eg ((f,g),(i,j),(m,n)) trivial [0,0,0,0] [] 0
 rintro ⟨⟨o,p⟩,⟨q,s⟩,⟨t,u⟩⟩
 refine Z1 ?_
 cases Z
 exact Eo1 ((o,p),(q,s),(t,u)) [3,0,0,0] []
theorem uR {m_:bO} {text:ByteArray} {r:ByteArray} (H:lf m_ text=some r):CT G 68 [.pointer (some ⟨N0,0,none⟩),.string text] [Ch.box N0 120 (iE m_ N1 N2 N3),Ch.box N1 178 [.slice A0 m_.book.l.length C0,.slice A1 m_.book.bA.length C1,.slice A2 m_.book.begun.length C2],Ch.arr (Ty.slice aC) 101 A0 C0 m_.book.l,Ch.arr (Ty.int .i64) 3 A1 C1 m_.book.bA,Ch.arr aC 181 A2 C2 m_.book.begun,Ch.box N2 151 (eF m_.parser A3 C3),Ch.opt (m_.parser.state == (3:Int)) (Ty.int .i64) 3 A3 C3 m_.parser.order.aW,Ch.box N3 224 (bY m_.aN N4),Ch.box N4 296 [.int .i64 m_.aN.g.w,.slice A5 m_.aN.g.l.length C5],Ch.arr aD 232 A5 C5 m_.aN.g.l] [Im.sl cD (some ⟨1,0,none⟩) 13 cT,Im.sl cD (some ⟨2,0,none⟩) 14 dD,Im.sl dQ (some ⟨3,0,none⟩) 8 bX] (λh:Nat×Nat=> .func (.func 133) #[] #[.pointer (some ⟨h.1,0,none⟩),.pointer (some ⟨h.2,0,none⟩)]) (λh=>[Ch.box h.1 93 [.pointer (some ⟨N0,0,none⟩)],Ch.box h.2 9 [.string r],Ch.box N0 120 (iE m_ N1 N2 N3),Ch.box N1 178 [.slice A0 m_.book.l.length C0,.slice A1 m_.book.bA.length C1,.slice A2 m_.book.begun.length C2],Ch.arr (Ty.slice aC) 101 A0 C0 m_.book.l,Ch.arr (Ty.int .i64) 3 A1 C1 m_.book.bA,Ch.arr aC 181 A2 C2 m_.book.begun,Ch.box N2 151 (eF m_.parser A3 C3),Ch.opt (m_.parser.state == (3:Int)) (Ty.int .i64) 3 A3 C3 m_.parser.order.aW,Ch.box N3 224 (bY m_.aN N4),Ch.box N4 296 [.int .i64 m_.aN.g.w,.slice A5 m_.aN.g.l.length C5],Ch.arr aD 232 A5 C5 m_.aN.g.l]) (λh=>[]):=by
 delta lf at H
 refine Cf Go.Proofs.Tryz.func68 λK=> ?_
 refine Z1 ?_
 refine Lx λg1=> ?_
 refine Lx λg2=> ?_
 refine Z1 ?_
 cases H
 exact Eo1 (g1,g2) [1,0,0,0,0,0,0,0,0,0,0,0] []
theorem sM {d:bV} {r:(List Int)} (H:iR d=some r):CT G 280 [.agg #[.int .u8 d.lead,.int .i32 d.rune,.int .i64 d.ja]] [] [] (λh:(Option Addr×Nat)=> .slice h.1 r.length h.2) (λh=>[Ch.arr (Ty.int .i32) 21 h.1 h.2 r]) (λh=>[]):=by
 delta iR at H
 refine Cf Go.Proofs.Tryz.func280 λK=> ?_
 refine Z1 ?_
 refine Lx λg1=> ?_
 refine Z2 ?_
 refine Tb H (λH3=> ?_) λH3=> ?_
 ·refine Z1 ?_
  refine E.gA (Ty.int .i32) 21 ?_
  cases H3
  exact Eo1 (none,0) [0] []
 refine Z1 ?_
 refine La [] [] (Ac.bs (ty:=(Ty.int .i32)) (xs:=[65533]) (.cons () [] rfl .nil) rfl rfl rfl rfl rfl rfl rfl) λg5=> ?_
 refine Z0 ?_
 cases H3
 exact Eo1 ((some ⟨g5,0,none⟩),1) [0] []
theorem lg {p:aE} {a:bC} {r:aE} (H:fN p a=some r):CT G 283 [.pointer (some ⟨N0,0,none⟩),.agg (xW a A2 C2).toArray] [Ch.box N0 151 (gR p A0 C0 A1 C1),Ch.opt (p.state == (3:Int)) (Ty.int .i64) 3 A0 C0 p.order.aW,Ch.arr bL 247 A1 C1 p.out] [Im.sl (Ty.int .i64) A2 C2 a.aW] (λh:(Option Addr×Nat)=> .tuple #[]) (λh=>[Ch.box N0 151 (gR r A0 C0 h.1 h.2),Ch.opt (r.state == (3:Int)) (Ty.int .i64) 3 A0 C0 r.order.aW,Ch.arr bL 247 h.1 h.2 r.out]) (λh=>[]):=by
 delta fN at H
 refine Cf Go.Proofs.Tryz.func283 λK=> ?_
 refine Z1 ?_
 refine Lx λg1=> ?_
 refine Z0 ?_
 refine Td [7,10] [0,0,0,0] mo ?_
 refine Dq 0 ?_
 refine Dq 1 ?_
 refine Dq 2 ?_
 refine Dq 3 ?_
 refine Db 4 1 ?_
 refine Db 5 0 ?_
 refine Da [] [0] rfl rfl (Ac.bs (ty:=bL) (xs:=[a]) (.cons (A2,C2) [0] rfl .nil) rfl rfl rfl rfl rfl rfl rfl) λf=> ?_
 refine D.frz 0 rfl ?_
 have ⟨_,b,c⟩:=bnd H
 refine D.one rfl rfl rfl (Dp.al [3] [0] (Ac.ap (ty:=bL) b rfl rfl rfl rfl rfl rfl rfl) rfl rfl rfl rfl rfl rfl rfl ?_)
 rintro ⟨d,e⟩
 refine Dq 8 ?_
 refine Dq 9 ?_
 refine Dt 2 ?_
 refine Dn ?_
 refine E.off ?_
 cases c
 exact Eo (d,e) [0,2,0] [] .nil
theorem oK {p:aE} {l:List Int} {r:aE} (H:hG p l=some r):CT G 279 [.pointer (some ⟨N0,0,none⟩),.slice A2 l.length C2] [Ch.box N0 151 (gR p A0 C0 A1 C1),Ch.opt (p.state == (3:Int)) (Ty.int .i64) 3 A0 C0 p.order.aW,Ch.arr bL 247 A1 C1 p.out] [Im.sl (Ty.int .i32) A2 C2 l] (λh:(Option Addr×Nat)=> .tuple #[]) (λh=>[Ch.box N0 151 (gR r A0 C0 h.1 h.2),Ch.opt (r.state == (3:Int)) (Ty.int .i64) 3 A0 C0 r.order.aW,Ch.arr bL 247 h.1 h.2 r.out]) (λh=>[]):=by
 delta hG at H
 refine Cf Go.Proofs.Tryz.func279 λK=> ?_
 refine Z1 ?_
 have ⟨d,k,m⟩:=bnd H
 refine T.qB (η:=Unit×((Option Addr×Nat))) (λh=>True) (λh=>(λb c=>[]) h.2.1 h.2.2) (λh=>(λb c=>[Ch.opt (d.state == (3:Int)) (Ty.int .i64) 3 A0 C0 d.order.aW,Ch.arr bL 247 b c d.out,Ch.box N0 151 (gR d A0 C0 b c)]) h.2.1 h.2.2) (λh=>(λb c=>[Im.sl (Ty.int .i32) A2 C2 l]) h.2.1 h.2.2) ?_ ?_
 ·refine Yl0 ?_
  refine Tq (η:=(Option Addr×Nat)) (λa h=>(λe g=>[(8,.int .i64 a.2)]) h.1 h.2) [0,6,7] (λa h=>(λe g=>[Ch.opt (a.1.state == (3:Int)) (Ty.int .i64) 3 A0 C0 a.1.order.aW,Ch.arr bL 247 e g a.1.out,Ch.box N0 151 (gR a.1 A0 C0 e g)]) h.1 h.2) [] (λ_ _=>[]) (A1,C1) [1,1,0] [] k ?_
  rintro k_ a ⟨e,g⟩ z n o q
  refine Y2 ?_
  refine Tb n (λi=> ?_) λi=> ?_
  ·refine Z1 ?_
   refine Zl ?_
   refine Z1 ?_
   have ⟨B,j,s⟩:=bnd i
   refine L.addr 0 rfl (cQ j) λC F t=> ?_
   subst t
   refine Ly (Yl.ia j rfl rfl rfl rfl rfl rfl) ?_
   refine L.el 0 rfl (aY j).2 ?_
   rintro _
   refine Lc 0 0 ?_
   refine Z0 ?_
   refine L.lk [Im.sl (Ty.int .i64) none 0 []] (λA w _ _ f hf=>by rw [List.mem_singleton.1 hf]; exact Im.k9 A w) ?_
   have ⟨I,u,v⟩:=bnd s
   refine Lk [2,0,0] [0] (lg u) λ⟨x,y⟩=> ?_
   refine Z0 ?_
   cases v
   exact Eg (_,(x,y)) (o _ rfl) [1,1,0] [] 2
  refine Z0 ?_
  cases i
  have hb:=q _ rfl
  subst d
  exact Egx ((),(e,g)) trivial [0,0,0] [0]
 rintro ⟨_,⟨b,c⟩⟩ _
 refine E.off ?_
 cases m
 exact Eo (b,c) [2,0,0] [] .nil
theorem km {p:aE} {b:Int} {r:Bool×aE} (H:eW p b=some r):CT G 281 [.pointer (some ⟨N0,0,none⟩),.int .u8 b] [Ch.box N0 151 (gR p A0 C0 A1 C1),Ch.opt (p.state == (3:Int)) (Ty.int .i64) 3 A0 C0 p.order.aW,Ch.arr bL 247 A1 C1 p.out] [] (λh:(Option Addr×Nat)=> .bool r.1) (λh=>[Ch.box N0 151 (gR r.2 A0 C0 h.1 h.2),Ch.opt (r.2.state == (3:Int)) (Ty.int .i64) 3 A0 C0 r.2.order.aW,Ch.arr bL 247 h.1 h.2 r.2.out]) (λh=>[]):=by
 delta eW at H
 refine Cf Go.Proofs.Tryz.func281 λK=> ?_
 refine Y2 ?_
 have ⟨k,m,l⟩:=bnd H
 refine Tj (η:=aE×((Option Addr×Nat))) (λh=>k = .inl h.1) (λ_=>[]) [] (λh=>(λa=>(λc d=>[Ch.opt (a.state == (3:Int)) (Ty.int .i64) 3 A0 C0 a.order.aW,Ch.arr bL 247 c d a.out,Ch.box N0 151 (gR a A0 C0 c d)]) h.2.1 h.2.2) h.1) [] (λ_=>[]) ?_ ?_
 ·refine Zl ?_
  refine Y1 ?_
  have ⟨n,o,q⟩:=bnd m
  refine Tj0 [(7,.bool n)] [0,1] [] [0,1,2] ?_ ?_
  ·refine Z0 ?_
   refine Lw 10 o (λe=> ?_) λe=> ?_
   ·refine Z0 ?_
    cases e
    exact Eg0 [0,0,0] 0
   refine Z0 ?_
   cases e
   exact Eg0 [0,0,0] 0
  refine Tb q (λg=> ?_) λg=> ?_
  ·refine Z0 ?_
   refine Lt 0 ?_
   refine Z0 ?_
   refine E.oset 1 (0 == (3:Int)) rfl rfl ?_
   cases g
   exact Eg (_,(A1,C1)) rfl [0,1,0] [] 0
  refine Z1 ?_
  refine Tb g (λi=> ?_) λi=> ?_
  ·refine Z0 ?_
   refine Lt 0 ?_
   refine Z0 ?_
   refine E.oset 1 (1 == (3:Int)) rfl rfl ?_
   cases i
   exact Eg (_,(A1,C1)) rfl [0,1,0] [] 0
  refine Z1 ?_
  refine Tb i (λj=> ?_) λj=> ?_
  ·refine Z0 ?_
   refine L.lk [Im.sl (Ty.int .i64) none 0 []] (λA w _ _ f hf=>by rw [List.mem_singleton.1 hf]; exact Im.k9 A w) ?_
   have ⟨y,s,t⟩:=bnd j
   refine Lk [0,0,0] [0] (lg s) λ⟨u,v⟩=> ?_
   refine Z0 ?_
   cases t
   exact Eg (_,(u,v)) rfl [1,1,0] [] 1
  refine Z1 ?_
  obtain ⟨z,hz,x⟩:=eP j
  subst k
  obtain rfl:=(sm l).symm
  refine Z0 ?_
  cases x
  exact Eo1 (A1,C1) [0,0,0] []
 rintro ⟨a,⟨c,d⟩⟩ hy
 subst hy
 refine Z1 ?_
 cases l
 exact Eo1 (c,d) [2,0,0] []
theorem uS {b:Int} {r:ko×Bool} (H:lH b=some r):CT G 315 [.int .u8 b] [] [Im.sl dQ (some ⟨3,0,none⟩) 8 bX] (λ_:Unit=> .tuple #[.agg (NQ r.1).toArray,.bool r.2]) (λh=>[]) (λh=>[]):=by
 delta lH at H
 refine Cf Go.Proofs.Tryz.func315 λK=> ?_
 refine Z1 ?_
 refine Ll λg1=> ?_
 refine Z2 ?_
 refine Ly (Yl.ldt (ty:=dQ) (h0:=()) 0 rfl rfl rfl (λ_ _=>rfl) rfl rfl rfl rfl) ?_
 refine Z0 ?_
 have ⟨a,j,f⟩:=bnd H
 refine Tj (η:=Unit×Unit) (λh=>a = .inl h.1) (λ_=>[]) [2] (λ_=>[]) [0] (λ_=>[]) ?_ ?_
 ·refine Yl0 ?_
  refine Tq (η:=Unit) (λg h=>[(7,.int .i64 g)]) [0,2,6] (λ_ _=>[]) [0] (λ_ _=>[]) () [0] [] j ?_
  rintro k_ g ⟨⟩ k l m i
  refine Y2 ?_
  refine Tb l (λc=> ?_) λc=> ?_
  ·refine Z1 ?_
   refine Zl ?_
   refine Z1 ?_
   have ⟨u,n,o⟩:=bnd c
   refine Ly (Yl.xav (ty:=dQ) (h0:=()) n rfl rfl rfl rfl rfl rfl rfl rfl rfl) ?_
   refine Ll λv=> ?_
   refine Lt 0 ?_
   refine Y1 ?_
   have ⟨p,q,s⟩:=bnd o
   refine Tj0 [(19,.bool p)] [0,2,5,6,7] [] [0,1] ?_ ?_
   ·refine Z0 ?_
    refine Lw 14 q (λd=> ?_) λd=> ?_
    ·refine Z0 ?_
     cases d
     exact Eg0 [0,0] 0
    refine Z0 ?_
    cases d
    exact Eg0 [0,0] 0
   refine Tb s (λe=> ?_) λe=> ?_
   ·refine Z1 ?_
    refine Lt 1 ?_
    refine Z0 ?_
    obtain ⟨w,hz,t⟩:=fG e
    subst k
    have hb:=i _ rfl
    subst a
    obtain rfl:=(sm f).symm
    refine Z0 ?_
    cases t
    exact Eo () [] [] (.cell 0 rfl rfl rfl (.tmp rfl .nil))
   refine Z0 ?_
   cases e
   exact Eg (_,()) (m _ rfl) [1] [] 0
  refine Z0 ?_
  cases c
  have hb:=i _ rfl
  subst a
  exact Eg (_,()) rfl [0] [] 0
 rintro ⟨x,⟨⟩⟩ hy
 subst hy
 refine Z1 ?_
 refine Lt 0 ?_
 refine Z0 ?_
 cases f
 exact Eo () [] [] (.cell 0 rfl rfl rfl (.tmp rfl .nil))
theorem th {b:Int} {r:bV×(List Int)} (H:kZ b=some r):CT G 306 [.int .u8 b] [] [Im.sl dQ (some ⟨3,0,none⟩) 8 bX] (λh:(Option Addr×Nat)=> .tuple #[.agg #[.int .u8 r.1.lead,.int .i32 r.1.rune,.int .i64 r.1.ja],.slice h.1 r.2.length h.2]) (λh=>[Ch.arr (Ty.int .i32) 21 h.1 h.2 r.2]) (λh=>[]):=by
 delta kZ at H
 refine Cf Go.Proofs.Tryz.func306 λK=> ?_
 refine Z1 ?_
 refine Ll λg1=> ?_
 refine Z2 ?_
 refine Tb H (λH5=> ?_) λH5=> ?_
 ·refine Z1 ?_
  refine La [] [] (Ac.bs (ty:=(Ty.int .i32)) (xs:=[(IntKind.i32.wrap b)]) (.cons () [] rfl .nil) rfl rfl rfl rfl rfl rfl rfl) λg6=> ?_
  refine Lt 1 ?_
  refine Z0 ?_
  cases H5
  exact Eo ((some ⟨g6,0,none⟩),1) [1] [] (.cell 0 rfl rfl rfl (.tmp rfl .nil))
 refine Z1 ?_
 have ⟨r8,h9,c⟩:=bnd H5
 refine Lk [] [0] (uS h9) λ⟨⟩=> ?_
 refine Z0 ?_
 refine Ll λg=> ?_
 refine Lt 0 ?_
 refine Z2 ?_
 refine Tb c (λa=> ?_) λa=> ?_
 ·refine Z1 ?_
  refine La [] [] (Ac.bs (ty:=(Ty.int .i32)) (xs:=[65533]) (.cons () [] rfl .nil) rfl rfl rfl rfl rfl rfl rfl) λd=> ?_
  refine Lt 2 ?_
  refine Z0 ?_
  cases a
  exact Eo ((some ⟨d,0,none⟩),1) [1] [] (.cell 0 rfl rfl rfl (.tmp rfl .nil))
 refine Y1 ?_
 refine Td [10] [0,0] mo ?_
 refine Dq 0 ?_
 refine Dq 1 ?_
 refine Dq 2 ?_
 refine Dq 3 ?_
 refine Db 4 0 ?_
 have ⟨_,e,f⟩:=bnd a
 refine Dy 5 (Yl.shr (nb:=32) rfl e rfl rfl rfl) ?_
 refine Dq 6 ?_
 refine Dq 7 ?_
 refine Db 8 0 ?_
 refine Dq 9 ?_
 refine Dt 1 ?_
 refine Dq 11 ?_
 refine Dn ?_
 refine Z0 ?_
 refine E.gA (Ty.int .i32) 21 ?_
 cases f
 exact Eo (none,0) [0] [] (.cell 1 rfl rfl rfl (.tmp rfl .nil))
theorem rJ {d:bV} {b:Int} {r:Bool} (H:ik d b=some r):CT G 307 [.agg #[.int .u8 d.lead,.int .i32 d.rune,.int .i64 d.ja],.int .u8 b] [] [Im.sl dQ (some ⟨3,0,none⟩) 8 bX] (λ_:Unit=> .bool r) (λh=>[]) (λh=>[]):=by
 delta ik at H
 refine Cf Go.Proofs.Tryz.func307 λK=> ?_
 refine Z1 ?_
 refine Lx λg1=> ?_
 refine Z1 ?_
 have ⟨r2,h3,H4⟩:=bnd H
 refine Lk [] [0] (uS h3) λ⟨⟩=> ?_
 refine Z0 ?_
 refine Ll λg5=> ?_
 refine Lt 0 ?_
 refine Z2 ?_
 refine Tb H4 (λa=> ?_) λa=> ?_
 ·refine Y1 ?_
  have ⟨f,g,i⟩:=bnd a
  refine Tj0 [(4,.bool f)] [] [] [0,1] ?_ ?_
  ·refine Z0 ?_
   refine Lw 20 g (λc=> ?_) λc=> ?_
   ·refine Z0 ?_
    cases c
    exact Eg0 [0,0] 0
   refine Z0 ?_
   cases c
   exact Eg0 [0,0] 0
  refine Z0 ?_
  cases i
  exact Eo1 () [] []
 refine Y1 ?_
 have ⟨j,k,l⟩:=bnd a
 refine Tj0 [(4,.bool j)] [] [] [0,1] ?_ ?_
 ·refine Z0 ?_
  refine Lw 28 k (λe=> ?_) λe=> ?_
  ·refine Z0 ?_
   cases e
   exact Eg0 [0,0] 0
  refine Z0 ?_
  cases e
  exact Eg0 [0,0] 0
 refine Z0 ?_
 cases l
 exact Eo1 () [] []
theorem rK {d:bV} {b:Int} {r:bV×(List Int)} (H:il d b=some r):CT G 282 [.agg #[.int .u8 d.lead,.int .i32 d.rune,.int .i64 d.ja],.int .u8 b] [] [Im.sl dQ (some ⟨3,0,none⟩) 8 bX] (λh:(Option Addr×Nat)=> .tuple #[.agg #[.int .u8 r.1.lead,.int .i32 r.1.rune,.int .i64 r.1.ja],.slice h.1 r.2.length h.2]) (λh=>[Ch.arr (Ty.int .i32) 21 h.1 h.2 r.2]) (λh=>[]):=by
 delta il at H
 refine Cf Go.Proofs.Tryz.func282 λK=> ?_
 refine Z1 ?_
 refine Lx λg1=> ?_
 refine Ll λg2=> ?_
 refine Z2 ?_
 refine Tb H (λf=> ?_) λf=> ?_
 ·refine Z1 ?_
  have ⟨B,l,m⟩:=bnd f
  refine Lk [] [0] (th l) λ⟨n,o⟩=> ?_
  refine Z0 ?_
  refine Lt 1 ?_
  refine Z0 ?_
  cases m
  exact Eo (n,o) [1] [] (.cell 0 rfl rfl rfl (.tmp rfl .nil))
 refine Z2 ?_
 have ⟨C,p,q⟩:=bnd f
 refine Lk [] [0] (rJ p) λ⟨⟩=> ?_
 refine Z0 ?_
 refine Tb q (λg=> ?_) λg=> ?_
 ·refine Z1 ?_
  have ⟨F,s,t⟩:=bnd g
  refine Lk [] [0] (th s) λ⟨I,J⟩=> ?_
  refine Z0 ?_
  refine Ll λM=> ?_
  refine Lt 0 ?_
  refine Y1 ?_
  refine Td [4] [0,1,1] mo ?_
  refine Db 0 0 ?_
  refine Dq 2 ?_
  refine Da [] [] rfl rfl (Ac.bs (ty:=(Ty.int .i32)) (xs:=[65533]) (.cons () [] rfl .nil) rfl rfl rfl rfl rfl rfl rfl) λN=> ?_
  refine D.frz 1 rfl ?_
  have ⟨_,u,v⟩:=bnd t
  refine Da [0] [0] rfl rfl (Ac.ap (ty:=(Ty.int .i32)) u rfl rfl rfl rfl rfl rfl rfl) ?_
  rintro ⟨w,x⟩
  refine Dt 1 ?_
  refine Dq 5 ?_
  refine Dn ?_
  refine Z0 ?_
  cases v
  exact Eo (w,x) [3] [] (.cell 0 rfl rfl rfl (.tmp rfl .nil))
 refine Z1 ?_
 refine Lt 1 ?_
 refine Z0 ?_
 refine Lt 0 ?_
 refine Z2 ?_
 refine Tb g (λi=> ?_) λi=> ?_
 ·refine Y1 ?_
  have ⟨j,k,y⟩:=bnd i
  refine Tjh (η:=(Option Addr×Nat)) (λh=>(λc e=>[(5,.slice c j.length e)]) h.1 h.2) [4] (λh=>(λc e=>[Ch.arr (Ty.int .i32) 21 c e j]) h.1 h.2) [0,1] (λ_=>[]) ?_ ?_
  ·refine Td [] [0] mo ?_
   refine Dq 0 ?_
   refine Dq 1 ?_
   refine Db 2 0 ?_
   refine D.two rfl rfl rfl ?_ ?_
   ·refine Dp.a [] [] (Ac.bs (ty:=(Ty.int .i32)) (xs:=[(Go.bits .or .i32 (IntKind.i32.wrap (d.rune*2 ^ (min 6 32))) (Go.bits .and .i32 (IntKind.i32.wrap b) 63))]) (.cons () [] rfl .nil) rfl rfl rfl rfl rfl rfl rfl) rfl rfl rfl rfl rfl rfl ?_
    intro z
    refine Da [1] [] rfl rfl (Ac.stb rfl rfl rfl rfl rfl rfl) λ_=> ?_
    refine Dq 5 ?_
    refine Dn ?_
    cases k
    exact Eg ((some ⟨z,0,none⟩),1) trivial [2,0,0] [] 0
   refine Dp.a [0] [] (Ac.stb rfl rfl rfl rfl rfl rfl) rfl rfl rfl rfl rfl rfl ?_
   intro _
   refine Da [] [] rfl rfl (Ac.bs (ty:=(Ty.int .i32)) (xs:=[(Go.bits .or .i32 (IntKind.i32.wrap (d.rune*2 ^ (min 6 32))) (Go.bits .and .i32 (IntKind.i32.wrap b) 63))]) (.cons () [] rfl .nil) rfl rfl rfl rfl rfl rfl rfl) λA=> ?_
   refine Dq 5 ?_
   refine Dn ?_
   cases k
   exact Eg ((some ⟨A,0,none⟩),1) trivial [1,0,0] [] 0
  rintro ⟨c,e⟩
  refine Z0 ?_
  cases y
  exact Eo (c,e) [0] [] (.cell 2 rfl rfl rfl (.tmp rfl .nil))
 refine Z1 ?_
 refine Lt 1 ?_
 refine Z0 ?_
 refine E.gA (Ty.int .i32) 21 ?_
 cases i
 exact Eo (none,0) [0] [] (.cell 1 rfl rfl rfl (.tmp rfl .nil))
theorem qQ {p:aE} {b:Int} {r:aE} (H:gT p b=some r):CT G 226 [.pointer (some ⟨N0,0,none⟩),.int .u8 b] [Ch.box N0 151 (gR p A0 C0 A1 C1),Ch.opt (p.state == (3:Int)) (Ty.int .i64) 3 A0 C0 p.order.aW,Ch.arr bL 247 A1 C1 p.out] [Im.sl dQ (some ⟨3,0,none⟩) 8 bX] (λh:(Option Addr×Nat)=> .tuple #[]) (λh=>[Ch.box N0 151 (gR r A0 C0 h.1 h.2),Ch.opt (r.state == (3:Int)) (Ty.int .i64) 3 A0 C0 r.order.aW,Ch.arr bL 247 h.1 h.2 r.out]) (λh=>[]):=by
 delta gT at H
 refine Cf Go.Proofs.Tryz.func226 λK=> ?_
 refine Y2 ?_
 have ⟨e4,H5,H6⟩:=bnd H
 refine Tj0 [(10,.bool e4)] [0,1] [] [0,1,2] ?_ ?_
 ·refine Z0 ?_
  refine Lw 7 H5 (λH7=> ?_) λH7=> ?_
  ·refine Z0 ?_
   cases H7
   exact Eg0 [0,0,0] 0
  refine Z0 ?_
  cases H7
  exact Eg0 [0,0,0] 0
 refine Tb H6 (λa=> ?_) λa=> ?_
 ·refine Z1 ?_
  have ⟨t,c,d⟩:=bnd a
  refine Lk [] [] (sM c) λ⟨u,v⟩=> ?_
  refine L.frz 0 rfl ?_
  have ⟨w,e,f⟩:=bnd d
  refine Lk [0,0,0] [0] (oK e) λ⟨x,y⟩=> ?_
  refine Z1 ?_
  refine Lt 0 ?_
  refine Z1 ?_
  have ⟨z,g,i⟩:=bnd f
  refine Lk [0,0,0] [] (km g) λ⟨j,k⟩=> ?_
  refine Z0 ?_
  cases i
  exact Eo (j,k) [0,0,0] [] .nil
 refine Z2 ?_
 have ⟨A,l,m⟩:=bnd a
 refine Lk [] [0] (rK l) λ⟨B,C⟩=> ?_
 refine Z0 ?_
 refine Lt 1 ?_
 refine Z0 ?_
 refine L.frz 1 rfl ?_
 have ⟨F,n,o⟩:=bnd m
 refine Lk [0,0,0] [0] (oK n) λ⟨q,s⟩=> ?_
 refine Ln (E.off ?_)
 cases o
 exact Eo (q,s) [0,0,0] [] .nil
theorem mZ {p:aE} {b:Int} {r:aE} (H:fO p b=some r):CT G 227 [.pointer (some ⟨N0,0,none⟩),.int .u8 b] [Ch.box N0 151 (gR p A0 C0 A1 C1),Ch.opt (p.state == (3:Int)) (Ty.int .i64) 3 A0 C0 p.order.aW,Ch.arr bL 247 A1 C1 p.out] [] (λh:(Option Addr×Nat)×(Option Addr×Nat)=> .tuple #[]) (λh=>[Ch.box N0 151 (gR r h.1.1 h.1.2 h.2.1 h.2.2),Ch.opt (r.state == (3:Int)) (Ty.int .i64) 3 h.1.1 h.1.2 r.order.aW,Ch.arr bL 247 h.2.1 h.2.2 r.out]) (λh=>[]):=by
 delta fO at H
 refine Cf Go.Proofs.Tryz.func227 λK=> ?_
 refine Z2 ?_
 have ⟨r1,h2,H3⟩:=bnd H
 refine Lk [0,0,0] [] (km h2) λ⟨a4,c5⟩=> ?_
 refine Z0 ?_
 refine Tb H3 (λH9=> ?_) λH9=> ?_
 ·refine Z0 ?_
  cases H9
  exact Eo ((A0,C0),(a4,c5)) [0,0,0] [] .nil
 refine Y1 ?_
 have ⟨c,m,d⟩:=bnd H9
 refine Tj (η:=aE×((Option Addr×Nat))) (λh=>c = .inl h.1) (λ_=>[]) [0] (λh=>(λa=>(λe g=>[Ch.opt (a.state == (3:Int)) (Ty.int .i64) 3 A0 C0 a.order.aW,Ch.arr bL 247 e g a.out,Ch.box N0 151 (gR a A0 C0 e g)]) h.2.1 h.2.2) h.1) [] (λ_=>[]) ?_ ?_
 ·refine Zl ?_
  refine Z1 ?_
  refine Tb m (λi=> ?_) λi=> ?_
  ·refine Z1 ?_
   refine Lt 0 ?_
   refine Z0 ?_
   refine Lt 0 ?_
   refine Z0 ?_
   obtain ⟨x,hz,n⟩:=eP i
   subst c
   obtain rfl:=(sm d).symm
   refine Z0 ?_
   refine E.gA (Ty.int .i64) 3 ?_
   refine E.EO 0 (3 == (3:Int)) rfl ?_
   cases n
   exact Eo ((none,0),(a4,c5)) [1,0,1] [] .nil
  refine Z1 ?_
  refine Tb i (λj=> ?_) λj=> ?_
  ·refine Z1 ?_
   refine Lt 0 ?_
   refine Z0 ?_
   refine Lt 0 ?_
   refine Z0 ?_
   obtain ⟨y,hz,o⟩:=eP j
   subst c
   obtain rfl:=(sm d).symm
   refine Z0 ?_
   refine E.oset 1 (4 == (3:Int)) rfl rfl ?_
   cases o
   exact Eo ((A0,C0),(a4,c5)) [1,0,0] [] .nil
  refine Z1 ?_
  refine Tb j (λk=> ?_) λk=> ?_
  ·refine Z1 ?_
   refine Lt 0 ?_
   refine Z0 ?_
   obtain ⟨z,hz,q⟩:=eP k
   subst c
   obtain rfl:=(sm d).symm
   refine Z0 ?_
   refine E.oset 1 (2 == (3:Int)) rfl rfl ?_
   cases q
   exact Eo ((A0,C0),(a4,c5)) [1,0,0] [] .nil
  refine Z1 ?_
  refine Tb k (λl=> ?_) λl=> ?_
  ·refine Z0 ?_
   refine L.lk [Im.sl (Ty.int .i64) none 0 []] (λA w _ _ f hf=>by rw [List.mem_singleton.1 hf]; exact Im.k9 A w) ?_
   have ⟨B,s,t⟩:=bnd l
   refine Lk [0,0,0] [0] (lg s) λ⟨u,v⟩=> ?_
   refine Z0 ?_
   cases t
   exact Eg (_,(u,v)) rfl [1,1,0] [] 1
  refine Z0 ?_
  cases l
  exact Eg (_,(a4,c5)) rfl [1,1,0] [] 0
 rintro ⟨a,⟨e,g⟩⟩ hy
 subst hy
 refine Z0 ?_
 refine Lt 2 ?_
 refine Ln (E.off ?_)
 refine E.oset 1 (0 == (3:Int)) rfl rfl ?_
 cases d
 exact Eo ((A0,C0),(e,g)) [1,0,0] [] .nil
theorem sN {p:aE} {b:Int} {r:aE} (H:iT p b=some r):CT G 228 [.pointer (some ⟨N0,0,none⟩),.int .u8 b] [Ch.box N0 151 (gR p A0 C0 A1 C1),Ch.opt (p.state == (3:Int)) (Ty.int .i64) 3 A0 C0 p.order.aW,Ch.arr bL 247 A1 C1 p.out] [] (λh:(Option Addr×Nat)=> .tuple #[]) (λh=>[Ch.box N0 151 (gR r A0 C0 h.1 h.2),Ch.opt (r.state == (3:Int)) (Ty.int .i64) 3 A0 C0 r.order.aW,Ch.arr bL 247 h.1 h.2 r.out]) (λh=>[]):=by
 delta iT at H
 refine Cf Go.Proofs.Tryz.func228 λK=> ?_
 refine Y1 ?_
 have ⟨d,j,k⟩:=bnd H
 refine Tjh (η:=(Option Addr×Nat)) (λh=>(λa c=>[(11,.bool d.1)]) h.1 h.2) [0] (λh=>(λa c=>[Ch.opt (d.2.state == (3:Int)) (Ty.int .i64) 3 A0 C0 d.2.order.aW,Ch.arr bL 247 a c d.2.out,Ch.box N0 151 (gR d.2 A0 C0 a c)]) h.1 h.2) [] (λ_=>[]) ?_ ?_
 ·refine Z0 ?_
  have ⟨n,l,m⟩:=bnd j
  refine Lk [0,0,0] [] (km l) λ⟨g,i⟩=> ?_
  refine Z0 ?_
  refine Lw 8 m (λe=> ?_) λe=> ?_
  ·refine Z0 ?_
   cases e
   exact Eg (g,i) trivial [1,1,0] [] 0
  refine Z0 ?_
  cases e
  exact Eg (g,i) trivial [1,1,0] [] 0
 rintro ⟨a,c⟩
 refine Tb k (λf=> ?_) λf=> ?_
 ·refine Z0 ?_
  refine Lt 2 ?_
  refine Ln (E.off ?_)
  refine E.oset 1 (0 == (3:Int)) rfl rfl ?_
  cases f
  exact Eo (a,c) [1,0,0] [] .nil
 refine Tk (E.off ?_)
 cases f
 exact Eo (a,c) [2,0,0] [] .nil
theorem pW {o:aE} {r:aE} (H:jn o=some r):CT G 284 [.pointer (some ⟨N0,1,none⟩)] [Ch.box N0 151 (gR o A0 C0 A1 C1),Ch.arr (Ty.int .i64) 3 A0 C0 o.order.aW,Ch.arr bL 247 A1 C1 o.out] [] (λh:(Option Addr×Nat)=> .tuple #[]) (λh=>[Ch.box N0 151 (gR r h.1 h.2 A1 C1),Ch.arr (Ty.int .i64) 3 h.1 h.2 r.order.aW,Ch.arr bL 247 A1 C1 r.out]) (λh=>[]):=by
 delta jn at H
 refine Cf Go.Proofs.Tryz.func284 λK=> ?_
 refine Z2 ?_
 have ⟨c,e,f⟩:=bnd H
 refine Tjh (η:=(Option Addr×Nat)) (λ_=>[]) [0] (λh=>(λa b=>[Ch.arr (Ty.int .i64) 3 a b c.order.aW,Ch.arr bL 247 A1 C1 c.out,Ch.box N0 151 (gR c a b A1 C1)]) h.1 h.2) [] (λ_=>[]) ?_ ?_
 ·refine Tb e (λd=> ?_) λd=> ?_
  ·refine Td [13] [0,1] mo ?_
   refine Dq 0 ?_
   refine Dq 1 ?_
   refine Dq 2 ?_
   refine Dq 3 ?_
   refine Db 4 0 ?_
   refine Dq 5 ?_
   refine Dq 6 ?_
   refine Dq 7 ?_
   refine Db 8 0 ?_
   refine Da [] [] rfl rfl (Ac.bs (ty:=(Ty.int .i64)) (xs:=[o.order.n]) (.cons () [] rfl .nil) rfl rfl rfl rfl rfl rfl rfl) λl=> ?_
   refine D.frz 0 rfl ?_
   have ⟨_,g,i⟩:=bnd d
   refine Da [0] [0] rfl rfl (Ac.ap (ty:=(Ty.int .i64)) g rfl rfl rfl rfl rfl rfl rfl) ?_
   rintro ⟨j,k⟩
   refine Dq 11 ?_
   refine Dq 12 ?_
   refine Dt 0 ?_
   refine Dn ?_
   cases i
   exact Eg (j,k) trivial [2,1,0] [] 1
  refine Z0 ?_
  cases d
  exact Eg (A0,C0) trivial [1,1,0] [] 0
 rintro ⟨a,b⟩
 refine Z0 ?_
 refine Lt 2 ?_
 refine Ln (E.off ?_)
 cases f
 exact Eo (a,b) [0,0,0] [] .nil
theorem rL {p:aE} {a:bC} {r:aE} (H:iw p a=some r):CT G 283 [.pointer (some ⟨N0,0,none⟩),.agg (xW a A2 C2).toArray] [Ch.box N0 151 (gR p A0 C0 A1 C1),Ch.arr bL 247 A1 C1 p.out] [Im.sl (Ty.int .i64) A0 C0 p.order.aW,Im.sl (Ty.int .i64) A2 C2 a.aW] (λh:(Option Addr×Nat)=> .tuple #[]) (λh=>[Ch.box N0 151 (gR r A0 C0 h.1 h.2),Ch.arr bL 247 h.1 h.2 r.out]) (λh=>[Im.sl (Ty.int .i64) A0 C0 r.order.aW]):=by
 delta iw at H
 refine Cf Go.Proofs.Tryz.func283 λK=> ?_
 refine Z1 ?_
 refine Lx λg1=> ?_
 refine Z0 ?_
 refine Td [7,10] [0,0,0] mo ?_
 refine Dq 0 ?_
 refine Dq 1 ?_
 refine Dq 2 ?_
 refine Dq 3 ?_
 refine Db 4 1 ?_
 refine Db 5 0 ?_
 refine Da [] [1] rfl rfl (Ac.bs (ty:=bL) (xs:=[a]) (.cons (A2,C2) [0] rfl .nil) rfl rfl rfl rfl rfl rfl rfl) λf=> ?_
 refine D.frz 0 rfl ?_
 have ⟨_,b,c⟩:=bnd H
 refine D.one rfl rfl rfl (Dp.al [2] [0] (Ac.ap (ty:=bL) b rfl rfl rfl rfl rfl rfl rfl) rfl rfl rfl rfl rfl rfl rfl ?_)
 rintro ⟨d,e⟩
 refine Dq 8 ?_
 refine Dq 9 ?_
 refine Dt 2 ?_
 refine Dn ?_
 refine E.off ?_
 cases c
 exact Eo (d,e) [0,0] [1] .nil
theorem sO {p:aE} {b:Int} {r:aE} (H:iU p b=some r):CT G 285 [.pointer (some ⟨N0,0,none⟩),.int .u8 b] [Ch.box N0 151 (gR p A0 C0 A1 C1),Ch.arr (Ty.int .i64) 3 A0 C0 p.order.aW,Ch.arr bL 247 A1 C1 p.out] [] (λh:(Option Addr×Nat)×(Option Addr×Nat)=> .tuple #[]) (λh=>[Ch.box N0 151 (gR r h.1.1 h.1.2 h.2.1 h.2.2),Ch.opt (r.state == (3:Int)) (Ty.int .i64) 3 h.1.1 h.1.2 r.order.aW,Ch.arr bL 247 h.2.1 h.2.2 r.out]) (λh=>[]):=by
 delta iU at H
 refine Cf Go.Proofs.Tryz.func285 λK=> ?_
 refine Z1 ?_
 refine Lt 0 ?_
 refine Z2 ?_
 refine Tb H (λH2=> ?_) λH2=> ?_
 ·refine Z0 ?_
  refine E.EO 1 (0 == (3:Int)) rfl ?_
  cases H2
  exact Eo ((A0,C0),(A1,C1)) [1,0,0] [] .nil
 refine Z2 ?_
 have ⟨d,f,g⟩:=bnd H2
 refine Tjh (η:=(Option Addr×Nat)) (λ_=>[]) [0,1] (λh=>(λa c=>[Ch.arr (Ty.int .i64) 3 a c d.order.aW,Ch.arr bL 247 A1 C1 d.out,Ch.box N0 151 (gR d a c A1 C1)]) h.1 h.2) [] (λ_=>[]) ?_ ?_
 ·refine Tb f (λe=> ?_) λe=> ?_
  ·refine Z0 ?_
   have ⟨v,i,j⟩:=bnd e
   refine Lk [0,0,0] [] (pW i) λ⟨k,l⟩=> ?_
   refine Z0 ?_
   cases j
   exact Eg (k,l) trivial [1,1,0] [] 0
  refine Z0 ?_
  cases e
  exact Eg (A0,C0) trivial [1,1,0] [] 0
 rintro ⟨a,c⟩
 refine Td [13] [1,1] mo ?_
 refine Dq 0 ?_
 refine Dq 1 ?_
 refine Dq 2 ?_
 refine Dq 3 ?_
 refine Dq 4 ?_
 refine Dq 5 ?_
 refine Db 6 1 ?_
 refine Dq 7 ?_
 refine Dq 8 ?_
 refine Dq 9 ?_
 refine Dq 10 ?_
 refine Db 11 1 ?_
 refine Dq 12 ?_
 refine D.frz 0 rfl ?_
 have ⟨m,n,o⟩:=bnd g
 refine Dkl [1,0] [0,0] (rL n) λ⟨q,s⟩=> ?_
 refine Dn ?_
 refine E.off ?_
 have ⟨_,t,u⟩:=bnd o
 refine E.oim 0 3 (m.state == (3:Int)) (Lu t) rfl ?_
 cases u
 exact Eo ((a,c),(q,s)) [1,0,0] [] .nil
theorem qv {p:aE} {b:Int} {r:aE} (H:gI p b=some r):CT G 229 [.pointer (some ⟨N0,0,none⟩),.int .u8 b] [Ch.box N0 151 (gR p A0 C0 A1 C1),Ch.opt (p.state == (3:Int)) (Ty.int .i64) 3 A0 C0 p.order.aW,Ch.arr bL 247 A1 C1 p.out] [] (λh:(Option Addr×Nat)×(Option Addr×Nat)=> .tuple #[]) (λh=>[Ch.box N0 151 (gR r h.1.1 h.1.2 h.2.1 h.2.2),Ch.opt (r.state == (3:Int)) (Ty.int .i64) 3 h.1.1 h.1.2 r.order.aW,Ch.arr bL 247 h.2.1 h.2.2 r.out]) (λh=>[]):=by
 delta gI at H
 refine Cf Go.Proofs.Tryz.func229 λK=> ?_
 refine Z2 ?_
 have ⟨r1,h2,H3⟩:=bnd H
 refine Lk [0,0,0] [] (km h2) λ⟨a4,c5⟩=> ?_
 refine Z0 ?_
 refine Tb H3 (λH9=> ?_) λH9=> ?_
 ·refine Z0 ?_
  cases H9
  exact Eo ((A0,C0),(a4,c5)) [0,0,0] [] .nil
 refine Z2 ?_
 refine Lt 0 ?_
 refine Zl ?_
 refine Y1 ?_
 have ⟨k,l,m⟩:=bnd H9
 refine Tj0 [(22,.bool k)] [0,1,4] [] [0,1,2] ?_ ?_
 ·refine Z0 ?_
  refine Lw 25 l (λa=> ?_) λa=> ?_
  ·refine Z0 ?_
   cases a
   exact Eg0 [0,0,0] 0
  refine Z0 ?_
  cases a
  exact Eg0 [0,0,0] 0
 refine Tb m (λc=> ?_) λc=> ?_
 ·refine Z0 ?_
  refine Lt 0 ?_
  refine Z0 ?_
  refine Lt 0 ?_
  refine Ln (Eb (E.off ?_))
  cases c
  exact Eo ((A0,C0),(a4,c5)) [0,0,0] [] .nil
 refine Y1 ?_
 have ⟨n,o,q⟩:=bnd c
 refine Tj0 [(48,.bool n)] [0,1,4] [] [0,1,2] ?_ ?_
 ·refine Z0 ?_
  refine Lw 51 o (λd=> ?_) λd=> ?_
  ·refine Z0 ?_
   cases d
   exact Eg0 [0,0,0] 0
  refine Z0 ?_
  cases d
  exact Eg0 [0,0,0] 0
 refine Tb q (λe=> ?_) λe=> ?_
 ·refine Z1 ?_
  have ⟨_,s,t⟩:=bnd e
  refine L.IU 1 s rfl ?_
  have ⟨u,v,w⟩:=bnd t
  refine Lk [1,0,0] [] (pW v) λ⟨x,y⟩=> ?_
  refine Z0 ?_
  refine Lt 0 ?_
  refine Ln (Eb (E.off ?_))
  refine E.EO 1 (u.state == (3:Int)) rfl ?_
  cases w
  exact Eo ((x,y),(a4,c5)) [1,0,0] [] .nil
 refine Y1 ?_
 have ⟨z,A,B⟩:=bnd e
 refine Tj0 [(63,.bool z)] [0,1] [] [0,1,2] ?_ ?_
 ·refine Z0 ?_
  refine Lw 66 A (λf=> ?_) λf=> ?_
  ·refine Z0 ?_
   cases f
   exact Eg0 [0,0,0] 0
  refine Z0 ?_
  cases f
  exact Eg0 [0,0,0] 0
 refine Tb B (λg=> ?_) λg=> ?_
 ·refine Z0 ?_
  refine Lt 0 ?_
  refine Ln (Eb (E.off ?_))
  cases g
  exact Eo ((A0,C0),(a4,c5)) [0,0,0] [] .nil
 refine Y1 ?_
 have ⟨C,F,I⟩:=bnd g
 refine Tj0 [(73,.bool C)] [0,1] [] [0,1,2] ?_ ?_
 ·refine Z0 ?_
  refine Lw 76 F (λi=> ?_) λi=> ?_
  ·refine Z0 ?_
   cases i
   exact Eg0 [0,0,0] 0
  refine Z0 ?_
  cases i
  exact Eg0 [0,0,0] 0
 refine Tb I (λj=> ?_) λj=> ?_
 ·refine Z0 ?_
  have ⟨_,J,M⟩:=bnd j
  refine L.IU 1 J rfl ?_
  have ⟨U,N,O⟩:=bnd M
  refine Lk [1,0,0] [] (sO N) λ⟨⟨P,Q⟩,⟨R,S⟩⟩=> ?_
  refine Ln (Eb (E.off ?_))
  cases O
  exact Eo ((P,Q),(R,S)) [0,0,0] [] .nil
 refine Z0 ?_
 refine Lt 0 ?_
 refine Ln (Eb (E.off ?_))
 cases j
 exact Eo ((A0,C0),(a4,c5)) [0,0,0] [] .nil
end Go.Tw.X
namespace Go.Tw.X
open Go Go.Tw
variable {A0 A1 A2 A3 A4 A5 A6 A7 A8 A9 A10 A11 A12 A13 A14 A15 A16 A17 A18 A19 A20 A21 A22 : Option Addr} {C0 C1 C2 C3 C4 C5 C6 C7 C8 C9 C10 C11 C12 C13 C14 C15 C16 C17 C18 C19 C20 C21 C22 : Nat}
variable {N0 N1 N2 N3 N4 N5 N6 : Nat}
theorem pX {s_:ByteArray} {prefix_:ByteArray} {r:Bool} (H:gb s_ prefix_=some r):CT G 316 [.string s_,.string prefix_] [] [] (λ_:Unit=> .bool r) (λh=>[]) (λh=>[]):=by
 delta gb at H
 refine Cf Go.Proofs.Tryz.func316 λK=> ?_
 refine Y2 ?_
 have ⟨e8,H9,b⟩:=bnd H
 refine Tj0 [(4,.bool e8)] [] [] [] ?_ ?_
 ·refine Z0 ?_
  refine Lw 10 H9 (λa=> ?_) λa=> ?_
  ·refine Z0 ?_
   have ⟨_,c,d⟩:=bnd a
   refine Ly (Yl.sc c rfl rfl rfl rfl rfl rfl) ?_
   refine Z0 ?_
   cases d
   exact Eg0 [] 0
  refine Z0 ?_
  cases a
  exact Eg0 [] 0
 refine Z0 ?_
 cases b
 exact Eo1 () [] []
theorem pY {s_:ByteArray} {prefix_:ByteArray} {r:ByteArray×Bool} (H:iJ s_ prefix_=some r):CT G 308 [.string s_,.string prefix_] [] [] (λ_:Unit=> .tuple #[.string r.1,.bool r.2]) (λh=>[]) (λh=>[]):=by
 delta iJ at H
 refine Cf Go.Proofs.Tryz.func308 λK=> ?_
 refine Z3 ?_
 have ⟨r1,h2,H3⟩:=bnd H
 refine Lk [] [] (pX h2) λ⟨⟩=> ?_
 refine Z0 ?_
 refine Tb H3 (λH5=> ?_) λH5=> ?_
 ·refine Z1 ?_
  cases H5
  exact Eo () [] [] (.tmp rfl (.tmp rfl .nil))
 refine Z1 ?_
 have ⟨_,h6,H7⟩:=bnd H5
 refine Ly (Yl.sc h6 rfl rfl rfl rfl rfl rfl) ?_
 refine Z0 ?_
 cases H7
 exact Eo () [] [] (.tmp rfl (.tmp rfl .nil))
theorem sP {s_:ByteArray} {prefix_:ByteArray} {r:ByteArray×Bool} (H:iS s_ prefix_=some r):CT G 286 [.string s_,.string prefix_] [] [] (λ_:Unit=> .tuple #[.string r.1,.bool r.2]) (λh=>[]) (λh=>[]):=by
 delta iS at H
 refine Cf Go.Proofs.Tryz.func286 λK=> ?_
 refine Z2 ?_
 have ⟨r1,h2,H3⟩:=bnd H
 refine Lk [] [] (pY h2) λ⟨⟩=> ?_
 refine Z0 ?_
 cases H3
 exact Eo () [] [] (.tmp rfl (.tmp rfl .nil))
theorem o8 {p:aE} {r:aE} (H:iK p=some r):CT G 231 [.pointer (some ⟨N0,0,none⟩)] [Ch.box N0 151 (gR p A0 C0 A1 C1),Ch.opt (p.state == (3:Int)) (Ty.int .i64) 3 A0 C0 p.order.aW,Ch.arr bL 247 A1 C1 p.out] [] (λh:(Option Addr×Nat)=> .tuple #[]) (λh=>[Ch.box N0 151 (gR r A0 C0 h.1 h.2),Ch.opt (r.state == (3:Int)) (Ty.int .i64) 3 A0 C0 r.order.aW,Ch.arr bL 247 h.1 h.2 r.out]) (λh=>[]):=by
 delta iK at H
 refine Cf Go.Proofs.Tryz.func231 λK=> ?_
 refine Z1 ?_
 refine Lt 0 ?_
 refine Z1 ?_
 refine La [] [] (Ac.bs (ty:=Ty.str) (xs:=[(ByteArray.mk #[48,59]),(ByteArray.mk #[50,59])]) (.cons () [] rfl (.cons () [] rfl .nil)) rfl rfl rfl rfl rfl rfl rfl) λg1=> ?_
 refine Z0 ?_
 have ⟨g,o,q⟩:=bnd H
 refine T.qB (η:=Unit×((Option Addr×Nat))) (λh=>True) (λh=>(λb c=>[]) h.2.1 h.2.2) (λh=>(λb c=>[Ch.opt (g.state == (3:Int)) (Ty.int .i64) 3 A0 C0 g.order.aW,Ch.arr bL 247 b c g.out,Ch.box N0 151 (gR g A0 C0 b c)]) h.2.1 h.2.2) (λh=>(λb c=>[]) h.2.1 h.2.2) ?_ ?_
 ·refine Yl0 ?_
  refine T.oset 2 (0 == (3:Int)) rfl rfl ?_
  refine Tq (η:=(Option Addr×Nat)) (λa h=>(λd e=>[(11,.int .i64 a.2)]) h.1 h.2) [0,9,10] (λa h=>(λd e=>[Ch.opt (a.1.state == (3:Int)) (Ty.int .i64) 3 A0 C0 a.1.order.aW,Ch.arr bL 247 d e a.1.out,Ch.box N0 151 (gR a.1 A0 C0 d e)]) h.1 h.2) [1] (λ_ _=>[]) (A1,C1) [0,2,1,0] [] o ?_
  rintro k_ a ⟨d,e⟩ O s t u
  refine Y2 ?_
  refine Tb s (λl=> ?_) λl=> ?_
  ·refine Y1 ?_
   have ⟨i,x,y⟩:=bnd l
   refine Tjh (η:=(Option Addr×Nat)) (λ_=>[]) [0,9,10,11] (λh=>(λj k=>[Ch.opt (i.state == (3:Int)) (Ty.int .i64) 3 A0 C0 i.order.aW,Ch.arr bL 247 j k i.out,Ch.box N0 151 (gR i A0 C0 j k)]) h.1 h.2) [3] (λ_=>[]) ?_ ?_
   ·refine Zl ?_
    refine Z1 ?_
    have ⟨z,n,B⟩:=bnd x
    refine Ly (Yl.ia n rfl rfl rfl rfl rfl rfl) ?_
    refine Ly (Yl.lo (v:= .string z) 3 a.2.toNat 0 (aY n).2 rfl rfl rfl rfl (λ_=>rfl)) ?_
    refine Z1 ?_
    have ⟨P,C,F⟩:=bnd B
    refine Lk [] [] (sP C) λ⟨⟩=> ?_
    refine Z1 ?_
    refine Tb F (λm=> ?_) λm=> ?_
    ·refine Z0 ?_
     refine L.lk [Im.sl (Ty.int .i64) none 0 []] (λA w _ _ f hf=>by rw [List.mem_singleton.1 hf]; exact Im.k9 A w) ?_
     have ⟨Q,I,J⟩:=bnd m
     refine Lk [2,0,0] [0] (lg I) λ⟨M,N⟩=> ?_
     refine Z0 ?_
     cases J
     exact Eg (M,N) trivial [1,1,0,0] [] 1
    refine Z0 ?_
    cases m
    exact Eg (d,e) trivial [0,0,0,0] [] 0
   rintro ⟨j,k⟩
   refine Z0 ?_
   cases y
   exact Eg (_,(j,k)) (t _ rfl) [0,0,0,0] [] 0
  refine Z0 ?_
  cases l
  have hb:=u _ rfl
  subst g
  exact Egx ((),(d,e)) trivial [0,0,0] []
 rintro ⟨_,⟨b,c⟩⟩ _
 refine E.off ?_
 cases q
 exact Eo (b,c) [2,0,0] [] .nil
theorem rM {p:aE} {b:Int} {r:aE} (H:iy p b=some r):CT G 230 [.pointer (some ⟨N0,0,none⟩),.int .u8 b] [Ch.box N0 151 (gR p A0 C0 A1 C1),Ch.opt (p.state == (3:Int)) (Ty.int .i64) 3 A0 C0 p.order.aW,Ch.arr bL 247 A1 C1 p.out] [] (λh:(Option Addr×Nat)=> .tuple #[]) (λh=>[Ch.box N0 151 (gR r A0 C0 h.1 h.2),Ch.opt (r.state == (3:Int)) (Ty.int .i64) 3 A0 C0 r.order.aW,Ch.arr bL 247 h.1 h.2 r.out]) (λh=>[]):=by
 delta iy at H
 refine Cf Go.Proofs.Tryz.func230 λK=> ?_
 refine Zl ?_
 refine Z1 ?_
 refine Tb H (λH1=> ?_) λH1=> ?_
 ·refine Z0 ?_
  have ⟨r2,h3,H4⟩:=bnd H1
  refine Lk [0,0,0] [] (o8 h3) λ⟨a5,c6⟩=> ?_
  refine Ln (Eb (E.off ?_))
  cases H4
  exact Eo (a5,c6) [0,0,0] [] .nil
 refine Y1 ?_
 have ⟨f,g,i⟩:=bnd H1
 refine Tj0 [(9,.bool f)] [0,1] [] [0,1,2] ?_ ?_
 ·refine Z0 ?_
  refine Lw 12 g (λa=> ?_) λa=> ?_
  ·refine Z0 ?_
   cases a
   exact Eg0 [0,0,0] 0
  refine Z0 ?_
  cases a
  exact Eg0 [0,0,0] 0
 refine Tb i (λc=> ?_) λc=> ?_
 ·refine Z0 ?_
  refine Lt 0 ?_
  refine Ln (Eb (E.off ?_))
  refine E.oset 1 (0 == (3:Int)) rfl rfl ?_
  cases c
  exact Eo (A1,C1) [1,0,0] [] .nil
 refine Z1 ?_
 refine Tb c (λd=> ?_) λd=> ?_
 ·refine Z0 ?_
  refine Lt 0 ?_
  refine Ln (Eb (E.off ?_))
  refine E.oset 1 (5 == (3:Int)) rfl rfl ?_
  cases d
  exact Eo (A1,C1) [1,0,0] [] .nil
 refine Z1 ?_
 refine Tb d (λe=> ?_) λe=> ?_
 ·refine Td [10] [0,0,0] mo ?_
  refine Dq 0 ?_
  refine Dq 1 ?_
  refine Dq 2 ?_
  refine Db 3 0 ?_
  refine Dq 4 ?_
  refine Da [] [] rfl rfl (Ac.bs (ty:=(Ty.int .u8)) (xs:=[b]) (.cons () [] rfl .nil) rfl rfl rfl rfl rfl rfl rfl) λl=> ?_
  refine D.frz 0 rfl ?_
  refine Dy 6 (Yl.bsi 0 rfl rfl rfl rfl rfl rfl rfl rfl rfl) ?_
  have ⟨_,j,k⟩:=bnd e
  refine Dy 7 (Yl.sa j rfl rfl rfl) ?_
  refine Dq 8 ?_
  refine Dq 9 ?_
  refine Dt 0 ?_
  refine Dn ?_
  refine Eb (E.off ?_)
  cases k
  exact Eo (A1,C1) [0,0,0] [] .nil
 refine Tk (Eb (E.off ?_))
 cases e
 exact Eo (A1,C1) [0,0,0] [] .nil
theorem vy {p:aE} {b:Int} {r:aE} (H:kv p b=some r):CT G 186 [.pointer (some ⟨N0,0,none⟩),.int .u8 b] [Ch.box N0 151 (gR p A0 C0 A1 C1),Ch.opt (p.state == (3:Int)) (Ty.int .i64) 3 A0 C0 p.order.aW,Ch.arr bL 247 A1 C1 p.out] [Im.sl dQ (some ⟨3,0,none⟩) 8 bX] (λh:(Option Addr×Nat)×(Option Addr×Nat)=> .tuple #[]) (λh=>[Ch.box N0 151 (gR r h.1.1 h.1.2 h.2.1 h.2.2),Ch.opt (r.state == (3:Int)) (Ty.int .i64) 3 h.1.1 h.1.2 r.order.aW,Ch.arr bL 247 h.2.1 h.2.2 r.out]) (λh=>[]):=by
 delta kv at H
 refine Cf Go.Proofs.Tryz.func186 λK=> ?_
 refine Z1 ?_
 refine Zl ?_
 refine Z1 ?_
 refine Tb H (λH1=> ?_) λH1=> ?_
 ·refine Z0 ?_
  have ⟨r2,h3,H4⟩:=bnd H1
  refine Lk [0,0,0] [0] (qQ h3) λ⟨a5,c6⟩=> ?_
  refine Ln (Eb (E.off ?_))
  cases H4
  exact Eo ((A0,C0),(a5,c6)) [0,0,0] [] .nil
 refine Z1 ?_
 refine Tb H1 (λH9=> ?_) λH9=> ?_
 ·refine Z0 ?_
  have ⟨S,f,g⟩:=bnd H9
  refine Lk [0,0,0] [] (mZ f) λ⟨⟨i,j⟩,⟨k,l⟩⟩=> ?_
  refine Ln (Eb (E.off ?_))
  cases g
  exact Eo ((i,j),(k,l)) [0,0,0] [] .nil
 refine Z1 ?_
 refine Tb H9 (λa=> ?_) λa=> ?_
 ·refine Z0 ?_
  have ⟨U,m,n⟩:=bnd a
  refine Lk [0,0,0] [] (sN m) λ⟨o,q⟩=> ?_
  refine Ln (Eb (E.off ?_))
  cases n
  exact Eo ((A0,C0),(o,q)) [0,0,0] [] .nil
 refine Z1 ?_
 refine Tb a (λc=> ?_) λc=> ?_
 ·refine Z0 ?_
  have ⟨V,s,t⟩:=bnd c
  refine Lk [0,0,0] [] (qv s) λ⟨⟨u,v⟩,⟨w,x⟩⟩=> ?_
  refine Ln (Eb (E.off ?_))
  cases t
  exact Eo ((u,v),(w,x)) [0,0,0] [] .nil
 refine Z1 ?_
 refine Tb c (λd=> ?_) λd=> ?_
 ·refine Z0 ?_
  have ⟨W,y,z⟩:=bnd d
  refine Lk [0,0,0] [] (rM y) λ⟨A,B⟩=> ?_
  refine Ln (Eb (E.off ?_))
  cases z
  exact Eo ((A0,C0),(A,B)) [0,0,0] [] .nil
 refine Z2 ?_
 refine Tb d (λe=> ?_) λe=> ?_
 ·refine Z1 ?_
  have ⟨X,C,F⟩:=bnd e
  refine Lk [0,0,0] [] (o8 C) λ⟨I,J⟩=> ?_
  refine Z0 ?_
  cases F
  exact Eo ((A0,C0),(I,J)) [0,0,0] [] .nil
 refine Z1 ?_
 refine Lt 0 ?_
 refine Z0 ?_
 refine L.oset 1 (1 == (3:Int)) rfl rfl ?_
 have ⟨Y,M,N⟩:=bnd e
 refine Lk [1,0,0] [] (mZ M) λ⟨⟨O,P⟩,⟨Q,R⟩⟩=> ?_
 refine Ln (Eb (E.off ?_))
 cases N
 exact Eo ((O,P),(Q,R)) [0,0,0] [] .nil
theorem uT {p:aE} {s_:ByteArray} {r:(List bC)×aE} (H:jR p s_=some r):CT G 134 [.pointer (some ⟨N0,0,none⟩),.string s_] [Ch.box N0 151 (eF p A0 C0),Ch.opt (p.state == (3:Int)) (Ty.int .i64) 3 A0 C0 p.order.aW] [Im.sl dQ (some ⟨3,0,none⟩) 8 bX] (λh:(Option Addr×Nat)×(Option Addr×Nat)×(Option Addr×Nat)=> .slice h.1.1 r.1.length h.1.2) (λh=>[Ch.arr bL 247 h.1.1 h.1.2 r.1,Ch.box N0 151 (eF r.2 h.2.1.1 h.2.1.2),Ch.opt (r.2.state == (3:Int)) (Ty.int .i64) 3 h.2.1.1 h.2.1.2 r.2.order.aW]) (λh=>[]):=by
 delta jR at H
 refine Cf Go.Proofs.Tryz.func134 λK=> ?_
 refine Z3 ?_
 have ⟨b,m,n⟩:=bnd H
 refine Tjh (η:=(Option Addr×Nat)×(Option Addr×Nat)) (λ_=>[]) [0] (λh=>(λg i j k=>[Ch.opt (b.state == (3:Int)) (Ty.int .i64) 3 g i b.order.aW,Ch.arr bL 247 j k b.out,Ch.box N0 151 (gR b g i j k)]) h.1.1 h.1.2 h.2.1 h.2.2) [] (λ_=>[]) ?_ ?_
 ·refine Yl0 ?_
  refine T.gA bL 247 ?_
  refine Tq (η:=(Option Addr×Nat)×(Option Addr×Nat)) (λa h=>(λc d e f=>[(9,.int .i64 a.2)]) h.1.1 h.1.2 h.2.1 h.2.2) [0,1,8] (λa h=>(λc d e f=>[Ch.opt (a.1.state == (3:Int)) (Ty.int .i64) 3 c d a.1.order.aW,Ch.arr bL 247 e f a.1.out,Ch.box N0 151 (gR a.1 c d e f)]) h.1.1 h.1.2 h.2.1 h.2.2) [] (λ_ _=>[]) ((A0,C0),(none,0)) [2,0,0] [] m ?_
  rintro k_ a ⟨⟨c,d⟩,⟨e,f⟩⟩ B o q s
  refine Y2 ?_
  refine Tb o (λl=> ?_) λl=> ?_
  ·refine Z1 ?_
   refine Zl ?_
   refine Z1 ?_
   have ⟨C,t,u⟩:=bnd l
   refine Ly (Yl.si t rfl rfl rfl rfl rfl) ?_
   have ⟨F,v,w⟩:=bnd u
   refine Lk [2,0,0] [0] (vy v) λ⟨⟨x,y⟩,⟨z,A⟩⟩=> ?_
   refine Z0 ?_
   cases w
   exact Eg (_,((x,y),(z,A))) (q _ rfl) [1,1,0] [] 0
  refine Z0 ?_
  cases l
  have hb:=s _ rfl
  subst b
  exact Eg ((c,d),(e,f)) trivial [0,0,0] [] 0
 rintro ⟨⟨g,i⟩,⟨j,k⟩⟩
 refine Z2 ?_
 refine Lt 2 ?_
 refine Z1 ?_
 cases n
 exact Eo1 ((j,k),(g,i),(none,0)) [2,0,0] []
theorem y7 {l:List iq} {r_:Int} {r:Bool} (H:oe l r_=some r):CT G 287 [.slice A0 l.length C0,.int .i32 r_] [] [Im.sl cD A0 C0 l] (λ_:Unit=> .bool r) (λh=>[]) (λh=>[]):=by
 delta oe at H
 refine Cf Go.Proofs.Tryz.func287 λK=> ?_
 refine Y3 ?_
 have ⟨g,j,k⟩:=bnd H
 refine Tj0 [(5,.int .i64 g)] [0,1] [] [] ?_ ?_
 ·refine Yl0 ?_
  refine Tq (η:=Unit) (λa h=>[(5,.int .i64 a.1),(6,.int .i64 a.2)]) [0,1] (λ_ _=>[]) [] (λ_ _=>[]) () [] [] j ?_
  rintro k_ a ⟨⟩ w m i n
  refine Z2 ?_
  refine Tb m (λb=> ?_) λb=> ?_
  ·refine Zl ?_
   refine Z2 ?_
   have ⟨x,c,o⟩:=bnd b
   refine L.addr 0 rfl (cQ c) λy z p=> ?_
   subst p
   refine Ly (Yl.ia c rfl rfl rfl rfl rfl rfl) ?_
   refine L.el 0 rfl (aY c).2 ?_
   rintro _
   refine Z0 ?_
   refine Lc 0 1 ?_
   refine Z0 ?_
   refine Tb o (λd=> ?_) λd=> ?_
   ·refine Z0 ?_
    cases d
    exact Eg (_,()) (i _ rfl) [] [] 1
   refine Z0 ?_
   cases d
   exact Eg (_,()) (i _ rfl) [] [] 1
  refine Z0 ?_
  cases b
  have hb:=n _ rfl
  subst g
  exact Eg0 [] 0
 refine Y1 ?_
 have ⟨q,s,t⟩:=bnd k
 refine Tj0 [(4,.bool q)] [] [] [] ?_ ?_
 ·refine Z0 ?_
  refine Lw 31 s (λe=> ?_) λe=> ?_
  ·refine Z0 ?_
   have ⟨A,f,u⟩:=bnd e
   refine L.addr 0 rfl (cQ f) λB C v=> ?_
   subst v
   refine Ly (Yl.ia f rfl rfl rfl rfl rfl rfl) ?_
   refine L.el 0 rfl (aY f).2 ?_
   rintro _
   refine Z0 ?_
   refine Lc 0 0 ?_
   refine Z0 ?_
   cases u
   exact Eg0 [] 1
  refine Z0 ?_
  cases e
  exact Eg0 [] 0
 refine Z0 ?_
 cases t
 exact Eo1 () [] []
theorem y8 {r_:Int} {r:Int} (H:og r_=some r):CT G 232 [.int .i32 r_] [] [Im.sl cD (some ⟨1,0,none⟩) 13 cT,Im.sl cD (some ⟨2,0,none⟩) 14 dD] (λ_:Unit=> .int .i64 r) (λh=>[]) (λh=>[]):=by
 delta og at H
 refine Cf Go.Proofs.Tryz.func232 λK=> ?_
 refine Z2 ?_
 refine Zl ?_
 refine Z1 ?_
 have ⟨r9,c,d⟩:=bnd H
 refine Lk [] [0] (y7 c) λ⟨⟩=> ?_
 refine Z0 ?_
 refine Tb d (λa=> ?_) λa=> ?_
 ·refine Z1 ?_
  cases a
  exact Eo1 () [] []
 refine Z1 ?_
 have ⟨g,e,f⟩:=bnd a
 refine Lk [] [1] (y7 e) λ⟨⟩=> ?_
 refine Z0 ?_
 refine Tb f (λb=> ?_) λb=> ?_
 ·refine Z1 ?_
  cases b
  exact Eo1 () [] []
 refine Z1 ?_
 cases b
 exact Eo1 () [] []
theorem kY {g:aZ} {y:Int} {r:aG} (H:fF g y=some r):CT G 216 [.pointer (some ⟨N0,0,none⟩),.int .i64 y] [Ch.box N0 296 [.int .i64 g.w,.slice A0 g.l.length C0],Ch.arr aD 232 A0 C0 g.l] [] (λh:(Option Addr×Nat)=> .agg #[.slice h.1 r.cells.length h.2,.bool r.wrapped]) (λh=>[Ch.box N0 296 [.int .i64 g.w,.slice A0 g.l.length C0],Ch.arr aD 232 A0 C0 g.l]) (λh=>[Im.sl aT h.1 h.2 r.cells]):=by
 delta fF at H
 refine Cf Go.Proofs.Tryz.func216 λK=> ?_
 refine Z1 ?_
 refine Ll λg1=> ?_
 refine Y2 ?_
 have ⟨e5,H6,H7⟩:=bnd H
 refine Tj0 [(15,.bool e5)] [0,1,4] [] [0,1,2] ?_ ?_
 ·refine Z0 ?_
  refine Lw 7 H6 (λH8=> ?_) λH8=> ?_
  ·refine Z0 ?_
   cases H8
   exact Eg0 [0,0,0] 0
  refine Z0 ?_
  cases H8
  exact Eg0 [0,0,0] 0
 refine Tb H7 (λa=> ?_) λa=> ?_
 ·refine Z1 ?_
  refine Lt 0 ?_
  refine Z0 ?_
  refine E.lk [Im.sl aT none 0 []] (λA w _ _ f hf=>by rw [List.mem_singleton.1 hf]; exact Im.k9 A w) ?_
  cases a
  exact Eo (none,0) [1,1] [0] (.cell 0 rfl rfl rfl .nil)
 refine Z1 ?_
 have ⟨c,b,i⟩:=bnd a
 refine L.lN 2 rfl (cQ b) λp j=> ?_
 subst j
 refine Ly (Yl.ia b rfl rfl rfl rfl rfl rfl) ?_
 refine La [2] [] (Ac.lo y.toNat 0 (v:=(λh:(Option Addr×Nat)=>(λd e=> .agg #[.slice d c.cells.length e,.bool c.wrapped]) h.1 h.2)) (aY b).2 rfl rfl rfl (λ_=>rfl)) ?_
 rintro ⟨d,e⟩
 have ⟨q,k,m⟩:=bnd i
 refine Lk [] [0] (xX k) λ⟨n,o⟩=> ?_
 refine Lt 1 ?_
 refine Z0 ?_
 cases m
 exact Eo (n,o) [2,1] [0] (.cell 0 rfl rfl rfl .nil)
theorem pZ {r_:aG} {r:aG} (H:iL r_=some r):CT G 234 [.agg #[.slice A0 r_.cells.length C0,.bool r_.wrapped]] [] [Im.sl aT A0 C0 r_.cells] (λ_:Unit=> .agg #[.slice A0 r.cells.length C0,.bool r.wrapped]) (λh=>[]) (λh=>[Im.sl aT A0 C0 r.cells]):=by
 delta iL at H
 refine Cf Go.Proofs.Tryz.func234 λK=> ?_
 refine Z1 ?_
 refine Lx λg1=> ?_
 refine Ll λg2=> ?_
 refine Z1 ?_
 refine Lt 1 ?_
 refine Z1 ?_
 refine Lt 1 ?_
 refine Z0 ?_
 cases H
 exact Eo () [] [0] (.cell 0 rfl rfl rfl .nil)
theorem l8 {s_:aB} {r:aB} (H:cX s_=some r):CT G 233 [.pointer (some ⟨N0,0,none⟩),.func (.func 234) #[] #[]] [Ch.box N0 224 (bY s_ N1),Ch.box N1 296 [.int .i64 s_.g.w,.slice A0 s_.g.l.length C0],Ch.arr aD 232 A0 C0 s_.g.l] [] (λ_:Unit=> .tuple #[]) (λh=>[Ch.box N0 224 (bY r N1),Ch.box N1 296 [.int .i64 r.g.w,.slice A0 r.g.l.length C0],Ch.arr aD 232 A0 C0 r.g.l]) (λh=>[]):=by
 delta cX at H
 refine Cf Go.Proofs.Tryz.func233 λK=> ?_
 refine Td [21] [0,0,0] mo ?_
 refine Dq 0 ?_
 refine Dq 1 ?_
 refine Dq 2 ?_
 refine Db 3 0 ?_
 refine Dq 4 ?_
 refine Dq 5 ?_
 refine Dq 6 ?_
 refine Dq 7 ?_
 refine Db 8 0 ?_
 refine Dq 9 ?_
 refine Dq 10 ?_
 refine Dq 11 ?_
 refine Dq 12 ?_
 refine Db 13 0 ?_
 refine Dq 14 ?_
 refine Dq 15 ?_
 refine Dq 16 ?_
 refine Dq 17 ?_
 refine Db 18 0 ?_
 have ⟨i,a,b⟩:=bnd H
 refine D.one rfl rfl rfl (Dp.ab [1,1] [] [2,0,0] (Ac.call (kY a) rfl rfl rfl rfl) rfl rfl rfl rfl rfl rfl (λ_=>rfl) ?_)
 rintro ⟨j,k⟩
 have ⟨m,c,d⟩:=bnd b
 refine Dk [] [0] (pZ c) λ⟨⟩=> ?_
 have ⟨n,e,f⟩:=bnd d
 refine Dkl [1,1] [0] (jI e) λ⟨⟩=> ?_
 refine Dn ?_
 refine E.off ?_
 cases f
 exact Eo () [2,0,0] [] .nil
theorem uU {s_:bJ} {r:Bool} (H:jS s_=some r):CT G 309 [.agg (tf s_).toArray] [] [] (λ_:Unit=> .bool r) (λh=>[]) (λh=>[]):=by
 delta jS at H
 refine Cf Go.Proofs.Tryz.func309 λK=> ?_
 refine Z1 ?_
 refine Lx λg1=> ?_
 refine Y1 ?_
 have ⟨e9,d,e⟩:=bnd H
 refine Tj0 [(2,.bool e9)] [] [] [0] ?_ ?_
 ·refine Z0 ?_
  refine Lw 6 d (λa=> ?_) λa=> ?_
  ·refine Z0 ?_
   refine Lw 11 a (λb=> ?_) λb=> ?_
   ·refine Z0 ?_
    refine Lw 16 b (λc=> ?_) λc=> ?_
    ·refine Z0 ?_
     cases c
     exact Eg0 [0] 0
    refine Z0 ?_
    cases c
    exact Eg0 [0] 0
   refine Z0 ?_
   cases b
   exact Eg0 [0] 0
  refine Z0 ?_
  cases a
  exact Eg0 [0] 0
 refine Z0 ?_
 cases e
 exact Eo1 () [] []
theorem rN {is:Bool} {n_:Int} {r:Int} (H:mv is n_=some r):CT G 310 [.bool is,.int .i64 n_] [] [] (λ_:Unit=> .int .i64 r) (λh=>[]) (λh=>[]):=by
 delta mv at H
 refine Cf Go.Proofs.Tryz.func310 λK=> ?_
 refine Z3 ?_
 refine Tb H (λH2=> ?_) λH2=> ?_
 ·refine Z1 ?_
  cases H2
  exact Eo1 () [] []
 refine Z1 ?_
 cases H2
 exact Eo1 () [] []
theorem uV {s_:bJ} {r:Int} (H:jT s_=some r):CT G 288 [.agg (tf s_).toArray] [] [] (λ_:Unit=> .int .i64 r) (λh=>[]) (λh=>[]):=by
 delta jT at H
 refine Cf Go.Proofs.Tryz.func288 λK=> ?_
 refine Z1 ?_
 refine Lx λg1=> ?_
 refine Z2 ?_
 have ⟨r2,h3,H4⟩:=bnd H
 refine Lk [] [] (uU h3) λ⟨⟩=> ?_
 refine Z0 ?_
 refine Tb H4 (λH6=> ?_) λH6=> ?_
 ·refine Z1 ?_
  cases H6
  exact Eo1 () [] []
 refine Y1 ?_
 refine Td [] [0] mo ?_
 refine Dq 0 ?_
 refine Db 1 0 ?_
 refine Dq 2 ?_
 refine Db 3 0 ?_
 refine Dq 4 ?_
 refine Dq 5 ?_
 refine Dq 6 ?_
 refine Db 7 0 ?_
 refine Dq 10 ?_
 refine Db 11 0 ?_
 refine Dq 14 ?_
 refine Db 15 0 ?_
 have ⟨g,a,b⟩:=bnd H6
 refine Dk [] [] (rN a) λ⟨⟩=> ?_
 refine Dq 9 ?_
 have ⟨i,c,d⟩:=bnd b
 refine Dk [] [] (rN c) λ⟨⟩=> ?_
 refine Dq 13 ?_
 have ⟨j,e,f⟩:=bnd d
 refine Dk [] [] (rN e) λ⟨⟩=> ?_
 refine Dq 17 ?_
 refine Dq 18 ?_
 refine Dn ?_
 refine Z0 ?_
 cases f
 exact Eo1 () [] []
theorem dG {s_:aB} {r:Int} (H:cC s_=some r):CT G 238 [.pointer (some ⟨N0,0,none⟩)] [] [Im.cells N0 0 [.pointer (some ⟨N1,0,none⟩),.int .i64 s_.spot.x,.int .i64 s_.spot.y,.int .i64 s_.spot.aO.ib,.int .i64 s_.spot.aO.back,.bool s_.spot.aO.bold,.bool s_.spot.aO.under,.bool s_.spot.aO.dS,.int .i64 s_.saved.x,.int .i64 s_.saved.y,.int .i64 s_.saved.aO.ib,.int .i64 s_.saved.aO.back,.bool s_.saved.aO.bold,.bool s_.saved.aO.under,.bool s_.saved.aO.dS,.bool s_.waiting,.int .i64 s_.top,.int .i64 s_.aK,.bool s_.bB,.string s_.title],Im.cells N1 0 [.int .i64 s_.g.w,.slice A0 s_.g.l.length C0],Im.sl aD A0 C0 s_.g.l] (λ_:Unit=> .int .i64 r) (λh=>[]) (λh=>[]):=by
 delta cC at H
 refine Cf Go.Proofs.Tryz.func238 λK=> ?_
 refine Z2 ?_
 refine Lc 0 3 ?_
 have ⟨r1,h2,H3⟩:=bnd H
 refine Lk [] [] (uV h2) λ⟨⟩=> ?_
 refine Z0 ?_
 cases H3
 exact Eo1 () [] []
theorem m2 {g:aZ} {top:Int} {aK:Int} {r:Unit} (H:eC g top aK=some (.inl r)):CT G 295 [.pointer (some ⟨N0,0,none⟩),.int .i64 top,.int .i64 aK] [Ch.box N0 296 [.int .i64 g.w,.slice A0 g.l.length C0],Ch.arr aD 232 A0 C0 g.l] [] (λ_:Unit=> .tuple #[.slice none 0 0,.bool false]) (λh=>[Ch.box N0 296 [.int .i64 g.w,.slice A0 g.l.length C0],Ch.arr aD 232 A0 C0 g.l]) (λh=>[]):=by
 delta eC at H
 refine Cf Go.Proofs.Tryz.func295 λK=> ?_
 refine Z3 ?_
 have ⟨r1,h2,H3⟩:=bnd H
 refine Lk [] [] (kH h2) λ⟨⟩=> ?_
 refine Z0 ?_
 have ⟨r4,h5,H6⟩:=bnd H3
 refine Lk [] [] (kH h5) λ⟨⟩=> ?_
 refine Z2 ?_
 refine Tb H6 (λH8=> ?_) λH8=> ?_
 ·refine Z1 ?_
  have hr:=Sum.inl.inj (Option.some.inj H8)
  subst r
  exact Eo () [0,0] [] (.tmp rfl (.tmp rfl .nil))
 refine Z1 ?_
 have ⟨_,h9,b⟩:=bnd H8
 refine L.cap 1 rfl λa=> ?_
 refine Ly (Yl.sv (ty:=aD) a h9 rfl rfl rfl rfl rfl rfl rfl rfl) ?_
 have c:Vw aD g.l A0 C0 (kc A0 C0 r1 (aD).sz) (C0 - r1.toNat) r1 (IntKind.i64.wrap (r4+1)):=u4 h9 a
 refine Z0 ?_
 exact nomatch (Option.some.inj b)
theorem m3 {g:aZ} {top:Int} {aK:Int} {r:(Int×Int)} (H:eC g top aK=some (.inr r)):CT G 295 [.pointer (some ⟨N0,0,none⟩),.int .i64 top,.int .i64 aK] [Ch.box N0 296 [.int .i64 g.w,.slice A0 g.l.length C0],Ch.arr aD 232 A0 C0 g.l] [] (λ_:Unit=> .tuple #[.slice (kc A0 C0 r.1 (aD).sz) (cut g.l r.1 r.2).length (C0 - r.1.toNat),.bool true]) (λh=>[Ch.box N0 296 [.int .i64 g.w,.slice A0 g.l.length C0],Ch.arr aD 232 A0 C0 g.l]) (λh=>[]):=by
 delta eC at H
 refine Cf Go.Proofs.Tryz.func295 λK=> ?_
 refine Z3 ?_
 have ⟨r1,h2,H3⟩:=bnd H
 refine Lk [] [] (kH h2) λ⟨⟩=> ?_
 refine Z0 ?_
 have ⟨r4,h5,H6⟩:=bnd H3
 refine Lk [] [] (kH h5) λ⟨⟩=> ?_
 refine Z2 ?_
 refine Tb H6 (λH8=> ?_) λH8=> ?_
 ·refine Z1 ?_
  exact nomatch (Option.some.inj H8)
 refine Z1 ?_
 have ⟨_,h9,b⟩:=bnd H8
 refine L.cap 1 rfl λa=> ?_
 refine Ly (Yl.sv (ty:=aD) a h9 rfl rfl rfl rfl rfl rfl rfl rfl) ?_
 have c:Vw aD g.l A0 C0 (kc A0 C0 r1 (aD).sz) (C0 - r1.toNat) r1 (IntKind.i64.wrap (r4+1)):=u4 h9 a
 refine Z0 ?_
 have hr:=Sum.inr.inj (Option.some.inj b)
 subst r
 exact Eo () [0,0] [] (.tmp rfl (.tmp rfl .nil))
theorem rO {g:aZ} {top:Int} {aK:Int} {n_:Int} {aO:Int} {r:(List aG)×aZ} (H:fU g top aK n_ aO=some r):CT G 294 [.pointer (some ⟨N0,0,none⟩),.int .i64 top,.int .i64 aK,.int .i64 n_,.int .i64 aO] [Ch.box N0 296 [.int .i64 g.w,.slice A0 g.l.length C0],Ch.arr aD 232 A0 C0 g.l] [] (λh:(Option Addr×Nat)=> .slice h.1 r.1.length h.2) (λh=>[Ch.arr aD 232 h.1 h.2 r.1,Ch.box N0 296 [.int .i64 r.2.w,.slice A0 r.2.l.length C0],Ch.arr aD 232 A0 C0 r.2.l]) (λh=>[]):=by
 delta fU at H
 refine Cf Go.Proofs.Tryz.func294 λK=> ?_
 refine Z2 ?_
 have ⟨r1,h2,H3⟩:=bnd H
 rcases r1 with r1 | r1
 ·refine Lk [0,0] [] (m2 h2) λ⟨⟩=> ?_
  refine Z2 ?_
  refine T.cond rfl (λ_=> ?_) (λh=>nomatch h)
  refine Z1 ?_
  refine E.gA aD 232 ?_
  cases H3
  exact Eo1 (none,0) [0,0,0] []
 refine Lk [0,0] [] (m3 h2) λ⟨⟩=> ?_
 have ⟨_,h5,H6⟩:=bnd H3
 refine L.cap 1 rfl λh7=> ?_
 have b:Vw aD g.l A0 C0 (kc A0 C0 r1.1 (aD).sz) (C0 - r1.1.toNat) r1.1 r1.2:=u4 h5 h7
 refine Z2 ?_
 refine T.cond rfl (λh=>nomatch h) (λ_=> ?_)
 refine Z1 ?_
 have ⟨r9,k,m⟩:=bnd H6
 refine Lk [] [] (kH k) λ⟨⟩=> ?_
 refine Z1 ?_
 have ⟨_,n,o⟩:=bnd m
 refine L.vv b n rfl rfl rfl rfl rfl rfl rfl rfl rfl rfl rfl λp q s=> ?_
 have ⟨X,t,u⟩:=bnd o
 refine Lk [1] [] (ij A0 C0 p q s t) λ⟨v,x⟩=> ?_
 refine Z1 ?_
 have ⟨_,y,z⟩:=bnd u
 refine L.vv b y rfl rfl rfl rfl rfl rfl rfl rfl rfl rfl rfl λY Z A=> ?_
 refine La [1] [] (Ac.cpv (ty:=aD) b A rfl rfl rfl rfl rfl rfl rfl) λ_=> ?_
 have B:Vw aD (qJ g.l r1.1 r1.2 (r1.1+r9) (r1.1+((cut g.l r1.1 r1.2).length:Int))) A0 C0 (kc A0 C0 r1.1 (aD).sz) (C0 - r1.1.toNat) r1.1 r1.2:=Vw.on b (pz b)
 refine L.sl 11 (k':=(cut (qJ g.l r1.1 r1.2 (r1.1+r9) (r1.1+((cut g.l r1.1 r1.2).length:Int))) r1.1 r1.2).length) (nX (pz b)) rfl ?_
 refine L.bx 2 (cs':=[.int .i64 g.w,.slice A0 (qJ g.l r1.1 r1.2 (r1.1+r9) (r1.1+((cut g.l r1.1 r1.2).length:Int))).length C0]) (by rw [pz b]) rfl ?_
 refine Z2 ?_
 have ⟨c,C,F⟩:=bnd z
 refine Tj0 [] [13] [Ch.arr aD 232 A0 C0 c.l,Ch.box N0 296 [.int .i64 c.w,.slice A0 c.l.length C0]] [2] ?_ ?_
 ·refine Yl0 ?_
  refine Tq (η:=Unit) (λa h=>[(11,.slice (kc A0 C0 r1.1 (aD).sz) (cut a.1.l r1.1 r1.2).length (C0 - r1.1.toNat)),(14,.int .i64 a.2)]) [0,4,13] (λa h=>[Ch.arr aD 232 A0 C0 a.1.l,Ch.box N0 296 [.int .i64 a.1.w,.slice A0 a.1.l.length C0]]) [2] (λ_ _=>[]) () [1,0,0] [] C ?_
  rintro k_ a ⟨⟩ aa I J M
  refine Z2 ?_
  refine Tb I (λe=> ?_) λe=> ?_
  ·refine Z1 ?_
   refine Zl ?_
   have ⟨d,N,O⟩:=bnd e
   refine Lk [] [] (oX N) λ⟨P,Q⟩=> ?_
   have ⟨_,R,S⟩:=bnd O
   refine L.cap 0 rfl λU=> ?_
   have j:=KB B R U
   have ⟨ab,f,V⟩:=bnd S
   refine L.lN 0 rfl (F4 (tR f)) λi W=> ?_
   subst W
   refine Ly (Yl.iv (ty:=aD) 0 j f rfl rfl rfl rfl rfl rfl rfl rfl) ?_
   refine La [0] [0] (Ac.se 0 d (tR f) rfl rfl rfl rfl rfl rfl (λ_=>⟨(P,Q),rfl,[1],rfl⟩)) λ_=> ?_
   have ac:Vw aD (a.1.l.set (r1.1.toNat+a.2.toNat) d) (some ⟨i,0,none⟩) C0 (kc (some ⟨i,0,none⟩) C0 r1.1 (aD).sz) (C0 - r1.1.toNat) r1.1 r1.2:=Vw.on j (List.length_set ..)
   refine L.sl 11 (k':=(cut (a.1.l.set (r1.1.toNat+a.2.toNat) d) r1.1 r1.2).length) (nX (List.length_set ..)) rfl ?_
   refine L.bx 1 (cs':=[.int .i64 a.1.w,.slice (some ⟨i,0,none⟩) (a.1.l.set (r1.1.toNat+a.2.toNat) d).length C0]) (by rw [List.length_set ..]) rfl ?_
   refine Z0 ?_
   cases V
   exact Eg (_,()) (J _ rfl) [1,0,0] [] 1
  refine Z0 ?_
  cases e
  have hb:=M _ rfl
  subst c
  exact Eg0 [0,0,0] 0
 refine Z1 ?_
 cases F
 exact Eo1 (v,x) [2,1,0] []
theorem oL {s_:aB} {n_:Int} {r:(List aG)×aB} (H:hH s_ n_=some r):CT G 247 [.pointer (some ⟨N0,0,none⟩),.int .i64 n_] [Ch.box N0 224 (bY s_ N1),Ch.box N1 296 [.int .i64 s_.g.w,.slice A0 s_.g.l.length C0],Ch.arr aD 232 A0 C0 s_.g.l] [] (λh:(Option Addr×Nat)=> .slice h.1 r.1.length h.2) (λh=>[Ch.arr aD 232 h.1 h.2 r.1,Ch.box N0 224 (bY r.2 N1),Ch.box N1 296 [.int .i64 r.2.g.w,.slice A0 r.2.g.l.length C0],Ch.arr aD 232 A0 C0 r.2.g.l]) (λh=>[]):=by
 delta hH at H
 refine Cf Go.Proofs.Tryz.func247 λK=> ?_
 refine Y2 ?_
 refine Td [15] [0,0,0] mo ?_
 refine Dq 0 ?_
 refine Dq 1 ?_
 refine Dq 2 ?_
 refine Db 3 0 ?_
 refine Dq 4 ?_
 refine Dq 5 ?_
 refine Dq 6 ?_
 refine Db 7 0 ?_
 refine Dq 8 ?_
 refine Dq 9 ?_
 refine Dq 10 ?_
 refine Db 11 0 ?_
 refine Dq 12 ?_
 refine Dq 13 ?_
 have ⟨j,b,c⟩:=bnd H
 refine D.one rfl rfl rfl (Dp.br (Ac.call (dG b) rfl rfl rfl rfl) (Bw.bx 0 rfl (Bw.bx 1 rfl (Bw.ch 2 rfl (Bw.nil)))) rfl rfl rfl rfl ?_)
 intro _
 have ⟨k,d,e⟩:=bnd c
 refine Dkl [1,1] [] (rO d) λ⟨f,i⟩=> ?_
 refine Dq 16 ?_
 refine Dn ?_
 refine Z2 ?_
 refine Tb e (λa=> ?_) λa=> ?_
 ·refine Z1 ?_
  refine E.gA aD 232 ?_
  cases a
  exact Eo1 (none,0) [0,3,1,1] []
 refine Z1 ?_
 cases a
 exact Eo1 (f,i) [0,2,0,0] []
theorem kb {s_:aB} {r:(List aG)×aB} (H:dE s_=some r):CT G 235 [.pointer (some ⟨N0,0,none⟩)] [Ch.box N0 224 (bY s_ N1),Ch.box N1 296 [.int .i64 s_.g.w,.slice A0 s_.g.l.length C0],Ch.arr aD 232 A0 C0 s_.g.l] [] (λh:(Option Addr×Nat)=> .slice h.1 r.1.length h.2) (λh=>[Ch.arr aD 232 h.1 h.2 r.1,Ch.box N0 224 (bY r.2 N1),Ch.box N1 296 [.int .i64 r.2.g.w,.slice A0 r.2.g.l.length C0],Ch.arr aD 232 A0 C0 r.2.g.l]) (λh=>[]):=by
 delta dE at H
 refine Cf Go.Proofs.Tryz.func235 λK=> ?_
 refine Z2 ?_
 refine Lt 0 ?_
 refine Y2 ?_
 refine Td [] [0,0,0] mo ?_
 refine Dq 0 ?_
 refine Dq 1 ?_
 refine Dq 2 ?_
 refine Dq 3 ?_
 refine Db 4 0 ?_
 refine Dq 5 ?_
 refine Dq 6 ?_
 refine Dq 7 ?_
 refine Db 8 0 ?_
 refine Dq 9 ?_
 refine Dn ?_
 refine Z0 ?_
 refine Tb H (λH9=> ?_) λH9=> ?_
 ·refine Z1 ?_
  have ⟨i,a,b⟩:=bnd H9
  refine Lk [0,0,0] [] (oL a) λ⟨c,d⟩=> ?_
  refine Z0 ?_
  cases b
  exact Eo1 (c,d) [0,0,0,0] []
 refine Y1 ?_
 refine Td [12] [0,0,0] mo ?_
 refine Dq 0 ?_
 refine Dq 1 ?_
 refine Dq 2 ?_
 refine Dq 3 ?_
 refine Dq 4 ?_
 refine Db 5 0 ?_
 refine Dq 6 ?_
 refine Dq 7 ?_
 refine Dq 8 ?_
 refine Dq 9 ?_
 refine Db 10 0 ?_
 refine Dq 11 ?_
 have ⟨j,e,f⟩:=bnd H9
 refine Dkl [0,0,0] [] (cE e) λ⟨⟩=> ?_
 refine Dn ?_
 refine Z1 ?_
 refine E.gA aD 232 ?_
 cases f
 exact Eo1 (none,0) [0,0,0,0] []
theorem ya {r_:aG} {aO:Int} {r:aG} (H:ln r_ aO=some r):CT G 237 [.agg #[.slice A0 r_.cells.length C0,.bool r_.wrapped],.int .i64 aO] [] [Im.sl aT A0 C0 r_.cells] (λh:(Option Addr×Nat)=> .agg #[.slice h.1 r.cells.length h.2,.bool r.wrapped]) (λh=>[]) (λh=>[Im.sl aT h.1 h.2 r.cells]):=by
 delta ln at H
 refine Cf Go.Proofs.Tryz.func237 λK=> ?_
 refine Z1 ?_
 refine Lx λg1=> ?_
 refine Ll λg2=> ?_
 refine Z1 ?_
 have ⟨r3,h4,H5⟩:=bnd H
 refine Lk [] [0] (jH h4) λ⟨a6,c7⟩=> ?_
 refine Z3 ?_
 have ⟨c,d,e⟩:=bnd H5
 refine Tj0 [(5,.slice a6 c.length c7)] [4] [Ch.arr aT 235 a6 c7 c] [1,2] ?_ ?_
 ·refine Tb d (λa=> ?_) λa=> ?_
  ·refine Z0 ?_
   have ⟨k,b,f⟩:=bnd a
   refine L.lN 0 rfl (cQ b) λl g=> ?_
   subst g
   refine Ly (Yl.ia b rfl rfl rfl rfl rfl rfl) ?_
   refine La [0] [] (Ac.se 0 (aH.mk 32 aO 3) (aY b).2 rfl rfl rfl rfl rfl rfl (λ_=>⟨(),rfl,[],rfl⟩)) λ_=> ?_
   refine L.sl 5 (k':=(r3.set ((IntKind.i64.wrap ((r3.length:Int) - 1)).toNat) (aH.mk 32 aO 3)).length) (List.length_set ..) rfl ?_
   refine Z0 ?_
   cases f
   exact Eg0 [0,0,0] 0
  refine Z0 ?_
  cases a
  exact Eg0 [0,0,0] 0
 refine Z1 ?_
 have ⟨m,i,j⟩:=bnd e
 refine Lk [0] [] (lD i) λ⟨⟩=> ?_
 refine Ll λn=> ?_
 refine Lt 0 ?_
 refine Z1 ?_
 refine Lt 0 ?_
 refine Z1 ?_
 refine Lt 1 ?_
 refine Z0 ?_
 cases j
 exact Eo (a6,c7) [] [0] (.cell 0 rfl rfl rfl .nil)
theorem p3 {r_:aG} {x1:aB} {r:aG} (H:iM r_ x1=some r):CT G 236 [.agg #[.slice A0 r_.cells.length C0,.bool r_.wrapped],.pointer (some ⟨N0,0,none⟩)] [Ch.box N0 118 [.pointer (some ⟨N1,0,none⟩)],Ch.box N1 224 (bY x1 N2),Ch.box N2 296 [.int .i64 x1.g.w,.slice A1 x1.g.l.length C1],Ch.arr aD 232 A1 C1 x1.g.l] [Im.sl aT A0 C0 r_.cells] (λh:(Option Addr×Nat)=> .agg #[.slice h.1 r.cells.length h.2,.bool r.wrapped]) (λh=>[Ch.box N0 118 [.pointer (some ⟨N1,0,none⟩)],Ch.box N1 224 (bY x1 N2),Ch.box N2 296 [.int .i64 x1.g.w,.slice A1 x1.g.l.length C1],Ch.arr aD 232 A1 C1 x1.g.l]) (λh=>[Im.sl aT h.1 h.2 r.cells]):=by
 delta iM at H
 refine Cf Go.Proofs.Tryz.func236 λK=> ?_
 refine Z1 ?_
 refine Lx λg1=> ?_
 refine Ll λg2=> ?_
 refine Y1 ?_
 refine Td [3,4] [0,0,0,0,0,0] mo ?_
 refine Db 0 1 ?_
 refine Db 1 2 ?_
 have ⟨i,a,b⟩:=bnd H
 refine D.one rfl rfl rfl (Dp.br (Ac.call (dG a) rfl rfl rfl rfl) (Bw.bx 3 rfl (Bw.bx 4 rfl (Bw.ch 5 rfl (Bw.nil)))) rfl rfl rfl rfl ?_)
 intro _
 have ⟨j,c,d⟩:=bnd b
 refine Dkl [] [0] (ya c) λ⟨e,f⟩=> ?_
 refine Dt 0 ?_
 refine Dn ?_
 refine Z0 ?_
 cases d
 exact Eo (e,f) [2,2,2,2] [0] (.cell 0 rfl rfl rfl .nil)
theorem l9 {s_:aB} {r:aB} (H:cY s_=some r):CT G 233 [.pointer (some ⟨N0,0,none⟩),.func (.func 236) #[] #[.pointer (some ⟨N2,0,none⟩)]] [Ch.box N0 224 (bY s_ N1),Ch.box N1 296 [.int .i64 s_.g.w,.slice A0 s_.g.l.length C0],Ch.arr aD 232 A0 C0 s_.g.l,Ch.box N2 118 [.pointer (some ⟨N0,0,none⟩)]] [] (λ_:Unit=> .tuple #[]) (λh=>[Ch.box N0 224 (bY r N1),Ch.box N1 296 [.int .i64 r.g.w,.slice A0 r.g.l.length C0],Ch.arr aD 232 A0 C0 r.g.l,Ch.box N2 118 [.pointer (some ⟨N0,0,none⟩)]]) (λh=>[]):=by
 delta cY at H
 refine Cf Go.Proofs.Tryz.func233 λK=> ?_
 refine Td [21] [0,0,0,0] mo ?_
 refine Dq 0 ?_
 refine Dq 1 ?_
 refine Dq 2 ?_
 refine Db 3 0 ?_
 refine Dq 4 ?_
 refine Dq 5 ?_
 refine Dq 6 ?_
 refine Dq 7 ?_
 refine Db 8 0 ?_
 refine Dq 9 ?_
 refine Dq 10 ?_
 refine Dq 11 ?_
 refine Dq 12 ?_
 refine Db 13 0 ?_
 refine Dq 14 ?_
 refine Dq 15 ?_
 refine Dq 16 ?_
 refine Dq 17 ?_
 refine Db 18 0 ?_
 have ⟨i,a,b⟩:=bnd H
 refine D.one rfl rfl rfl (Dp.ab [1,1] [] [2,0,0,0] (Ac.call (kY a) rfl rfl rfl rfl) rfl rfl rfl rfl rfl rfl (λ_=>rfl) ?_)
 rintro ⟨j,k⟩
 have ⟨m,c,d⟩:=bnd b
 refine D.one rfl rfl rfl (Dp.ab [3,0,0,0] [0] [1,1,1,0] (Ac.call (p3 c) rfl rfl rfl rfl) rfl rfl rfl rfl rfl rfl (λ_=>rfl) ?_)
 rintro ⟨n,o⟩
 have ⟨p,e,f⟩:=bnd d
 refine Dkl [1,1] [0] (jI e) λ⟨⟩=> ?_
 refine Dn ?_
 refine E.off ?_
 cases f
 exact Eo () [2,0,0,0] [] .nil
theorem yw {r_:aG} {at_:Int} {x_:Int} {aO:Int} {r:aG} (H:lW r_ at_ x_ aO=some r):CT G 240 [.agg #[.slice A0 r_.cells.length C0,.bool r_.wrapped],.int .i64 at_,.int .i32 x_,.int .i64 aO] [] [Im.sl aT A0 C0 r_.cells,Im.sl cD (some ⟨1,0,none⟩) 13 cT,Im.sl cD (some ⟨2,0,none⟩) 14 dD] (λh:(Option Addr×Nat)=> .agg #[.slice h.1 r.cells.length h.2,.bool r.wrapped]) (λh=>[]) (λh=>[Im.sl aT h.1 h.2 r.cells]):=by
 delta lW at H
 refine Cf Go.Proofs.Tryz.func240 λK=> ?_
 refine Z1 ?_
 refine Lx λg1=> ?_
 refine Ll λg2=> ?_
 refine Z1 ?_
 have ⟨r3,h4,H5⟩:=bnd H
 refine Lk [] [0] (jH h4) λ⟨a6,c7⟩=> ?_
 refine Z1 ?_
 have ⟨r9,p,q⟩:=bnd H5
 refine Lk [] [1,2] (y8 p) λ⟨⟩=> ?_
 refine Y1 ?_
 have ⟨j,s,t⟩:=bnd q
 refine Tj0 [(9,.slice a6 j.length c7)] [8] [Ch.arr aT 235 a6 c7 j] [1,2] ?_ ?_
 ·refine Zl ?_
  refine Y1 ?_
  have ⟨u,w,x⟩:=bnd s
  refine Tj0 [(50,.bool u)] [1,2,3,8,9,10] [] [1,2,0] ?_ ?_
  ·refine Z0 ?_
   refine Lw 53 w (λa=> ?_) λa=> ?_
   ·refine Z0 ?_
    cases a
    exact Eg0 [1,1,0] 0
   refine Z0 ?_
   refine Lw 57 a (λb=> ?_) λb=> ?_
   ·refine Z0 ?_
    cases b
    exact Eg0 [1,1,0] 0
   refine Z0 ?_
   cases b
   exact Eg0 [1,1,0] 0
  refine Tb x (λc=> ?_) λc=> ?_
  ·refine Z0 ?_
   cases c
   exact Eg0 [2,0,0] 0
  refine Z1 ?_
  refine Tb c (λd=> ?_) λd=> ?_
  ·refine Z0 ?_
   have ⟨W,e,y⟩:=bnd d
   refine L.lN 2 rfl (cQ e) λX z=> ?_
   subst z
   refine Ly (Yl.ia e rfl rfl rfl rfl rfl rfl) ?_
   refine La [2] [] (Ac.se 0 (aH.mk x_ aO 0) (aY e).2 rfl rfl rfl rfl rfl rfl (λ_=>⟨(),rfl,[],rfl⟩)) λ_=> ?_
   refine L.sl 9 (k':=(r3.set at_.toNat (aH.mk x_ aO 0)).length) (List.length_set ..) rfl ?_
   refine Z0 ?_
   cases y
   exact Eg0 [0,0,0] 0
  refine Z1 ?_
  have ⟨Y,f,A⟩:=bnd d
  refine L.lN 2 rfl (cQ f) λZ B=> ?_
  subst B
  refine Ly (Yl.ia f rfl rfl rfl rfl rfl rfl) ?_
  refine La [2] [] (Ac.se 0 (aH.mk x_ aO 1) (aY f).2 rfl rfl rfl rfl rfl rfl (λ_=>⟨(),rfl,[],rfl⟩)) λ_=> ?_
  refine L.sl 9 (k':=(r3.set at_.toNat (aH.mk x_ aO 1)).length) (List.length_set ..) rfl ?_
  refine L.sl 17 (k':=(r3.set at_.toNat (aH.mk x_ aO 1)).length) (List.length_set ..) rfl ?_
  have ⟨aa,k,C⟩:=bnd A
  refine Ly (Yl.ia k rfl rfl rfl rfl rfl rfl) ?_
  refine La [0] [] (Ac.se 0 (aH.mk x_ aO 2) (aY k).2 rfl rfl rfl rfl rfl rfl (λ_=>⟨(),rfl,[],rfl⟩)) λ_=> ?_
  refine L.sl 9 (k':=((r3.set at_.toNat (aH.mk x_ aO 1)).set ((IntKind.i64.wrap (at_+1)).toNat) (aH.mk x_ aO 2)).length) (List.length_set ..) rfl ?_
  refine Y1 ?_
  have ⟨F,I,J⟩:=bnd C
  refine Tj0 [(38,.bool F)] [1,8,9] [] [1,2,0] ?_ ?_
  ·refine Z0 ?_
   refine Lw 30 I (λg=> ?_) λg=> ?_
   ·refine Z0 ?_
    have ⟨M,l,N⟩:=bnd g
    refine Ly (Yl.ia l rfl rfl rfl rfl rfl rfl) ?_
    refine Z0 ?_
    refine Ly (Yl.lo (v:= .int .i64 M.part) 0 ((IntKind.i64.wrap (at_ - 1)).toNat) 2 (aY l).2 rfl rfl rfl rfl (λ_=>rfl)) ?_
    refine Z0 ?_
    cases N
    exact Eg0 [1,1,0] 0
   refine Z0 ?_
   cases g
   exact Eg0 [1,1,0] 0
  refine Tb J (λi=> ?_) λi=> ?_
  ·refine Z0 ?_
   have ⟨O,m,P⟩:=bnd i
   refine Ly (Yl.ia m rfl rfl rfl rfl rfl rfl) ?_
   refine Z0 ?_
   refine Ly (Yl.lo (v:= .int .i64 O.aO) 2 ((IntKind.i64.wrap (at_ - 1)).toNat) 1 (aY m).2 rfl rfl rfl rfl (λ_=>rfl)) ?_
   have ⟨n,Q,R⟩:=bnd P
   refine Lk [] [] (nJ Q) λ⟨⟩=> ?_
   have ⟨ab,o,S⟩:=bnd R
   refine Ly (Yl.ia o rfl rfl rfl rfl rfl rfl) ?_
   refine La [2] [] (Ac.se 0 n (aY o).2 rfl rfl rfl rfl rfl rfl (λ_=>⟨(),rfl,[],rfl⟩)) λ_=> ?_
   refine L.sl 9 (k':=(((r3.set at_.toNat (aH.mk x_ aO 1)).set ((IntKind.i64.wrap (at_+1)).toNat) (aH.mk x_ aO 2)).set ((IntKind.i64.wrap (at_ - 1)).toNat) n).length) (List.length_set ..) rfl ?_
   refine Z0 ?_
   cases S
   exact Eg0 [0,0,0] 0
  refine Z0 ?_
  cases i
  exact Eg0 [2,0,0] 0
 refine Z1 ?_
 have ⟨ac,U,V⟩:=bnd t
 refine Lk [0] [] (lD U) λ⟨⟩=> ?_
 refine Lt 0 ?_
 refine Z0 ?_
 cases V
 exact Eo (a6,c7) [] [0] (.cell 0 rfl rfl rfl .nil)
theorem p4 {q:aG} {x1:aB} {x2:Int} {r:aG} (H:iN q x1 x2=some r):CT G 239 [.agg #[.slice A0 q.cells.length C0,.bool q.wrapped],.pointer (some ⟨N0,0,none⟩),.pointer (some ⟨N3,0,none⟩)] [Ch.box N0 118 [.pointer (some ⟨N1,0,none⟩)],Ch.box N1 224 (bY x1 N2),Ch.box N2 296 [.int .i64 x1.g.w,.slice A1 x1.g.l.length C1],Ch.arr aD 232 A1 C1 x1.g.l,Ch.box N3 21 [.int .i32 x2]] [Im.sl aT A0 C0 q.cells,Im.sl cD (some ⟨1,0,none⟩) 13 cT,Im.sl cD (some ⟨2,0,none⟩) 14 dD] (λh:(Option Addr×Nat)=> .agg #[.slice h.1 r.cells.length h.2,.bool r.wrapped]) (λh=>[Ch.box N0 118 [.pointer (some ⟨N1,0,none⟩)],Ch.box N1 224 (bY x1 N2),Ch.box N2 296 [.int .i64 x1.g.w,.slice A1 x1.g.l.length C1],Ch.arr aD 232 A1 C1 x1.g.l,Ch.box N3 21 [.int .i32 x2]]) (λh=>[Im.sl aT h.1 h.2 r.cells]):=by
 delta iN at H
 refine Cf Go.Proofs.Tryz.func239 λK=> ?_
 refine Z1 ?_
 refine Lx λg1=> ?_
 refine Ll λg2=> ?_
 refine Y1 ?_
 refine Td [9,10] [0,0,0,0,0,0,0] mo ?_
 refine Db 0 1 ?_
 refine Db 1 2 ?_
 refine Dq 2 ?_
 refine Dq 3 ?_
 refine Dq 4 ?_
 refine Db 5 3 ?_
 refine Db 6 6 ?_
 refine Db 7 2 ?_
 have ⟨i,a,b⟩:=bnd H
 refine D.one rfl rfl rfl (Dp.br (Ac.call (dG a) rfl rfl rfl rfl) (Bw.bx 3 rfl (Bw.bx 4 rfl (Bw.ch 5 rfl (Bw.nil)))) rfl rfl rfl rfl ?_)
 intro _
 have ⟨j,c,d⟩:=bnd b
 refine Dkl [] [0,1,2] (yw c) λ⟨e,f⟩=> ?_
 refine Dt 0 ?_
 refine Dn ?_
 refine Z0 ?_
 cases d
 exact Eo (e,f) [2,2,2,2,2] [0] (.cell 0 rfl rfl rfl .nil)
theorem ma {s_:aB} {f_1:Int} {r:aB} (H:dH s_ f_1=some r):CT G 233 [.pointer (some ⟨N0,0,none⟩),.func (.func 239) #[] #[.pointer (some ⟨N2,0,none⟩),.pointer (some ⟨N3,0,none⟩)]] [Ch.box N0 224 (bY s_ N1),Ch.box N1 296 [.int .i64 s_.g.w,.slice A0 s_.g.l.length C0],Ch.arr aD 232 A0 C0 s_.g.l,Ch.box N2 118 [.pointer (some ⟨N0,0,none⟩)],Ch.box N3 21 [.int .i32 f_1]] [Im.sl cD (some ⟨1,0,none⟩) 13 cT,Im.sl cD (some ⟨2,0,none⟩) 14 dD] (λ_:Unit=> .tuple #[]) (λh=>[Ch.box N0 224 (bY r N1),Ch.box N1 296 [.int .i64 r.g.w,.slice A0 r.g.l.length C0],Ch.arr aD 232 A0 C0 r.g.l,Ch.box N2 118 [.pointer (some ⟨N0,0,none⟩)],Ch.box N3 21 [.int .i32 f_1]]) (λh=>[]):=by
 delta dH at H
 refine Cf Go.Proofs.Tryz.func233 λK=> ?_
 refine Td [21] [0,0,0,0,0] mo ?_
 refine Dq 0 ?_
 refine Dq 1 ?_
 refine Dq 2 ?_
 refine Db 3 0 ?_
 refine Dq 4 ?_
 refine Dq 5 ?_
 refine Dq 6 ?_
 refine Dq 7 ?_
 refine Db 8 0 ?_
 refine Dq 9 ?_
 refine Dq 10 ?_
 refine Dq 11 ?_
 refine Dq 12 ?_
 refine Db 13 0 ?_
 refine Dq 14 ?_
 refine Dq 15 ?_
 refine Dq 16 ?_
 refine Dq 17 ?_
 refine Db 18 0 ?_
 have ⟨i,a,b⟩:=bnd H
 refine D.one rfl rfl rfl (Dp.ab [1,1] [] [2,0,0,0,0] (Ac.call (kY a) rfl rfl rfl rfl) rfl rfl rfl rfl rfl rfl (λ_=>rfl) ?_)
 rintro ⟨j,k⟩
 have ⟨m,c,d⟩:=bnd b
 refine D.one rfl rfl rfl (Dp.ab [3,0,0,0,0] [0,1,2] [1,1,1,0,0] (Ac.call (p4 c) rfl rfl rfl rfl) rfl rfl rfl rfl rfl rfl (λ_=>rfl) ?_)
 rintro ⟨n,o⟩
 have ⟨p,e,f⟩:=bnd d
 refine Dkl [1,1] [0] (jI e) λ⟨⟩=> ?_
 refine Dn ?_
 refine E.off ?_
 cases f
 exact Eo () [2,0,0,0,0] [] .nil
theorem qR {s_:aB} {r_:Int} {r:(List aG)×aB} (H:gU s_ r_=some r):CT G 187 [.pointer (some ⟨N0,0,none⟩),.int .i32 r_] [Ch.box N0 224 (bY s_ N1),Ch.box N1 296 [.int .i64 s_.g.w,.slice A0 s_.g.l.length C0],Ch.arr aD 232 A0 C0 s_.g.l] [Im.sl cD (some ⟨1,0,none⟩) 13 cT,Im.sl cD (some ⟨2,0,none⟩) 14 dD] (λh:(Option Addr×Nat)=> .slice h.1 r.1.length h.2) (λh=>[Ch.arr aD 232 h.1 h.2 r.1,Ch.box N0 224 (bY r.2 N1),Ch.box N1 296 [.int .i64 r.2.g.w,.slice A0 r.2.g.l.length C0],Ch.arr aD 232 A0 C0 r.2.g.l]) (λh=>[]):=by
 delta gU at H
 refine Cf Go.Proofs.Tryz.func187 λK=> ?_
 refine Z1 ?_
 refine Lx λg1=> ?_
 refine Lx λg2=> ?_
 refine Z1 ?_
 have ⟨r3,h4,H5⟩:=bnd H
 refine Lk [] [0,1] (y8 h4) λ⟨⟩=> ?_
 refine Z1 ?_
 have ⟨r6,h7,H8⟩:=bnd H5
 refine Lk [3,3] [] (gx h7) λ⟨⟩=> ?_
 refine Y2 ?_
 have ⟨p,q,s⟩:=bnd H8
 refine Tj0 [(25,.bool p)] [2,3,5,6] [] [0,2,3,4,1] ?_ ?_
 ·refine Z0 ?_
  refine Lw 21 q (λi=> ?_) λi=> ?_
  ·refine Z0 ?_
   cases i
   exact Eg0 [0,1,1,1,0] 0
  refine Z0 ?_
  cases i
  exact Eg0 [0,1,1,1,0] 0
 refine Tb s (λj=> ?_) λj=> ?_
 ·refine Z1 ?_
  refine E.gA aD 232 ?_
  cases j
  exact Eo1 (none,0) [0,3,0,2] []
 refine Y3 ?_
 have ⟨t,u,v⟩:=bnd j
 refine Tj0 [(35,.bool t)] [2,3,5,6,8] [] [0,1,2,3,4] ?_ ?_
 ·refine Z0 ?_
  refine Lw 30 u (λk=> ?_) λk=> ?_
  ·refine Z0 ?_
   cases k
   exact Eg0 [0,0,0,0,0] 0
  refine Z0 ?_
  cases k
  exact Eg0 [0,0,0,0,0] 0
 have ⟨a,x,y⟩:=bnd v
 refine Tjh (η:=(Option Addr×Nat)) (λh=>(λb c=>[(8,.slice b a.1.length c)]) h.1 h.2) [2,3,5,6] (λh=>(λb c=>[Ch.arr aD 232 b c a.1,Ch.arr aD 232 A0 C0 a.2.1.l,Ch.box N1 296 [.int .i64 a.2.1.w,.slice A0 a.2.1.l.length C0],Ch.box N0 224 (bY a.2.2 N1)]) h.1 h.2) [1,2] (λ_=>[]) ?_ ?_
 ·refine Tb x (λm=> ?_) λm=> ?_
  ·refine Z1 ?_
   have ⟨aa,z,A⟩:=bnd m
   refine Lk [3,0,2] [] (l8 z) λ⟨⟩=> ?_
   refine Z1 ?_
   refine Lt 0 ?_
   refine Z0 ?_
   have ⟨ab,B,C⟩:=bnd A
   refine Lk [0,0,0] [] (kb B) λ⟨ac,ad⟩=> ?_
   refine L.gA aD 232 ?_
   refine L.frz 1 rfl ?_
   have ⟨_,F,I⟩:=bnd C
   refine La [0] [0] (Ac.ap (ty:=aD) F rfl rfl rfl rfl rfl rfl rfl) ?_
   rintro ⟨J,M⟩
   refine Z0 ?_
   cases I
   exact Eg (J,M) trivial [0,2,1,0,0,0] [] 1
  refine Z0 ?_
  refine E.gA aD 232 ?_
  cases m
  exact Eg (none,0) trivial [0,4,0,2,0,0] [] 0
 rintro ⟨b,c⟩
 refine Z2 ?_
 have ⟨d,N,O⟩:=bnd y
 refine Tjh (η:=(Option Addr×Nat)) (λh=>(λe f=>[(8,.slice e d.1.length f)]) h.1 h.2) [2,3,5,6] (λh=>(λe f=>[Ch.arr aD 232 e f d.1,Ch.arr aD 232 A0 C0 d.2.1.l,Ch.box N1 296 [.int .i64 d.2.1.w,.slice A0 d.2.1.l.length C0],Ch.box N0 224 (bY d.2.2 N1)]) h.1 h.2) [4,5] (λ_=>[]) ?_ ?_
 ·refine Tb N (λn=> ?_) λn=> ?_
  ·refine Z1 ?_
   refine Tb n (λo=> ?_) λo=> ?_
   ·refine Z1 ?_
    have ⟨ae,P,Q⟩:=bnd o
    refine Lk [3,2,1,2] [] (l9 P) λ⟨⟩=> ?_
    refine Z1 ?_
    refine Lt 0 ?_
    refine Z0 ?_
    have ⟨af,R,S⟩:=bnd Q
    refine Lk [0,0,0] [] (kb R) λ⟨ag,ah⟩=> ?_
    refine L.frz 0 rfl ?_
    have ⟨_,U,V⟩:=bnd S
    refine La [4] [0] (Ac.ap (ty:=aD) U rfl rfl rfl rfl rfl rfl rfl) ?_
    rintro ⟨W,X⟩
    refine Z0 ?_
    cases V
    exact Eg (W,X) trivial [0,2,1,0,1,0] [] 1
   refine Z0 ?_
   refine Lt 3 ?_
   refine Z0 ?_
   cases o
   exact Eg (b,c) trivial [1,1,1,0,0,0] [] 0
  refine Z0 ?_
  cases n
  exact Eg (b,c) trivial [0,0,0,0,0,0] [] 0
 rintro ⟨e,f⟩
 refine Z1 ?_
 have ⟨ai,Y,Z⟩:=bnd O
 refine Lk [3,2,1,2,1] [0,1] (ma Y) λ⟨⟩=> ?_
 refine Z1 ?_
 refine Lt 0 ?_
 refine Y1 ?_
 refine Td [10] [0,0,0,0,0,0] mo ?_
 refine Db 0 3 ?_
 refine Db 1 3 ?_
 refine Dq 2 ?_
 refine Dq 3 ?_
 refine Dq 4 ?_
 refine Db 5 0 ?_
 refine Dq 6 ?_
 refine Dq 7 ?_
 refine Dq 8 ?_
 refine Dq 9 ?_
 refine Dt 0 ?_
 refine Dn ?_
 refine Y1 ?_
 refine Td [12] [0,0,0,0,0,0] mo ?_
 refine Db 0 3 ?_
 refine Db 1 3 ?_
 refine Dq 2 ?_
 refine Dq 3 ?_
 refine Dq 4 ?_
 refine Db 5 0 ?_
 refine Dq 6 ?_
 refine Dq 7 ?_
 refine Dq 8 ?_
 refine Dq 9 ?_
 refine Dq 10 ?_
 refine Dq 11 ?_
 refine Dt 0 ?_
 refine Dn ?_
 refine Z1 ?_
 cases Z
 exact Eo1 (e,f) [5,0,0,0] []
theorem p5 {s_:aB} {b:Int} {r:(List aG)×aB} (H:gg s_ b=some r):CT G 188 [.pointer (some ⟨N0,0,none⟩),.int .u8 b] [Ch.box N0 224 (bY s_ N1),Ch.box N1 296 [.int .i64 s_.g.w,.slice A0 s_.g.l.length C0],Ch.arr aD 232 A0 C0 s_.g.l] [] (λh:(Option Addr×Nat)=> .slice h.1 r.1.length h.2) (λh=>[Ch.arr aD 232 h.1 h.2 r.1,Ch.box N0 224 (bY r.2 N1),Ch.box N1 296 [.int .i64 r.2.g.w,.slice A0 r.2.g.l.length C0],Ch.arr aD 232 A0 C0 r.2.g.l]) (λh=>[]):=by
 delta gg at H
 refine Cf Go.Proofs.Tryz.func188 λK=> ?_
 refine Z3 ?_
 have ⟨k,n,m⟩:=bnd H
 refine Tj (η:=(aB×aZ)×Unit) (λh=>k = .inl h.1) (λ_=>[]) [] (λh=>(λa=>[Ch.arr aD 232 A0 C0 a.2.l,Ch.box N0 224 (bY a.1 N1),Ch.box N1 296 [.int .i64 a.2.w,.slice A0 a.2.l.length C0]]) h.1) [] (λ_=>[]) ?_ ?_
 ·refine Zl ?_
  refine Z1 ?_
  refine Tb n (λc=> ?_) λc=> ?_
  ·refine Td [12] [0,0,0] mo ?_
   refine Dq 0 ?_
   refine Dq 1 ?_
   refine Dq 2 ?_
   refine Dq 3 ?_
   refine Dq 4 ?_
   refine Db 5 0 ?_
   refine Dq 6 ?_
   refine Dq 7 ?_
   refine Dq 8 ?_
   refine Dq 9 ?_
   refine Dq 10 ?_
   refine Db 11 0 ?_
   have ⟨I,o,p⟩:=bnd c
   refine Dkl [0,0,0] [] (cE o) λ⟨⟩=> ?_
   refine Dn ?_
   refine Z0 ?_
   cases p
   exact Eg (_,()) rfl [2,0,0] [] 0
  refine Z1 ?_
  refine Tb c (λd=> ?_) λd=> ?_
  ·refine Td [14] [0,0,0] mo ?_
   refine Dq 0 ?_
   refine Dq 1 ?_
   refine Dq 2 ?_
   refine Dq 3 ?_
   refine Dq 4 ?_
   refine Db 5 0 ?_
   refine Dq 6 ?_
   refine Dq 7 ?_
   refine Dq 8 ?_
   refine Dq 9 ?_
   refine Dq 10 ?_
   refine Dq 11 ?_
   refine Dq 12 ?_
   refine Db 13 0 ?_
   have ⟨J,q,s⟩:=bnd d
   refine Dkl [0,0,0] [] (cE q) λ⟨⟩=> ?_
   refine Dn ?_
   refine Z0 ?_
   cases s
   exact Eg (_,()) rfl [2,0,0] [] 0
  refine Z2 ?_
  have ⟨t,u,v⟩:=bnd d
  refine Tj0 [(38,.bool t)] [0,5] [] [0,1,2] ?_ ?_
  ·refine Tb u (λe=> ?_) λe=> ?_
   ·refine Z0 ?_
    cases e
    exact Eg0 [0,0,0] 0
   refine Z1 ?_
   refine Tb e (λf=> ?_) λf=> ?_
   ·refine Z0 ?_
    cases f
    exact Eg0 [0,0,0] 0
   refine Z0 ?_
   cases f
   exact Eg0 [0,0,0] 0
  refine Tb v (λi=> ?_) λi=> ?_
  ·refine Z1 ?_
   have ⟨M,x,y⟩:=bnd i
   refine Lk [0,0,0] [] (kb x) λ⟨z,A⟩=> ?_
   refine Z0 ?_
   obtain ⟨N,hz,B⟩:=eP y
   subst k
   obtain rfl:=(sm m).symm
   refine Z0 ?_
   cases B
   exact Eo1 (z,A) [0,0,0,0] []
  refine Z1 ?_
  refine Tb i (λj=> ?_) λj=> ?_
  ·refine Z0 ?_
   have ⟨O,C,F⟩:=bnd j
   refine Lk [0,0,0] [] (cE C) λ⟨⟩=> ?_
   refine Z0 ?_
   cases F
   exact Eg (_,()) rfl [2,0,0] [] 0
  refine Z0 ?_
  cases j
  exact Eg (_,()) rfl [2,0,0] [] 0
 rintro ⟨a,⟨⟩⟩ hy
 subst hy
 refine Z1 ?_
 refine E.gA aD 232 ?_
 cases m
 exact Eo1 (none,0) [0,1,1,0] []
theorem pr {s_:List aG} {r:(List aG)} (H:fS s_=some r):CT G 296 [.slice A0 s_.length C0] [Ch.arr aD 232 A0 C0 s_] [] (λ_:Unit=> .tuple #[]) (λh=>[Ch.arr aD 232 A0 C0 r]) (λh=>[]):=by
 delta fS at H
 refine Cf Go.Proofs.Tryz.func296 λK=> ?_
 refine Z1 ?_
 have ⟨i,x,y⟩:=bnd H
 refine T.qB (η:=Unit×Unit) (λh=>True) (λh=>[(0,.slice A0 i.length C0)]) (λh=>[Ch.arr aD 232 A0 C0 i]) (λh=>[]) ?_ ?_
 ·refine Yl0 ?_
  refine Tq (η:=Unit) (λb h=>[(0,.slice A0 b.1.length C0),(2,.int .i64 b.2.1),(3,.int .i64 b.2.2)]) [] (λb h=>[Ch.arr aD 232 A0 C0 b.1]) [] (λ_ _=>[]) () [0] [] x ?_
  rintro k_ b ⟨⟩ Q z A B
  refine Z2 ?_
  refine Tb z (λj=> ?_) λj=> ?_
  ·refine Y1 ?_
   have ⟨u,C,F⟩:=bnd j
   refine Tj0 [(0,.slice A0 u.length C0)] [2,3] [Ch.arr aD 232 A0 C0 u] [] ?_ ?_
   ·refine Yl0 ?_
    refine Td [15] [] mo ?_
    refine Dq 0 ?_
    refine Dq 1 ?_
    refine Dq 2 ?_
    refine Dq 3 ?_
    refine Dq 4 ?_
    refine Dq 5 ?_
    have ⟨c,e,I⟩:=bnd C
    refine D.lN 0 rfl (cQ e) λR J=> ?_
    subst J
    refine Dy 6 (Yl.ia e rfl rfl rfl rfl rfl rfl) ?_
    refine Dq 8 ?_
    refine Dq 9 ?_
    have ⟨d,k,M⟩:=bnd I
    refine Dy 10 (Yl.ia k rfl rfl rfl rfl rfl rfl) ?_
    have ⟨S,f,N⟩:=bnd M
    have ⟨U,g,w⟩:=bnd N
    refine D.two rfl rfl rfl ?_ ?_
    ·refine Dp.a [0] [] (Ac.lo b.2.2.toNat 0 (v:=(λh:(Option Addr×Nat)=>(λl m=> .agg #[.slice l c.cells.length m,.bool c.wrapped]) h.1 h.2)) (aY e).2 rfl rfl rfl (λ_=>rfl)) rfl rfl rfl rfl rfl rfl ?_
     rintro ⟨l,m⟩
     refine Da [0] [] rfl rfl (Ac.lo b.2.1.toNat 0 (v:=(λh:(Option Addr×Nat)=>(λn o=> .agg #[.slice n d.cells.length o,.bool d.wrapped]) h.1 h.2)) (aY k).2 rfl rfl rfl (λ_=>rfl)) ?_
     rintro ⟨n,o⟩
     refine Dy 12 (Yl.ia f rfl rfl rfl rfl rfl rfl) ?_
     refine Da [0] [1] rfl rfl (Ac.se 0 c (aY f).2 rfl rfl rfl rfl rfl rfl (λ_=>⟨(l,m),rfl,[1],rfl⟩)) λ_=> ?_
     refine Dy 14 (Yl.ia g rfl rfl rfl rfl rfl rfl) ?_
     obtain ⟨V,O⟩:=Ag (aY g).2
     refine D.one rfl rfl rfl (Dp.al [0] [0] (Ac.se 0 d O rfl rfl rfl rfl rfl rfl (λ_=>⟨(n,o),rfl,[1],rfl⟩)) rfl rfl rfl rfl rfl rfl rfl ?_)
     intro _
     refine Dn ?_
     refine E.sl 0 (k':=((b.1.set b.2.1.toNat c).set b.2.2.toNat d).length) ((List.length_set ..).trans (List.length_set ..)) rfl ?_
     refine Z0 ?_
     cases w
     exact Eg0 [0] 2
    refine Dp.a [0] [] (Ac.lo b.2.1.toNat 0 (v:=(λh:(Option Addr×Nat)=>(λp q=> .agg #[.slice p d.cells.length q,.bool d.wrapped]) h.1 h.2)) (aY k).2 rfl rfl rfl (λ_=>rfl)) rfl rfl rfl rfl rfl rfl ?_
    rintro ⟨p,q⟩
    refine Da [0] [] rfl rfl (Ac.lo b.2.2.toNat 0 (v:=(λh:(Option Addr×Nat)=>(λs t=> .agg #[.slice s c.cells.length t,.bool c.wrapped]) h.1 h.2)) (aY e).2 rfl rfl rfl (λ_=>rfl)) ?_
    rintro ⟨s,t⟩
    refine Dy 12 (Yl.ia f rfl rfl rfl rfl rfl rfl) ?_
    refine Da [0] [0] rfl rfl (Ac.se 0 c (aY f).2 rfl rfl rfl rfl rfl rfl (λ_=>⟨(s,t),rfl,[1],rfl⟩)) λ_=> ?_
    refine Dy 14 (Yl.ia g rfl rfl rfl rfl rfl rfl) ?_
    obtain ⟨W,P⟩:=Ag (aY g).2
    refine D.one rfl rfl rfl (Dp.al [0] [1] (Ac.se 0 d P rfl rfl rfl rfl rfl rfl (λ_=>⟨(p,q),rfl,[1],rfl⟩)) rfl rfl rfl rfl rfl rfl rfl ?_)
    intro _
    refine Dn ?_
    refine E.sl 0 (k':=((b.1.set b.2.1.toNat c).set b.2.2.toNat d).length) ((List.length_set ..).trans (List.length_set ..)) rfl ?_
    refine Z0 ?_
    cases w
    exact Eg0 [0] 2
   refine Z0 ?_
   cases F
   exact Eg (_,()) (A _ rfl) [0] [] 0
  refine Z0 ?_
  cases j
  have hb:=B _ rfl
  subst i
  exact Egx ((),()) trivial [0] []
 rintro ⟨_,⟨⟩⟩ _
 refine E.off ?_
 cases y
 exact Eo () [0] [] .nil
theorem nj {g:aZ} {top:Int} {aK:Int} {n_:Int} {aO:Int} {r:(List aG)×aZ} (H:eK g top aK n_ aO=some r):CT G 248 [.pointer (some ⟨N0,0,none⟩),.int .i64 top,.int .i64 aK,.int .i64 n_,.int .i64 aO] [Ch.box N0 296 [.int .i64 g.w,.slice A0 g.l.length C0],Ch.arr aD 232 A0 C0 g.l] [] (λh:(Option Addr×Nat)=> .slice h.1 r.1.length h.2) (λh=>[Ch.arr aD 232 h.1 h.2 r.1,Ch.box N0 296 [.int .i64 r.2.w,.slice A0 r.2.l.length C0],Ch.arr aD 232 A0 C0 r.2.l]) (λh=>[]):=by
 delta eK at H
 refine Cf Go.Proofs.Tryz.func248 λK=> ?_
 refine Z2 ?_
 have ⟨r1,h2,H3⟩:=bnd H
 rcases r1 with r1 | r1
 ·refine Lk [0,0] [] (m2 h2) λ⟨⟩=> ?_
  refine Z2 ?_
  refine T.cond rfl (λ_=> ?_) (λh=>nomatch h)
  refine Z1 ?_
  refine E.gA aD 232 ?_
  cases H3
  exact Eo1 (none,0) [0,0,0] []
 refine Lk [0,0] [] (m3 h2) λ⟨⟩=> ?_
 have ⟨_,h5,H6⟩:=bnd H3
 refine L.cap 1 rfl λh7=> ?_
 have b:Vw aD g.l A0 C0 (kc A0 C0 r1.1 (aD).sz) (C0 - r1.1.toNat) r1.1 r1.2:=u4 h5 h7
 refine Z2 ?_
 refine T.cond rfl (λh=>nomatch h) (λ_=> ?_)
 refine Z1 ?_
 have ⟨r9,m,n⟩:=bnd H6
 refine Lk [] [] (kH m) λ⟨⟩=> ?_
 refine Z1 ?_
 have ⟨_,o,p⟩:=bnd n
 refine L.vv b o rfl rfl rfl rfl rfl rfl rfl rfl rfl rfl rfl λq s t=> ?_
 have ⟨af,u,v⟩:=bnd p
 refine Lk [1] [] (ij A0 C0 q s t u) λ⟨x,y⟩=> ?_
 refine Z1 ?_
 have ⟨z,A,B⟩:=bnd v
 refine Lk [0] [] (pr A) λ⟨⟩=> ?_
 have ⟨_,C,F⟩:=bnd B
 refine L.sl 13 (k':=z.length) (eG C) rfl ?_
 refine Y1 ?_
 refine Td [] [0,1] mo ?_
 refine Dq 0 ?_
 refine Dq 1 ?_
 have ⟨_,I,J⟩:=bnd F
 refine D.vv 2 b I rfl rfl rfl rfl rfl rfl rfl rfl rfl rfl rfl rfl rfl rfl λag ah c=> ?_
 refine Dq 3 ?_
 refine Dq 4 ?_
 refine Dq 5 ?_
 refine Dq 6 ?_
 refine Dq 7 ?_
 have ⟨_,M,N⟩:=bnd J
 refine D.vv 8 b M rfl rfl rfl rfl rfl rfl rfl rfl rfl rfl rfl rfl rfl rfl λai aj O=> ?_
 refine Da [0] [] rfl rfl (Ac.cpv (ty:=aD) c O rfl rfl rfl rfl rfl rfl rfl) λ_=> ?_
 refine Dn ?_
 have P:Vw aD (qJ g.l (r1.1+r9) (r1.1+((cut g.l r1.1 r1.2).length:Int)) (r1.1+0) (r1.1+(IntKind.i64.wrap (((cut g.l r1.1 r1.2).length:Int) - r9)))) A0 C0 (kc A0 C0 r1.1 (aD).sz) (C0 - r1.1.toNat) r1.1 r1.2:=Vw.on b (pz c)
 refine E.sl 11 (k':=(cut (qJ g.l (r1.1+r9) (r1.1+((cut g.l r1.1 r1.2).length:Int)) (r1.1+0) (r1.1+(IntKind.i64.wrap (((cut g.l r1.1 r1.2).length:Int) - r9)))) r1.1 r1.2).length) (nX (pz c)) rfl ?_
 refine E.bx 1 (cs':=[.int .i64 g.w,.slice A0 (qJ g.l (r1.1+r9) (r1.1+((cut g.l r1.1 r1.2).length:Int)) (r1.1+0) (r1.1+(IntKind.i64.wrap (((cut g.l r1.1 r1.2).length:Int) - r9)))).length C0]) (by rw [(pz c)]) rfl ?_
 refine Z2 ?_
 have ⟨d,Q,R⟩:=bnd N
 refine Tj0 [] [13] [Ch.arr aD 232 A0 C0 d.l,Ch.box N0 296 [.int .i64 d.w,.slice A0 d.l.length C0]] [1] ?_ ?_
 ·refine Yl0 ?_
  refine Tq (η:=Unit) (λa h=>[(11,.slice (kc A0 C0 r1.1 (aD).sz) (cut a.1.l r1.1 r1.2).length (C0 - r1.1.toNat)),(48,.int .i64 a.2)]) [0,4,13,47] (λa h=>[Ch.arr aD 232 A0 C0 a.1.l,Ch.box N0 296 [.int .i64 a.1.w,.slice A0 a.1.l.length C0]]) [1] (λ_ _=>[]) () [2,0,0] [] Q ?_
  rintro k_ a ⟨⟩ ak S U V
  refine Y2 ?_
  refine Tb S (λf=> ?_) λf=> ?_
  ·refine Z1 ?_
   refine Zl ?_
   refine Z1 ?_
   have ⟨e,W,X⟩:=bnd f
   refine Lk [] [] (oX W) λ⟨Y,Z⟩=> ?_
   have ⟨_,aa,ab⟩:=bnd X
   refine L.cap 0 rfl λac=> ?_
   have k:=KB P aa ac
   have ⟨al,i,ad⟩:=bnd ab
   refine L.lN 0 rfl (F4 (tR i)) λj ae=> ?_
   subst ae
   refine Ly (Yl.iv (ty:=aD) 0 k i rfl rfl rfl rfl rfl rfl rfl rfl) ?_
   refine La [0] [0] (Ac.se 0 e (tR i) rfl rfl rfl rfl rfl rfl (λ_=>⟨(Y,Z),rfl,[1],rfl⟩)) λ_=> ?_
   have am:Vw aD (a.1.l.set (r1.1.toNat+a.2.toNat) e) (some ⟨j,0,none⟩) C0 (kc (some ⟨j,0,none⟩) C0 r1.1 (aD).sz) (C0 - r1.1.toNat) r1.1 r1.2:=Vw.on k (List.length_set ..)
   refine L.sl 11 (k':=(cut (a.1.l.set (r1.1.toNat+a.2.toNat) e) r1.1 r1.2).length) (nX (List.length_set ..)) rfl ?_
   refine L.bx 1 (cs':=[.int .i64 a.1.w,.slice (some ⟨j,0,none⟩) (a.1.l.set (r1.1.toNat+a.2.toNat) e).length C0]) (by rw [List.length_set ..]) rfl ?_
   refine Z0 ?_
   cases ad
   exact Eg (_,()) (U _ rfl) [1,0,0] [] 1
  refine Z0 ?_
  cases f
  have hb:=V _ rfl
  subst d
  exact Eg0 [0,0,0] 0
 refine Z1 ?_
 cases R
 exact Eo1 (x,y) [2,1,0] []
end Go.Tw.X
namespace Go.Tw.X
open Go Go.Tw
variable {A0 A1 A2 A3 A4 A5 A6 A7 A8 A9 A10 A11 A12 A13 A14 A15 A16 A17 A18 A19 A20 A21 A22 : Option Addr} {C0 C1 C2 C3 C4 C5 C6 C7 C8 C9 C10 C11 C12 C13 C14 C15 C16 C17 C18 C19 C20 C21 C22 : Nat}
variable {N0 N1 N2 N3 N4 N5 N6 : Nat}
theorem rP {s_:aB} {r:aB} (H:iA s_=some r):CT G 241 [.pointer (some ⟨N0,0,none⟩)] [Ch.box N0 224 (bY s_ N1),Ch.box N1 296 [.int .i64 s_.g.w,.slice A0 s_.g.l.length C0],Ch.arr aD 232 A0 C0 s_.g.l] [] (λ_:Unit=> .tuple #[]) (λh=>[Ch.box N0 224 (bY r N1),Ch.box N1 296 [.int .i64 r.g.w,.slice A0 r.g.l.length C0],Ch.arr aD 232 A0 C0 r.g.l]) (λh=>[]):=by
 delta iA at H
 refine Cf Go.Proofs.Tryz.func241 λK=> ?_
 refine Z1 ?_
 refine Lt 0 ?_
 refine Y2 ?_
 refine Td [] [0,0,0] mo ?_
 refine Dq 0 ?_
 refine Dq 1 ?_
 refine Dq 2 ?_
 refine Dq 3 ?_
 refine Db 4 0 ?_
 refine Dq 5 ?_
 refine Dq 6 ?_
 refine Dq 7 ?_
 refine Db 8 0 ?_
 refine Dq 9 ?_
 refine Dn ?_
 refine Z0 ?_
 refine Tb H (λa=> ?_) λa=> ?_
 ·refine Y1 ?_
  refine Td [14] [0,0,0] mo ?_
  refine Dq 0 ?_
  refine Dq 1 ?_
  refine Dq 2 ?_
  refine Db 3 0 ?_
  refine Dq 4 ?_
  refine Dq 5 ?_
  refine Dq 6 ?_
  refine Db 7 0 ?_
  refine Dq 8 ?_
  refine Dq 9 ?_
  refine Dq 10 ?_
  refine Db 11 0 ?_
  refine Dq 12 ?_
  have ⟨j,b,c⟩:=bnd a
  refine D.one rfl rfl rfl (Dp.br (Ac.call (dG b) rfl rfl rfl rfl) (Bw.bx 0 rfl (Bw.bx 1 rfl (Bw.ch 2 rfl (Bw.nil)))) rfl rfl rfl rfl ?_)
  intro _
  have ⟨k,d,e⟩:=bnd c
  refine Dkl [1,1] [] (nj d) λ⟨m,n⟩=> ?_
  refine Dn ?_
  refine Z0 ?_
  cases e
  exact Eo () [3,1,1] [] .nil
 refine Z0 ?_
 refine Td [12] [0,0,0] mo ?_
 refine Dq 0 ?_
 refine Dq 1 ?_
 refine Dq 2 ?_
 refine Dq 3 ?_
 refine Dq 4 ?_
 refine Db 5 0 ?_
 refine Dq 6 ?_
 refine Dq 7 ?_
 refine Dq 8 ?_
 refine Dq 9 ?_
 refine Db 10 0 ?_
 refine Dq 11 ?_
 have ⟨o,f,i⟩:=bnd a
 refine Dkl [0,0,0] [] (cE f) λ⟨⟩=> ?_
 refine Dn ?_
 refine E.off ?_
 cases i
 exact Eo () [0,0,0] [] .nil
theorem qw {s_:aB} {b:Int} {r:(List aG)×aB} (H:gJ s_ b=some r):CT G 189 [.pointer (some ⟨N0,0,none⟩),.int .u8 b] [Ch.box N0 224 (bY s_ N1),Ch.box N1 296 [.int .i64 s_.g.w,.slice A0 s_.g.l.length C0],Ch.arr aD 232 A0 C0 s_.g.l] [] (λh:(Option Addr×Nat)×Nat×(Option Addr×Nat)=> .slice h.1.1 r.1.length h.1.2) (λh=>[Ch.arr aD 232 h.1.1 h.1.2 r.1,Ch.box N0 224 (bY r.2 h.2.1),Ch.box h.2.1 296 [.int .i64 r.2.g.w,.slice h.2.2.1 r.2.g.l.length h.2.2.2],Ch.arr aD 232 h.2.2.1 h.2.2.2 r.2.g.l]) (λh=>[]):=by
 delta gJ at H
 refine Cf Go.Proofs.Tryz.func189 λK=> ?_
 refine Z3 ?_
 have ⟨q,u,s⟩:=bnd H
 refine Tj (η:=aB×(Nat×(Option Addr×Nat))) (λh=>q = .inl h.1) (λ_=>[]) [] (λh=>(λd=>(λe f i=>[Ch.arr aD 232 f i d.g.l,Ch.box N0 224 (bY d e),Ch.box e 296 [.int .i64 d.g.w,.slice f d.g.l.length i]]) h.2.1 h.2.2.1 h.2.2.2) h.1) [] (λ_=>[]) ?_ ?_
 ·refine Zl ?_
  refine Z1 ?_
  refine Zl ?_
  refine Z1 ?_
  refine Zl ?_
  refine Z1 ?_
  refine Zl ?_
  refine Z1 ?_
  refine Zl ?_
  refine Y1 ?_
  have ⟨a,v,c⟩:=bnd u
  refine Tj (η:=aB×Unit) (λh=>a = .inl h.1) (λ_=>[]) [0] (λh=>(λt=>[Ch.box N0 224 (bY t N1)]) h.1) [1,2] (λ_=>[]) ?_ ?_
  ·refine Zl ?_
   refine Z1 ?_
   refine Zl ?_
   refine Z3 ?_
   refine Tb v (λj=> ?_) λj=> ?_
   ·refine Z0 ?_
    refine Lt 0 ?_
    refine Z0 ?_
    cases j
    exact Eg (_,()) rfl [0,0,0] [] 0
   refine Z2 ?_
   refine Tb j (λk=> ?_) λk=> ?_
   ·refine Z0 ?_
    cases k
    exact Eg (_,()) rfl [0,0,0] [] 0
   refine Z2 ?_
   refine Tb k (λm=> ?_) λm=> ?_
   ·refine Z0 ?_
    obtain ⟨Z,hz,x⟩:=eP m
    subst a
    obtain rfl:=(sm c).symm
    refine Z1 ?_
    have ⟨aa,y,z⟩:=bnd x
    refine Lk [0,0,0] [] (rP y) λ⟨⟩=> ?_
    refine Z0 ?_
    cases z
    exact Eg (_,(N1,(A0,C0))) rfl [2,0,0] [] 0
   refine Z2 ?_
   refine Tb m (λn=> ?_) λn=> ?_
   ·refine Z0 ?_
    obtain ⟨ab,hz,A⟩:=eP n
    subst a
    obtain rfl:=(sm c).symm
    refine Z1 ?_
    refine Lt 0 ?_
    refine Z0 ?_
    cases A
    exact Eg (_,(N1,(A0,C0))) rfl [2,0,0] [] 0
   refine Z2 ?_
   refine Tb n (λo=> ?_) λo=> ?_
   ·refine Z0 ?_
    obtain ⟨ac,hz,B⟩:=eP o
    subst a
    obtain rfl:=(sm c).symm
    refine Z2 ?_
    refine Lt 0 ?_
    refine Z0 ?_
    refine Td [11] [0,0,0] mo ?_
    refine Dq 0 ?_
    refine Dq 1 ?_
    refine Dq 2 ?_
    refine Dq 3 ?_
    refine Dq 4 ?_
    refine Db 5 0 ?_
    refine Dq 6 ?_
    refine Dq 7 ?_
    refine Dq 8 ?_
    refine Dq 9 ?_
    refine Db 10 0 ?_
    have ⟨ad,C,F⟩:=bnd B
    refine Dkl [0,0,0] [] (cE C) λ⟨⟩=> ?_
    refine Dn ?_
    refine Z0 ?_
    cases F
    exact Eg (_,(N1,(A0,C0))) rfl [2,0,0] [] 0
   refine Z1 ?_
   refine Tb o (λp=> ?_) λp=> ?_
   ·refine Z0 ?_
    obtain ⟨ae,hz,I⟩:=eP p
    subst a
    obtain rfl:=(sm c).symm
    refine Z1 ?_
    have ⟨af,J,M⟩:=bnd I
    refine Lk [1,1] [] (gx J) λ⟨⟩=> ?_
    refine Z0 ?_
    have ⟨ag,N,O⟩:=bnd M
    refine Lk [] [] (uF N) λ⟨ah,P,⟨Q,R⟩⟩=> ?_
    refine Z0 ?_
    refine Lt 5 ?_
    refine Z0 ?_
    cases O
    exact Eg (_,(P,(Q,R))) rfl [3,0,1] [] 0
   refine Z0 ?_
   obtain ⟨ai,hz,S⟩:=eP p
   subst a
   obtain rfl:=(sm c).symm
   refine Z0 ?_
   cases S
   exact Eg (_,(N1,(A0,C0))) rfl [2,0,0] [] 0
  rintro ⟨t,⟨⟩⟩ hy
  subst hy
  refine Z2 ?_
  have ⟨aj,U,V⟩:=bnd c
  refine Lk [0,0,0] [] (kb U) λ⟨W,X⟩=> ?_
  refine Z0 ?_
  obtain ⟨ak,hz,Y⟩:=eP V
  subst q
  obtain rfl:=(sm s).symm
  refine Z0 ?_
  cases Y
  exact Eo1 ((W,X),N1,(A0,C0)) [0,0,0,0] []
 rintro ⟨d,⟨e,⟨f,i⟩⟩⟩ hy
 subst hy
 refine Z1 ?_
 refine E.gA aD 232 ?_
 cases s
 exact Eo1 ((none,0),e,(f,i)) [0,1,1,0] []
theorem lF {a:bC} {i:Int} {d:Int} {r:Int} (H:eO a i d=some r):CT G 191 [.agg (xW a A0 C0).toArray,.int .i64 i,.int .i64 d] [] [Im.sl (Ty.int .i64) A0 C0 a.aW] (λ_:Unit=> .int .i64 r) (λh=>[]) (λh=>[]):=by
 delta eO at H
 refine Cf Go.Proofs.Tryz.func191 λK=> ?_
 refine Z1 ?_
 refine Lx λg1=> ?_
 refine Y2 ?_
 have ⟨g,j,k⟩:=bnd H
 refine Tj0 [(19,.bool g)] [1,2,3] [] [0] ?_ ?_
 ·refine Z0 ?_
  refine Lw 12 j (λb=> ?_) λb=> ?_
  ·refine Z0 ?_
   cases b
   exact Eg0 [0] 0
  refine Z0 ?_
  have ⟨p,c,l⟩:=bnd b
  refine L.addr 0 rfl (cQ c) λq s m=> ?_
  subst m
  refine Ly (Yl.ia c rfl rfl rfl rfl rfl rfl) ?_
  refine L.el 0 rfl (aY c).2 ?_
  rintro _
  refine Lc 0 0 ?_
  refine Z0 ?_
  cases l
  exact Eg0 [0] 1
 refine Tb k (λe=> ?_) λe=> ?_
 ·refine Z1 ?_
  cases e
  exact Eo1 () [] []
 refine Z1 ?_
 have ⟨t,f,n⟩:=bnd e
 refine L.addr 0 rfl (cQ f) λu v o=> ?_
 subst o
 refine Ly (Yl.ia f rfl rfl rfl rfl rfl rfl) ?_
 refine L.el 0 rfl (aY f).2 ?_
 rintro _
 refine Lc 0 0 ?_
 refine Z0 ?_
 cases n
 exact Eo1 () [] []
theorem m4 {s_:aB} {n_:Int} {r:aB} (H:fP s_ n_=some r):CT G 242 [.pointer (some ⟨N0,0,none⟩),.int .i64 n_] [Ch.box N0 224 (bY s_ N1),Ch.box N1 296 [.int .i64 s_.g.w,.slice A0 s_.g.l.length C0],Ch.arr aD 232 A0 C0 s_.g.l] [] (λ_:Unit=> .tuple #[]) (λh=>[Ch.box N0 224 (bY r N1),Ch.box N1 296 [.int .i64 r.g.w,.slice A0 r.g.l.length C0],Ch.arr aD 232 A0 C0 r.g.l]) (λh=>[]):=by
 delta fP at H
 refine Cf Go.Proofs.Tryz.func242 λK=> ?_
 refine Z1 ?_
 have ⟨r1,h2,H3⟩:=bnd H
 refine Lk [0,0,0] [] (lE h2) λ⟨⟩=> ?_
 refine Y3 ?_
 have ⟨e9,e,f⟩:=bnd H3
 refine Tj0 [(27,.bool e9)] [0,1,6,7] [] [0,1,2] ?_ ?_
 ·refine Td [] [0,0,0] mo ?_
  refine Dq 0 ?_
  refine Dq 1 ?_
  refine Dq 2 ?_
  refine Dq 3 ?_
  refine Db 4 0 ?_
  refine Dq 5 ?_
  refine Dq 6 ?_
  refine Dq 7 ?_
  refine Db 8 0 ?_
  refine Dq 9 ?_
  refine Dq 10 ?_
  refine D.cs 24 e rfl (λhc a=> ?_) (λhc a=> ?_)
  ·refine Dq 11 ?_
   refine Dq 12 ?_
   refine Dq 13 ?_
   refine Dn ?_
   cases a
   exact Eg0 [0,0,0] 0
  refine Ds 11 ?_
  refine Ds 12 ?_
  refine Dq 13 ?_
  refine Dn ?_
  cases a
  exact Eg0 [0,0,0] 0
 have ⟨i,j,k⟩:=bnd f
 refine Tj0 [(6,.int .i64 i)] [0,1,7] [] [0,1,2] ?_ ?_
 ·refine Tb j (λb=> ?_) λb=> ?_
  ·refine Z0 ?_
   cases b
   exact Eg0 [0,0,0] 0
  refine Z0 ?_
  cases b
  exact Eg0 [0,0,0] 0
 refine Y2 ?_
 have ⟨m,n,o⟩:=bnd k
 refine Tj0 [(45,.bool m)] [0,1,6,7] [] [0,1,2] ?_ ?_
 ·refine Td [] [0,0,0] mo ?_
  refine Dq 0 ?_
  refine Dq 1 ?_
  refine Dq 2 ?_
  refine Dq 3 ?_
  refine Db 4 0 ?_
  refine Dq 5 ?_
  refine Dq 6 ?_
  refine Dq 7 ?_
  refine Db 8 0 ?_
  refine Dq 9 ?_
  refine Dq 10 ?_
  refine D.cs 42 n rfl (λhc c=> ?_) (λhc c=> ?_)
  ·refine Dq 11 ?_
   refine Dq 12 ?_
   refine Dq 13 ?_
   refine Dn ?_
   cases c
   exact Eg0 [0,0,0] 0
  refine Ds 11 ?_
  refine Ds 12 ?_
  refine Dq 13 ?_
  refine Dn ?_
  cases c
  exact Eg0 [0,0,0] 0
 have ⟨p,q,s⟩:=bnd o
 refine Tj0 [(7,.int .i64 p)] [0,1,6] [] [0,1,2] ?_ ?_
 ·refine Tb q (λd=> ?_) λd=> ?_
  ·refine Z0 ?_
   cases d
   exact Eg0 [0,0,0] 0
  refine Z0 ?_
  cases d
  exact Eg0 [0,0,0] 0
 refine Td [16] [0,0,0] mo ?_
 refine Dq 0 ?_
 refine Dq 1 ?_
 refine Dq 2 ?_
 refine Dq 3 ?_
 refine Dq 4 ?_
 refine Db 5 0 ?_
 refine Dq 6 ?_
 refine Dq 7 ?_
 refine Dq 8 ?_
 refine Dq 9 ?_
 refine Db 10 0 ?_
 refine Dq 11 ?_
 refine Dq 12 ?_
 refine Dq 13 ?_
 refine Dq 14 ?_
 have ⟨y,t,u⟩:=bnd s
 refine Dk [] [] (k6 t) λ⟨⟩=> ?_
 have ⟨z,v,x⟩:=bnd u
 refine Dkl [0,0,0] [] (cE v) λ⟨⟩=> ?_
 refine Dn ?_
 refine E.off ?_
 cases x
 exact Eo () [0,0,0] [] .nil
theorem qI {r_:aG} {from_:Int} {to:Int} {aO:Int} {r:aG} (H:jF r_ from_ to aO=some r):CT G 293 [.agg #[.slice A0 r_.cells.length C0,.bool r_.wrapped],.int .i64 from_,.int .i64 to,.int .i64 aO] [] [Im.sl aT A0 C0 r_.cells] (λh:(Option Addr×Nat)=> .agg #[.slice h.1 r.cells.length h.2,.bool r.wrapped]) (λh=>[]) (λh=>[Im.sl aT h.1 h.2 r.cells]):=by
 delta jF at H
 refine Cf Go.Proofs.Tryz.func293 λK=> ?_
 refine Z1 ?_
 refine Lx λg1=> ?_
 refine Ll λg2=> ?_
 refine Z1 ?_
 have ⟨r3,h4,H5⟩:=bnd H
 refine Lk [] [0] (jH h4) λ⟨a6,c7⟩=> ?_
 refine Z2 ?_
 have ⟨r9,f,g⟩:=bnd H5
 refine Lk [] [] (oF f) λ⟨⟩=> ?_
 refine Z0 ?_
 have ⟨b,i,j⟩:=bnd g
 refine Tj0 [(9,.slice a6 b.length c7)] [8] [Ch.arr aT 235 a6 c7 b] [1,2] ?_ ?_
 ·refine Yl0 ?_
  refine Tq (η:=Unit) (λa h=>[(9,.slice a6 a.2.length c7),(10,.int .i64 a.1)]) [2,3,8] (λa h=>[Ch.arr aT 235 a6 c7 a.2]) [1,2] (λ_ _=>[]) () [0,0,0] [] i ?_
  rintro k_ a ⟨⟩ w k l m
  refine Z2 ?_
  have ⟨x,n,o⟩:=bnd k
  refine Lk [] [] (oF n) λ⟨⟩=> ?_
  refine Z0 ?_
  refine Tb o (λc=> ?_) λc=> ?_
  ·refine Z1 ?_
   refine Zl ?_
   have ⟨e,p,q⟩:=bnd c
   refine Lk [] [] (nJ p) λ⟨⟩=> ?_
   have ⟨y,d,s⟩:=bnd q
   refine L.lN 0 rfl (cQ d) λz t=> ?_
   subst t
   refine Ly (Yl.ia d rfl rfl rfl rfl rfl rfl) ?_
   refine La [0] [] (Ac.se 0 e (aY d).2 rfl rfl rfl rfl rfl rfl (λ_=>⟨(),rfl,[],rfl⟩)) λ_=> ?_
   refine L.sl 9 (k':=(a.2.set a.1.toNat e).length) (List.length_set ..) rfl ?_
   refine Z0 ?_
   cases s
   exact Eg (_,()) (l _ rfl) [0,0,0] [] 0
  refine Z0 ?_
  cases c
  have hb:=m _ rfl
  subst b
  exact Eg0 [0,0,0] 0
 refine Z1 ?_
 have ⟨A,u,v⟩:=bnd j
 refine Lk [0] [] (lD u) λ⟨⟩=> ?_
 refine Lt 0 ?_
 refine Z0 ?_
 cases v
 exact Eo (a6,c7) [] [0] (.cell 0 rfl rfl rfl .nil)
theorem jB {s_:aB} {y:Int} {from_:Int} {to:Int} {r:aB} (H:eH s_ y from_ to=some r):CT G 289 [.pointer (some ⟨N0,0,none⟩),.int .i64 y,.int .i64 from_,.int .i64 to] [Ch.box N0 224 (bY s_ N1),Ch.box N1 296 [.int .i64 s_.g.w,.slice A0 s_.g.l.length C0],Ch.arr aD 232 A0 C0 s_.g.l] [] (λ_:Unit=> .tuple #[]) (λh=>[Ch.box N0 224 (bY r N1),Ch.box N1 296 [.int .i64 r.g.w,.slice A0 r.g.l.length C0],Ch.arr aD 232 A0 C0 r.g.l]) (λh=>[]):=by
 delta eH at H
 refine Cf Go.Proofs.Tryz.func289 λK=> ?_
 refine Td [16] [0,0,0] mo ?_
 refine Dq 0 ?_
 refine Dq 1 ?_
 refine Dq 2 ?_
 refine Db 3 0 ?_
 refine Dq 4 ?_
 refine Dq 5 ?_
 refine Dq 6 ?_
 refine Dq 7 ?_
 refine Db 8 0 ?_
 refine Dq 9 ?_
 refine Dq 11 ?_
 refine Dq 12 ?_
 refine Dq 13 ?_
 have ⟨k,a,b⟩:=bnd H
 refine D.one rfl rfl rfl (Dp.ab [1,1] [] [2,0,0] (Ac.call (kY a) rfl rfl rfl rfl) rfl rfl rfl rfl rfl rfl (λ_=>rfl) ?_)
 rintro ⟨m,n⟩
 have ⟨o,c,d⟩:=bnd b
 refine D.one rfl rfl rfl (Dp.br (Ac.call (dG c) rfl rfl rfl rfl) (Bw.bx 0 rfl (Bw.bx 1 rfl (Bw.ch 2 rfl (Bw.nil)))) rfl rfl rfl rfl ?_)
 intro _
 have ⟨p,e,f⟩:=bnd d
 refine Dk [] [0] (qI e) λ⟨q,s⟩=> ?_
 have ⟨t,i,j⟩:=bnd f
 refine Dkl [1,1] [0] (jI i) λ⟨⟩=> ?_
 refine Dn ?_
 refine E.off ?_
 cases j
 exact Eo () [2,0,0] [] .nil
theorem nM {s_:aB} {n_:Int} {r:aB} (H:gj s_ n_=some r):CT G 244 [.pointer (some ⟨N0,0,none⟩),.int .i64 n_] [Ch.box N0 224 (bY s_ N1),Ch.box N1 296 [.int .i64 s_.g.w,.slice A0 s_.g.l.length C0],Ch.arr aD 232 A0 C0 s_.g.l] [] (λ_:Unit=> .tuple #[]) (λh=>[Ch.box N0 224 (bY r N1),Ch.box N1 296 [.int .i64 r.g.w,.slice A0 r.g.l.length C0],Ch.arr aD 232 A0 C0 r.g.l]) (λh=>[]):=by
 delta gj at H
 refine Cf Go.Proofs.Tryz.func244 λK=> ?_
 refine Z1 ?_
 have ⟨r1,h2,H3⟩:=bnd H
 refine Lk [1,1] [] (gx h2) λ⟨⟩=> ?_
 refine Z2 ?_
 have ⟨a,f,i⟩:=bnd H3
 refine Tj0 [] [0,1] [Ch.arr aD 232 A0 C0 a.1.l,Ch.box N1 296 [.int .i64 a.1.w,.slice A0 a.1.l.length C0],Ch.box N0 224 (bY a.2 N1)] [] ?_ ?_
 ·refine Zl ?_
  refine Z1 ?_
  refine Tb f (λb=> ?_) λb=> ?_
  ·refine Td [12] [0,0,0] mo ?_
   refine Dq 0 ?_
   refine Dq 1 ?_
   refine Dq 2 ?_
   refine Dq 3 ?_
   refine Dq 4 ?_
   refine Db 5 2 ?_
   refine Dq 6 ?_
   refine Dq 7 ?_
   refine Dq 8 ?_
   refine Dq 9 ?_
   refine Db 10 2 ?_
   refine Dq 11 ?_
   have ⟨q,j,k⟩:=bnd b
   refine Dkl [2,0,0] [] (jB j) λ⟨⟩=> ?_
   refine Dn ?_
   refine Z0 ?_
   cases k
   exact Eg0 [2,1,0] 0
  refine Z1 ?_
  refine Tb b (λc=> ?_) λc=> ?_
  ·refine Td [12] [0,0,0] mo ?_
   refine Dq 0 ?_
   refine Dq 1 ?_
   refine Dq 2 ?_
   refine Dq 3 ?_
   refine Dq 4 ?_
   refine Db 5 2 ?_
   refine Dq 6 ?_
   refine Dq 7 ?_
   refine Dq 8 ?_
   refine Dq 9 ?_
   refine Db 10 2 ?_
   refine Dq 11 ?_
   have ⟨s,m,n⟩:=bnd c
   refine Dkl [2,0,0] [] (jB m) λ⟨⟩=> ?_
   refine Dn ?_
   refine Z0 ?_
   cases n
   exact Eg0 [2,1,0] 0
  refine Z1 ?_
  refine Tb c (λd=> ?_) λd=> ?_
  ·refine Z0 ?_
   have ⟨t,o,p⟩:=bnd d
   refine Lk [2,0,0] [] (jB o) λ⟨⟩=> ?_
   refine Z0 ?_
   cases p
   exact Eg0 [2,1,0] 0
  refine Z0 ?_
  cases d
  exact Eg0 [1,0,0] 0
 refine Z0 ?_
 refine Lw 60 i (λe=> ?_) λe=> ?_
 ·refine Z0 ?_
  refine Lt 2 ?_
  refine Ln (E.off ?_)
  cases e
  exact Eo () [0,1,0] [] .nil
 refine Z0 ?_
 refine Lt 2 ?_
 refine Ln (E.off ?_)
 cases e
 exact Eo () [0,1,0] [] .nil
theorem rQ {s_:aB} {n_:Int} {r:aB} (H:iB s_ n_=some r):CT G 243 [.pointer (some ⟨N0,0,none⟩),.int .i64 n_] [Ch.box N0 224 (bY s_ N1),Ch.box N1 296 [.int .i64 s_.g.w,.slice A0 s_.g.l.length C0],Ch.arr aD 232 A0 C0 s_.g.l] [] (λ_:Unit=> .tuple #[]) (λh=>[Ch.box N0 224 (bY r N1),Ch.box N1 296 [.int .i64 r.g.w,.slice A0 r.g.l.length C0],Ch.arr aD 232 A0 C0 r.g.l]) (λh=>[]):=by
 delta iB at H
 refine Cf Go.Proofs.Tryz.func243 λK=> ?_
 refine Z1 ?_
 have ⟨r1,h2,H3⟩:=bnd H
 refine Lk [1,1] [] (gx h2) λ⟨⟩=> ?_
 refine Z2 ?_
 have ⟨b,t,u⟩:=bnd H3
 refine Tj0 [] [0,1] [Ch.arr aD 232 A0 C0 b.1.l,Ch.box N1 296 [.int .i64 b.1.w,.slice A0 b.1.l.length C0],Ch.box N0 224 (bY b.2 N1)] [] ?_ ?_
 ·refine Yl0 ?_
  refine Tq (η:=Unit) (λa h=>[(16,.int .i64 a.2.2)]) [0,1,4,15] (λa h=>[Ch.arr aD 232 A0 C0 a.2.1.l,Ch.box N1 296 [.int .i64 a.2.1.w,.slice A0 a.2.1.l.length C0],Ch.box N0 224 (bY a.1 N1)]) [] (λ_ _=>[]) () [1,0,0] [] t ?_
  rintro k_ a ⟨⟩ O v x y
  refine Y2 ?_
  refine Tb v (λd=> ?_) λd=> ?_
  ·refine Y1 ?_
   have ⟨c,z,A⟩:=bnd d
   refine Tj0 [] [0,1,4,15,16] [Ch.arr aD 232 A0 C0 c.1.l,Ch.box N1 296 [.int .i64 c.1.w,.slice A0 c.1.l.length C0],Ch.box N0 224 (bY c.2 N1)] [] ?_ ?_
   ·refine Zl ?_
    refine Y2 ?_
    have ⟨B,C,F⟩:=bnd z
    refine Tj0 [(55,.bool B)] [0,1,4,6,15,16] [] [1,2,0] ?_ ?_
    ·refine Z0 ?_
     refine Lw 26 C (λe=> ?_) λe=> ?_
     ·refine Z0 ?_
      refine Lw 30 e (λf=> ?_) λf=> ?_
      ·refine Z0 ?_
       cases f
       exact Eg0 [1,1,0] 0
      refine Z0 ?_
      refine Lw 38 f (λi=> ?_) λi=> ?_
      ·refine Z0 ?_
       refine Lw 43 i (λj=> ?_) λj=> ?_
       ·refine Z0 ?_
        cases j
        exact Eg0 [1,1,0] 0
       refine Z0 ?_
       refine Lw 51 j (λk=> ?_) λk=> ?_
       ·refine Z0 ?_
        cases k
        exact Eg0 [1,1,0] 0
       refine Z0 ?_
       cases k
       exact Eg0 [1,1,0] 0
      refine Z0 ?_
      refine Lw 51 i (λm=> ?_) λm=> ?_
      ·refine Z0 ?_
       cases m
       exact Eg0 [1,1,0] 0
      refine Z0 ?_
      cases m
      exact Eg0 [1,1,0] 0
     refine Z0 ?_
     refine Lw 38 e (λn=> ?_) λn=> ?_
     ·refine Z0 ?_
      refine Lw 43 n (λo=> ?_) λo=> ?_
      ·refine Z0 ?_
       cases o
       exact Eg0 [1,1,0] 0
      refine Z0 ?_
      refine Lw 51 o (λp=> ?_) λp=> ?_
      ·refine Z0 ?_
       cases p
       exact Eg0 [1,1,0] 0
      refine Z0 ?_
      cases p
      exact Eg0 [1,1,0] 0
     refine Z0 ?_
     refine Lw 51 n (λq=> ?_) λq=> ?_
     ·refine Z0 ?_
      cases q
      exact Eg0 [1,1,0] 0
     refine Z0 ?_
     cases q
     exact Eg0 [1,1,0] 0
    refine Tb F (λs=> ?_) λs=> ?_
    ·refine Z0 ?_
     have ⟨P,I,J⟩:=bnd s
     refine Lk [1,0,0] [] (jB I) λ⟨⟩=> ?_
     refine Z0 ?_
     cases J
     exact Eg0 [2,1,0] 0
    refine Z0 ?_
    cases s
    exact Eg0 [2,0,0] 0
   refine Z0 ?_
   cases A
   exact Eg (_,()) (x _ rfl) [0,0,0] [] 0
  refine Z0 ?_
  cases d
  have hb:=y _ rfl
  subst b
  exact Eg0 [0,0,0] 0
 refine Z0 ?_
 have ⟨Q,M,N⟩:=bnd u
 refine Lk [2,1,0] [] (nM M) λ⟨⟩=> ?_
 refine Ln (E.off ?_)
 cases N
 exact Eo () [0,0,0] [] .nil
theorem p6 {r_:aG} {at_:Int} {n_:Int} {r:Int} (H:ji r_ at_ n_=some r):CT G 311 [.agg #[.slice A0 r_.cells.length C0,.bool r_.wrapped],.int .i64 at_,.int .i64 n_] [] [Im.sl aT A0 C0 r_.cells] (λ_:Unit=> .int .i64 r) (λh=>[]) (λh=>[]):=by
 delta ji at H
 refine Cf Go.Proofs.Tryz.func311 λK=> ?_
 refine Z1 ?_
 refine Lx λg1=> ?_
 refine Y2 ?_
 have ⟨e5,H6,H7⟩:=bnd H
 refine Tj0 [(15,.bool e5)] [1,2,3] [] [0] ?_ ?_
 ·refine Z0 ?_
  refine Lw 9 H6 (λH8=> ?_) λH8=> ?_
  ·refine Z0 ?_
   cases H8
   exact Eg0 [0] 0
  refine Z0 ?_
  cases H8
  exact Eg0 [0] 0
 refine Tb H7 (λa=> ?_) λa=> ?_
 ·refine Z1 ?_
  cases a
  exact Eo1 () [] []
 refine Z1 ?_
 have ⟨d,b,c⟩:=bnd a
 refine Lk [] [] (oF b) λ⟨⟩=> ?_
 refine Z0 ?_
 cases c
 exact Eo1 () [] []
theorem qy {n_:Int} {r:(List aH)} (H:gH n_=some r):CT G 317 [.slice none 0 0,.int .i64 n_] [] [] (λh:(Option Addr×Nat)=> .slice h.1 r.length h.2) (λh=>[Ch.arr aT 235 h.1 h.2 r]) (λh=>[]):=by
 delta gH at H
 refine Cf Go.Proofs.Tryz.func317 λK=> ?_
 refine Z3 ?_
 refine Tb H (λH2=> ?_) λH2=> ?_
 ·cases H2
 refine Z3 ?_
 have ⟨d,e,g⟩:=bnd H2
 refine Tjh (η:=(Option Addr×Nat)) (λh=>(λa b=>[(0,.slice a d.length b)]) h.1 h.2) [] (λh=>(λa b=>[Ch.arr aT 235 a b d]) h.1 h.2) [] (λ_=>[]) ?_ ?_
 ·refine Tb e (λc=> ?_) λc=> ?_
  ·refine Z0 ?_
   refine Ly (Yl.Oa rfl rfl rfl rfl rfl rfl rfl) ?_
   refine Z0 ?_
   have ⟨_,i,j⟩:=bnd c
   refine La [] [] (Ac.gz (ty:=aT) (aH.mk 0 0 0) () i (λ_ _ f hf=>by cases hf) rfl rfl rfl rfl rfl rfl rfl rfl rfl rfl) ?_
   rintro ⟨k,l⟩
   refine Z0 ?_
   have ⟨_,m,n⟩:=bnd j
   refine La [0] [] (Ac.rso m rfl rfl rfl rfl rfl rfl rfl) λ_=> ?_
   refine Z0 ?_
   cases n
   exact Eg (k,l) trivial [0] [] 0
  refine Z0 ?_
  refine E.gA aT 235 ?_
  cases c
  exact Eg (none,0) trivial [0] [] 0
 rintro ⟨a,b⟩
 refine Z1 ?_
 cases g
 exact Eo1 (a,b) [0] []
theorem mc {slices:List (List aH)} {r:(List aH)} (H:eT slices=some r):CT G 312 [.slice A0 slices.length C0] [] [Im.sl (Ty.slice aT) A0 C0 slices] (λh:(Option Addr×Nat)=> .slice h.1 r.length h.2) (λh=>[Ch.arr aT 235 h.1 h.2 r]) (λh=>[]):=by
 delta eT at H
 refine Cf Go.Proofs.Tryz.func312 λK=> ?_
 refine Z3 ?_
 refine Z1 ?_
 have ⟨n,o,p⟩:=bnd H
 refine Tj0 [(3,.int .i64 n)] [0] [] [] ?_ ?_
 ·refine Yl0 ?_
  refine Tq (η:=Unit) (λf h=>[(3,.int .i64 f.2),(11,.int .i64 f.1)]) [0,9,10] (λ_ _=>[]) [] (λ_ _=>[]) () [] [] o ?_
  rintro k_ f ⟨⟩ R q s t
  refine Y2 ?_
  refine Tb q (λg=> ?_) λg=> ?_
  ·refine Z1 ?_
   refine Zl ?_
   refine Z1 ?_
   have ⟨S,i,u⟩:=bnd g
   refine L.addr 0 rfl (cQ i) λU V v=> ?_
   subst v
   refine Ly (Yl.ia i rfl rfl rfl rfl rfl rfl) ?_
   refine L.el 0 rfl (aY i).2 ?_
   rintro ⟨W,X⟩
   refine Lc 0 0 ?_
   refine Z2 ?_
   refine Tb u (λj=> ?_) λj=> ?_
   ·cases j
   refine Z0 ?_
   cases j
   exact Eg (_,()) (s _ rfl) [] [] 2
  refine Z0 ?_
  cases g
  have hb:=t _ rfl
  subst n
  exact Eg0 [] 0
 refine Z1 ?_
 have ⟨Y,w,x⟩:=bnd p
 refine Lk [] [] (qy w) λ⟨y,z⟩=> ?_
 refine Z2 ?_
 have ⟨k,A,B⟩:=bnd x
 refine Tjh (η:=(Option Addr×Nat)) (λh=>(λa b=>[(6,.slice a k.length b)]) h.1 h.2) [] (λh=>(λa b=>[Ch.arr aT 235 a b k]) h.1 h.2) [] (λ_=>[]) ?_ ?_
 ·refine Yl0 ?_
  refine Tq (η:=(Option Addr×Nat)) (λc h=>(λd e=>[(6,.slice d c.2.length e),(27,.int .i64 c.1)]) h.1 h.2) [25,26] (λc h=>(λd e=>[Ch.arr aT 235 d e c.2]) h.1 h.2) [] (λ_ _=>[]) (y,z) [0] [] A ?_
  rintro k_ c ⟨d,e⟩ Z C F I
  refine Y2 ?_
  refine Tb C (λl=> ?_) λl=> ?_
  ·refine Z1 ?_
   refine Zl ?_
   refine Z1 ?_
   have ⟨aa,m,J⟩:=bnd l
   refine L.addr 0 rfl (cQ m) λab ac M=> ?_
   subst M
   refine Ly (Yl.ia m rfl rfl rfl rfl rfl rfl) ?_
   refine L.el 0 rfl (aY m).2 ?_
   rintro ⟨ad,ae⟩
   refine Lc 0 0 ?_
   refine Z0 ?_
   have ⟨_,N,O⟩:=bnd J
   refine La [0] [1] (Ac.ap (ty:=aT) N rfl rfl rfl rfl rfl rfl rfl) ?_
   rintro ⟨P,Q⟩
   refine Z0 ?_
   cases O
   exact Eg (_,(P,Q)) (F _ rfl) [0] [] 2
  refine Z0 ?_
  cases l
  have hb:=I _ rfl
  subst k
  exact Eg (d,e) trivial [0] [] 0
 rintro ⟨a,b⟩
 refine Z1 ?_
 cases B
 exact Eo1 (a,b) [0] []
theorem vz {r_:aG} {at_:Int} {n_:Int} {aO:Int} {r:aG} (H:kq r_ at_ n_ aO=some r):CT G 291 [.agg #[.slice A0 r_.cells.length C0,.bool r_.wrapped],.int .i64 at_,.int .i64 n_,.int .i64 aO] [] [Im.sl aT A0 C0 r_.cells] (λh:(Option Addr×Nat)=> .agg #[.slice h.1 r.cells.length h.2,.bool r.wrapped]) (λh=>[]) (λh=>[Im.sl aT h.1 h.2 r.cells]):=by
 delta kq at H
 refine Cf Go.Proofs.Tryz.func291 λK=> ?_
 refine Z1 ?_
 refine Lx λg1=> ?_
 refine Ll λg2=> ?_
 refine Z1 ?_
 have ⟨r3,h4,H5⟩:=bnd H
 refine Lk [] [0] (p6 h4) λ⟨⟩=> ?_
 refine Z2 ?_
 refine Tb H5 (λa=> ?_) λa=> ?_
 ·refine Z1 ?_
  have ⟨I,b,c⟩:=bnd a
  refine Lk [] [0] (jH b) λ⟨d,e⟩=> ?_
  have ⟨J,f,g⟩:=bnd c
  refine Lk [0] [] (lD f) λ⟨⟩=> ?_
  refine Lt 0 ?_
  refine Z0 ?_
  cases g
  exact Eo (d,e) [] [0] (.cell 0 rfl rfl rfl .nil)
 refine Y1 ?_
 refine Td [] [0,0] mo ?_
 refine Dq 0 ?_
 refine Db 1 1 ?_
 refine Dq 2 ?_
 have ⟨_,i,j⟩:=bnd a
 refine D.rsl 0 3 i rfl rfl rfl rfl rfl rfl rfl rfl rfl rfl rfl rfl rfl rfl ?_
 intro k l
 refine Dq 4 ?_
 refine Dq 5 ?_
 refine Dq 7 ?_
 refine Db 8 1 ?_
 refine Dq 9 ?_
 have ⟨_,m,n⟩:=bnd j
 refine D.rsl 1 10 m rfl rfl rfl rfl rfl rfl rfl rfl rfl rfl rfl rfl rfl rfl ?_
 intro o p
 have ⟨q,s,t⟩:=bnd n
 refine Dk [] [] (od s) λ⟨u,v⟩=> ?_
 refine D.frz 0 rfl ?_
 refine Da [] [2,0,1] rfl rfl (Ac.bs (ty:=(Ty.slice aT)) (xs:=[(cut r_.cells 0 at_),q,(cut r_.cells at_ (r_.cells.length:Int))]) (.cons (k,l) [0] rfl (.cons (u,v) [1] rfl (.cons (o,p) [2] rfl .nil))) rfl rfl rfl rfl rfl rfl rfl) λM=> ?_
 refine D.frz 0 rfl ?_
 have ⟨N,w,x⟩:=bnd t
 refine Dk [] [0] (mc w) λ⟨y,z⟩=> ?_
 refine Dq 13 ?_
 refine Dn ?_
 refine Z1 ?_
 have ⟨_,A,B⟩:=bnd x
 refine La [2] [] (Ac.rso A rfl rfl rfl rfl rfl rfl rfl) λ_=> ?_
 have ⟨O,C,F⟩:=bnd B
 refine Lk [0] [] (lD C) λ⟨⟩=> ?_
 refine Lt 0 ?_
 refine Z0 ?_
 cases F
 exact Eo (y,z) [] [0] (.cell 0 rfl rfl rfl .nil)
theorem vA {r_:aG} {at_:Int} {n_:Int} {aO:Int} {r:aG} (H:kr r_ at_ n_ aO=some r):CT G 292 [.agg #[.slice A0 r_.cells.length C0,.bool r_.wrapped],.int .i64 at_,.int .i64 n_,.int .i64 aO] [] [Im.sl aT A0 C0 r_.cells] (λh:(Option Addr×Nat)=> .agg #[.slice h.1 r.cells.length h.2,.bool r.wrapped]) (λh=>[]) (λh=>[Im.sl aT h.1 h.2 r.cells]):=by
 delta kr at H
 refine Cf Go.Proofs.Tryz.func292 λK=> ?_
 refine Z1 ?_
 refine Lx λg1=> ?_
 refine Ll λg2=> ?_
 refine Z1 ?_
 have ⟨r3,h4,H5⟩:=bnd H
 refine Lk [] [0] (p6 h4) λ⟨⟩=> ?_
 refine Z2 ?_
 refine Tb H5 (λa=> ?_) λa=> ?_
 ·refine Z1 ?_
  have ⟨C,b,c⟩:=bnd a
  refine Lk [] [0] (jH b) λ⟨d,e⟩=> ?_
  have ⟨F,f,g⟩:=bnd c
  refine Lk [0] [] (lD f) λ⟨⟩=> ?_
  refine Lt 0 ?_
  refine Z0 ?_
  cases g
  exact Eo (d,e) [] [0] (.cell 0 rfl rfl rfl .nil)
 refine Y1 ?_
 refine Td [16] [0,0] mo ?_
 refine Dq 0 ?_
 refine Db 1 1 ?_
 refine Dq 2 ?_
 have ⟨_,i,j⟩:=bnd a
 refine D.rsl 0 3 i rfl rfl rfl rfl rfl rfl rfl rfl rfl rfl rfl rfl rfl rfl ?_
 intro k l
 refine Dq 4 ?_
 refine Db 5 1 ?_
 refine Dq 6 ?_
 refine Dq 7 ?_
 refine Dq 8 ?_
 have ⟨_,m,n⟩:=bnd j
 refine D.rsl 1 9 m rfl rfl rfl rfl rfl rfl rfl rfl rfl rfl rfl rfl rfl rfl ?_
 intro o p
 refine Dq 10 ?_
 refine Dq 11 ?_
 have ⟨q,s,t⟩:=bnd n
 refine Dk [] [] (od s) λ⟨u,v⟩=> ?_
 refine D.frz 0 rfl ?_
 refine Da [] [2,1,0] rfl rfl (Ac.bs (ty:=(Ty.slice aT)) (xs:=[(cut r_.cells 0 at_),(cut r_.cells (IntKind.i64.wrap (at_+r3)) (r_.cells.length:Int)),q]) (.cons (k,l) [0] rfl (.cons (o,p) [1] rfl (.cons (u,v) [2] rfl .nil))) rfl rfl rfl rfl rfl rfl rfl) λI=> ?_
 refine D.frz 0 rfl ?_
 have ⟨J,w,x⟩:=bnd t
 refine Dk [] [0] (mc w) λ⟨y,z⟩=> ?_
 have ⟨M,A,B⟩:=bnd x
 refine Dk [0] [] (lD A) λ⟨⟩=> ?_
 refine Dt 0 ?_
 refine Dn ?_
 refine Z0 ?_
 cases B
 exact Eo (y,z) [] [0] (.cell 0 rfl rfl rfl .nil)
theorem p7 {r_:aG} {x1:Int} {x2:aB} {x3:Int} {r:aG} (H:gk r_ x1 x2 x3=some r):CT G 290 [.agg #[.slice A0 r_.cells.length C0,.bool r_.wrapped],.pointer (some ⟨N0,0,none⟩),.pointer (some ⟨N1,0,none⟩),.pointer (some ⟨N4,0,none⟩)] [Ch.box N0 5 [.int .u8 x1],Ch.box N1 118 [.pointer (some ⟨N2,0,none⟩)],Ch.box N2 224 (bY x2 N3),Ch.box N3 296 [.int .i64 x2.g.w,.slice A1 x2.g.l.length C1],Ch.arr aD 232 A1 C1 x2.g.l,Ch.box N4 3 [.int .i64 x3]] [Im.sl aT A0 C0 r_.cells] (λh:(Option Addr×Nat)=> .agg #[.slice h.1 r.cells.length h.2,.bool r.wrapped]) (λh=>[Ch.box N0 5 [.int .u8 x1],Ch.box N1 118 [.pointer (some ⟨N2,0,none⟩)],Ch.box N2 224 (bY x2 N3),Ch.box N3 296 [.int .i64 x2.g.w,.slice A1 x2.g.l.length C1],Ch.arr aD 232 A1 C1 x2.g.l,Ch.box N4 3 [.int .i64 x3]]) (λh=>[Im.sl aT h.1 h.2 r.cells]):=by
 delta gk at H
 refine Cf Go.Proofs.Tryz.func290 λK=> ?_
 refine Z1 ?_
 refine Lx λg1=> ?_
 refine Ll λg2=> ?_
 refine Z2 ?_
 refine Zl ?_
 refine Z1 ?_
 refine Tb H (λa=> ?_) λa=> ?_
 ·refine Y1 ?_
  refine Td [9,10] [0,0,0,0,0,0,0,0] mo ?_
  refine Db 0 1 ?_
  refine Db 1 3 ?_
  refine Dq 2 ?_
  refine Dq 3 ?_
  refine Dq 4 ?_
  refine Db 5 4 ?_
  refine Db 6 7 ?_
  refine Db 7 3 ?_
  have ⟨z,c,d⟩:=bnd a
  refine D.one rfl rfl rfl (Dp.br (Ac.call (dG c) rfl rfl rfl rfl) (Bw.bx 4 rfl (Bw.bx 5 rfl (Bw.ch 6 rfl (Bw.nil)))) rfl rfl rfl rfl ?_)
  intro _
  have ⟨A,e,f⟩:=bnd d
  refine Dkl [] [0] (vz e) λ⟨i,j⟩=> ?_
  refine Dt 0 ?_
  refine Dn ?_
  refine Z0 ?_
  cases f
  exact Eo (i,j) [2,2,2,2,2,2] [0] (.cell 0 rfl rfl rfl .nil)
 refine Z1 ?_
 refine Tb a (λb=> ?_) λb=> ?_
 ·refine Y1 ?_
  refine Td [9,10] [0,0,0,0,0,0,0,0] mo ?_
  refine Db 0 1 ?_
  refine Db 1 3 ?_
  refine Dq 2 ?_
  refine Dq 3 ?_
  refine Dq 4 ?_
  refine Db 5 4 ?_
  refine Db 6 7 ?_
  refine Db 7 3 ?_
  have ⟨B,k,m⟩:=bnd b
  refine D.one rfl rfl rfl (Dp.br (Ac.call (dG k) rfl rfl rfl rfl) (Bw.bx 4 rfl (Bw.bx 5 rfl (Bw.ch 6 rfl (Bw.nil)))) rfl rfl rfl rfl ?_)
  intro _
  have ⟨C,n,o⟩:=bnd m
  refine Dkl [] [0] (vA n) λ⟨p,q⟩=> ?_
  refine Dt 0 ?_
  refine Dn ?_
  refine Z0 ?_
  cases o
  exact Eo (p,q) [2,2,2,2,2,2] [0] (.cell 0 rfl rfl rfl .nil)
 refine Y1 ?_
 refine Td [16] [0,0,0,0,0,0,0,0] mo ?_
 refine Db 0 1 ?_
 refine Db 1 3 ?_
 refine Dq 2 ?_
 refine Dq 3 ?_
 refine Dq 4 ?_
 refine Db 5 4 ?_
 refine Db 6 3 ?_
 refine Dq 7 ?_
 refine Dq 8 ?_
 refine Dq 9 ?_
 refine Db 10 4 ?_
 refine Db 11 7 ?_
 refine Dq 12 ?_
 refine Db 13 3 ?_
 have ⟨F,s,t⟩:=bnd b
 refine D.one rfl rfl rfl (Dp.br (Ac.call (dG s) rfl rfl rfl rfl) (Bw.bx 4 rfl (Bw.bx 5 rfl (Bw.ch 6 rfl (Bw.nil)))) rfl rfl rfl rfl ?_)
 intro _
 have ⟨I,u,v⟩:=bnd t
 refine Dk [] [0] (qI u) λ⟨x,y⟩=> ?_
 refine Dt 0 ?_
 refine Dn ?_
 refine Z0 ?_
 cases v
 exact Eo (x,y) [2,2,2,2,2,2] [0] (.cell 0 rfl rfl rfl .nil)
theorem me {s_:aB} {f_0:Int} {f_2:Int} {r:aB} (H:eL s_ f_0 f_2=some r):CT G 233 [.pointer (some ⟨N0,0,none⟩),.func (.func 290) #[] #[.pointer (some ⟨N2,0,none⟩),.pointer (some ⟨N3,0,none⟩),.pointer (some ⟨N4,0,none⟩)]] [Ch.box N0 224 (bY s_ N1),Ch.box N1 296 [.int .i64 s_.g.w,.slice A0 s_.g.l.length C0],Ch.arr aD 232 A0 C0 s_.g.l,Ch.box N2 5 [.int .u8 f_0],Ch.box N3 118 [.pointer (some ⟨N0,0,none⟩)],Ch.box N4 3 [.int .i64 f_2]] [] (λ_:Unit=> .tuple #[]) (λh=>[Ch.box N0 224 (bY r N1),Ch.box N1 296 [.int .i64 r.g.w,.slice A0 r.g.l.length C0],Ch.arr aD 232 A0 C0 r.g.l,Ch.box N2 5 [.int .u8 f_0],Ch.box N3 118 [.pointer (some ⟨N0,0,none⟩)],Ch.box N4 3 [.int .i64 f_2]]) (λh=>[]):=by
 delta eL at H
 refine Cf Go.Proofs.Tryz.func233 λK=> ?_
 refine Td [21] [0,0,0,0,0,0] mo ?_
 refine Dq 0 ?_
 refine Dq 1 ?_
 refine Dq 2 ?_
 refine Db 3 0 ?_
 refine Dq 4 ?_
 refine Dq 5 ?_
 refine Dq 6 ?_
 refine Dq 7 ?_
 refine Db 8 0 ?_
 refine Dq 9 ?_
 refine Dq 10 ?_
 refine Dq 11 ?_
 refine Dq 12 ?_
 refine Db 13 0 ?_
 refine Dq 14 ?_
 refine Dq 15 ?_
 refine Dq 16 ?_
 refine Dq 17 ?_
 refine Db 18 0 ?_
 have ⟨i,a,b⟩:=bnd H
 refine D.one rfl rfl rfl (Dp.ab [1,1] [] [2,0,0,0,0,0] (Ac.call (kY a) rfl rfl rfl rfl) rfl rfl rfl rfl rfl rfl (λ_=>rfl) ?_)
 rintro ⟨j,k⟩
 have ⟨m,c,d⟩:=bnd b
 refine D.one rfl rfl rfl (Dp.ab [3,3,0,0,0,0] [0] [2,2,2,0,0,0] (Ac.call (p7 c) rfl rfl rfl rfl) rfl rfl rfl rfl rfl rfl (λ_=>rfl) ?_)
 rintro ⟨n,o⟩
 have ⟨p,e,f⟩:=bnd d
 refine Dkl [1,1] [0] (jI e) λ⟨⟩=> ?_
 refine Dn ?_
 refine E.off ?_
 cases f
 exact Eo () [2,0,0,0,0,0] [] .nil
theorem qS {s_:aB} {b:Int} {n_:Int} {r:aB} (H:gV s_ b n_=some r):CT G 245 [.pointer (some ⟨N0,0,none⟩),.int .u8 b,.int .i64 n_] [Ch.box N0 224 (bY s_ N1),Ch.box N1 296 [.int .i64 s_.g.w,.slice A0 s_.g.l.length C0],Ch.arr aD 232 A0 C0 s_.g.l] [] (λ_:Unit=> .tuple #[]) (λh=>[Ch.box N0 224 (bY r N1),Ch.box N1 296 [.int .i64 r.g.w,.slice A0 r.g.l.length C0],Ch.arr aD 232 A0 C0 r.g.l]) (λh=>[]):=by
 delta gV at H
 refine Cf Go.Proofs.Tryz.func245 λK=> ?_
 refine Z1 ?_
 refine Lx λg1=> ?_
 refine Lx λg2=> ?_
 refine Lx λg3=> ?_
 refine Z1 ?_
 have ⟨r4,h5,H6⟩:=bnd H
 refine Lk [3,3,3,1,1,0] [] (me h5) λ⟨⟩=> ?_
 refine Z0 ?_
 refine Lt 0 ?_
 refine Ln (E.off ?_)
 cases H6
 exact Eo () [0,0,0] [] .nil
theorem qT {s_:aB} {b:Int} {n_:Int} {r:aB} (H:gW s_ b n_=some r):CT G 246 [.pointer (some ⟨N0,0,none⟩),.int .u8 b,.int .i64 n_] [Ch.box N0 224 (bY s_ N1),Ch.box N1 296 [.int .i64 s_.g.w,.slice A0 s_.g.l.length C0],Ch.arr aD 232 A0 C0 s_.g.l] [] (λ_:Unit=> .tuple #[]) (λh=>[Ch.box N0 224 (bY r N1),Ch.box N1 296 [.int .i64 r.g.w,.slice A0 r.g.l.length C0],Ch.arr aD 232 A0 C0 r.g.l]) (λh=>[]):=by
 delta gW at H
 refine Cf Go.Proofs.Tryz.func246 λK=> ?_
 refine Y2 ?_
 have ⟨e6,H7,H8⟩:=bnd H
 refine Tj0 [(27,.bool e6)] [0,1,2] [] [0,1,2] ?_ ?_
 ·refine Td [] [0,0,0] mo ?_
  refine Dq 0 ?_
  refine Dq 1 ?_
  refine Dq 2 ?_
  refine Dq 3 ?_
  refine Db 4 0 ?_
  refine Dq 5 ?_
  refine Dq 6 ?_
  refine Dq 7 ?_
  refine Db 8 0 ?_
  refine Dq 9 ?_
  refine Dq 10 ?_
  refine D.cs 16 H7 rfl (λhc a=> ?_) (λhc a=> ?_)
  ·refine Ds 11 ?_
   refine Ds 12 ?_
   refine Ds 13 ?_
   refine Ds 14 ?_
   refine Ds 15 ?_
   refine Ds 16 ?_
   refine Ds 17 ?_
   refine Ds 18 ?_
   refine Ds 19 ?_
   refine Ds 20 ?_
   refine Dq 21 ?_
   refine Dn ?_
   cases a
   exact Eg0 [0,0,0] 0
  refine Dq 11 ?_
  refine Dq 12 ?_
  refine Dq 13 ?_
  refine Dq 14 ?_
  refine Db 15 0 ?_
  refine Dq 16 ?_
  refine Dq 17 ?_
  refine Dq 18 ?_
  refine Db 19 0 ?_
  refine Dq 20 ?_
  refine Dq 21 ?_
  refine Dn ?_
  cases a
  exact Eg0 [0,0,0] 0
 refine Tb H8 (λc=> ?_) λc=> ?_
 ·refine Z0 ?_
  cases c
  exact Eo () [0,0,0] [] .nil
 refine Z2 ?_
 have ⟨d,f,i⟩:=bnd c
 refine Tj0 [] [0] [Ch.arr aD 232 A0 C0 d.l,Ch.box N1 296 [.int .i64 d.w,.slice A0 d.l.length C0]] [0] ?_ ?_
 ·refine Tb f (λe=> ?_) λe=> ?_
  ·refine Td [16] [0,0,0] mo ?_
   refine Dq 0 ?_
   refine Dq 1 ?_
   refine Dq 2 ?_
   refine Db 3 0 ?_
   refine Dq 4 ?_
   refine Dq 5 ?_
   refine Dq 6 ?_
   refine Dq 7 ?_
   refine Db 8 0 ?_
   refine Dq 9 ?_
   refine Dq 10 ?_
   refine Dq 11 ?_
   refine Db 12 0 ?_
   refine Dq 13 ?_
   refine Dq 14 ?_
   have ⟨v,j,k⟩:=bnd e
   refine D.one rfl rfl rfl (Dp.br (Ac.call (dG j) rfl rfl rfl rfl) (Bw.bx 0 rfl (Bw.bx 1 rfl (Bw.ch 2 rfl (Bw.nil)))) rfl rfl rfl rfl ?_)
   intro _
   have ⟨x,m,n⟩:=bnd k
   refine Dkl [1,1] [] (nj m) λ⟨y,z⟩=> ?_
   refine Dn ?_
   cases n
   exact Eg0 [2,1,1] 0
  refine Td [16] [0,0,0] mo ?_
  refine Dq 0 ?_
  refine Dq 1 ?_
  refine Dq 2 ?_
  refine Db 3 0 ?_
  refine Dq 4 ?_
  refine Dq 5 ?_
  refine Dq 6 ?_
  refine Dq 7 ?_
  refine Db 8 0 ?_
  refine Dq 9 ?_
  refine Dq 10 ?_
  refine Dq 11 ?_
  refine Db 12 0 ?_
  refine Dq 13 ?_
  refine Dq 14 ?_
  have ⟨A,o,p⟩:=bnd e
  refine D.one rfl rfl rfl (Dp.br (Ac.call (dG o) rfl rfl rfl rfl) (Bw.bx 0 rfl (Bw.bx 1 rfl (Bw.ch 2 rfl (Bw.nil)))) rfl rfl rfl rfl ?_)
  intro _
  have ⟨B,q,s⟩:=bnd p
  refine Dkl [1,1] [] (rO q) λ⟨C,F⟩=> ?_
  refine Dn ?_
  cases s
  exact Eg0 [2,1,1] 0
 refine Z0 ?_
 have ⟨I,t,u⟩:=bnd i
 refine Lk [2,1,0] [] (cE t) λ⟨⟩=> ?_
 refine Ln (E.off ?_)
 cases u
 exact Eo () [0,0,0] [] .nil
theorem zZ {l:List Int} {r:Int} (H:mI l=some r):CT G 297 [.slice A0 l.length C0] [] [Im.sl (Ty.int .i64) A0 C0 l] (λ_:Unit=> .int .i64 r) (λh=>[]) (λh=>[]):=by
 delta mI at H
 refine Cf Go.Proofs.Tryz.func297 λK=> ?_
 refine Z2 ?_
 refine Zl ?_
 refine Y1 ?_
 have ⟨g,i,j⟩:=bnd H
 refine Tj0 [(3,.bool g)] [0] [] [] ?_ ?_
 ·refine Z0 ?_
  refine Lw 7 i (λa=> ?_) λa=> ?_
  ·refine Z0 ?_
   have ⟨t,b,k⟩:=bnd a
   refine L.addr 0 rfl (cQ b) λu v m=> ?_
   subst m
   refine Ly (Yl.ia b rfl rfl rfl rfl rfl rfl) ?_
   refine L.el 0 rfl (aY b).2 ?_
   rintro _
   refine Lc 0 0 ?_
   refine Z0 ?_
   cases k
   exact Eg0 [] 1
  refine Z0 ?_
  cases a
  exact Eg0 [] 0
 refine Tb j (λc=> ?_) λc=> ?_
 ·refine Z1 ?_
  cases c
  exact Eo1 () [] []
 refine Y1 ?_
 have ⟨n,o,p⟩:=bnd c
 refine Tj0 [(16,.bool n)] [0] [] [] ?_ ?_
 ·refine Z0 ?_
  refine Lw 20 o (λd=> ?_) λd=> ?_
  ·refine Z0 ?_
   have ⟨w,e,q⟩:=bnd d
   refine L.addr 0 rfl (cQ e) λx y s=> ?_
   subst s
   refine Ly (Yl.ia e rfl rfl rfl rfl rfl rfl) ?_
   refine L.el 0 rfl (aY e).2 ?_
   rintro _
   refine Lc 0 0 ?_
   refine Z0 ?_
   cases q
   exact Eg0 [] 1
  refine Z0 ?_
  cases d
  exact Eg0 [] 0
 refine Tb p (λf=> ?_) λf=> ?_
 ·refine Z1 ?_
  cases f
  exact Eo1 () [] []
 refine Z1 ?_
 cases f
 exact Eo1 () [] []
theorem uW {s_:bJ} {n_:Int} {r:bJ} (H:jU s_ n_=some r):CT G 298 [.agg (tf s_).toArray,.int .i64 n_] [] [] (λ_:Unit=> .agg (tf r).toArray) (λh=>[]) (λh=>[]):=by
 delta jU at H
 refine Cf Go.Proofs.Tryz.func298 λK=> ?_
 refine Z1 ?_
 refine Lx λg1=> ?_
 refine Ll λg2=> ?_
 refine Y1 ?_
 have ⟨o,s,p⟩:=bnd H
 refine Tj (η:=bJ×Unit) (λh=>o = .inl h.1) (λ_=>[]) [2,4] (λh=>(λq=>[Ch.box g1 220 (tf q)]) h.1) [0] (λ_=>[]) ?_ ?_
 ·refine Zl ?_
  refine Z1 ?_
  refine Tb s (λa=> ?_) λa=> ?_
  ·refine Z1 ?_
   refine Lt 0 ?_
   refine Z0 ?_
   obtain ⟨P,hz,t⟩:=eP a
   subst o
   obtain rfl:=(sm p).symm
   refine Z0 ?_
   cases t
   exact Eo () [] [] (.cell 0 rfl rfl rfl .nil)
  refine Y1 ?_
  have ⟨u,v,w⟩:=bnd a
  refine Tj0 [(9,.bool u)] [1,2,4] [] [0,1] ?_ ?_
  ·refine Z0 ?_
   refine Lw 12 v (λb=> ?_) λb=> ?_
   ·refine Z0 ?_
    cases b
    exact Eg0 [0,0] 0
   refine Z0 ?_
   cases b
   exact Eg0 [0,0] 0
  refine Tb w (λc=> ?_) λc=> ?_
  ·refine Z0 ?_
   refine Lt 1 ?_
   refine Z0 ?_
   cases c
   exact Eg (_,()) rfl [0,0] [] 0
  refine Y1 ?_
  have ⟨x,y,z⟩:=bnd c
  refine Tj0 [(19,.bool x)] [1,2,4] [] [0,1] ?_ ?_
  ·refine Z0 ?_
   refine Lw 22 y (λd=> ?_) λd=> ?_
   ·refine Z0 ?_
    cases d
    exact Eg0 [0,0] 0
   refine Z0 ?_
   cases d
   exact Eg0 [0,0] 0
  refine Tb z (λe=> ?_) λe=> ?_
  ·refine Z0 ?_
   refine Lt 1 ?_
   refine Z0 ?_
   cases e
   exact Eg (_,()) rfl [0,0] [] 0
  refine Y1 ?_
  have ⟨A,B,C⟩:=bnd e
  refine Tj0 [(29,.bool A)] [1,2,4] [] [0,1] ?_ ?_
  ·refine Z0 ?_
   refine Lw 32 B (λf=> ?_) λf=> ?_
   ·refine Z0 ?_
    cases f
    exact Eg0 [0,0] 0
   refine Z0 ?_
   cases f
   exact Eg0 [0,0] 0
  refine Tb C (λg=> ?_) λg=> ?_
  ·refine Z0 ?_
   refine Lt 1 ?_
   refine Z0 ?_
   cases g
   exact Eg (_,()) rfl [0,0] [] 0
  refine Y1 ?_
  have ⟨F,I,J⟩:=bnd g
  refine Tj0 [(39,.bool F)] [1,2,4] [] [0,1] ?_ ?_
  ·refine Z0 ?_
   refine Lw 42 I (λi=> ?_) λi=> ?_
   ·refine Z0 ?_
    cases i
    exact Eg0 [0,0] 0
   refine Z0 ?_
   cases i
   exact Eg0 [0,0] 0
  refine Tb J (λj=> ?_) λj=> ?_
  ·refine Z0 ?_
   refine Lt 1 ?_
   refine Z0 ?_
   cases j
   exact Eg (_,()) rfl [0,0] [] 0
  refine Z1 ?_
  refine Tb j (λk=> ?_) λk=> ?_
  ·refine Z0 ?_
   refine Lt 1 ?_
   refine Z0 ?_
   cases k
   exact Eg (_,()) rfl [0,0] [] 0
  refine Y1 ?_
  have ⟨M,N,O⟩:=bnd k
  refine Tj0 [(54,.bool M)] [1,2,4] [] [0,1] ?_ ?_
  ·refine Z0 ?_
   refine Lw 57 N (λl=> ?_) λl=> ?_
   ·refine Z0 ?_
    cases l
    exact Eg0 [0,0] 0
   refine Z0 ?_
   cases l
   exact Eg0 [0,0] 0
  refine Tb O (λm=> ?_) λm=> ?_
  ·refine Z0 ?_
   refine Lt 1 ?_
   refine Z0 ?_
   cases m
   exact Eg (_,()) rfl [0,0] [] 0
  refine Z1 ?_
  refine Tb m (λn=> ?_) λn=> ?_
  ·refine Z0 ?_
   refine Lt 1 ?_
   refine Z0 ?_
   cases n
   exact Eg (_,()) rfl [0,0] [] 0
  refine Z0 ?_
  cases n
  exact Eg (_,()) rfl [1,0] [] 0
 rintro ⟨q,⟨⟩⟩ hy
 subst hy
 refine Z1 ?_
 refine Lt 1 ?_
 refine Z0 ?_
 cases p
 exact Eo () [] [] (.cell 0 rfl rfl rfl .nil)
theorem uX {s_:bJ} {aW:List Int} {r:bJ} (H:jV s_ aW=some r):CT G 249 [.agg (tf s_).toArray,.slice A0 aW.length C0] [] [Im.sl (Ty.int .i64) A0 C0 aW] (λ_:Unit=> .agg (tf r).toArray) (λh=>[]) (λh=>[]):=by
 delta jV at H
 refine Cf Go.Proofs.Tryz.func249 λK=> ?_
 refine Z1 ?_
 refine Lx λg1=> ?_
 refine Ll λg2=> ?_
 refine Z2 ?_
 refine Tb H (λH4=> ?_) λH4=> ?_
 ·refine Z1 ?_
  refine Lt 0 ?_
  refine Z0 ?_
  cases H4
  exact Eo () [] [] (.cell 0 rfl rfl rfl .nil)
 refine Z2 ?_
 have ⟨f,j,k⟩:=bnd H4
 refine Tj0 [] [2,4] [Ch.box g1 220 (tf f)] [0] ?_ ?_
 ·refine Yl0 ?_
  refine Tq (η:=Unit) (λa h=>[(5,.int .i64 a.2)]) [1,2,4] (λa h=>[Ch.box g1 220 (tf a.1)]) [0] (λ_ _=>[]) () [1,0] [] j ?_
  rintro k_ a ⟨⟩ F l m n
  refine Z2 ?_
  refine Tb l (λb=> ?_) λb=> ?_
  ·refine Y1 ?_
   have ⟨g,o,p⟩:=bnd b
   refine Tj0 [(5,.int .i64 g.1)] [1,2,4] [Ch.box g1 220 (tf g.2)] [1] ?_ ?_
   ·refine Zl ?_
    refine Z2 ?_
    have ⟨I,c,q⟩:=bnd o
    refine L.addr 0 rfl (cQ c) λJ M s=> ?_
    subst s
    refine Ly (Yl.ia c rfl rfl rfl rfl rfl rfl) ?_
    refine L.el 0 rfl (aY c).2 ?_
    rintro _
    refine Lc 0 0 ?_
    refine Y1 ?_
    have ⟨t,u,v⟩:=bnd q
    refine Tj0 [(26,.bool t)] [1,2,4,5] [] [0,1] ?_ ?_
    ·refine Z0 ?_
     refine Lw 23 u (λd=> ?_) λd=> ?_
     ·refine Z0 ?_
      cases d
      exact Eg0 [0,0] 0
     refine Z0 ?_
     cases d
     exact Eg0 [0,0] 0
    refine Tb v (λe=> ?_) λe=> ?_
    ·refine Z1 ?_
     have ⟨_,w,x⟩:=bnd e
     refine L.rs 1 w rfl rfl rfl rfl rfl rfl rfl rfl rfl rfl rfl rfl ?_
     intro N O
     have ⟨P,y,z⟩:=bnd x
     refine Lk [] [0] (zZ y) λ⟨⟩=> ?_
     refine Z0 ?_
     cases z
     exact Eg0 [0,0] 2
    refine Z0 ?_
    refine Td [6] [0,0] mo ?_
    refine Db 0 0 ?_
    refine Dq 1 ?_
    refine Dq 2 ?_
    have ⟨Q,i,A⟩:=bnd e
    refine Dy 3 (Yl.ia i rfl rfl rfl rfl rfl rfl) ?_
    refine D.el 1 rfl (aY i).2 ?_
    rintro _
    refine Dy 4 (Yl.ldc 0 0 rfl rfl rfl rfl) ?_
    have ⟨R,B,C⟩:=bnd A
    refine Dk [] [] (uW B) λ⟨⟩=> ?_
    refine Dt 0 ?_
    refine Dn ?_
    refine Z0 ?_
    cases C
    exact Eg0 [0,0] 2
   refine Z0 ?_
   cases p
   exact Eg (_,()) (m _ rfl) [0,0] [] 0
  refine Z0 ?_
  cases b
  have hb:=n _ rfl
  subst f
  exact Eg0 [0,0] 0
 refine Z1 ?_
 refine Lt 1 ?_
 refine Z0 ?_
 cases k
 exact Eo () [] [] (.cell 0 rfl rfl rfl .nil)
theorem qz {s_:aB} {a:bC} {r:aB} (H:gK s_ a=some r):CT G 250 [.pointer (some ⟨N0,0,none⟩),.agg (xW a A1 C1).toArray] [Ch.box N0 224 (bY s_ N1),Ch.box N1 296 [.int .i64 s_.g.w,.slice A0 s_.g.l.length C0],Ch.arr aD 232 A0 C0 s_.g.l] [Im.sl (Ty.int .i64) A1 C1 a.aW] (λ_:Unit=> .tuple #[]) (λh=>[Ch.box N0 224 (bY r N1),Ch.box N1 296 [.int .i64 r.g.w,.slice A0 r.g.l.length C0],Ch.arr aD 232 A0 C0 r.g.l]) (λh=>[]):=by
 delta gK at H
 refine Cf Go.Proofs.Tryz.func250 λK=> ?_
 refine Z1 ?_
 refine Lx λg1=> ?_
 refine Z1 ?_
 have ⟨r2,h3,H4⟩:=bnd H
 refine Lk [2,2] [] (gx h3) λ⟨⟩=> ?_
 refine Y1 ?_
 refine Td [9] [0,0,0,0] mo ?_
 refine Db 0 2 ?_
 refine Dq 2 ?_
 refine Db 5 2 ?_
 refine Dq 6 ?_
 refine Dq 8 ?_
 have ⟨p,c,d⟩:=bnd H4
 refine Dk [] [0] (lF c) λ⟨⟩=> ?_
 have ⟨q,e,f⟩:=bnd d
 refine Dk [] [] (k6 e) λ⟨⟩=> ?_
 refine Dq 4 ?_
 have ⟨s,i,j⟩:=bnd f
 refine Dk [] [0] (lF i) λ⟨⟩=> ?_
 have ⟨t,k,m⟩:=bnd j
 refine Dkl [] [] (k6 k) λ⟨⟩=> ?_
 refine Dq 10 ?_
 refine Dq 11 ?_
 refine Dq 12 ?_
 refine Dn ?_
 refine Z1 ?_
 refine Tb m (λb=> ?_) λb=> ?_
 ·refine Z1 ?_
  refine Lt 3 ?_
  refine Z0 ?_
  refine Lt 0 ?_
  refine Z0 ?_
  have ⟨u,n,o⟩:=bnd b
  refine Lk [0,0,0] [] (cE n) λ⟨⟩=> ?_
  refine Ln (E.off ?_)
  cases o
  exact Eo () [0,0,0] [] .nil
 refine Tk (E.off ?_)
 cases b
 exact Eo () [3,0,0] [] .nil
theorem qU {s_:aB} {a:bC} {r:(List aG)×aB} (H:gX s_ a=some r):CT G 190 [.pointer (some ⟨N0,0,none⟩),.agg (xW a A1 C1).toArray] [Ch.box N0 224 (bY s_ N1),Ch.box N1 296 [.int .i64 s_.g.w,.slice A0 s_.g.l.length C0],Ch.arr aD 232 A0 C0 s_.g.l] [Im.sl (Ty.int .i64) A1 C1 a.aW] (λh:(Option Addr×Nat)=> .slice h.1 r.1.length h.2) (λh=>[Ch.arr aD 232 h.1 h.2 r.1,Ch.box N0 224 (bY r.2 N1),Ch.box N1 296 [.int .i64 r.2.g.w,.slice A0 r.2.g.l.length C0],Ch.arr aD 232 A0 C0 r.2.g.l]) (λh=>[]):=by
 delta gX at H
 refine Cf Go.Proofs.Tryz.func190 λK=> ?_
 refine Z1 ?_
 refine Lx λg1=> ?_
 refine Z1 ?_
 have ⟨r2,h3,H4⟩:=bnd H
 refine Lk [] [0] (lF h3) λ⟨⟩=> ?_
 refine Z2 ?_
 have ⟨I,M,J⟩:=bnd H4
 refine Tj (η:=(aB×aZ)×Unit) (λh=>I = .inl h.1) (λ_=>[]) [0,3] (λh=>(λb=>[Ch.arr aD 232 A0 C0 b.2.l,Ch.box N0 224 (bY b.1 N1),Ch.box N1 296 [.int .i64 b.2.w,.slice A0 b.2.l.length C0]]) h.1) [0] (λ_=>[]) ?_ ?_
 ·refine Zl ?_
  refine Z2 ?_
  have ⟨N,O,P⟩:=bnd M
  refine Tj0 [(10,.bool N)] [0,3,5,9] [] [0,1,2,3] ?_ ?_
  ·refine Tb O (λc=> ?_) λc=> ?_
   ·refine Z0 ?_
    cases c
    exact Eg0 [0,0,0,0] 0
   refine Z0 ?_
   cases c
   exact Eg0 [0,0,0,0] 0
  refine Tb P (λd=> ?_) λd=> ?_
  ·refine Z0 ?_
   have ⟨bq,Q,R⟩:=bnd d
   refine Lk [1,1,1] [] (m4 Q) λ⟨⟩=> ?_
   refine Z0 ?_
   cases R
   exact Eg (_,()) rfl [2,0,0,0] [] 0
  refine Z2 ?_
  have ⟨S,U,V⟩:=bnd d
  refine Tj0 [(17,.bool S)] [0,3,5,9] [] [0,1,2,3] ?_ ?_
  ·refine Tb U (λe=> ?_) λe=> ?_
   ·refine Z0 ?_
    cases e
    exact Eg0 [0,0,0,0] 0
   refine Z0 ?_
   cases e
   exact Eg0 [0,0,0,0] 0
  refine Tb V (λf=> ?_) λf=> ?_
  ·refine Z0 ?_
   have ⟨bs,W,X⟩:=bnd f
   refine Lk [1,1,1] [] (m4 W) λ⟨⟩=> ?_
   refine Z0 ?_
   cases X
   exact Eg (_,()) rfl [2,0,0,0] [] 0
  refine Z1 ?_
  refine Tb f (λi=> ?_) λi=> ?_
  ·refine Td [13] [0,0,0,0] mo ?_
   refine Dq 0 ?_
   refine Dq 1 ?_
   refine Dq 2 ?_
   refine Dq 3 ?_
   refine Dq 4 ?_
   refine Db 5 1 ?_
   refine Dq 6 ?_
   refine Dq 7 ?_
   refine Dq 8 ?_
   refine Dq 9 ?_
   refine Dq 10 ?_
   refine Dq 11 ?_
   refine Db 12 1 ?_
   have ⟨bt,Y,Z⟩:=bnd i
   refine Dkl [1,1,1] [] (cE Y) λ⟨⟩=> ?_
   refine Dn ?_
   refine Z0 ?_
   cases Z
   exact Eg (_,()) rfl [2,0,0,0] [] 0
  refine Z1 ?_
  refine Tb i (λj=> ?_) λj=> ?_
  ·refine Td [13] [0,0,0,0] mo ?_
   refine Dq 0 ?_
   refine Dq 1 ?_
   refine Dq 2 ?_
   refine Dq 3 ?_
   refine Dq 4 ?_
   refine Db 5 1 ?_
   refine Dq 6 ?_
   refine Dq 7 ?_
   refine Dq 8 ?_
   refine Dq 9 ?_
   refine Dq 10 ?_
   refine Dq 11 ?_
   refine Db 12 1 ?_
   have ⟨bu,aa,ab⟩:=bnd j
   refine Dkl [1,1,1] [] (cE aa) λ⟨⟩=> ?_
   refine Dn ?_
   refine Z0 ?_
   cases ab
   exact Eg (_,()) rfl [2,0,0,0] [] 0
  refine Z1 ?_
  refine Tb j (λk=> ?_) λk=> ?_
  ·refine Z0 ?_
   have ⟨bv,ac,ad⟩:=bnd k
   refine Lk [1,1,1] [] (cE ac) λ⟨⟩=> ?_
   refine Z0 ?_
   cases ad
   exact Eg (_,()) rfl [2,0,0,0] [] 0
  refine Z1 ?_
  refine Tb k (λm=> ?_) λm=> ?_
  ·refine Z0 ?_
   have ⟨bw,ae,af⟩:=bnd m
   refine Lk [1,1,1] [] (cE ae) λ⟨⟩=> ?_
   refine Z0 ?_
   cases af
   exact Eg (_,()) rfl [2,0,0,0] [] 0
  refine Z2 ?_
  have ⟨ag,ah,ai⟩:=bnd m
  refine Tj0 [(77,.bool ag)] [0,3,5,9] [] [0,1,2,3] ?_ ?_
  ·refine Tb ah (λn=> ?_) λn=> ?_
   ·refine Z0 ?_
    cases n
    exact Eg0 [0,0,0,0] 0
   refine Z0 ?_
   cases n
   exact Eg0 [0,0,0,0] 0
  refine Tb ai (λo=> ?_) λo=> ?_
  ·refine Z0 ?_
   have ⟨bz,aj,ak⟩:=bnd o
   refine Lk [] [0] (lF aj) λ⟨⟩=> ?_
   refine Z0 ?_
   have ⟨b0,al,am⟩:=bnd ak
   refine Lk [1,1,1] [] (cE al) λ⟨⟩=> ?_
   refine Z0 ?_
   cases am
   exact Eg (_,()) rfl [2,0,0,0] [] 0
  refine Z1 ?_
  refine Tb o (λp=> ?_) λp=> ?_
  ·refine Z0 ?_
   have ⟨b1,an,ao⟩:=bnd p
   refine Lk [] [0] (lF an) λ⟨⟩=> ?_
   have ⟨b2,ap,aq⟩:=bnd ao
   refine Lk [1,1,1] [] (rQ ap) λ⟨⟩=> ?_
   refine Z0 ?_
   cases aq
   exact Eg (_,()) rfl [2,0,0,0] [] 0
  refine Z1 ?_
  refine Tb p (λq=> ?_) λq=> ?_
  ·refine Z0 ?_
   have ⟨b3,ar,au⟩:=bnd q
   refine Lk [] [0] (lF ar) λ⟨⟩=> ?_
   have ⟨b4,av,aw⟩:=bnd au
   refine Lk [1,1,1] [] (nM av) λ⟨⟩=> ?_
   refine Z0 ?_
   cases aw
   exact Eg (_,()) rfl [2,0,0,0] [] 0
  refine Z2 ?_
  have ⟨ax,ay,az⟩:=bnd q
  refine Tj0 [(99,.bool ax)] [0,3,5,9] [] [0,1,2,3] ?_ ?_
  ·refine Tb ay (λs=> ?_) λs=> ?_
   ·refine Z0 ?_
    cases s
    exact Eg0 [0,0,0,0] 0
   refine Z1 ?_
   refine Tb s (λt=> ?_) λt=> ?_
   ·refine Z0 ?_
    cases t
    exact Eg0 [0,0,0,0] 0
   refine Z0 ?_
   cases t
   exact Eg0 [0,0,0,0] 0
  refine Tb az (λu=> ?_) λu=> ?_
  ·refine Z0 ?_
   have ⟨b5,a0,a1⟩:=bnd u
   refine Lk [1,1,1] [] (qS a0) λ⟨⟩=> ?_
   refine Z0 ?_
   cases a1
   exact Eg (_,()) rfl [2,0,0,0] [] 0
  refine Z2 ?_
  have ⟨a2,a3,a4⟩:=bnd u
  refine Tj0 [(108,.bool a2)] [0,3,5,9] [] [0,1,2,3] ?_ ?_
  ·refine Tb a3 (λv=> ?_) λv=> ?_
   ·refine Z0 ?_
    cases v
    exact Eg0 [0,0,0,0] 0
   refine Z0 ?_
   cases v
   exact Eg0 [0,0,0,0] 0
  refine Tb a4 (λx=> ?_) λx=> ?_
  ·refine Z0 ?_
   have ⟨b6,a5,a6⟩:=bnd x
   refine Lk [1,1,1] [] (qT a5) λ⟨⟩=> ?_
   refine Z0 ?_
   cases a6
   exact Eg (_,()) rfl [2,0,0,0] [] 0
  refine Z1 ?_
  refine Tb x (λy=> ?_) λy=> ?_
  ·refine Z1 ?_
   refine Lt 1 ?_
   refine Z1 ?_
   have ⟨b7,a7,a8⟩:=bnd y
   refine Lk [0,1,1] [] (oL a7) λ⟨a9,ba⟩=> ?_
   refine Z0 ?_
   obtain ⟨b8,hz,bb⟩:=eP a8
   subst I
   obtain rfl:=(sm J).symm
   refine Z0 ?_
   cases bb
   exact Eo1 (a9,ba) [0,0,0,0] []
  refine Z1 ?_
  refine Tb y (λz=> ?_) λz=> ?_
  ·refine Z1 ?_
   refine Lt 1 ?_
   refine Z0 ?_
   refine Td [15] [0,0,0,0] mo ?_
   refine Dq 0 ?_
   refine Dq 1 ?_
   refine Dq 2 ?_
   refine Db 3 0 ?_
   refine Dq 4 ?_
   refine Dq 5 ?_
   refine Dq 6 ?_
   refine Db 7 0 ?_
   refine Dq 8 ?_
   refine Dq 9 ?_
   refine Dq 10 ?_
   refine Db 11 0 ?_
   refine Dq 12 ?_
   refine Dq 13 ?_
   have ⟨b9,bc,bd⟩:=bnd z
   refine D.one rfl rfl rfl (Dp.br (Ac.call (dG bc) rfl rfl rfl rfl) (Bw.bx 0 rfl (Bw.bx 2 rfl (Bw.ch 3 rfl (Bw.nil)))) rfl rfl rfl rfl ?_)
   intro _
   have ⟨ca,be,bf⟩:=bnd bd
   refine Dkl [2,2] [] (nj be) λ⟨cb,cc⟩=> ?_
   refine Dn ?_
   refine Z0 ?_
   cases bf
   exact Eg (_,()) rfl [2,2,1,1] [] 0
  refine Z1 ?_
  refine Tb z (λA=> ?_) λA=> ?_
  ·refine Td [8,12] [0,0,0,0] mo ?_
   refine Dq 0 ?_
   refine Dq 1 ?_
   refine Dq 2 ?_
   refine Dq 3 ?_
   refine Dq 4 ?_
   refine Db 5 1 ?_
   refine Dq 6 ?_
   refine Db 7 0 ?_
   have ⟨cd,bg,bh⟩:=bnd A
   refine Dkl [] [0] (uX bg) λ⟨⟩=> ?_
   refine Dq 9 ?_
   refine Dq 10 ?_
   refine Dq 11 ?_
   refine Dt 1 ?_
   refine Dn ?_
   refine Z0 ?_
   cases bh
   exact Eg (_,()) rfl [3,0,1,0] [] 0
  refine Z1 ?_
  refine Tb A (λB=> ?_) λB=> ?_
  ·refine Z0 ?_
   have ⟨ce,bi,bj⟩:=bnd B
   refine Lk [1,1,1] [0] (qz bi) λ⟨⟩=> ?_
   refine Z0 ?_
   cases bj
   exact Eg (_,()) rfl [2,0,0,0] [] 0
  refine Z0 ?_
  cases B
  exact Eg (_,()) rfl [3,1,1,0] [] 0
 rintro ⟨b,⟨⟩⟩ hy
 subst hy
 refine Y2 ?_
 have ⟨bk,bl,bm⟩:=bnd J
 refine Tj0 [(171,.bool bk)] [0] [] [1,2,3,0] ?_ ?_
 ·refine Z0 ?_
  refine Lw 167 bl (λC=> ?_) λC=> ?_
  ·refine Z0 ?_
   cases C
   exact Eg0 [1,1,1,0] 0
  refine Z0 ?_
  cases C
  exact Eg0 [1,1,1,0] 0
 have ⟨bn,bo,bp⟩:=bnd bm
 refine Tj0 [] [] [Ch.box N0 224 (bY bn N1)] [1,2,3] ?_ ?_
 ·refine Tb bo (λF=> ?_) λF=> ?_
  ·refine Z0 ?_
   refine Lt 0 ?_
   refine Z0 ?_
   cases F
   exact Eg0 [0,0,0,0] 0
  refine Z0 ?_
  cases F
  exact Eg0 [0,0,0,0] 0
 refine Z1 ?_
 refine E.gA aD 232 ?_
 cases bp
 exact Eo1 (none,0) [0,0,0,1] []
theorem tM {s_:aB} {a:bC} {r:(List aG)×aB} (H:fX s_ a=some r):CT G 135 [.pointer (some ⟨N0,0,none⟩),.agg (xW a A1 C1).toArray] [Ch.box N0 224 (bY s_ N1),Ch.box N1 296 [.int .i64 s_.g.w,.slice A0 s_.g.l.length C0],Ch.arr aD 232 A0 C0 s_.g.l] [Im.sl (Ty.int .i64) A1 C1 a.aW,Im.sl cD (some ⟨1,0,none⟩) 13 cT,Im.sl cD (some ⟨2,0,none⟩) 14 dD] (λh:(Option Addr×Nat)×Nat×(Option Addr×Nat)=> .slice h.1.1 r.1.length h.1.2) (λh=>[Ch.arr aD 232 h.1.1 h.1.2 r.1,Ch.box N0 224 (bY r.2 h.2.1),Ch.box h.2.1 296 [.int .i64 r.2.g.w,.slice h.2.2.1 r.2.g.l.length h.2.2.2],Ch.arr aD 232 h.2.2.1 h.2.2.2 r.2.g.l]) (λh=>[]):=by
 delta fX at H
 refine Cf Go.Proofs.Tryz.func135 λK=> ?_
 refine Z1 ?_
 refine Lx λg1=> ?_
 refine Z2 ?_
 have ⟨b,q,c⟩:=bnd H
 refine Tj (η:=aB×Unit) (λh=>b = .inl h.1) (λ_=>[]) [] (λh=>(λp=>[Ch.box N0 224 (bY p N1)]) h.1) [0,2,3] (λ_=>[]) ?_ ?_
 ·refine Zl ?_
  refine Z1 ?_
  refine Tb q (λd=> ?_) λd=> ?_
  ·refine Z1 ?_
   have ⟨ac,s,t⟩:=bnd d
   refine Lk [1,1,1] [1,2] (qR s) λ⟨u,v⟩=> ?_
   refine Z0 ?_
   obtain ⟨ad,hz,x⟩:=eP t
   subst b
   obtain rfl:=(sm c).symm
   refine Z0 ?_
   cases x
   exact Eo1 ((u,v),N1,(A0,C0)) [0,0,0,0] []
  refine Z1 ?_
  refine Tb d (λe=> ?_) λe=> ?_
  ·refine Z1 ?_
   have ⟨ae,y,z⟩:=bnd e
   refine Lk [1,1,1] [] (p5 y) λ⟨A,B⟩=> ?_
   refine Z0 ?_
   obtain ⟨af,hz,C⟩:=eP z
   subst b
   obtain rfl:=(sm c).symm
   refine Z0 ?_
   cases C
   exact Eo1 ((A,B),N1,(A0,C0)) [0,0,0,0] []
  refine Z1 ?_
  refine Tb e (λf=> ?_) λf=> ?_
  ·refine Z1 ?_
   have ⟨ag,F,I⟩:=bnd f
   refine Lk [1,1,1] [] (qw F) λ⟨⟨J,M⟩,N,⟨O,P⟩⟩=> ?_
   refine Z0 ?_
   obtain ⟨ah,hz,Q⟩:=eP I
   subst b
   obtain rfl:=(sm c).symm
   refine Z0 ?_
   cases Q
   exact Eo1 ((J,M),N,(O,P)) [0,0,0,0] []
  refine Z1 ?_
  refine Tb f (λi=> ?_) λi=> ?_
  ·refine Z0 ?_
   refine Lt 1 ?_
   refine Z0 ?_
   cases i
   exact Eg (_,()) rfl [0,0,0,0] [] 0
  refine Z1 ?_
  refine Tb i (λj=> ?_) λj=> ?_
  ·refine Z2 ?_
   refine Tb j (λk=> ?_) λk=> ?_
   ·refine Z1 ?_
    have ⟨ai,R,S⟩:=bnd k
    refine Lk [1,1,1] [0] (qU R) λ⟨U,V⟩=> ?_
    refine Z0 ?_
    obtain ⟨aj,hz,W⟩:=eP S
    subst b
    obtain rfl:=(sm c).symm
    refine Z0 ?_
    cases W
    exact Eo1 ((U,V),N1,(A0,C0)) [0,0,0,0] []
   refine Y1 ?_
   have ⟨X,Y,Z⟩:=bnd k
   refine Tj0 [(52,.bool X)] [0,3] [] [0,1,2,3] ?_ ?_
   ·refine Z0 ?_
    have ⟨ak,aa,ab⟩:=bnd Y
    refine Lk [] [0] (lF aa) λ⟨⟩=> ?_
    refine Z0 ?_
    refine Lw 43 ab (λm=> ?_) λm=> ?_
    ·refine Z0 ?_
     refine Lw 47 m (λn=> ?_) λn=> ?_
     ·refine Z0 ?_
      cases n
      exact Eg0 [0,0,0,0] 0
     refine Z0 ?_
     cases n
     exact Eg0 [0,0,0,0] 0
    refine Z0 ?_
    cases m
    exact Eg0 [0,0,0,0] 0
   refine Tb Z (λo=> ?_) λo=> ?_
   ·refine Z0 ?_
    refine Lt 1 ?_
    refine Z0 ?_
    cases o
    exact Eg (_,()) rfl [0,0,0,0] [] 0
   refine Z0 ?_
   cases o
   exact Eg (_,()) rfl [1,0,0,0] [] 0
  refine Z0 ?_
  cases j
  exact Eg (_,()) rfl [1,0,0,0] [] 0
 rintro ⟨p,⟨⟩⟩ hy
 subst hy
 refine Z1 ?_
 refine E.gA aD 232 ?_
 cases c
 exact Eo1 ((none,0),N1,(A0,C0)) [0,0,1,1] []
theorem sQ {σ η:Type} {Y:σ->(List aG)->Option (σ×Bool)} {y0:σ} {x1:bO} {x2:ByteArray} (g_1:Nat) (g_1_0:Nat) (g_1_1:Nat) (a_1_2:Option Addr) (c_1_2:Nat) (a_1_3:Option Addr) (c_1_3:Nat) (a_1_4:Option Addr) (c_1_4:Nat) (g_1_5:Nat) (a_1_6:Option Addr) (c_1_6:Nat) (a_1_7:Option Addr) (c_1_7:Nat) (g_1_8:Nat) (g_1_9:Nat) (a_1_10:Option Addr) (c_1_10:Nat) (g_2:Nat) {yl:Nat} {C:σ->η->Ch} (hY: ∀ s (h:η) (x:(List aG)) (t:(Option Addr×Nat)) z,Y s x=some z->YT G yl [.slice t.1 x.length t.2] [C s h,Ch.box g_1_0 120 (iE x1 g_1_1 g_1_5 g_1_8)] [Im.sl aD t.1 t.2 x] (λ_:η=> .bool z.2) (λh2=>[C z.1 h2,Ch.box g_1_0 120 (iE x1 g_1_1 g_1_5 g_1_8)]) (λ_=>[])) (h0:η) {r:σ×bO} (H:iY Y y0 x1 x2=some r):CT G 133 [.func (.yield yl) #[] #[],.pointer (some ⟨g_1,0,none⟩),.pointer (some ⟨g_2,0,none⟩)] [C y0 h0,Ch.box g_1 93 [.pointer (some ⟨g_1_0,0,none⟩)],Ch.box g_1_0 120 (iE x1 g_1_1 g_1_5 g_1_8),Ch.box g_1_5 151 (eF x1.parser a_1_6 c_1_6),Ch.opt (x1.parser.state == (3:Int)) (Ty.int .i64) 3 a_1_6 c_1_6 x1.parser.order.aW,Ch.box g_1_8 224 (bY x1.aN g_1_9),Ch.box g_1_9 296 [.int .i64 x1.aN.g.w,.slice a_1_10 x1.aN.g.l.length c_1_10],Ch.arr aD 232 a_1_10 c_1_10 x1.aN.g.l,Ch.box g_2 9 [.string x2]] [Im.sl cD (some ⟨1,0,none⟩) 13 cT,Im.sl cD (some ⟨2,0,none⟩) 14 dD,Im.sl dQ (some ⟨3,0,none⟩) 8 bX] (λh:η×(Option Addr×Nat)×(Option Addr×Nat)×Nat×(Option Addr×Nat)=> .tuple #[]) (λh=>[C r.1 h.1,Ch.box g_1 93 [.pointer (some ⟨g_1_0,0,none⟩)],Ch.box g_1_0 120 (iE r.2 g_1_1 g_1_5 g_1_8),Ch.box g_1_5 151 (eF r.2.parser h.2.1.1 h.2.1.2),Ch.opt (r.2.parser.state == (3:Int)) (Ty.int .i64) 3 h.2.1.1 h.2.1.2 r.2.parser.order.aW,Ch.box g_1_8 224 (bY r.2.aN h.2.2.2.1),Ch.box h.2.2.2.1 296 [.int .i64 r.2.aN.g.w,.slice h.2.2.2.2.1 r.2.aN.g.l.length h.2.2.2.2.2],Ch.arr aD 232 h.2.2.2.2.1 h.2.2.2.2.2 r.2.aN.g.l,Ch.box g_2 9 [.string x2]]) (λh=>[]):=by
  delta iY at H
  refine Cf Go.Proofs.Tryz.func133 λK=> ?_
  refine Y1 ?_
  refine Td [] [0,0,0,2,2,2,2] mo ?_
  refine Db 0 1 ?_
  refine Dq 1 ?_
  refine Dq 2 ?_
  refine Db 3 2 ?_
  refine Db 4 6 ?_
  refine Dq 7 ?_
  have ⟨p,Q,R⟩:=bnd H
  refine Dk [0,0] [2] (uT Q) λ⟨⟨ai,aj⟩,⟨m,n⟩,⟨ak,al⟩⟩=> ?_
  refine Dq 6 ?_
  refine Dn ?_
  refine Z0 ?_
  have ⟨q,S,B⟩:=bnd R
  refine T.qB (η:=(aB×σ)×(Nat×(Option Addr×Nat)×η)) (λh=>q = .inl h.1) (λh=>(λb=>(λc d e f=>[]) h.2.1 h.2.2.1.1 h.2.2.1.2 h.2.2.2) h.1) (λh=>(λb=>(λc d e f=>[Ch.arr aD 232 d e b.1.g.l,C b.2 f,Ch.box g_1_8 224 (bY b.1 c),Ch.box c 296 [.int .i64 b.1.g.w,.slice d b.1.g.l.length e],Ch.box g_1 93 [.pointer (some ⟨g_1_0,0,none⟩)],Ch.box g_1_0 120 (iE x1 g_1_1 g_1_5 g_1_8),Ch.box g_2 9 [.string x2],Ch.box g_1_5 151 (eF p.2 m n),Ch.opt (p.2.state == (3:Int)) (Ty.int .i64) 3 m n p.2.order.aW]) h.2.1 h.2.2.1.1 h.2.2.1.2 h.2.2.2) h.1) (λh=>(λb=>(λc d e f=>[Im.sl cD (some ⟨1,0,none⟩) 13 cT,Im.sl cD (some ⟨2,0,none⟩) 14 dD,Im.sl dQ (some ⟨3,0,none⟩) 8 bX]) h.2.1 h.2.2.1.1 h.2.2.1.2 h.2.2.2) h.1) ?_ ?_
  ·refine Yl0 ?_
   refine Tq (η:=Nat×(Option Addr×Nat)×η) (λa h=>(λi j k o=>[(14,.int .i64 a.2.1)]) h.1 h.2.1.1 h.2.1.2 h.2.2) [0,1,12,13] (λa h=>(λi j k o=>[Ch.arr aD 232 j k a.1.g.l,C a.2.2 o,Ch.box g_1_8 224 (bY a.1 i),Ch.box i 296 [.int .i64 a.1.g.w,.slice j a.1.g.l.length k]]) h.1 h.2.1.1 h.2.1.2 h.2.2) [1,2,6,8,7,9] (λ_ _=>[]) (g_1_9,(a_1_10,c_1_10),h0) [5,0,2,2,0,0,0,1,0,0] [] S ?_
   rintro k_ a ⟨i,⟨j,k⟩,o⟩ U V W F
   refine Y2 ?_
   refine Tb V (λu=> ?_) λu=> ?_
   ·refine Z1 ?_
    refine Zl ?_
    refine Z1 ?_
    have ⟨X,y,Z⟩:=bnd u
    refine L.lN 8 rfl (cQ y) λam aa=> ?_
    subst aa
    refine Ly (Yl.ia y rfl rfl rfl rfl rfl rfl) ?_
    refine La [8] [] (Ac.lo a.2.1.toNat 0 (v:=(λh:(Option Addr×Nat)=>(λI J=> .agg (xW X I J).toArray) h.1 h.2)) (aY y).2 rfl rfl rfl (λ_=>rfl)) ?_
    rintro ⟨I,J⟩
    refine Ll λan=> ?_
    refine Lt 0 ?_
    refine Y1 ?_
    refine Td [] [0,0,1,3,3,3,3,3] mo ?_
    refine Db 0 3 ?_
    refine Dq 1 ?_
    refine Dq 2 ?_
    refine Db 3 4 ?_
    refine Db 4 0 ?_
    have ⟨ao,ab,ac⟩:=bnd Z
    refine Dk [1,1,0] [0,1,2] (tM ab) λ⟨⟨ad,ae⟩,M,⟨N,O⟩⟩=> ?_
    refine Dq 6 ?_
    refine Dn ?_
    refine Z1 ?_
    refine L.frz 8 rfl ?_
    have ⟨ap,af,ag⟩:=bnd ac
    refine L.yd [2,3] [0] (hY _ _ _ (ad,ae) _ af) rfl rfl rfl rfl rfl rfl rfl rfl ?_
    intro P
    refine Z0 ?_
    refine Tb ag (λA=> ?_) λA=> ?_
    ·refine Z0 ?_
     obtain ⟨aq,hz,ah⟩:=fG A
     subst U
     have hb:=F _ rfl
     subst q
     obtain rfl:=(sm B).symm
     refine Z0 ?_
     cases ah
     exact Eo (P,(m,n),(none,0),M,(N,O)) [0,3,0,3,3,3,3,3,2] [] .nil
    refine Z0 ?_
    cases A
    exact Eg (_,(M,(N,O),P)) (W _ rfl) [10,0,7,7,3,0,2,2,1,1] [] 2
   refine Z0 ?_
   cases u
   have hb:=F _ rfl
   subst q
   exact Egx (_,(i,(j,k),o)) rfl [0,0,0,0,0,0,0,0,1] [0,1,2]
  rintro ⟨b,⟨c,⟨d,e⟩,f⟩⟩ hy
  subst hy
  refine E.off ?_
  cases B
  exact Eo (f,(m,n),(none,0),c,(d,e)) [1,3,3,4,4,1,1,0,0] [] .nil
end Go.Tw.X
namespace Go.Tw.X
open Go Go.Tw
variable {A0 A1 A2 A3 A4 A5 A6 A7 A8 A9 A10 A11 A12 A13 A14 A15 A16 A17 A18 A19 A20 A21 A22 : Option Addr} {C0 C1 C2 C3 C4 C5 C6 C7 C8 C9 C10 C11 C12 C13 C14 C15 C16 C17 C18 C19 C20 C21 C22 : Nat}
variable {N0 N1 N2 N3 N4 N5 N6 : Nat}
theorem vB {m_:bO} {e:ju} {r:Int×bO} (H:eU m_ e=some r):CT G 31 [.pointer (some ⟨N0,0,none⟩),.agg (Iy e).toArray] [Ch.box N0 120 (iE m_ N1 N2 N3),Ch.box N1 178 [.slice A0 m_.book.l.length C0,.slice A1 m_.book.bA.length C1,.slice A2 m_.book.begun.length C2],Ch.arr (Ty.slice aC) 101 A0 C0 m_.book.l,Ch.arr (Ty.int .i64) 3 A1 C1 m_.book.bA,Ch.arr aC 181 A2 C2 m_.book.begun,Ch.box N2 151 (eF m_.parser A3 C3),Ch.opt (m_.parser.state == (3:Int)) (Ty.int .i64) 3 A3 C3 m_.parser.order.aW,Ch.box N3 224 (bY m_.aN N4),Ch.box N4 296 [.int .i64 m_.aN.g.w,.slice A5 m_.aN.g.l.length C5],Ch.arr aD 232 A5 C5 m_.aN.g.l] [Im.sl (Ty.int .u32) (some ⟨0,0,none⟩) 16 cB,Im.sl cD (some ⟨1,0,none⟩) 13 cT,Im.sl cD (some ⟨2,0,none⟩) 14 dD,Im.sl dQ (some ⟨3,0,none⟩) 8 bX] (λh:(Option Addr×Nat)×(Option Addr×Nat)×(Option Addr×Nat)×(Option Addr×Nat)×(Option Addr×Nat)×Nat×(Option Addr×Nat)=> .int .i64 r.1) (λh=>[Ch.box N0 120 (iE r.2 N1 N2 N3),Ch.box N1 178 [.slice h.1.1 r.2.book.l.length h.1.2,.slice h.2.1.1 r.2.book.bA.length h.2.1.2,.slice h.2.2.1.1 r.2.book.begun.length h.2.2.1.2],Ch.arr (Ty.slice aC) 101 h.1.1 h.1.2 r.2.book.l,Ch.arr (Ty.int .i64) 3 h.2.1.1 h.2.1.2 r.2.book.bA,Ch.arr aC 181 h.2.2.1.1 h.2.2.1.2 r.2.book.begun,Ch.box N2 151 (eF r.2.parser h.2.2.2.1.1 h.2.2.2.1.2),Ch.opt (r.2.parser.state == (3:Int)) (Ty.int .i64) 3 h.2.2.2.1.1 h.2.2.2.1.2 r.2.parser.order.aW,Ch.box N3 224 (bY r.2.aN h.2.2.2.2.2.1),Ch.box h.2.2.2.2.2.1 296 [.int .i64 r.2.aN.g.w,.slice h.2.2.2.2.2.2.1 r.2.aN.g.l.length h.2.2.2.2.2.2.2],Ch.arr aD 232 h.2.2.2.2.2.2.1 h.2.2.2.2.2.2.2 r.2.aN.g.l]) (λh=>[]):=by
 delta eU at H
 refine Cf Go.Proofs.Tryz.func31 λK=> ?_
 refine T.yc ?_
 refine Z1 ?_
 refine Lx λg1=> ?_
 refine Lx λg2=> ?_
 refine Z2 ?_
 have ⟨r3,h4,H5⟩:=bnd H
 refine Lk [] [] (sL h4) λ⟨⟩=> ?_
 refine Z1 ?_
 refine Tb H5 (λH7=> ?_) λH7=> ?_
 ·refine Z1 ?_
  cases H7
  exact E.u3 ((A0,C0),(A1,C1),(A2,C2),(A3,C3),(none,0),N4,(A5,C5)) 2 [2,2,2,2,2,2,2,2,2,2] [] rfl (.tmp rfl .nil) rfl rfl rfl
 refine Z2 ?_
 have ⟨a,J,M⟩:=bnd H7
 refine T.Af (η:=Unit×((Option Addr×Nat)×(Option Addr×Nat)×(Option Addr×Nat)×(Option Addr×Nat)×Nat×(Option Addr×Nat)×List Nat)) (λh=>True) (λh=>(λc d f i j k m n o p q s=>s) h.2.1.1 h.2.1.2 h.2.2.1.1 h.2.2.1.2 h.2.2.2.1.1 h.2.2.2.1.2 h.2.2.2.2.1.1 h.2.2.2.2.1.2 h.2.2.2.2.2.1 h.2.2.2.2.2.2.1.1 h.2.2.2.2.2.2.1.2 h.2.2.2.2.2.2.2) (λh=>(λc d f i j k m n o p q s=>[(2,.pointer (some ⟨g1,0,none⟩))]) h.2.1.1 h.2.1.2 h.2.2.1.1 h.2.2.1.2 h.2.2.2.1.1 h.2.2.2.1.2 h.2.2.2.2.1.1 h.2.2.2.2.1.2 h.2.2.2.2.2.1 h.2.2.2.2.2.2.1.1 h.2.2.2.2.2.2.1.2 h.2.2.2.2.2.2.2) (λh=>(λc d f i j k m n o p q s=>[Ch.arr (Ty.slice aC) 101 c d a.book.l,Ch.arr (Ty.int .i64) 3 f i a.book.bA,Ch.arr aC 181 j k a.book.begun,Ch.opt (a.parser.state == (3:Int)) (Ty.int .i64) 3 m n a.parser.order.aW,Ch.arr aD 232 p q a.aN.g.l,Ch.box g2 42 (Iy e),Ch.box g1 93 [.pointer (some ⟨N0,0,none⟩)],Ch.dfs s,Ch.box N0 120 (iE a N1 N2 N3),Ch.box N1 178 [.slice c a.book.l.length d,.slice f a.book.bA.length i,.slice j a.book.begun.length k],Ch.box N2 151 (eF a.parser m n),Ch.box N3 224 (bY a.aN o),Ch.box o 296 [.int .i64 a.aN.g.w,.slice p a.aN.g.l.length q]]) h.2.1.1 h.2.1.2 h.2.2.1.1 h.2.2.1.2 h.2.2.2.1.1 h.2.2.2.1.2 h.2.2.2.2.1.1 h.2.2.2.2.1.2 h.2.2.2.2.2.1 h.2.2.2.2.2.2.1.1 h.2.2.2.2.2.2.1.2 h.2.2.2.2.2.2.2) (λh=>(λc d f i j k m n o p q s=>[Im.sl (Ty.int .u32) (some ⟨0,0,none⟩) 16 cB,Im.sl cD (some ⟨1,0,none⟩) 13 cT,Im.sl cD (some ⟨2,0,none⟩) 14 dD,Im.sl dQ (some ⟨3,0,none⟩) 8 bX]) h.2.1.1 h.2.1.2 h.2.2.1.1 h.2.2.1.2 h.2.2.2.1.1 h.2.2.2.1.2 h.2.2.2.2.1.1 h.2.2.2.2.1.2 h.2.2.2.2.2.1 h.2.2.2.2.2.2.1.1 h.2.2.2.2.2.2.1.2 h.2.2.2.2.2.2.2) ?_ ?_
 ·refine Tb J (λI=> ?_) λI=> ?_
  ·refine Td [] [0,0,0,0,4,4] mo ?_
   refine Db 0 1 ?_
   refine Dq 1 ?_
   refine Dq 2 ?_
   refine Db 3 3 ?_
   refine Db 4 1 ?_
   refine Dq 5 ?_
   refine Dq 6 ?_
   refine Db 7 3 ?_
   refine Dq 8 ?_
   refine Db 9 0 ?_
   refine Dq 10 ?_
   refine Db 11 0 ?_
   have ⟨az,N,O⟩:=bnd I
   refine Dk [4,4,4] [] (qu N) λ⟨⟨a0,a1⟩,⟨P,Q⟩⟩=> ?_
   refine D.frz 0 rfl ?_
   have ⟨a2,R,S⟩:=bnd O
   refine Dk [3,3,3,3] [0,1] (qH R) λ⟨⟨U,V⟩,⟨W,Y⟩,⟨Z,aa⟩⟩=> ?_
   refine Dn ?_
   cases S
   exact E.qX ((),((U,V),(W,Y),(Z,aa),(A3,C3),N4,(P,Q),[])) [7,7,7,5,8,0,0,0,0,1,0,0,0] [1,2,3,4] trivial rfl ⟨rfl,trivial⟩ rfl rfl
  refine Z1 ?_
  have ⟨a3,ab,ac⟩:=bnd I
  refine Lk [3,3,3,3,3,3,3,3,3,3] [1,2,3] (uR ab) λ⟨ad,ae⟩=> ?_
  refine Yl0 ?_
  have ⟨af,ag,ah⟩:=bnd ac
  refine T.rf4 (σ:=bT) (η:=(Option Addr×Nat)×(Option Addr×Nat)×(Option Addr×Nat)) (X:=(List aG)) (θ:=(Option Addr×Nat)) (τ:=((Option Addr×Nat)×(Option Addr×Nat)×(Option Addr×Nat))×(Option Addr×Nat)×(Option Addr×Nat)×Nat×(Option Addr×Nat)) (s1:=af.1) (hx:=λx=>x.1) (λx t=>[.slice t.1 x.length t.2]) (λx t=>[Im.sl aD t.1 t.2 x]) (λ_=>none) _ [Ch.box N0 120 (iE m_ N1 N2 N3)] (λb h=>(λv y z A B F=>[Ch.arr (Ty.slice aC) 101 v y b.l,Ch.arr (Ty.int .i64) 3 z A b.bA,Ch.arr aC 181 B F b.begun,Ch.box N1 178 [.slice v b.l.length y,.slice z b.bA.length A,.slice B b.begun.length F],Ch.box g2 42 (Iy e),Ch.box g1 93 [.pointer (some ⟨N0,0,none⟩)]]) h.1.1 h.1.2 h.2.1.1 h.2.1.2 h.2.2.1 h.2.2.2) (λb h=>(λv y z A B F=>[Im.sl (Ty.int .u32) (some ⟨0,0,none⟩) 16 cB,Im.sl cD (some ⟨1,0,none⟩) 13 cT,Im.sl cD (some ⟨2,0,none⟩) 14 dD,Im.sl dQ (some ⟨3,0,none⟩) 8 bX]) h.1.1 h.1.2 h.2.1.1 h.2.1.2 h.2.2.1 h.2.2.2) 14 [4,4,4,3,8,8,0,1,1,1,1,1,1,0] [0,1,2,3] [1,2,3] rfl rfl (λ_ _=>rfl) rfl (λyl C hY=>(sQ ad N0 N1 A0 C0 A1 C1 A2 C2 N2 A3 C3 none 0 N3 N4 A5 C5 ae hY ((A0,C0),(A1,C1),(A2,C2)) ag:_)) (λ_ _ _ _=>rfl) rfl rfl rfl rfl rfl ?_ rfl ?_
  ·rintro yl K2 b ⟨⟨v,y⟩,⟨z,A⟩,⟨B,F⟩⟩ a4 ⟨a5,a6⟩ a7 ai
   refine Z0 ?_
   refine E.begin λK3=> ?_
   refine Zl ?_
   have ⟨a8,aj,ak⟩:=bnd ai
   refine Lk [3,0,0,0] [0,1] (qH aj) λ⟨⟨al,am⟩,⟨an,ao⟩,⟨ap,aq⟩⟩=> ?_
   refine Z0 ?_
   cases ak
   exact E.on ((al,am),(an,ao),(ap,aq)) [1,1,1,0,0,0,0] [1,2,3,4] rfl rfl rfl rfl
  rintro ⟨u,⟨ar,au⟩,⟨a9,ba⟩,av,⟨aw,ax⟩⟩ ay
  refine Z0 ?_
  cases ah
  exact E.qX ((),((u.1.1,u.1.2),(u.2.1.1,u.2.1.2),(u.2.2.1,u.2.2.2),(ar,au),av,(aw,ax),(ay::[]))) [1,1,1,7,9,2,2,0,2,0,1,1,1] [0,1,2,3] trivial rfl ⟨rfl,trivial⟩ rfl rfl
 rintro ⟨_,⟨⟨c,d⟩,⟨f,i⟩,⟨j,k⟩,⟨m,n⟩,o,⟨p,q⟩,s⟩⟩ _
 refine Z1 ?_
 refine Lt 8 ?_
 refine Z1 ?_
 cases M
 exact E.u3 ((c,d),(f,i),(j,k),(m,n),(none,0),o,(p,q)) 8 [0,7,0,0,0,4,0,3,3,0] [] rfl (.tmp rfl .nil) rfl rfl rfl
theorem tN {s_:bD} {e:ju} {r:Int×bD} (H:hK s_ e=some r):CT G 10 [.pointer (some ⟨N0,0,none⟩),.agg (Iy e).toArray] [Ch.box N0 98 (pd s_ N1 N6),Ch.box N1 120 (iE s_.model N2 N3 N4),Ch.box N2 178 [.slice A0 s_.model.book.l.length C0,.slice A1 s_.model.book.bA.length C1,.slice A2 s_.model.book.begun.length C2],Ch.arr (Ty.slice aC) 101 A0 C0 s_.model.book.l,Ch.arr (Ty.int .i64) 3 A1 C1 s_.model.book.bA,Ch.arr aC 181 A2 C2 s_.model.book.begun,Ch.box N3 151 (eF s_.model.parser A3 C3),Ch.opt (s_.model.parser.state == (3:Int)) (Ty.int .i64) 3 A3 C3 s_.model.parser.order.aW,Ch.box N4 224 (bY s_.model.aN N5),Ch.box N5 296 [.int .i64 s_.model.aN.g.w,.slice A5 s_.model.aN.g.l.length C5],Ch.arr aD 232 A5 C5 s_.model.aN.g.l,Ch.box N6 158 (gv s_.aP A6 C6 A7 C7 A8 C8 A9 C9 A10 C10 A11 C11 A12 C12),Ch.aro bE 103 A10 C10 s_.aP.kept,Ch.arr Ty.bool 4 A12 C12 s_.aP.message.there] [Im.sl aD A6 C6 s_.aP.current.rows,Im.sl aC A7 C7 s_.aP.current.begun,Im.sl aD A8 C8 s_.aP.aM.rows,Im.sl aC A9 C9 s_.aP.aM.begun,Im.sl Ty.str A11 C11 s_.aP.message.parts,Im.sl (Ty.int .u32) (some ⟨0,0,none⟩) 16 cB,Im.sl cD (some ⟨1,0,none⟩) 13 cT,Im.sl cD (some ⟨2,0,none⟩) 14 dD,Im.sl dQ (some ⟨3,0,none⟩) 8 bX] (λh:(Option Addr×Nat)×(Option Addr×Nat)×(Option Addr×Nat)×(Option Addr×Nat)×(Option Addr×Nat)×Nat×(Option Addr×Nat)×(Option Addr×Nat)×(Option Addr×Nat)=> .int .i64 r.1) (λh=>[Ch.box N0 98 (pd r.2 N1 N6),Ch.box N1 120 (iE r.2.model N2 N3 N4),Ch.box N2 178 [.slice h.1.1 r.2.model.book.l.length h.1.2,.slice h.2.1.1 r.2.model.book.bA.length h.2.1.2,.slice h.2.2.1.1 r.2.model.book.begun.length h.2.2.1.2],Ch.arr (Ty.slice aC) 101 h.1.1 h.1.2 r.2.model.book.l,Ch.arr (Ty.int .i64) 3 h.2.1.1 h.2.1.2 r.2.model.book.bA,Ch.arr aC 181 h.2.2.1.1 h.2.2.1.2 r.2.model.book.begun,Ch.box N3 151 (eF r.2.model.parser h.2.2.2.1.1 h.2.2.2.1.2),Ch.opt (r.2.model.parser.state == (3:Int)) (Ty.int .i64) 3 h.2.2.2.1.1 h.2.2.2.1.2 r.2.model.parser.order.aW,Ch.box N4 224 (bY r.2.model.aN h.2.2.2.2.2.1),Ch.box h.2.2.2.2.2.1 296 [.int .i64 r.2.model.aN.g.w,.slice h.2.2.2.2.2.2.1.1 r.2.model.aN.g.l.length h.2.2.2.2.2.2.1.2],Ch.arr aD 232 h.2.2.2.2.2.2.1.1 h.2.2.2.2.2.2.1.2 r.2.model.aN.g.l,Ch.box N6 158 (gv r.2.aP h.2.2.2.2.2.2.2.1.1 h.2.2.2.2.2.2.2.1.2 h.2.2.2.2.2.2.2.2.1 h.2.2.2.2.2.2.2.2.2 A8 C8 A9 C9 A10 C10 A11 C11 A12 C12),Ch.aro bE 103 A10 C10 r.2.aP.kept,Ch.arr Ty.bool 4 A12 C12 r.2.aP.message.there]) (λh=>[Im.sl aD h.2.2.2.2.2.2.2.1.1 h.2.2.2.2.2.2.2.1.2 r.2.aP.current.rows,Im.sl aC h.2.2.2.2.2.2.2.2.1 h.2.2.2.2.2.2.2.2.2 r.2.aP.current.begun,Im.sl aD A8 C8 r.2.aP.aM.rows,Im.sl aC A9 C9 r.2.aP.aM.begun,Im.sl Ty.str A11 C11 r.2.aP.message.parts]):=by
 delta hK at H
 refine Cf Go.Proofs.Tryz.func10 λK=> ?_
 refine Z1 ?_
 refine Lx λg1=> ?_
 refine Y1 ?_
 refine Td [] [0,0,10,10,10] mo ?_
 refine Dq 0 ?_
 refine Dq 1 ?_
 refine Dq 2 ?_
 refine Db 3 1 ?_
 refine Db 4 0 ?_
 have ⟨B,a,b⟩:=bnd H
 refine Dk [0,0,0,0,0,0,0,0,0,0] [5,6,7,8] (vB a) λ⟨⟨c,d⟩,⟨f,i⟩,⟨j,k⟩,⟨m,n⟩,⟨C,F⟩,o,⟨p,q⟩⟩=> ?_
 refine Dq 6 ?_
 refine Dn ?_
 refine Y1 ?_
 refine Td [] [0,0] mo ?_
 refine Dq 0 ?_
 refine Dq 1 ?_
 refine Dq 2 ?_
 refine Db 3 1 ?_
 refine Dq 4 ?_
 refine Dq 5 ?_
 refine Dq 6 ?_
 refine Db 7 1 ?_
 have ⟨I,s,t⟩:=bnd b
 refine Dk [3,3,3,3,3,3,3,3,3,3] [] (oH s) λ⟨⟨J,M⟩,⟨N,O⟩,⟨P,Q⟩⟩=> ?_
 have ⟨R,u,v⟩:=bnd t
 refine Dk [10,10,10] [2,3,4,5,6,0,1] (nK u) λ⟨⟨x,y⟩,⟨z,A⟩⟩=> ?_
 refine Dn ?_
 refine Z1 ?_
 cases v
 exact Eo1 ((c,d),(f,i),(j,k),(m,n),(none,0),o,(p,q),(x,y),(z,A)) [1,4,4,4,4,4,4,4,4,4,4,1,1,1] [0,1,2,3,4]
theorem qV {s_:bD} {r:Int} (H:jA s_=some r):CT G 16 [.pointer (some ⟨N0,0,none⟩)] [Ch.box N0 98 (pd s_ N1 N6),Ch.box N1 120 (iE s_.model N2 N3 N4),Ch.box N2 178 [.slice A0 s_.model.book.l.length C0,.slice A1 s_.model.book.bA.length C1,.slice A2 s_.model.book.begun.length C2],Ch.arr (Ty.slice aC) 101 A0 C0 s_.model.book.l,Ch.arr (Ty.int .i64) 3 A1 C1 s_.model.book.bA,Ch.arr aC 181 A2 C2 s_.model.book.begun,Ch.box N3 151 (eF s_.model.parser A3 C3),Ch.opt (s_.model.parser.state == (3:Int)) (Ty.int .i64) 3 A3 C3 s_.model.parser.order.aW,Ch.box N4 224 (bY s_.model.aN N5),Ch.box N5 296 [.int .i64 s_.model.aN.g.w,.slice A5 s_.model.aN.g.l.length C5],Ch.arr aD 232 A5 C5 s_.model.aN.g.l,Ch.box N6 158 (gv s_.aP A6 C6 A7 C7 A8 C8 A9 C9 A10 C10 A11 C11 A12 C12),Ch.aro bE 103 A10 C10 s_.aP.kept,Ch.arr Ty.bool 4 A12 C12 s_.aP.message.there] [Im.sl aD A6 C6 s_.aP.current.rows,Im.sl aC A7 C7 s_.aP.current.begun,Im.sl aD A8 C8 s_.aP.aM.rows,Im.sl aC A9 C9 s_.aP.aM.begun,Im.sl Ty.str A11 C11 s_.aP.message.parts] (λ_:Unit=> .int .i64 r) (λh=>[Ch.box N0 98 (pd s_ N1 N6),Ch.box N1 120 (iE s_.model N2 N3 N4),Ch.box N2 178 [.slice A0 s_.model.book.l.length C0,.slice A1 s_.model.book.bA.length C1,.slice A2 s_.model.book.begun.length C2],Ch.arr (Ty.slice aC) 101 A0 C0 s_.model.book.l,Ch.arr (Ty.int .i64) 3 A1 C1 s_.model.book.bA,Ch.arr aC 181 A2 C2 s_.model.book.begun,Ch.box N3 151 (eF s_.model.parser A3 C3),Ch.opt (s_.model.parser.state == (3:Int)) (Ty.int .i64) 3 A3 C3 s_.model.parser.order.aW,Ch.box N4 224 (bY s_.model.aN N5),Ch.box N5 296 [.int .i64 s_.model.aN.g.w,.slice A5 s_.model.aN.g.l.length C5],Ch.arr aD 232 A5 C5 s_.model.aN.g.l,Ch.box N6 158 (gv s_.aP A6 C6 A7 C7 A8 C8 A9 C9 A10 C10 A11 C11 A12 C12),Ch.aro bE 103 A10 C10 s_.aP.kept,Ch.arr Ty.bool 4 A12 C12 s_.aP.message.there]) (λh=>[]):=by
 delta jA at H
 refine Cf Go.Proofs.Tryz.func16 λK=> ?_
 refine Z2 ?_
 cases H
 exact Eo1 () [0,0,0,0,0,0,0,0,0,0,0,0,0,0] []
theorem tO {c:gp} {kT:List nF} {r:Bool} (H:kI c kT=some r):CT G 3 [.agg (Ix c).toArray,.slice A0 kT.length C0] [] [Im.sl nh A0 C0 kT,Im.sl (Ty.int .u32) (some ⟨0,0,none⟩) 16 cB,Im.sl cD (some ⟨1,0,none⟩) 13 cT,Im.sl cD (some ⟨2,0,none⟩) 14 dD,Im.sl dQ (some ⟨3,0,none⟩) 8 bX] (λ_:Unit=> .bool r) (λh=>[]) (λh=>[]):=by
 delta kI at H
 refine Cf Go.Proofs.Tryz.func3 λK=> ?_
 refine Z1 ?_
 refine Lx λg1=> ?_
 refine Z2 ?_
 have ⟨r2,h3,H4⟩:=bnd H
 refine Lk [] [1] (yv h3) λ⟨⟩=> ?_
 refine Z0 ?_
 refine Tb H4 (λH6=> ?_) λH6=> ?_
 ·refine Z1 ?_
  cases H6
  exact Eo1 () [] []
 refine Z1 ?_
 have ⟨r7,h8,H9⟩:=bnd H6
 refine Lk [] [] (Bz h8) λ⟨⟩=> ?_
 refine Z0 ?_
 refine Ll λcr=> ?_
 refine Ll λct=> ?_
 refine Lt 1 ?_
 refine Lt 1 ?_
 refine Z1 ?_
 have ⟨ay,cu,cv⟩:=bnd H9
 refine Lk [] [] (uM cu) λ⟨az,t,u,⟨cw,cx⟩,⟨cy,cz⟩,⟨c0,c1⟩,x,⟨c2,c3⟩,⟨e9,fa⟩,y,c4,⟨c5,c6⟩,z,⟨cc,cd⟩,⟨ce,cf⟩,⟨cg,ch⟩,⟨ci,cj⟩,⟨c7,c8⟩,⟨ck,cl⟩,⟨c9,da⟩⟩=> ?_
 refine Z2 ?_
 refine Ly (Yl.pn rfl rfl rfl rfl rfl rfl) ?_
 refine Z0 ?_
 refine T.cond rfl (λh=>nomatch h) (λ_=> ?_)
 refine Z3 ?_
 have ⟨br,db,cm⟩:=bnd cv
 refine Tj (η:=bD×((Option Addr×Nat)×(Option Addr×Nat)×(Option Addr×Nat)×(Option Addr×Nat)×Nat×(Option Addr×Nat)×(Option Addr×Nat)×(Option Addr×Nat)×(Option Addr×Nat)×(Option Addr×Nat)×(Option Addr×Nat)×(Option Addr×Nat)×(Option Addr×Nat))) (λh=>br = .inl h.1) (λ_=>[]) [] (λh=>(λd=>(λa2 a3 a4 a5 a6 a7 a8 a9 ba bb bc bd be bf bg bh bi bj bk bl bm bn bo bp bq=>[Ch.arr (Ty.slice aC) 101 a2 a3 d.model.book.l,Ch.arr (Ty.int .i64) 3 a4 a5 d.model.book.bA,Ch.arr aC 181 a6 a7 d.model.book.begun,Ch.opt (d.model.parser.state == (3:Int)) (Ty.int .i64) 3 a8 a9 d.model.parser.order.aW,Ch.arr aD 232 bb bc d.model.aN.g.l,Ch.aro bE 103 bl bm d.aP.kept,Ch.arr Ty.bool 4 bp bq d.aP.message.there,Ch.box az 98 (pd d t z),Ch.box t 120 (iE d.model u x y),Ch.box u 178 [.slice a2 d.model.book.l.length a3,.slice a4 d.model.book.bA.length a5,.slice a6 d.model.book.begun.length a7],Ch.box x 151 (eF d.model.parser a8 a9),Ch.box y 224 (bY d.model.aN ba),Ch.box z 158 (gv d.aP bd be bf bg bh bi bj bk bl bm bn bo bp bq),Ch.box ba 296 [.int .i64 d.model.aN.g.w,.slice bb d.model.aN.g.l.length bc]]) h.2.1.1 h.2.1.2 h.2.2.1.1 h.2.2.1.2 h.2.2.2.1.1 h.2.2.2.1.2 h.2.2.2.2.1.1 h.2.2.2.2.1.2 h.2.2.2.2.2.1 h.2.2.2.2.2.2.1.1 h.2.2.2.2.2.2.1.2 h.2.2.2.2.2.2.2.1.1 h.2.2.2.2.2.2.2.1.2 h.2.2.2.2.2.2.2.2.1.1 h.2.2.2.2.2.2.2.2.1.2 h.2.2.2.2.2.2.2.2.2.1.1 h.2.2.2.2.2.2.2.2.2.1.2 h.2.2.2.2.2.2.2.2.2.2.1.1 h.2.2.2.2.2.2.2.2.2.2.1.2 h.2.2.2.2.2.2.2.2.2.2.2.1.1 h.2.2.2.2.2.2.2.2.2.2.2.1.2 h.2.2.2.2.2.2.2.2.2.2.2.2.1.1 h.2.2.2.2.2.2.2.2.2.2.2.2.1.2 h.2.2.2.2.2.2.2.2.2.2.2.2.2.1 h.2.2.2.2.2.2.2.2.2.2.2.2.2.2) h.1) [14,15,16] (λh=>(λd=>(λa2 a3 a4 a5 a6 a7 a8 a9 ba bb bc bd be bf bg bh bi bj bk bl bm bn bo bp bq=>[Im.sl aD bd be d.aP.current.rows,Im.sl aC bf bg d.aP.current.begun,Im.sl aD bh bi d.aP.aM.rows,Im.sl aC bj bk d.aP.aM.begun,Im.sl Ty.str bn bo d.aP.message.parts]) h.2.1.1 h.2.1.2 h.2.2.1.1 h.2.2.1.2 h.2.2.2.1.1 h.2.2.2.1.2 h.2.2.2.2.1.1 h.2.2.2.2.1.2 h.2.2.2.2.2.1 h.2.2.2.2.2.2.1.1 h.2.2.2.2.2.2.1.2 h.2.2.2.2.2.2.2.1.1 h.2.2.2.2.2.2.2.1.2 h.2.2.2.2.2.2.2.2.1.1 h.2.2.2.2.2.2.2.2.1.2 h.2.2.2.2.2.2.2.2.2.1.1 h.2.2.2.2.2.2.2.2.2.1.2 h.2.2.2.2.2.2.2.2.2.2.1.1 h.2.2.2.2.2.2.2.2.2.2.1.2 h.2.2.2.2.2.2.2.2.2.2.2.1.1 h.2.2.2.2.2.2.2.2.2.2.2.1.2 h.2.2.2.2.2.2.2.2.2.2.2.2.1.1 h.2.2.2.2.2.2.2.2.2.2.2.2.1.2 h.2.2.2.2.2.2.2.2.2.2.2.2.2.1 h.2.2.2.2.2.2.2.2.2.2.2.2.2.2) h.1) ?_ ?_
 ·refine Yl0 ?_
  refine Tq (η:=(Option Addr×Nat)×(Option Addr×Nat)×(Option Addr×Nat)×(Option Addr×Nat)×Nat×(Option Addr×Nat)×(Option Addr×Nat)×(Option Addr×Nat)×(Option Addr×Nat)×(Option Addr×Nat)×(Option Addr×Nat)×(Option Addr×Nat)×(Option Addr×Nat)) (λb h=>(λA B C F I J M N O P Q f i j k m n o p aw ax q s R S=>[(8,.int .i64 b.2.1),(9,.int .i64 b.2.2)]) h.1.1 h.1.2 h.2.1.1 h.2.1.2 h.2.2.1.1 h.2.2.1.2 h.2.2.2.1.1 h.2.2.2.1.2 h.2.2.2.2.1 h.2.2.2.2.2.1.1 h.2.2.2.2.2.1.2 h.2.2.2.2.2.2.1.1 h.2.2.2.2.2.2.1.2 h.2.2.2.2.2.2.2.1.1 h.2.2.2.2.2.2.2.1.2 h.2.2.2.2.2.2.2.2.1.1 h.2.2.2.2.2.2.2.2.1.2 h.2.2.2.2.2.2.2.2.2.1.1 h.2.2.2.2.2.2.2.2.2.1.2 h.2.2.2.2.2.2.2.2.2.2.1.1 h.2.2.2.2.2.2.2.2.2.2.1.2 h.2.2.2.2.2.2.2.2.2.2.2.1.1 h.2.2.2.2.2.2.2.2.2.2.2.1.2 h.2.2.2.2.2.2.2.2.2.2.2.2.1 h.2.2.2.2.2.2.2.2.2.2.2.2.2) [1,7] (λb h=>(λA B C F I J M N O P Q f i j k m n o p aw ax q s R S=>[Ch.arr (Ty.slice aC) 101 A B b.1.model.book.l,Ch.arr (Ty.int .i64) 3 C F b.1.model.book.bA,Ch.arr aC 181 I J b.1.model.book.begun,Ch.opt (b.1.model.parser.state == (3:Int)) (Ty.int .i64) 3 M N b.1.model.parser.order.aW,Ch.arr aD 232 P Q b.1.model.aN.g.l,Ch.aro bE 103 aw ax b.1.aP.kept,Ch.arr Ty.bool 4 R S b.1.aP.message.there,Ch.box az 98 (pd b.1 t z),Ch.box t 120 (iE b.1.model u x y),Ch.box u 178 [.slice A b.1.model.book.l.length B,.slice C b.1.model.book.bA.length F,.slice I b.1.model.book.begun.length J],Ch.box x 151 (eF b.1.model.parser M N),Ch.box y 224 (bY b.1.model.aN O),Ch.box z 158 (gv b.1.aP f i j k m n o p aw ax q s R S),Ch.box O 296 [.int .i64 b.1.model.aN.g.w,.slice P b.1.model.aN.g.l.length Q]]) h.1.1 h.1.2 h.2.1.1 h.2.1.2 h.2.2.1.1 h.2.2.1.2 h.2.2.2.1.1 h.2.2.2.1.2 h.2.2.2.2.1 h.2.2.2.2.2.1.1 h.2.2.2.2.2.1.2 h.2.2.2.2.2.2.1.1 h.2.2.2.2.2.2.1.2 h.2.2.2.2.2.2.2.1.1 h.2.2.2.2.2.2.2.1.2 h.2.2.2.2.2.2.2.2.1.1 h.2.2.2.2.2.2.2.2.1.2 h.2.2.2.2.2.2.2.2.2.1.1 h.2.2.2.2.2.2.2.2.2.1.2 h.2.2.2.2.2.2.2.2.2.2.1.1 h.2.2.2.2.2.2.2.2.2.2.1.2 h.2.2.2.2.2.2.2.2.2.2.2.1.1 h.2.2.2.2.2.2.2.2.2.2.2.1.2 h.2.2.2.2.2.2.2.2.2.2.2.2.1 h.2.2.2.2.2.2.2.2.2.2.2.2.2) [14,15,16] (λb h=>(λA B C F I J M N O P Q f i j k m n o p aw ax q s R S=>[Im.sl aD f i b.1.aP.current.rows,Im.sl aC j k b.1.aP.current.begun,Im.sl aD m n b.1.aP.aM.rows,Im.sl aC o p b.1.aP.aM.begun,Im.sl Ty.str q s b.1.aP.message.parts]) h.1.1 h.1.2 h.2.1.1 h.2.1.2 h.2.2.1.1 h.2.2.1.2 h.2.2.2.1.1 h.2.2.2.1.2 h.2.2.2.2.1 h.2.2.2.2.2.1.1 h.2.2.2.2.2.1.2 h.2.2.2.2.2.2.1.1 h.2.2.2.2.2.2.1.2 h.2.2.2.2.2.2.2.1.1 h.2.2.2.2.2.2.2.1.2 h.2.2.2.2.2.2.2.2.1.1 h.2.2.2.2.2.2.2.2.1.2 h.2.2.2.2.2.2.2.2.2.1.1 h.2.2.2.2.2.2.2.2.2.1.2 h.2.2.2.2.2.2.2.2.2.2.1.1 h.2.2.2.2.2.2.2.2.2.2.1.2 h.2.2.2.2.2.2.2.2.2.2.2.1.1 h.2.2.2.2.2.2.2.2.2.2.2.1.2 h.2.2.2.2.2.2.2.2.2.2.2.2.1 h.2.2.2.2.2.2.2.2.2.2.2.2.2) ((cw,cx),(cy,cz),(c0,c1),(c2,c3),c4,(c5,c6),(cc,cd),(ce,cf),(cg,ch),(ci,cj),(c7,c8),(ck,cl),(c9,da)) [3,3,3,4,6,7,7,0,0,0,0,0,1,0,0,0,0] [0,1,2,3,4] db ?_
  rintro k_ b ⟨⟨A,B⟩,⟨C,F⟩,⟨I,J⟩,⟨M,N⟩,O,⟨P,Q⟩,⟨f,i⟩,⟨j,k⟩,⟨m,n⟩,⟨o,p⟩,⟨aw,ax⟩,⟨q,s⟩,⟨R,S⟩⟩ dc dd de cn
  refine Y2 ?_
  have ⟨df,dg,dh⟩:=bnd dd
  refine Tj0 [(34,.bool df)] [1,7,8,9] [] [7,8,9,10,11,12,13,14,15,16,0,1,2,3,4,5,6] ?_ ?_
  ·refine Z0 ?_
   refine Lw 31 dg (λbs=> ?_) λbs=> ?_
   ·refine Z0 ?_
    cases bs
    exact Eg0 [7,7,7,7,7,7,7,7,7,7,0,0,0,0,0,0,0] 0
   refine Z0 ?_
   cases bs
   exact Eg0 [7,7,7,7,7,7,7,7,7,7,0,0,0,0,0,0,0] 0
  refine Tb dh (λbt=> ?_) λbt=> ?_
  ·refine Z1 ?_
   refine Zl ?_
   refine Z1 ?_
   have ⟨e,bu,di⟩:=bnd bt
   refine L.addr 10 rfl (cQ bu) λbv bw dj=> ?_
   subst dj
   refine Ly (Yl.ia bu rfl rfl rfl rfl rfl rfl) ?_
   refine L.el 10 rfl (aY bu).2 ?_
   rintro _
   refine Lc 0 0 ?_
   refine Ll λdk=> ?_
   refine Lt 0 ?_
   refine Z3 ?_
   refine Z1 ?_
   have ⟨a,dl,dm⟩:=bnd di
   refine Tjh (η:=(Option Addr×Nat)×(Option Addr×Nat)×(Option Addr×Nat)×(Option Addr×Nat)×(Option Addr×Nat)×Nat×(Option Addr×Nat)×(Option Addr×Nat)×(Option Addr×Nat)×(Option Addr×Nat)×(Option Addr×Nat)×(Option Addr×Nat)×(Option Addr×Nat)×(Option Addr×Nat)) (λh=>(λa0 a1 U V W X Y Z aa ac ad ae af ag ah ai aj ak al am an ao ap aq ar au av=>[(11,.slice a0 a.1.length a1)]) h.1.1 h.1.2 h.2.1.1 h.2.1.2 h.2.2.1.1 h.2.2.1.2 h.2.2.2.1.1 h.2.2.2.1.2 h.2.2.2.2.1.1 h.2.2.2.2.1.2 h.2.2.2.2.2.1 h.2.2.2.2.2.2.1.1 h.2.2.2.2.2.2.1.2 h.2.2.2.2.2.2.2.1.1 h.2.2.2.2.2.2.2.1.2 h.2.2.2.2.2.2.2.2.1.1 h.2.2.2.2.2.2.2.2.1.2 h.2.2.2.2.2.2.2.2.2.1.1 h.2.2.2.2.2.2.2.2.2.1.2 h.2.2.2.2.2.2.2.2.2.2.1.1 h.2.2.2.2.2.2.2.2.2.2.1.2 h.2.2.2.2.2.2.2.2.2.2.2.1.1 h.2.2.2.2.2.2.2.2.2.2.2.1.2 h.2.2.2.2.2.2.2.2.2.2.2.2.1.1 h.2.2.2.2.2.2.2.2.2.2.2.2.1.2 h.2.2.2.2.2.2.2.2.2.2.2.2.2.1 h.2.2.2.2.2.2.2.2.2.2.2.2.2.2) [1,7,8,9] (λh=>(λa0 a1 U V W X Y Z aa ac ad ae af ag ah ai aj ak al am an ao ap aq ar au av=>[Ch.arr gQ 49 a0 a1 a.1,Ch.arr (Ty.slice aC) 101 U V a.2.model.book.l,Ch.arr (Ty.int .i64) 3 W X a.2.model.book.bA,Ch.arr aC 181 Y Z a.2.model.book.begun,Ch.opt (a.2.model.parser.state == (3:Int)) (Ty.int .i64) 3 aa ac a.2.model.parser.order.aW,Ch.arr aD 232 ae af a.2.model.aN.g.l,Ch.aro bE 103 ao ap a.2.aP.kept,Ch.arr Ty.bool 4 au av a.2.aP.message.there,Ch.box az 98 (pd a.2 t z),Ch.box t 120 (iE a.2.model u x y),Ch.box u 178 [.slice U a.2.model.book.l.length V,.slice W a.2.model.book.bA.length X,.slice Y a.2.model.book.begun.length Z],Ch.box x 151 (eF a.2.model.parser aa ac),Ch.box y 224 (bY a.2.model.aN ad),Ch.box z 158 (gv a.2.aP ag ah ai aj ak al am an ao ap aq ar au av),Ch.box ad 296 [.int .i64 a.2.model.aN.g.w,.slice ae a.2.model.aN.g.l.length af]]) h.1.1 h.1.2 h.2.1.1 h.2.1.2 h.2.2.1.1 h.2.2.1.2 h.2.2.2.1.1 h.2.2.2.1.2 h.2.2.2.2.1.1 h.2.2.2.2.1.2 h.2.2.2.2.2.1 h.2.2.2.2.2.2.1.1 h.2.2.2.2.2.2.1.2 h.2.2.2.2.2.2.2.1.1 h.2.2.2.2.2.2.2.1.2 h.2.2.2.2.2.2.2.2.1.1 h.2.2.2.2.2.2.2.2.1.2 h.2.2.2.2.2.2.2.2.2.1.1 h.2.2.2.2.2.2.2.2.2.1.2 h.2.2.2.2.2.2.2.2.2.2.1.1 h.2.2.2.2.2.2.2.2.2.2.1.2 h.2.2.2.2.2.2.2.2.2.2.2.1.1 h.2.2.2.2.2.2.2.2.2.2.2.1.2 h.2.2.2.2.2.2.2.2.2.2.2.2.1.1 h.2.2.2.2.2.2.2.2.2.2.2.2.1.2 h.2.2.2.2.2.2.2.2.2.2.2.2.2.1 h.2.2.2.2.2.2.2.2.2.2.2.2.2.2) [0,8,9,10] (λh=>(λa0 a1 U V W X Y Z aa ac ad ae af ag ah ai aj ak al am an ao ap aq ar au av=>[Im.sl aD ag ah a.2.aP.current.rows,Im.sl aC ai aj a.2.aP.current.begun,Im.sl aD ak al a.2.aP.aM.rows,Im.sl aC am an a.2.aP.aM.begun,Im.sl Ty.str aq ar a.2.aP.message.parts]) h.1.1 h.1.2 h.2.1.1 h.2.1.2 h.2.2.1.1 h.2.2.1.2 h.2.2.2.1.1 h.2.2.2.1.2 h.2.2.2.2.1.1 h.2.2.2.2.1.2 h.2.2.2.2.2.1 h.2.2.2.2.2.2.1.1 h.2.2.2.2.2.2.1.2 h.2.2.2.2.2.2.2.1.1 h.2.2.2.2.2.2.2.1.2 h.2.2.2.2.2.2.2.2.1.1 h.2.2.2.2.2.2.2.2.1.2 h.2.2.2.2.2.2.2.2.2.1.1 h.2.2.2.2.2.2.2.2.2.1.2 h.2.2.2.2.2.2.2.2.2.2.1.1 h.2.2.2.2.2.2.2.2.2.2.1.2 h.2.2.2.2.2.2.2.2.2.2.2.1.1 h.2.2.2.2.2.2.2.2.2.2.2.1.2 h.2.2.2.2.2.2.2.2.2.2.2.2.1.1 h.2.2.2.2.2.2.2.2.2.2.2.2.1.2 h.2.2.2.2.2.2.2.2.2.2.2.2.2.1 h.2.2.2.2.2.2.2.2.2.2.2.2.2.2) ?_ ?_
   ·refine Zl ?_
    refine Z1 ?_
    refine Tb dl (λbx=> ?_) λbx=> ?_
    ·refine Z0 ?_
     have ⟨fb,dn,dp⟩:=bnd bx
     refine Lk [] [] (BA dn) λ⟨⟩=> ?_
     have ⟨fc,dq,dr⟩:=bnd dp
     refine Lk [1,1,1,8,8,8,1,7,1,2,5,1,4,4] [1,2,3,4,5,12,13,14,15] (tN dq) λ⟨⟨ds,dt⟩,⟨du,dv⟩,⟨dw,dx⟩,⟨dy,dz⟩,⟨fd,fe⟩,d0,⟨d1,d2⟩,⟨d3,d4⟩,⟨d5,d6⟩⟩=> ?_
     refine Z0 ?_
     refine E.gA gQ 49 ?_
     cases dr
     exact Eg ((none,0),(ds,dt),(du,dv),(dw,dx),(dy,dz),d0,(d1,d2),(d3,d4),(d5,d6),(m,n),(o,p),(aw,ax),(q,s),(R,S)) trivial [0,3,3,3,4,6,7,7,0,0,0,0,0,1,0,0,0,0,0] [0,1,2,3,4] 5
    refine Z1 ?_
    refine Tb bx (λbz=> ?_) λbz=> ?_
    ·refine Z0 ?_
     have ⟨ff,d7,d8⟩:=bnd bz
     refine Lk [1,1,1,8,8,8,1,7,1,2,5,1,4,4] [1,2,3,4,5,12] (nL d7) λ⟨⟨d9,ea⟩,⟨fg,fh⟩,⟨eb,ec⟩,⟨ed,ee⟩,⟨ef,eg⟩⟩=> ?_
     refine Z0 ?_
     cases d8
     exact Eg ((d9,ea),(A,B),(C,F),(I,J),(M,N),O,(P,Q),(f,i),(j,k),(m,n),(o,p),(eb,ec),(ed,ee),(ef,eg)) trivial [0,3,3,3,4,6,7,7,0,0,0,0,0,1,0,0,0,0,0] [0,1,2,3,4] 5
    refine Td [] [0,7,7,7] mo ?_
    refine Dq 0 ?_
    refine Dq 1 ?_
    refine Dq 2 ?_
    refine Db 3 0 ?_
    refine Dq 4 ?_
    refine Db 5 0 ?_
    have ⟨fi,eh,ei⟩:=bnd bz
    refine Dk [] [] (vU eh) λ⟨⟩=> ?_
    have ⟨fj,ej,ek⟩:=bnd ei
    refine Dk [0,0,0,4,4,4,0,3,0,1,1,0,0,0] [1,2,3,4,5,12] (lC ej) λ⟨⟨em,en⟩,⟨fk,fl⟩,⟨eo,ep⟩,⟨eq,er⟩,⟨es,et⟩⟩=> ?_
    refine Dq 8 ?_
    refine Dq 9 ?_
    refine Dq 10 ?_
    refine Dq 11 ?_
    refine Dn ?_
    refine Z0 ?_
    cases ek
    exact Eg ((em,en),(A,B),(C,F),(I,J),(M,N),O,(P,Q),(f,i),(j,k),(eo,ep),(eq,er),(es,et),(q,s),(R,S)) trivial [4,7,7,7,8,10,11,11,4,4,4,4,4,5,4,0,0,0,0] [0,1,2,3,4] 5
   rintro ⟨⟨a0,a1⟩,⟨U,V⟩,⟨W,X⟩,⟨Y,Z⟩,⟨aa,ac⟩,ad,⟨ae,af⟩,⟨ag,ah⟩,⟨ai,aj⟩,⟨ak,al⟩,⟨am,an⟩,⟨ao,ap⟩,⟨aq,ar⟩,⟨au,av⟩⟩
   refine Z1 ?_
   have ⟨b0,eu,co⟩:=bnd dm
   refine T.qB (η:=Unit×Unit) (λh=>b0 = .inl h.1) (λh=>(λb1=>[(1,.slice (some ⟨bv,bw,none⟩) kT.length C0),(7,.pointer (some ⟨az,0,none⟩)),(8,.int .i64 (IntKind.i64.wrap (b.2.1+(Go.bits .and .i64 e.later 7)))),(9,.int .i64 b.2.2)]) h.1) (λh=>(λb1=>[Ch.box az 98 (pd a.2 t z),Ch.box t 120 (iE a.2.model u x y),Ch.box u 178 [.slice U a.2.model.book.l.length V,.slice W a.2.model.book.bA.length X,.slice Y a.2.model.book.begun.length Z],Ch.box x 151 (eF a.2.model.parser aa ac),Ch.box y 224 (bY a.2.model.aN ad),Ch.box z 158 (gv a.2.aP ag ah ai aj ak al am an ao ap aq ar au av),Ch.box ad 296 [.int .i64 a.2.model.aN.g.w,.slice ae a.2.model.aN.g.l.length af],Ch.box dk 38 (OA e),Ch.box ct 25 (Ix r7.2),Ch.box cr 30 (MF r7.1),Ch.box g1 25 (Ix c),Ch.arr (Ty.slice aC) 101 U V a.2.model.book.l,Ch.arr (Ty.int .i64) 3 W X a.2.model.book.bA,Ch.arr aC 181 Y Z a.2.model.book.begun,Ch.opt (a.2.model.parser.state == (3:Int)) (Ty.int .i64) 3 aa ac a.2.model.parser.order.aW,Ch.arr aD 232 ae af a.2.model.aN.g.l,Ch.aro bE 103 ao ap a.2.aP.kept,Ch.arr Ty.bool 4 au av a.2.aP.message.there]) h.1) (λh=>(λb1=>[Im.sl aD ag ah a.2.aP.current.rows,Im.sl aC ai aj a.2.aP.current.begun,Im.sl aD ak al a.2.aP.aM.rows,Im.sl aC am an a.2.aP.aM.begun,Im.sl Ty.str aq ar a.2.aP.message.parts,Im.cells bv (bw+b.2.2.toNat*8) [.int .i64 e.kind,.int .i64 e.later,.int .i64 e.from_,.string e.text,.int .i64 e.event.kind,.string e.event.text,.int .i64 e.event.w,.int .i64 e.event.h],Im.sl aD f i b.1.aP.current.rows,Im.sl aC j k b.1.aP.current.begun,Im.sl aD m n b.1.aP.aM.rows,Im.sl aC o p b.1.aP.aM.begun,Im.sl Ty.str q s b.1.aP.message.parts,Im.sl aD cc cd ay.aP.current.rows,Im.sl aC ce cf ay.aP.current.begun,Im.sl aD cg ch ay.aP.aM.rows,Im.sl aC ci cj ay.aP.aM.begun,Im.sl Ty.str ck cl ay.aP.message.parts,Im.sl nh (some ⟨bv,bw,none⟩) C0 kT,Im.sl (Ty.int .u32) (some ⟨0,0,none⟩) 16 cB,Im.sl cD (some ⟨1,0,none⟩) 13 cT,Im.sl cD (some ⟨2,0,none⟩) 14 dD,Im.sl dQ (some ⟨3,0,none⟩) 8 bX]) h.1) ?_ ?_
   ·refine Yl0 ?_
    refine Tq (η:=Unit) (λb2 h=>[(73,.int .i64 b2)]) [1,7,8,9,71,72] (λ_ _=>[]) [8,9,10,11,12,13,14,15,16,17,18,0,1,2,3,4,5,6,7] (λ_ _=>[]) () [8,8,8,8,8,8,8,8,8,8,8,0,0,0,0,0,0,0,0] [] eu ?_
    rintro k_ b2 ⟨⟩ ev ew ex cp
    refine Y2 ?_
    refine Tb ew (λb3=> ?_) λb3=> ?_
    ·refine Z1 ?_
     refine Zl ?_
     refine Z1 ?_
     have ⟨cq,b4,ey⟩:=bnd b3
     refine L.lN 11 rfl (cQ b4) λfm ez=> ?_
     subst ez
     refine Ly (Yl.ia b4 rfl rfl rfl rfl rfl rfl) ?_
     refine Ly (Yl.lo (v:= .agg #[.int .i64 cq.to,.string cq.data]) 11 b2.toNat 0 (aY b4).2 rfl rfl rfl rfl (λ_=>rfl)) ?_
     refine Ll λfn=> ?_
     refine Lt 0 ?_
     refine Z1 ?_
     have ⟨fo,e0,e1⟩:=bnd ey
     refine Lk [] [17] (uP e0) λ⟨fp,fq⟩=> ?_
     refine Z0 ?_
     refine Ll λfr=> ?_
     refine Lt 0 ?_
     refine Y1 ?_
     have ⟨e2,e3,e4⟩:=bnd e1
     refine Tj0 [(111,.bool e2)] [1,7,8,9,71,72,73] [] [0,1,2,3,4,5,6,7,8,9,10,11,12,13,14,15,16,17,18,19,20] ?_ ?_
     ·refine Td [] [0,0,0,0,0,0,0,0,0,0,0,0,0,0,0,0,0,0,0,0,0] mo ?_
      refine Dq 0 ?_
      refine Dq 1 ?_
      refine Dq 2 ?_
      refine D.cs 85 e3 rfl (λhc b5=> ?_) (λhc b5=> ?_)
      ·refine Ds 3 ?_
       refine Ds 4 ?_
       refine Ds 5 ?_
       refine Ds 6 ?_
       refine Ds 7 ?_
       refine Dq 8 ?_
       refine Dq 9 ?_
       refine Ds 10 ?_
       refine Ds 11 ?_
       refine Ds 12 ?_
       refine Ds 13 ?_
       refine Ds 14 ?_
       refine Ds 15 ?_
       refine Ds 16 ?_
       refine Ds 17 ?_
       refine Dq 18 ?_
       refine Dq 19 ?_
       refine Ds 20 ?_
       refine Ds 21 ?_
       refine Ds 22 ?_
       refine Dq 23 ?_
       refine Dq 24 ?_
       refine Ds 25 ?_
       refine Ds 26 ?_
       refine Ds 27 ?_
       refine Dq 28 ?_
       refine Dn ?_
       cases b5
       exact Eg0 [0,0,0,0,0,0,0,0,0,0,0,0,0,0,0,0,0,0,0,0,0] 0
      refine Dq 3 ?_
      refine Db 4 0 ?_
      refine Dq 5 ?_
      have ⟨fs,e5,e6⟩:=bnd b5
      refine D.one rfl rfl rfl (Dp.ab [2,2,2,11,11,11,2,10,2,3,8,2,7,7] [1,2,3,4,5] [14,14,0,0,0,3,4,6,4,7,7,7,7,7,0,0,0,0,0,0,0] (Ac.call (qV e5) rfl rfl rfl rfl) rfl rfl rfl rfl rfl rfl (λ_=>rfl) ?_)
      rintro ⟨⟩
      refine Dq 7 ?_
      refine Dq 8 ?_
      refine Dq 9 ?_
      refine D.cs 92 e6 rfl (λhc b6=> ?_) (λhc b6=> ?_)
      ·refine Ds 10 ?_
       refine Ds 11 ?_
       refine Ds 12 ?_
       refine Ds 13 ?_
       refine Ds 14 ?_
       refine Ds 15 ?_
       refine Ds 16 ?_
       refine Ds 17 ?_
       refine Dq 18 ?_
       refine Dq 19 ?_
       refine Ds 20 ?_
       refine Ds 21 ?_
       refine Ds 22 ?_
       refine Dq 23 ?_
       refine Dq 24 ?_
       refine Ds 25 ?_
       refine Ds 26 ?_
       refine Ds 27 ?_
       refine Dq 28 ?_
       refine Dn ?_
       cases b6
       exact Eg0 [0,0,0,0,0,0,0,0,0,0,0,0,0,0,0,0,0,0,0,0,0] 0
      refine Dq 10 ?_
      refine Db 11 0 ?_
      refine Dq 12 ?_
      refine Dq 13 ?_
      refine D.cs 96 b6 rfl (λhc b7=> ?_) (λhc b7=> ?_)
      ·refine Dq 14 ?_
       refine Db 15 0 ?_
       refine Dq 16 ?_
       refine Dq 17 ?_
       refine Dq 18 ?_
       refine Dq 19 ?_
       refine D.cs 102 b7 rfl (λhc b8=> ?_) (λhc b8=> ?_)
       ·refine Ds 20 ?_
        refine Ds 21 ?_
        refine Ds 22 ?_
        refine Dq 23 ?_
        refine Dq 24 ?_
        refine Ds 25 ?_
        refine Ds 26 ?_
        refine Ds 27 ?_
        refine Dq 28 ?_
        refine Dn ?_
        cases b8
        exact Eg0 [0,0,0,0,0,0,0,0,0,0,0,0,0,0,0,0,0,0,0,0,0] 0
       refine Dq 20 ?_
       refine Db 21 1 ?_
       refine Dq 22 ?_
       refine Dq 23 ?_
       refine Dq 24 ?_
       refine D.cs 107 b8 rfl (λhc b9=> ?_) (λhc b9=> ?_)
       ·refine Ds 25 ?_
        refine Ds 26 ?_
        refine Ds 27 ?_
        refine Dq 28 ?_
        refine Dn ?_
        cases b9
        exact Eg0 [0,0,0,0,0,0,0,0,0,0,0,0,0,0,0,0,0,0,0,0,0] 0
       refine Dq 25 ?_
       refine Db 26 1 ?_
       refine Dq 27 ?_
       refine Dq 28 ?_
       refine Dn ?_
       cases b9
       exact Eg0 [0,0,0,0,0,0,0,0,0,0,0,0,0,0,0,0,0,0,0,0,0] 0
      refine Ds 14 ?_
      refine Ds 15 ?_
      refine Ds 16 ?_
      refine Dq 17 ?_
      refine Dq 18 ?_
      refine Dq 19 ?_
      refine Dq 20 ?_
      refine Db 21 1 ?_
      refine Dq 22 ?_
      refine Dq 23 ?_
      refine Dq 24 ?_
      refine D.cs 107 b7 rfl (λhc ca=> ?_) (λhc ca=> ?_)
      ·refine Ds 25 ?_
       refine Ds 26 ?_
       refine Ds 27 ?_
       refine Dq 28 ?_
       refine Dn ?_
       cases ca
       exact Eg0 [0,0,0,0,0,0,0,0,0,0,0,0,0,0,0,0,0,0,0,0,0] 0
      refine Dq 25 ?_
      refine Db 26 1 ?_
      refine Dq 27 ?_
      refine Dq 28 ?_
      refine Dn ?_
      cases ca
      exact Eg0 [0,0,0,0,0,0,0,0,0,0,0,0,0,0,0,0,0,0,0,0,0] 0
     refine Tb e4 (λcb=> ?_) λcb=> ?_
     ·refine Z1 ?_
      obtain ⟨ft,hz,e7⟩:=fG cb
      subst ev
      have hb:=cp _ rfl
      subst b0
      obtain rfl:=(sm co).symm
      refine Z0 ?_
      obtain ⟨fu,hz,e8⟩:=fG e7
      subst dc
      have hb:=cn _ rfl
      subst br
      obtain rfl:=(sm cm).symm
      refine Z0 ?_
      cases e8
      exact Eo1 () [] []
     refine Z0 ?_
     cases cb
     exact Eg (_,()) (ex _ rfl) [2,2,2,2,2,2,2,2,2,2,2,2,2,2,2,2,2,2,2] [] 1
    refine Z0 ?_
    cases b3
    have hb:=cp _ rfl
    subst b0
    exact Egx (_,()) rfl [0,0,0,0,0,0,0,0,0,0,0,1,1,1,1,1,1,1] [0,1,2,3,4,5,6,7,8,9,10,11,12,13,14,15,16,17,18,19,20]
   rintro ⟨b1,⟨⟩⟩ hy
   subst hy
   refine Z0 ?_
   cases co
   exact Eg (_,((U,V),(W,X),(Y,Z),(aa,ac),ad,(ae,af),(ag,ah),(ai,aj),(ak,al),(am,an),(ao,ap),(aq,ar),(au,av))) (de _ rfl) [11,11,11,11,11,11,11,0,0,0,0,0,0,0,1,1,1] [0,1,2,3,4] 11
  refine Z0 ?_
  cases bt
  have hb:=cn _ rfl
  subst br
  exact Eg (_,((A,B),(C,F),(I,J),(M,N),O,(P,Q),(f,i),(j,k),(m,n),(o,p),(aw,ax),(q,s),(R,S))) rfl [10,10,10,10,10,10,10,0,0,0,0,0,0,0,0,0,0] [0,1,2,3,4] 5
 rintro ⟨d,⟨⟨a2,a3⟩,⟨a4,a5⟩,⟨a6,a7⟩,⟨a8,a9⟩,ba,⟨bb,bc⟩,⟨bd,be⟩,⟨bf,bg⟩,⟨bh,bi⟩,⟨bj,bk⟩,⟨bl,bm⟩,⟨bn,bo⟩,⟨bp,bq⟩⟩⟩ hy
 subst hy
 refine Z1 ?_
 cases cm
 exact Eo1 () [] []
end Go.Tw.X
namespace Go.Tw.X
open Go Go.Tw
theorem z6 {P:Program} {α β:Type} {t:TypeId} {ty:Ty α} {ty':Ty β} {wf:α->Prop} {wf':β->Prop} (h:Opn P t ty wf) (g:α->β) (gh:ty.Hid->ty'.Hid) (h1: ∀ y hh,ty'.cs (g y) (gh hh)=ty.cs y hh) (h2: ∀ y hh,ty'.im (g y) (gh hh)=ty.im y hh) (h3: ∀ y,wf y->wf' (g y)):Opn P t ty' wf':=Opn.to g gh h h1 h2 h3
theorem vC:Opn Go.Proofs.Tryz.prog 3 (Ty.int .i64) (inK .i64):=Opn.int (by kernel_rfl)
theorem NS:Opn Go.Proofs.Tryz.prog 23 s9 o9:=z6 (β:=oR) (ty':=s9) (wf':=o9) (Opn.struct (fs:=[(3,0),(3,1),(3,2)]) (by kernel_rfl) (by kernel_rfl) (.cons vC (by kernel_rfl) (.cons vC (by kernel_rfl) (.cons vC (by kernel_rfl) .nil)))) (λy=>⟨y.1,y.2.1,y.2.2.1⟩) (λh=>()) (λ_ _=>rfl) (λ_ _=>rfl) (λy h=>h)
theorem NT:Opn Go.Proofs.Tryz.prog 25 td pc:=z6 (β:=gp) (ty':=td) (wf':=pc) (Opn.struct (fs:=[(3,0),(3,1),(3,2),(3,3),(23,4)]) (by kernel_rfl) (by kernel_rfl) (.cons vC (by kernel_rfl) (.cons vC (by kernel_rfl) (.cons vC (by kernel_rfl) (.cons vC (by kernel_rfl) (.cons NS (by kernel_rfl) .nil)))))) (λy=>⟨y.1,y.2.1,y.2.2.1,y.2.2.2.1,y.2.2.2.2.1⟩) (λh=>()) (λ_ _=>rfl) (λ_ _=>rfl) (λy h=>h)
theorem NU:Opn Go.Proofs.Tryz.prog 9 Ty.str (λs:ByteArray=>s.size<=maxLen):=Opn.str (by kernel_rfl)
theorem NV:Opn Go.Proofs.Tryz.prog 36 uE qg:=z6 (β:=cU) (ty':=uE) (wf':=qg) (Opn.struct (fs:=[(3,0),(9,1),(3,2),(3,3)]) (by kernel_rfl) (by kernel_rfl) (.cons vC (by kernel_rfl) (.cons NU (by kernel_rfl) (.cons vC (by kernel_rfl) (.cons vC (by kernel_rfl) .nil))))) (λy=>⟨y.1,y.2.1,y.2.2.1,y.2.2.2.1⟩) (λh=>()) (λ_ _=>rfl) (λ_ _=>rfl) (λy h=>h)
theorem NW:Opn Go.Proofs.Tryz.prog 38 nh qh:=z6 (β:=nF) (ty':=nh) (wf':=qh) (Opn.struct (fs:=[(3,0),(3,1),(3,2),(9,3),(36,4)]) (by kernel_rfl) (by kernel_rfl) (.cons vC (by kernel_rfl) (.cons vC (by kernel_rfl) (.cons vC (by kernel_rfl) (.cons NU (by kernel_rfl) (.cons NV (by kernel_rfl) .nil)))))) (λy=>⟨y.1,y.2.1,y.2.2.1,y.2.2.2.1,y.2.2.2.2.1⟩) (λh=>()) (λ_ _=>rfl) (λ_ _=>rfl) (λy h=>h)
theorem NX:Opn Go.Proofs.Tryz.prog 26 (Ty.slice nh) (λxs:List nF=> ∀ x∈xs,qh x):=Opn.slice (by kernel_rfl) NW (by kernel_rfl) (by decide)
end Go.Tw.X

import Derived.Test.YtdhkangklnlnoaaGreatDoorWk1
import Derived.Test.YtdhkangklnlnoaaGreatDoorFw2
set_option maxHeartbeats 2000000
set_option linter.unusedVariables false
set_option linter.unusedSimpArgs false
set_option maxRecDepth 10000
namespace Go.Tw.X
open Go Go.Tw
variable {A0 A1 A2 A3 A4 A5 A6 A7 A8 : Option Addr} {C0 C1 C2 C3 C4 C5 C6 C7 C8 : Nat}
variable {N0 N1 N2 N3 N4 N5 : Nat}
variable {M0 M1 : Option Nat}
theorem ye {most:Int} {every:Int} {r:bR} (H:mV most every=some r):CT G 51 [.int .i64 most,.int .i64 every] [] [] (λh:(Option Addr×Nat)=> .agg (wB r h.1 h.2).toArray) (λh=>[]) (λh=>[Im.sl aR h.1 h.2 r.l]):=by
 delta mV at H
 refine Cf Go.Proofs.Tryz.func51 λK=> ?_
 refine Z1 ?_
 refine Ll λg1=> ?_
 refine Z1 ?_
 refine Lt 0 ?_
 refine Z0 ?_
 refine E.dD [Im.sl aR none 0 []] (λA w _ _ f hf=>by rw [List.mem_singleton.1 hf]; exact Im.bV A w) ?_
 cases H
 exact Eo (none,0) [] [0] (.cell 0 rfl rfl rfl .nil)
theorem rj {n_:Int} {r:Int} (H:mf n_=some r):CT G 52 [.int .i64 n_] [] [] (λ_:Unit=> .int .i64 r) (λh=>[]) (λh=>[]):=by
 delta mf at H
 refine Cf Go.Proofs.Tryz.func52 λK=> ?_
 refine Z2 ?_
 cases H
 exact Eo1 () [] []
theorem yf {most:Int} {r:bX} (H:ow most=some r):CT G 53 [.int .i64 most] [] [] (λh:(Option Addr×Nat)=> .agg #[.int .i64 r.most,.slice h.1 r.l.length h.2]) (λh=>[]) (λh=>[Im.sl bF h.1 h.2 r.l]):=by
 delta ow at H
 refine Cf Go.Proofs.Tryz.func53 λK=> ?_
 refine Z1 ?_
 refine Ll λg1=> ?_
 refine Z1 ?_
 refine Lt 0 ?_
 refine Z0 ?_
 refine E.dD [Im.sl bF none 0 []] (λA w _ _ f hf=>by rw [List.mem_singleton.1 hf]; exact Im.bV A w) ?_
 cases H
 exact Eo (none,0) [] [0] (.cell 0 rfl rfl rfl .nil)
theorem yg {c:ox} {r:aL} (H:lN c=some r):CT G 19 [.agg #[.int .i64 c.cache,.int .i64 c.every,.int .i64 c.addr]] [] [] (λh:(Option Addr×Nat)×(Option Addr×Nat)×(Option Addr×Nat)×(Option Addr×Nat)×(Option Addr×Nat)×(Option Addr×Nat)=> .agg (nO r h.1.1 h.1.2 h.2.1.1 h.2.1.2 h.2.2.1.1 h.2.2.1.2 h.2.2.2.1.1 h.2.2.2.1.2 h.2.2.2.2.1.1 h.2.2.2.2.1.2 h.2.2.2.2.2.1 h.2.2.2.2.2.2).toArray) (λh=>[]) (λh=>[Im.sl bB h.1.1 h.1.2 r.t.aK.rows,Im.sl aJ h.2.1.1 h.2.1.2 r.t.aK.begun,Im.sl Ty.bool h.2.2.1.1 h.2.2.1.2 r.t.slot.has,Im.sl Ty.str h.2.2.2.1.1 h.2.2.2.1.2 r.t.slot.parts,Im.sl bF h.2.2.2.2.1.1 h.2.2.2.2.1.2 r.l.l,Im.sl aR h.2.2.2.2.2.1 h.2.2.2.2.2.2 r.f.l]):=by
 delta lN at H
 refine Cf Go.Proofs.Tryz.func19 λK=> ?_
 refine Z1 ?_
 refine Lx λg1=> ?_
 refine Ll λg2=> ?_
 refine Z1 ?_
 have ⟨r3,h4,H5⟩:=bnd H
 refine Lk [] [] (ye h4) λ⟨a6,c7⟩=> ?_
 refine Ll λg9=> ?_
 refine Lt 0 ?_
 refine Y1 ?_
 refine Td [12] [0,0,0] mo ?_
 refine Dq 0 ?_
 refine Db 1 0 ?_
 refine Dq 2 ?_
 refine Db 3 0 ?_
 refine Dq 4 ?_
 refine Db 5 2 ?_
 refine Dq 7 ?_
 refine Db 8 2 ?_
 refine Db 10 0 ?_
 have ⟨j,a,b⟩:=bnd H5
 refine Dk [] [] (rj a) λ⟨⟩=> ?_
 have ⟨k,d,e⟩:=bnd b
 refine Dk [] [] (yf d) λ⟨g,i⟩=> ?_
 refine Dq 11 ?_
 refine Dt 1 ?_
 refine Dn ?_
 refine Z0 ?_
 refine E.dD [Im.sl bB none 0 []] (λA w _ _ f hf=>by rw [List.mem_singleton.1 hf]; exact Im.bV A w) ?_
 refine E.dD [Im.sl aJ none 0 []] (λA w _ _ f hf=>by rw [List.mem_singleton.1 hf]; exact Im.bV A w) ?_
 refine E.dD [Im.sl Ty.bool none 0 []] (λA w _ _ f hf=>by rw [List.mem_singleton.1 hf]; exact Im.bV A w) ?_
 refine E.dD [Im.sl Ty.str none 0 []] (λA w _ _ f hf=>by rw [List.mem_singleton.1 hf]; exact Im.bV A w) ?_
 cases e
 exact Eo ((none,0),(none,0),(none,0),(none,0),(g,i),(a6,c7)) [] [3,2,1,0,4,5] (.cell 0 rfl rfl rfl .nil)
theorem lX {c:aH} {r:aN} (H:fC c=some r):CT G 20 [.pointer (some ⟨N0,0,none⟩)] [Ch.box N0 94 (ko c N1 N3 N4),Ch.box N1 155 (eS c.aS N2 A0 C0 A1 C1),Ch.box N2 153 (cP c.aS.slot M0),Ch.mp Ty.str false M0 c.aS.slot.parts,Ch.box N3 158 [.int .i64 c.lines.most,.int .i64 c.lines.now,.map M1],Ch.mp aE true M1 c.lines.l,Ch.box N4 161 (eT c.bS N5),Ch.box N5 106 [.slice A2 c.bS.want.l.length C2]] [Im.sl aU A0 C0 c.aS.aK.rows,Im.sl aF A1 C1 c.aS.aK.begun,Im.sl aC A2 C2 c.bS.want.l] (λh:(Option Addr×Nat)×(Option Addr×Nat)=> .agg (oG r h.1.1 h.1.2 h.2.1 h.2.2).toArray) (λh=>[Ch.box N0 94 (ko c N1 N3 N4),Ch.box N1 155 (eS c.aS N2 A0 C0 A1 C1),Ch.box N2 153 (cP c.aS.slot M0),Ch.mp Ty.str false M0 c.aS.slot.parts,Ch.box N3 158 [.int .i64 c.lines.most,.int .i64 c.lines.now,.map M1],Ch.mp aE true M1 c.lines.l,Ch.box N4 161 (eT c.bS N5),Ch.box N5 106 [.slice A2 c.bS.want.l.length C2]]) (λh=>[Im.sl aU h.1.1 h.1.2 r.rows,Im.sl aF h.2.1 h.2.2 r.begun]):=by
 delta fC at H
 refine Cf Go.Proofs.Tryz.func20 λK=> ?_
 refine Z1 ?_
 refine Ll λg1=> ?_
 refine Z1 ?_
 have ⟨r2,h3,H4⟩:=bnd H
 refine Lk [2,2,2] [0,1] (mO h3) λ⟨⟨a5,c6⟩,⟨a7,c8⟩⟩=> ?_
 refine Lt 3 ?_
 refine Z0 ?_
 cases H4
 exact Eo ((a5,c6),(a7,c8)) [4,1,1,1,1,1,1,1] [0,1] (.cell 0 rfl rfl rfl .nil)
theorem rk {n_:Int} {r:Int} (H:jQ n_=some r):CT G 219 [.int .i64 n_] [] [] (λ_:Unit=> .int .i64 r) (λh=>[]) (λh=>[]):=by
 delta jQ at H
 refine Cf Go.Proofs.Tryz.func219 λK=> ?_
 refine Z3 ?_
 refine Tb H (λH2=> ?_) λH2=> ?_
 ·refine Z1 ?_
  cases H2
  exact Eo1 () [] []
 refine Z2 ?_
 refine Tb H2 (λH4=> ?_) λH4=> ?_
 ·refine Z1 ?_
  cases H4
  exact Eo1 () [] []
 refine Z1 ?_
 cases H4
 exact Eo1 () [] []
theorem yh {x_:aD} {r:aD} (H:mT x_=some r):CT G 200 [.agg #[.int .i64 x_.from_,.int .i64 x_.to]] [] [] (λ_:Unit=> .agg #[.int .i64 r.from_,.int .i64 r.to]) (λh=>[]) (λh=>[]):=by
 delta mT at H
 refine Cf Go.Proofs.Tryz.func200 λK=> ?_
 refine Z1 ?_
 refine Lx λg1=> ?_
 refine Ll λg2=> ?_
 refine Y1 ?_
 refine Td [7] [0,0] mo ?_
 refine Dq 0 ?_
 refine Db 1 1 ?_
 refine Dq 3 ?_
 refine Db 4 1 ?_
 have ⟨e,a,b⟩:=bnd H
 refine Dk [] [] (rk a) λ⟨⟩=> ?_
 have ⟨f,c,d⟩:=bnd b
 refine Dk [] [] (rk c) λ⟨⟩=> ?_
 refine Dq 6 ?_
 refine Dt 0 ?_
 refine Dn ?_
 refine Z0 ?_
 cases d
 exact Eo () [] [] (.cell 0 rfl rfl rfl .nil)
theorem oN {x_:aD} {r:(List aD)} (H:jE x_=some r):CT G 162 [.agg #[.int .i64 x_.from_,.int .i64 x_.to]] [] [] (λh:(Option Addr×Nat)=> .slice h.1 r.length h.2) (λh=>[Ch.arr aR 187 h.1 h.2 r]) (λh=>[]):=by
 delta jE at H
 refine Cf Go.Proofs.Tryz.func162 λK=> ?_
 refine Z1 ?_
 refine Lx λg1=> ?_
 refine Z1 ?_
 have ⟨r2,h3,H4⟩:=bnd H
 refine Lk [] [] (yh h3) λ⟨⟩=> ?_
 refine Lt 0 ?_
 refine Z2 ?_
 refine Tb H4 (λH6=> ?_) λH6=> ?_
 ·refine Z1 ?_
  refine E.fZ aR 187 ?_
  cases H6
  exact Eo1 (none,0) [0] []
 refine Z1 ?_
 refine La [] [] (Ac.bs (ty:=aR) (xs:=[r2]) (.cons () [] rfl .nil) rfl rfl rfl rfl rfl rfl rfl) λg8=> ?_
 refine Z0 ?_
 cases H6
 exact Eo1 ((some ⟨g8,0,none⟩),1) [0] []
theorem oO {l:List aD} {n_:Int} {r:Bool} (H:jF l n_=some r):CT G 117 [.slice A0 l.length C0,.int .i64 n_] [] [Im.sl aR A0 C0 l] (λ_:Unit=> .bool r) (λh=>[]) (λh=>[]):=by
 delta jF at H
 refine Cf Go.Proofs.Tryz.func117 λK=> ?_
 refine Z3 ?_
 have ⟨a,j,f⟩:=bnd H
 refine Tj (η:=Unit×Unit) (λh=>a = .inl h.1) (λ_=>[]) [] (λ_=>[]) [] (λ_=>[]) ?_ ?_
 ·refine Yl0 ?_
  refine Tq (η:=Unit) (λg h=>[(9,.int .i64 g)]) [1,7,8] (λ_ _=>[]) [] (λ_ _=>[]) () [] [] j ?_
  rintro k_ g ⟨⟩ k m n i
  refine Y2 ?_
  refine Tb m (λb=> ?_) λb=> ?_
  ·refine Z1 ?_
   refine Zl ?_
   refine Z1 ?_
   have ⟨v,c,o⟩:=bnd b
   refine L.addr 0 rfl (bH c) λw x p=> ?_
   subst p
   refine Ly (Yl.ia c rfl rfl rfl rfl rfl rfl) ?_
   refine L.el 0 rfl (aI c).2 ?_
   rintro _
   refine Lc 0 0 ?_
   refine Ll λy=> ?_
   refine Lt 0 ?_
   refine Y1 ?_
   have ⟨q,s,t⟩:=bnd o
   refine Tj0 [(22,.bool q)] [1,7,8,9] [] [0] ?_ ?_
   ·refine Z0 ?_
    refine Lw 17 s (λd=> ?_) λd=> ?_
    ·refine Z0 ?_
     cases d
     exact Eg0 [0] 0
    refine Z0 ?_
    cases d
    exact Eg0 [0] 0
   refine Tb t (λe=> ?_) λe=> ?_
   ·refine Z1 ?_
    obtain ⟨z,hz,u⟩:=cK e
    subst k
    have hb:=i _ rfl
    subst a
    obtain rfl:=(sm f).symm
    refine Z0 ?_
    cases u
    exact Eo1 () [] []
   refine Z0 ?_
   cases e
   exact Eg (_,()) (n _ rfl) [] [] 1
  refine Z0 ?_
  cases b
  have hb:=i _ rfl
  subst a
  exact Eg (_,()) rfl [] [] 0
 rintro ⟨A,⟨⟩⟩ hy
 subst hy
 refine Z1 ?_
 cases f
 exact Eo1 () [] []
theorem wH {mode:Int} {x_:Bool} {y:Bool} {r:Bool} (H:kM mode x_ y=some r):CT G 199 [.int .i64 mode,.bool x_,.bool y] [] [] (λ_:Unit=> .bool r) (λh=>[]) (λh=>[]):=by
 delta kM at H
 refine Cf Go.Proofs.Tryz.func199 λK=> ?_
 refine Z3 ?_
 refine Zl ?_
 refine Z1 ?_
 refine Tb H (λa=> ?_) λa=> ?_
 ·refine Y1 ?_
  have ⟨i,j,k⟩:=bnd a
  refine Tj0 [(6,.bool i)] [] [] [] ?_ ?_
  ·refine Z0 ?_
   refine Lw 11 j (λb=> ?_) λb=> ?_
   ·refine Z0 ?_
    cases b
    exact Eg0 [] 0
   refine Z0 ?_
   cases b
   exact Eg0 [] 0
  refine Z0 ?_
  cases k
  exact Eo1 () [] []
 refine Z1 ?_
 refine Tb a (λc=> ?_) λc=> ?_
 ·refine Y1 ?_
  have ⟨l,m,n⟩:=bnd c
  refine Tj0 [(6,.bool l)] [] [] [] ?_ ?_
  ·refine Z0 ?_
   refine Lw 17 m (λd=> ?_) λd=> ?_
   ·refine Z0 ?_
    cases d
    exact Eg0 [] 0
   refine Z0 ?_
   cases d
   exact Eg0 [] 0
  refine Z0 ?_
  cases n
  exact Eo1 () [] []
 refine Z1 ?_
 refine Tb c (λe=> ?_) λe=> ?_
 ·refine Y1 ?_
  have ⟨o,p,q⟩:=bnd e
  refine Tj0 [(6,.bool o)] [] [] [] ?_ ?_
  ·refine Z0 ?_
   refine Lw 24 p (λf=> ?_) λf=> ?_
   ·refine Z0 ?_
    cases f
    exact Eg0 [] 0
   refine Z0 ?_
   cases f
   exact Eg0 [] 0
  refine Z0 ?_
  cases q
  exact Eo1 () [] []
 refine Y1 ?_
 have ⟨s,t,u⟩:=bnd e
 refine Tj0 [(6,.bool s)] [] [] [] ?_ ?_
 ·refine Z0 ?_
  refine Lw 29 t (λg=> ?_) λg=> ?_
  ·refine Z0 ?_
   cases g
   exact Eg0 [] 0
  refine Z0 ?_
  cases g
  exact Eg0 [] 0
 refine Z0 ?_
 cases u
 exact Eo1 () [] []
theorem nu {a:List aD} {b:List aD} {mode:Int} {r:(List aD)} (H:gx a b mode=some r):CT G 161 [.slice A0 a.length C0,.slice A1 b.length C1,.int .i64 mode] [] [Im.sl aR A0 C0 a,Im.sl aR A1 C1 b] (λh:(Option Addr×Nat)=> .slice h.1 r.length h.2) (λh=>[Ch.arr aR 187 h.1 h.2 r]) (λh=>[]):=by
 delta gx at H
 refine Cf Go.Proofs.Tryz.func161 λK=> ?_
 refine Z2 ?_
 refine La [] [] (Ac.bs (ty:=(Ty.int .i64)) (xs:=[]) .nil rfl rfl rfl rfl rfl rfl rfl) λg1=> ?_
 refine Z2 ?_
 refine La [] [] (Ac.bs (ty:=aR) (xs:=[]) .nil rfl rfl rfl rfl rfl rfl rfl) λg3=> ?_
 refine Z0 ?_
 have ⟨_,h5,H6⟩:=bnd H
 refine La [0] [0] (Ac.ap (ty:=aR) h5 rfl rfl rfl rfl rfl rfl rfl) ?_
 rintro ⟨a7,c8⟩
 refine Z0 ?_
 have ⟨_,ar,au⟩:=bnd H6
 refine La [0] [1] (Ac.ap (ty:=aR) ar rfl rfl rfl rfl rfl rfl rfl) ?_
 rintro ⟨cz,ac⟩
 refine Z0 ?_
 have ⟨z,av,aw⟩:=bnd au
 refine Tjh (η:=(Option Addr×Nat)) (λh=>(λx y=>[(7,.slice x z.length y)]) h.1 h.2) [0,1,2] (λh=>(λx y=>[Ch.arr (Ty.int .i64) 3 x y z]) h.1 h.2) [] (λ_=>[]) ?_ ?_
 ·refine Yl0 ?_
  refine Tq (η:=(Option Addr×Nat)) (λd h=>(λf g=>[(7,.slice f d.2.length g),(24,.int .i64 d.1)]) h.1 h.2) [0,1,2,22,23] (λd h=>(λf g=>[Ch.arr (Ty.int .i64) 3 f g d.2]) h.1 h.2) [0] (λ_ _=>[]) ((some ⟨g1,0,none⟩),0) [1,0] [] av ?_
  rintro k_ d ⟨f,g⟩ c0 ax ay az
  refine Y2 ?_
  refine Tb ax (λA=> ?_) λA=> ?_
  ·refine Z1 ?_
   refine Zl ?_
   refine Z1 ?_
   have ⟨i,B,a0⟩:=bnd A
   refine L.iw 1 rfl (bH B) λad a1=> ?_
   subst a1
   refine Ly (Yl.ia B rfl rfl rfl rfl rfl rfl) ?_
   refine Ly (Yl.lo (v:= .agg #[.int .i64 i.from_,.int .i64 i.to]) 1 d.1.toNat 0 (aI B).2 rfl rfl rfl rfl (λ_=>rfl)) ?_
   refine Ll λa2=> ?_
   refine Lt 0 ?_
   refine Z1 ?_
   refine La [] [] (Ac.bs (ty:=(Ty.int .i64)) (xs:=[i.from_,i.to]) (.cons () [] rfl (.cons () [] rfl .nil)) rfl rfl rfl rfl rfl rfl rfl) λc1=> ?_
   refine Z0 ?_
   have ⟨C,a3,a4⟩:=bnd a0
   refine T.ou (η:=Unit×((Option Addr×Nat))) (λh=>True) (λh=>(λj k=>[(0,.slice A0 a.length C0),(1,.slice A1 b.length C1),(2,.int .i64 mode),(7,.slice j C.length k),(22,.slice (some ⟨ad,0,none⟩) ((([]:List aD)++a)++b).length ac),(23,.int .i64 (((([]:List aD)++a)++b).length:Int)),(24,.int .i64 d.1)]) h.2.1 h.2.2) (λh=>(λj k=>[Ch.arr (Ty.int .i64) 3 j k C,Ch.box a2 187 [.int .i64 i.from_,.int .i64 i.to],Ch.arr aR 187 (some ⟨ad,0,none⟩) ac ((([]:List aD)++a)++b)]) h.2.1 h.2.2) (λh=>(λj k=>[Im.sl aR A0 C0 a,Im.sl aR A1 C1 b]) h.2.1 h.2.2) ?_ ?_
   ·refine Yl0 ?_
    refine Tq (η:=(Option Addr×Nat)) (λl h=>(λm n=>[(7,.slice m l.2.length n),(34,.int .i64 l.1)]) h.1 h.2) [0,1,2,22,23,24,32,33] (λl h=>(λm n=>[Ch.arr (Ty.int .i64) 3 m n l.2]) h.1 h.2) [1,0,3] (λ_ _=>[]) (f,g) [2,1,0,0] [] a3 ?_
    rintro k_ l ⟨m,n⟩ c2 a5 a6 a8
    refine Y2 ?_
    refine Tb a5 (λF=> ?_) λF=> ?_
    ·refine Y1 ?_
     have ⟨ae,a9,ba⟩:=bnd F
     refine Tjh (η:=(Option Addr×Nat)) (λh=>(λp q=>[(7,.slice p ae.length q)]) h.1 h.2) [0,1,2,22,23,24,32,33,34] (λh=>(λp q=>[Ch.arr (Ty.int .i64) 3 p q ae]) h.1 h.2) [1,2,3] (λ_=>[]) ?_ ?_
     ·refine Zl ?_
      refine Z1 ?_
      have ⟨af,ag,bb⟩:=bnd a9
      refine Ly (Yl.ia ag rfl rfl rfl rfl rfl rfl) ?_
      refine Ly (Yl.lo (v:= .int .i64 af) 2 l.1.toNat 0 (aI ag).2 rfl rfl rfl rfl (λ_=>rfl)) ?_
      refine Y2 ?_
      have ⟨I,bc,bd⟩:=bnd bb
      refine Tj0 [(12,.int .i64 I)] [0,1,2,7,11,22,23,24,32,33,34] [] [1,0,2,3] ?_ ?_
      ·refine Yl0 ?_
       refine Tq (η:=Unit) (λJ h=>[(12,.int .i64 J)]) [0,1,2,7,11,22,23,24,32,33,34] (λ_ _=>[]) [1,0,2,3] (λ_ _=>[]) () [1,0,0,0] [] bc ?_
       rintro k_ J ⟨⟩ c3 be bf bg
       refine Y2 ?_
       have ⟨bh,bi,bj⟩:=bnd be
       refine Tj0 [(49,.bool bh)] [0,1,2,7,11,12,22,23,24,32,33,34] [] [0,1,2,3] ?_ ?_
       ·refine Z0 ?_
        refine Lw 42 bi (λM=> ?_) λM=> ?_
        ·refine Z0 ?_
         have ⟨bk,N,bl⟩:=bnd M
         refine L.iw 1 rfl (bH N) λc4 bm=> ?_
         subst bm
         refine Ly (Yl.ia N rfl rfl rfl rfl rfl rfl) ?_
         refine Ly (Yl.lo (v:= .int .i64 bk) 1 J.toNat 0 (aI N).2 rfl rfl rfl rfl (λ_=>rfl)) ?_
         refine Z0 ?_
         cases bl
         exact Eg0 [0,0,0,0] 0
        refine Z0 ?_
        cases M
        exact Eg0 [0,0,0,0] 0
       refine Tb bj (λO=> ?_) λO=> ?_
       ·refine Zl ?_
        cases O
        exact Eg (_,()) (bf _ rfl) [0,0,0,0] [] 0
       refine Z0 ?_
       cases O
       have hb:=bg _ rfl
       subst I
       exact Eg0 [0,0,0,0] 0
      refine Y1 ?_
      have ⟨bn,bo,bp⟩:=bnd bd
      refine Tj0 [(63,.bool bn)] [0,1,2,7,11,12,22,23,24,32,33,34] [] [0,1,2,3] ?_ ?_
      ·refine Z0 ?_
       refine Lw 56 bo (λP=> ?_) λP=> ?_
       ·refine Z0 ?_
        cases P
        exact Eg0 [0,0,0,0] 0
       refine Z0 ?_
       have ⟨bq,Q,br⟩:=bnd P
       refine L.iw 1 rfl (bH Q) λc5 bt=> ?_
       subst bt
       refine Ly (Yl.ia Q rfl rfl rfl rfl rfl rfl) ?_
       refine Ly (Yl.lo (v:= .int .i64 bq) 1 I.toNat 0 (aI Q).2 rfl rfl rfl rfl (λ_=>rfl)) ?_
       refine Z0 ?_
       cases br
       exact Eg0 [0,0,0,0] 0
      refine Tb bp (λR=> ?_) λR=> ?_
      ·refine Td [] [0,1,1] mo ?_
       refine Dq 0 ?_
       refine Dq 1 ?_
       have ⟨_,ah,bu⟩:=bnd R
       refine D.cap 3 rfl λbv=> ?_
       refine Dy 2 (Yl.sv (ty:=(Ty.int .i64)) bv ah rfl rfl rfl rfl rfl rfl rfl rfl) ?_
       refine Dq 3 ?_
       refine Dq 5 ?_
       refine Dq 6 ?_
       have ⟨_,ai,bw⟩:=bnd bu
       refine D.cap 3 rfl λaj=> ?_
       refine Dy 7 (Yl.sv (ty:=(Ty.int .i64)) aj ai rfl rfl rfl rfl rfl rfl rfl rfl) ?_
       refine Da [] [] rfl rfl (Ac.bs (ty:=(Ty.int .i64)) (xs:=[af]) (.cons () [] rfl .nil) rfl rfl rfl rfl rfl rfl rfl) λc6=> ?_
       have ⟨_,bx,bz⟩:=bnd bw
       refine Da [0,0] [] rfl rfl (Ac.apv (ty:=(Ty.int .i64)) (FQ ai aj) bx rfl rfl rfl rfl rfl rfl rfl) ?_
       rintro ⟨c7,c9⟩
       refine D.frz 0 rfl ?_
       have ⟨_,b0,b1⟩:=bnd bz
       refine Da [0] [0] rfl rfl (Ac.app (ty:=(Ty.int .i64)) ah b0 rfl rfl rfl rfl rfl rfl rfl) ?_
       rintro ⟨b2,b3⟩
       refine Dq 10 ?_
       refine Dn ?_
       refine Z0 ?_
       cases b1
       exact Eg (b2,b3) trivial [3,0,0,0] [] 1
      refine Z0 ?_
      cases R
      exact Eg (m,n) trivial [1,0,0,0] [] 0
     rintro ⟨p,q⟩
     refine Z0 ?_
     cases ba
     exact Eg (_,(p,q)) (a6 _ rfl) [0,0,0,0] [] 0
    refine Z0 ?_
    cases F
    have hb:=a8 _ rfl
    subst C
    exact Egx ((),(m,n)) trivial [0,0,1] [0,1]
   rintro ⟨_,⟨j,k⟩⟩ _
   refine Z0 ?_
   cases a4
   exact Eg (_,(j,k)) (ay _ rfl) [0,1] [] 0
  refine Z0 ?_
  cases A
  have hb:=az _ rfl
  subst z
  exact Eg (f,g) trivial [0] [] 0
 rintro ⟨x,y⟩
 refine Z1 ?_
 refine La [] [] (Ac.bs (ty:=aR) (xs:=[]) .nil rfl rfl rfl rfl rfl rfl rfl) λb4=> ?_
 refine Z2 ?_
 have ⟨S,b5,b6⟩:=bnd aw
 refine Tjh (η:=(Option Addr×Nat)) (λh=>(λs t=>[(13,.slice s S.length t)]) h.1 h.2) [] (λh=>(λs t=>[Ch.arr aR 187 s t S]) h.1 h.2) [] (λ_=>[]) ?_ ?_
 ·refine Yl0 ?_
  refine Tq (η:=(Option Addr×Nat)) (λc h=>(λo e=>[(13,.slice o c.1.length e),(14,.int .i64 c.2)]) h.1 h.2) [0,1,2,7] (λc h=>(λo e=>[Ch.arr aR 187 o e c.1]) h.1 h.2) [1] (λ_ _=>[]) ((some ⟨b4,0,none⟩),0) [0,0] [] b5 ?_
  rintro k_ c ⟨o,e⟩ da b7 b8 b9
  refine Z2 ?_
  refine Tb b7 (λU=> ?_) λU=> ?_
  ·refine Y1 ?_
   have ⟨ak,ca,cb⟩:=bnd U
   refine Tjh (η:=(Option Addr×Nat)) (λh=>(λu w=>[(13,.slice u ak.length w)]) h.1 h.2) [0,1,2,7,14] (λh=>(λu w=>[Ch.arr aR 187 u w ak]) h.1 h.2) [1] (λ_=>[]) ?_ ?_
   ·refine Zl ?_
    refine Z1 ?_
    have ⟨al,V,cc⟩:=bnd ca
    refine L.iw 1 rfl (bH V) λdb cd=> ?_
    subst cd
    refine Ly (Yl.ia V rfl rfl rfl rfl rfl rfl) ?_
    refine Ly (Yl.lo (v:= .int .i64 al) 1 c.2.toNat 0 (aI V).2 rfl rfl rfl rfl (λ_=>rfl)) ?_
    refine Z2 ?_
    have ⟨dc,ce,cf⟩:=bnd cc
    refine Lk [] [0] (oO ce) λ⟨⟩=> ?_
    refine Z0 ?_
    have ⟨dd,cg,ch⟩:=bnd cf
    refine Lk [] [1] (oO cg) λ⟨⟩=> ?_
    have ⟨de,ci,cj⟩:=bnd ch
    refine Lk [] [] (wH ci) λ⟨⟩=> ?_
    refine Z0 ?_
    refine Tb cj (λW=> ?_) λW=> ?_
    ·refine Z0 ?_
     cases W
     exact Eg (o,e) trivial [0,0] [] 0
    refine Y2 ?_
    have ⟨ck,cl,cm⟩:=bnd W
    refine Tj0 [(110,.bool ck)] [0,1,2,7,13,14,15,16] [] [0,1] ?_ ?_
    ·refine Z0 ?_
     refine Lw 101 cl (λX=> ?_) λX=> ?_
     ·refine Z0 ?_
      have ⟨cn,Y,co⟩:=bnd X
      refine L.iw 0 rfl (bH Y) λdf cp=> ?_
      subst cp
      refine Ly (Yl.ia Y rfl rfl rfl rfl rfl rfl) ?_
      refine Z0 ?_
      refine Ly (Yl.lo (v:= .int .i64 cn.to) 0 ((IntKind.i64.wrap ((c.1.length:Int) - 1)).toNat) 1 (aI Y).2 rfl rfl rfl rfl (λ_=>rfl)) ?_
      refine Z0 ?_
      cases co
      exact Eg0 [0,0] 0
     refine Z0 ?_
     cases X
     exact Eg0 [0,0] 0
    refine Tb cm (λZ=> ?_) λZ=> ?_
    ·refine Z0 ?_
     have ⟨aa,am,cq⟩:=bnd Z
     refine Ly (Yl.ia am rfl rfl rfl rfl rfl rfl) ?_
     refine Ly (Yl.lo (v:= .int .i64 aa) 1 ((IntKind.i64.wrap (c.2+1)).toNat) 0 (aI am).2 rfl rfl rfl rfl (λ_=>rfl)) ?_
     have ⟨an,ab,cr⟩:=bnd cq
     refine L.iw 0 rfl (bH ab) λcs ct=> ?_
     subst ct
     refine Ly (Yl.ia ab rfl rfl rfl rfl rfl rfl) ?_
     refine Z0 ?_
     refine La [0] [] (Ac.se 1 (aD.mk an.from_ aa) (aI ab).2 rfl rfl rfl rfl rfl rfl (λ_=>⟨(),rfl,[],rfl⟩)) λ_=> ?_
     refine L.sl 13 (k':=(c.1.set ((IntKind.i64.wrap ((c.1.length:Int) - 1)).toNat) (aD.mk an.from_ aa)).length) (List.length_set ..) rfl ?_
     refine Z0 ?_
     cases cr
     exact Eg ((some ⟨cs,0,none⟩),e) trivial [0,0] [] 0
    refine Z0 ?_
    have ⟨ao,aq,cu⟩:=bnd Z
    refine Ly (Yl.ia aq rfl rfl rfl rfl rfl rfl) ?_
    refine Ly (Yl.lo (v:= .int .i64 ao) 1 ((IntKind.i64.wrap (c.2+1)).toNat) 0 (aI aq).2 rfl rfl rfl rfl (λ_=>rfl)) ?_
    refine Z0 ?_
    refine La [] [] (Ac.bs (ty:=aR) (xs:=[(aD.mk al ao)]) (.cons () [] rfl .nil) rfl rfl rfl rfl rfl rfl rfl) λdg=> ?_
    refine L.frz 0 rfl ?_
    have ⟨_,cv,cw⟩:=bnd cu
    refine La [0] [0] (Ac.ap (ty:=aR) cv rfl rfl rfl rfl rfl rfl rfl) ?_
    rintro ⟨cx,cy⟩
    refine Z0 ?_
    cases cw
    exact Eg (cx,cy) trivial [0,0] [] 1
   rintro ⟨u,w⟩
   refine Z0 ?_
   cases cb
   exact Eg (_,(u,w)) (b8 _ rfl) [0,0] [] 0
  refine Z0 ?_
  cases U
  have hb:=b9 _ rfl
  subst S
  exact Eg (o,e) trivial [0] [] 0
 rintro ⟨s,t⟩
 refine Z1 ?_
 cases b6
 exact Eo1 (s,t) [0] []
theorem sA {l:List aD} {x_:aD} {r:(List aD)} (H:gR l x_=some r):CT G 106 [.slice A0 l.length C0,.agg #[.int .i64 x_.from_,.int .i64 x_.to]] [] [Im.sl aR A0 C0 l] (λh:(Option Addr×Nat)=> .slice h.1 r.length h.2) (λh=>[Ch.arr aR 187 h.1 h.2 r]) (λh=>[]):=by
 delta gR at H
 refine Cf Go.Proofs.Tryz.func106 λK=> ?_
 refine Z1 ?_
 refine Lx λg1=> ?_
 refine Z1 ?_
 have ⟨r2,h3,H4⟩:=bnd H
 refine Lk [] [] (oN h3) λ⟨a5,c6⟩=> ?_
 refine L.frz 0 rfl ?_
 have ⟨r9,a,b⟩:=bnd H4
 refine Lk [] [1,0] (nu a) λ⟨c,d⟩=> ?_
 refine Z0 ?_
 cases b
 exact Eo1 (c,d) [0] []
theorem uL {c:bX} {r:(List aD)} (H:kf c=some r):CT G 56 [.agg #[.int .i64 c.most,.slice A0 c.l.length C0]] [] [Im.sl bF A0 C0 c.l] (λh:(Option Addr×Nat)=> .slice h.1 r.length h.2) (λh=>[Ch.arr aR 187 h.1 h.2 r]) (λh=>[]):=by
 delta kf at H
 refine Cf Go.Proofs.Tryz.func56 λK=> ?_
 refine Z1 ?_
 refine Lx λg1=> ?_
 refine Z1 ?_
 refine La [] [] (Ac.bs (ty:=aR) (xs:=[]) .nil rfl rfl rfl rfl rfl rfl rfl) λg2=> ?_
 refine Z2 ?_
 have ⟨g,k,m⟩:=bnd H
 refine Tjh (η:=(Option Addr×Nat)) (λh=>(λa b=>[(3,.slice a g.length b)]) h.1 h.2) [] (λh=>(λa b=>[Ch.arr aR 187 a b g]) h.1 h.2) [1] (λ_=>[]) ?_ ?_
 ·refine Yl0 ?_
  refine Tq (η:=(Option Addr×Nat)) (λd h=>(λe f=>[(3,.slice e d.2.length f),(10,.int .i64 d.1)]) h.1 h.2) [8,9] (λd h=>(λe f=>[Ch.arr aR 187 e f d.2]) h.1 h.2) [1] (λ_ _=>[]) ((some ⟨g2,0,none⟩),0) [0,0] [] k ?_
  rintro k_ d ⟨e,f⟩ x n o p
  refine Y2 ?_
  refine Tb n (λi=> ?_) λi=> ?_
  ·refine Z1 ?_
   refine Zl ?_
   refine Z1 ?_
   have ⟨y,j,q⟩:=bnd i
   refine L.addr 0 rfl (bH j) λz A s=> ?_
   subst s
   refine Ly (Yl.ia j rfl rfl rfl rfl rfl rfl) ?_
   refine L.el 0 rfl (aI j).2 ?_
   rintro ⟨B,C⟩
   refine Lc 0 0 ?_
   refine Ll λF=> ?_
   refine Lt 0 ?_
   refine Z0 ?_
   refine L.frz 1 rfl ?_
   have ⟨I,t,u⟩:=bnd q
   refine Lk [] [0] (sA t) λ⟨v,w⟩=> ?_
   refine Z0 ?_
   cases u
   exact Eg (_,(v,w)) (o _ rfl) [0,1] [] 3
  refine Z0 ?_
  cases i
  have hb:=p _ rfl
  subst g
  exact Eg (e,f) trivial [0,0] [] 0
 rintro ⟨a,b⟩
 refine Z1 ?_
 cases m
 exact Eo1 (a,b) [0] []
end Go.Tw.X
namespace Go.Tw.X
open Go Go.Tw
variable {A0 A1 A2 A3 A4 A5 A6 A7 A8 : Option Addr} {C0 C1 C2 C3 C4 C5 C6 C7 C8 : Nat}
variable {N0 N1 N2 N3 N4 N5 : Nat}
variable {M0 M1 : Option Nat}
theorem wI {c:bX} {i:Int} {r:(List aQ)×Bool} (H:jT c i=some r):CT G 107 [.agg #[.int .i64 c.most,.slice A0 c.l.length C0],.int .i64 i] [] [Im.sl bF A0 C0 c.l] (λh:(Option Addr×Nat)=> .tuple #[.slice h.1 r.1.length h.2,.bool r.2]) (λh=>[]) (λh=>[Im.sl aJ h.1 h.2 r.1]):=by
 delta jT at H
 refine Cf Go.Proofs.Tryz.func107 λK=> ?_
 refine Z1 ?_
 refine Lx λg1=> ?_
 refine Z2 ?_
 have ⟨a,m,g⟩:=bnd H
 refine Tj (η:=Unit×Unit) (λh=>a = .inl h.1) (λ_=>[]) [] (λ_=>[]) [0] (λ_=>[]) ?_ ?_
 ·refine Yl0 ?_
  refine Tq (η:=Unit) (λj h=>[(11,.int .i64 j)]) [1,9,10] (λ_ _=>[]) [0] (λ_ _=>[]) () [0] [] m ?_
  rintro k_ j ⟨⟩ n o p k
  refine Y2 ?_
  refine Tb o (λb=> ?_) λb=> ?_
  ·refine Z1 ?_
   refine Zl ?_
   refine Z1 ?_
   have ⟨x,d,q⟩:=bnd b
   refine L.addr 0 rfl (bH d) λy z s=> ?_
   subst s
   refine Ly (Yl.ia d rfl rfl rfl rfl rfl rfl) ?_
   refine L.el 0 rfl (aI d).2 ?_
   rintro ⟨t,u⟩
   refine Lc 0 0 ?_
   refine Ll λB=> ?_
   refine Lt 0 ?_
   refine Z1 ?_
   refine Tb q (λe=> ?_) λe=> ?_
   ·refine Z1 ?_
    obtain ⟨C,hz,v⟩:=cK e
    subst n
    have hb:=k _ rfl
    subst a
    obtain rfl:=(sm g).symm
    refine Z0 ?_
    cases v
    exact Eo (t,u) [] [1] (.tmp rfl (.tmp rfl .nil))
   refine Z0 ?_
   cases e
   exact Eg (_,()) (p _ rfl) [1] [] 2
  refine Z0 ?_
  cases b
  have hb:=k _ rfl
  subst a
  exact Eg (_,()) rfl [0] [] 0
 rintro ⟨F,⟨⟩⟩ hy
 subst hy
 refine Z1 ?_
 refine E.dD [Im.sl aJ none 0 []] (λA w _ _ f hf=>by rw [List.mem_singleton.1 hf]; exact Im.bV A w) ?_
 cases g
 exact Eo (none,0) [] [0] (.tmp rfl (.tmp rfl .nil))
theorem uw {s_:ByteArray} {r:Int} (H:ll s_=some r):CT G 201 [.string s_] [] [] (λ_:Unit=> .int .i64 r) (λh=>[]) (λh=>[]):=by
 delta ll at H
 refine Cf Go.Proofs.Tryz.func201 λK=> ?_
 refine Z3 ?_
 refine Z1 ?_
 have ⟨f,i,j⟩:=bnd H
 refine Tj0 [(3,.int .i64 f)] [] [] [] ?_ ?_
 ·refine Yl0 ?_
  refine Tq (η:=Unit) (λa h=>[(3,.int .i64 a.1),(4,.int .i64 a.2)]) [0] (λ_ _=>[]) [] (λ_ _=>[]) () [] [] i ?_
  rintro k_ a ⟨⟩ y k l m
  refine Z2 ?_
  refine Tb k (λb=> ?_) λb=> ?_
  ·refine Z1 ?_
   refine Zl ?_
   refine Z1 ?_
   have ⟨z,n,o⟩:=bnd b
   refine Ly (Yl.si n rfl rfl rfl rfl rfl) ?_
   refine Z1 ?_
   have ⟨g,p,q⟩:=bnd o
   refine T.ou (η:=Unit×Unit) (λh=>True) (λh=>[(0,.string s_),(3,.int .i64 g),(4,.int .i64 a.2)]) (λh=>[]) (λh=>[]) ?_ ?_
   ·refine Yl0 ?_
    refine Tq (η:=Unit) (λc h=>[(3,.int .i64 c.1),(5,.int .i64 c.2)]) [0,4] (λ_ _=>[]) [] (λ_ _=>[]) () [] [] p ?_
    rintro k_ c ⟨⟩ A s t u
    refine Z2 ?_
    refine Tb s (λd=> ?_) λd=> ?_
    ·refine Y1 ?_
     have ⟨v,w,x⟩:=bnd d
     refine Tj0 [(3,.int .i64 v)] [0,4,5] [] [] ?_ ?_
     ·refine Zl ?_
      refine Z1 ?_
      refine Tb w (λe=> ?_) λe=> ?_
      ·refine Z0 ?_
       cases e
       exact Eg0 [] 0
      refine Z0 ?_
      cases e
      exact Eg0 [] 0
     refine Z0 ?_
     cases x
     exact Eg (_,()) (t _ rfl) [] [] 0
    refine Z0 ?_
    cases d
    have hb:=u _ rfl
    subst g
    exact Egx ((),()) trivial [] []
   rintro ⟨_,⟨⟩⟩ _
   refine Z0 ?_
   cases q
   exact Eg (_,()) (l _ rfl) [] [] 0
  refine Z0 ?_
  cases b
  have hb:=m _ rfl
  subst f
  exact Eg0 [] 0
 refine Z1 ?_
 cases j
 exact Eo1 () [] []
theorem rm {s_:ByteArray} {r:ByteArray} (H:jS s_=some r):CT G 163 [.string s_] [] [] (λ_:Unit=> .string r) (λh=>[]) (λh=>[]):=by
 delta jS at H
 refine Cf Go.Proofs.Tryz.func163 λK=> ?_
 refine Z2 ?_
 have ⟨r1,h2,H3⟩:=bnd H
 refine Lk [] [] (uw h2) λ⟨⟩=> ?_
 refine Z1 ?_
 refine La [] [] (Ac.bs (ty:=(Ty.int .u8)) (xs:=[(IntKind.u8.wrap (r1.tmod 256)),(IntKind.u8.wrap ((IntKind.i64.wrap (r1.tdiv 256)).tmod 256)),(IntKind.u8.wrap ((IntKind.i64.wrap (r1.tdiv 65536)).tmod 256)),(IntKind.u8.wrap (IntKind.i64.wrap (r1.tdiv 16777216)))]) (.cons () [] rfl (.cons () [] rfl (.cons () [] rfl (.cons () [] rfl .nil)))) rfl rfl rfl rfl rfl rfl rfl) λg4=> ?_
 refine Ly (Yl.bs 0 rfl rfl rfl rfl rfl rfl rfl rfl rfl) ?_
 have ⟨_,h6,H7⟩:=bnd H3
 refine Ly (Yl.sa h6 rfl rfl rfl) ?_
 refine Z0 ?_
 cases H7
 exact Eo1 () [] []
theorem wJ {s_:ByteArray} {r:ByteArray×Bool} (H:kN s_=some r):CT G 108 [.string s_] [] [] (λ_:Unit=> .tuple #[.string r.1,.bool r.2]) (λh=>[]) (λh=>[]):=by
 delta kN at H
 refine Cf Go.Proofs.Tryz.func108 λK=> ?_
 refine Y3 ?_
 have ⟨c,d,e⟩:=bnd H
 refine Tj0 [(16,.bool c)] [0] [] [] ?_ ?_
 ·refine Z0 ?_
  refine Lw 7 d (λa=> ?_) λa=> ?_
  ·refine Z0 ?_
   cases a
   exact Eg0 [] 0
  refine Z0 ?_
  have ⟨_,f,g⟩:=bnd a
  refine Ly (Yl.sc f rfl rfl rfl rfl rfl rfl) ?_
  have ⟨m,i,j⟩:=bnd g
  refine Lk [] [] (rm i) λ⟨⟩=> ?_
  refine Z0 ?_
  cases j
  exact Eg0 [] 0
 refine Tb e (λb=> ?_) λb=> ?_
 ·refine Z1 ?_
  cases b
  exact Eo () [] [] (.tmp rfl (.tmp rfl .nil))
 refine Z1 ?_
 have ⟨_,k,l⟩:=bnd b
 refine Ly (Yl.sc k rfl rfl rfl rfl rfl rfl) ?_
 refine Z0 ?_
 cases l
 exact Eo () [] [] (.tmp rfl (.tmp rfl .nil))
theorem cR {in_:aW} {r:aW×Int} (H:bG in_=some r):CT G 109 [.agg #[.string in_.s,.int .i64 in_.e]] [] [] (λ_:Unit=> .tuple #[.agg #[.string r.1.s,.int .i64 r.1.e],.int .i64 r.2]) (λh=>[]) (λh=>[]):=by
 delta bG at H
 refine Cf Go.Proofs.Tryz.func109 λK=> ?_
 refine Z1 ?_
 refine Lx λg1=> ?_
 refine Ll λg2=> ?_
 refine Z2 ?_
 refine Tb H (λH4=> ?_) λH4=> ?_
 ·refine Z1 ?_
  refine Lt 0 ?_
  refine Z0 ?_
  cases H4
  exact Eo () [] [] (.cell 0 rfl rfl rfl (.tmp rfl .nil))
 refine Z3 ?_
 refine Z1 ?_
 have ⟨a,t,b⟩:=bnd H4
 refine Tj (η:=Unit×Unit) (λh=>a = .inl h.1) (λ_=>[]) [2] (λ_=>[]) [0,1] (λ_=>[]) ?_ ?_
 ·refine Yl0 ?_
  refine Tq (η:=Unit) (λc h=>[(4,.int .i64 c.1),(5,.int .i64 c.2.1),(6,.int .i64 c.2.2)]) [1,2] (λ_ _=>[]) [0,1] (λ_ _=>[]) () [0,0] [] t ?_
  rintro k_ c ⟨⟩ i u v d
  refine Z2 ?_
  refine Tb u (λj=> ?_) λj=> ?_
  ·refine Y1 ?_
   have ⟨f,w,g⟩:=bnd j
   refine Tj (η:=(Int×Int)×Unit) (λh=>f = .inl h.1) (λh=>(λk=>[(4,.int .i64 k.1),(5,.int .i64 k.2)]) h.1) [1,2,6] (λ_=>[]) [0,1] (λ_=>[]) ?_ ?_
   ·refine Zl ?_
    refine Z2 ?_
    refine Tb w (λl=> ?_) λl=> ?_
    ·refine Z1 ?_
     refine Lt 0 ?_
     refine Z0 ?_
     obtain ⟨Q,hz,x⟩:=gA l
     subst f
     obtain rfl:=(sm g).symm
     refine Z0 ?_
     obtain ⟨R,hz,y⟩:=cK x
     subst i
     have hb:=d _ rfl
     subst a
     obtain rfl:=(sm b).symm
     refine Z0 ?_
     cases y
     exact Eo () [] [] (.cell 0 rfl rfl rfl (.tmp rfl .nil))
    refine Z1 ?_
    have ⟨S,z,A⟩:=bnd l
    refine Ly (Yl.si z rfl rfl rfl rfl rfl) ?_
    refine Z3 ?_
    refine Tb A (λm=> ?_) λm=> ?_
    ·refine Y2 ?_
     have ⟨B,C,F⟩:=bnd m
     refine Tj0 [(44,.bool B)] [1,2,4,6] [] [0,1] ?_ ?_
     ·refine Z0 ?_
      refine Lw 37 C (λn=> ?_) λn=> ?_
      ·refine Z0 ?_
       refine Lw 41 n (λo=> ?_) λo=> ?_
       ·refine Z0 ?_
        cases o
        exact Eg0 [0,0] 0
       refine Z0 ?_
       cases o
       exact Eg0 [0,0] 0
      refine Z0 ?_
      cases n
      exact Eg0 [0,0] 0
     refine Tb F (λp=> ?_) λp=> ?_
     ·refine Z1 ?_
      refine Lt 0 ?_
      refine Z0 ?_
      obtain ⟨U,hz,I⟩:=gA p
      subst f
      obtain rfl:=(sm g).symm
      refine Z0 ?_
      obtain ⟨V,hz,J⟩:=cK I
      subst i
      have hb:=d _ rfl
      subst a
      obtain rfl:=(sm b).symm
      refine Z0 ?_
      cases J
      exact Eo () [] [] (.cell 0 rfl rfl rfl (.tmp rfl .nil))
     refine Z1 ?_
     have ⟨_,M,N⟩:=bnd p
     refine Ly (Yl.sc M rfl rfl rfl rfl rfl rfl) ?_
     refine Z0 ?_
     refine Lt 0 ?_
     refine Z0 ?_
     obtain ⟨W,hz,O⟩:=gA N
     subst f
     obtain rfl:=(sm g).symm
     refine Z0 ?_
     obtain ⟨X,hz,P⟩:=cK O
     subst i
     have hb:=d _ rfl
     subst a
     obtain rfl:=(sm b).symm
     refine Z0 ?_
     cases P
     exact Eo () [] [] (.cell 0 rfl rfl rfl (.tmp rfl .nil))
    refine Z1 ?_
    refine Tb m (λq=> ?_) λq=> ?_
    ·refine Z0 ?_
     cases q
     exact Eg (_,()) rfl [0,0] [] 0
    refine Z0 ?_
    cases q
    exact Eg (_,()) rfl [0,0] [] 0
   rintro ⟨k,⟨⟩⟩ hy
   subst hy
   refine Z0 ?_
   cases g
   exact Eg (_,()) (v _ rfl) [0,0] [] 0
  refine Z0 ?_
  cases j
  have hb:=d _ rfl
  subst a
  exact Eg (_,()) rfl [0,0] [] 0
 rintro ⟨Y,⟨⟩⟩ hy
 subst hy
 refine Z1 ?_
 refine Lt 0 ?_
 refine Z0 ?_
 cases b
 exact Eo () [] [] (.cell 0 rfl rfl rfl (.tmp rfl .nil))
theorem yi {in_:aW} {n_:Int} {r:aW×ByteArray} (H:mU in_ n_=some r):CT G 164 [.agg #[.string in_.s,.int .i64 in_.e],.int .i64 n_] [] [] (λ_:Unit=> .tuple #[.agg #[.string r.1.s,.int .i64 r.1.e],.string r.2]) (λh=>[]) (λh=>[]):=by
 delta mU at H
 refine Cf Go.Proofs.Tryz.func164 λK=> ?_
 refine Z1 ?_
 refine Lx λg1=> ?_
 refine Ll λg2=> ?_
 refine Z3 ?_
 refine Tb H (λH4=> ?_) λH4=> ?_
 ·refine Z1 ?_
  refine Lt 0 ?_
  refine Z0 ?_
  cases H4
  exact Eo () [] [] (.cell 0 rfl rfl rfl (.tmp rfl .nil))
 refine Z2 ?_
 refine Tb H4 (λH6=> ?_) λH6=> ?_
 ·refine Z1 ?_
  refine Lt 0 ?_
  refine Z0 ?_
  cases H6
  exact Eo () [] [] (.cell 0 rfl rfl rfl (.tmp rfl .nil))
 refine Y1 ?_
 refine Td [] [1] mo ?_
 refine Dq 0 ?_
 refine Db 1 0 ?_
 refine Dq 2 ?_
 have ⟨_,a,b⟩:=bnd H6
 refine Dy 3 (Yl.sc a rfl rfl rfl rfl rfl rfl) ?_
 refine Dq 4 ?_
 refine Dq 5 ?_
 refine Db 6 0 ?_
 refine Dq 7 ?_
 have ⟨_,c,d⟩:=bnd b
 refine Dy 8 (Yl.sc c rfl rfl rfl rfl rfl rfl) ?_
 refine Da [0] [] rfl rfl (Ac.stb rfl rfl rfl rfl rfl rfl) λ_=> ?_
 refine Dq 10 ?_
 refine Dn ?_
 refine Z0 ?_
 cases d
 exact Eo () [] [] (.cell 1 rfl rfl rfl (.tmp rfl .nil))
theorem nU {in_:aW} {r:aW×ByteArray} (H:fU in_=some r):CT G 110 [.agg #[.string in_.s,.int .i64 in_.e]] [] [] (λ_:Unit=> .tuple #[.agg #[.string r.1.s,.int .i64 r.1.e],.string r.2]) (λh=>[]) (λh=>[]):=by
 delta fU at H
 refine Cf Go.Proofs.Tryz.func110 λK=> ?_
 refine Z1 ?_
 refine Lx λg1=> ?_
 refine Ll λg2=> ?_
 refine Z1 ?_
 have ⟨r3,h4,H5⟩:=bnd H
 refine Lk [] [] (cR h4) λ⟨⟩=> ?_
 refine Z0 ?_
 refine Ll λg6=> ?_
 refine Lt 0 ?_
 refine Z1 ?_
 have ⟨r7,h8,H9⟩:=bnd H5
 refine Lk [] [] (yi h8) λ⟨⟩=> ?_
 refine Z0 ?_
 refine Lt 1 ?_
 refine Z0 ?_
 cases H9
 exact Eo () [] [] (.cell 0 rfl rfl rfl (.tmp rfl .nil))
theorem sB {in_:aW} {r:Int} (H:kD in_=some r):CT G 111 [.agg #[.string in_.s,.int .i64 in_.e]] [] [] (λ_:Unit=> .int .i64 r) (λh=>[]) (λh=>[]):=by
 delta kD at H
 refine Cf Go.Proofs.Tryz.func111 λK=> ?_
 refine Z1 ?_
 refine Lx λg1=> ?_
 refine Y2 ?_
 have ⟨e5,H6,H7⟩:=bnd H
 refine Tj0 [(10,.bool e5)] [1] [] [0] ?_ ?_
 ·refine Z0 ?_
  refine Lw 6 H6 (λH8=> ?_) λH8=> ?_
  ·refine Z0 ?_
   cases H8
   exact Eg0 [0] 0
  refine Z0 ?_
  cases H8
  exact Eg0 [0] 0
 refine Tb H7 (λa=> ?_) λa=> ?_
 ·refine Z1 ?_
  cases a
  exact Eo1 () [] []
 refine Z1 ?_
 cases a
 exact Eo1 () [] []
theorem eQ {n_:Int} {r:ByteArray} (H:cF n_=some r):CT G 202 [.int .i64 n_] [] [] (λ_:Unit=> .string r) (λh=>[]) (λh=>[]):=by
 delta cF at H
 refine Cf Go.Proofs.Tryz.func202 λK=> ?_
 refine Z3 ?_
 refine La [] [] (Ac.bs (ty:=(Ty.int .u8)) (xs:=[]) .nil rfl rfl rfl rfl rfl rfl rfl) λg1=> ?_
 refine Y1 ?_
 have ⟨b,i,j⟩:=bnd H
 refine Tjh (η:=(Option Addr×Nat)) (λh=>(λe f=>[(0,.int .i64 b.1),(3,.slice e b.2.length f)]) h.1 h.2) [] (λh=>(λe f=>[Ch.arr (Ty.int .u8) 5 e f b.2]) h.1 h.2) [] (λ_=>[]) ?_ ?_
 ·refine Yl0 ?_
  refine Tq (η:=(Option Addr×Nat)) (λa h=>(λc d=>[(0,.int .i64 a.1),(3,.slice c a.2.length d)]) h.1 h.2) [] (λa h=>(λc d=>[Ch.arr (Ty.int .u8) 5 c d a.2]) h.1 h.2) [] (λ_ _=>[]) ((some ⟨g1,0,none⟩),0) [0] [] i ?_
  rintro k_ a ⟨c,d⟩ u k l m
  refine Z2 ?_
  refine Tb k (λg=> ?_) λg=> ?_
  ·refine Zl ?_
   refine Z1 ?_
   refine La [] [] (Ac.bs (ty:=(Ty.int .u8)) (xs:=[(IntKind.u8.wrap (IntKind.i64.wrap (128+(a.1.tmod 128))))]) (.cons () [] rfl .nil) rfl rfl rfl rfl rfl rfl rfl) λv=> ?_
   refine L.frz 0 rfl ?_
   have ⟨_,n,o⟩:=bnd g
   refine La [0] [0] (Ac.ap (ty:=(Ty.int .u8)) n rfl rfl rfl rfl rfl rfl rfl) ?_
   rintro ⟨p,q⟩
   refine Z0 ?_
   cases o
   exact Eg (_,(p,q)) (l _ rfl) [0] [] 1
  refine Z0 ?_
  cases g
  have hb:=m _ rfl
  subst b
  exact Eg (c,d) trivial [0] [] 0
 rintro ⟨e,f⟩
 refine Z1 ?_
 refine La [] [] (Ac.bs (ty:=(Ty.int .u8)) (xs:=[(IntKind.u8.wrap b.1)]) (.cons () [] rfl .nil) rfl rfl rfl rfl rfl rfl rfl) λw=> ?_
 refine L.frz 0 rfl ?_
 have ⟨_,s,t⟩:=bnd j
 refine La [0] [0] (Ac.ap (ty:=(Ty.int .u8)) s rfl rfl rfl rfl rfl rfl rfl) ?_
 rintro ⟨x,y⟩
 refine Ly (Yl.bs 0 rfl rfl rfl rfl rfl rfl rfl rfl rfl) ?_
 refine Z0 ?_
 cases t
 exact Eo1 () [] []
theorem rn {s_:ByteArray} {r:ByteArray} (H:jR s_=some r):CT G 203 [.string s_] [] [] (λ_:Unit=> .string r) (λh=>[]) (λh=>[]):=by
 delta jR at H
 refine Cf Go.Proofs.Tryz.func203 λK=> ?_
 refine Z2 ?_
 have ⟨r1,h2,H3⟩:=bnd H
 refine Lk [] [] (eQ h2) λ⟨⟩=> ?_
 refine Z0 ?_
 have ⟨_,h4,H5⟩:=bnd H3
 refine Ly (Yl.sa h4 rfl rfl rfl) ?_
 refine Z0 ?_
 cases H5
 exact Eo1 () [] []
theorem pC {g:bA} {r:ByteArray} (H:jg g=some r):CT G 165 [.agg (oH g A0 C0).toArray] [] [Im.sl (Ty.int .i64) A0 C0 g.aX] (λ_:Unit=> .string r) (λh=>[]) (λh=>[]):=by
 delta jg at H
 refine Cf Go.Proofs.Tryz.func165 λK=> ?_
 refine Z1 ?_
 refine Lx λg1=> ?_
 refine Y1 ?_
 refine Td [] [0] mo ?_
 refine Dq 0 ?_
 refine Db 1 0 ?_
 refine Dq 3 ?_
 refine Db 4 0 ?_
 refine Dq 7 ?_
 refine Db 8 0 ?_
 refine Dq 9 ?_
 have ⟨O,e,f⟩:=bnd H
 refine Dk [] [] (eQ e) λ⟨⟩=> ?_
 have ⟨P,i,j⟩:=bnd f
 refine Dk [] [] (eQ i) λ⟨⟩=> ?_
 have ⟨_,k,l⟩:=bnd j
 refine Dy 6 (Yl.sa k rfl rfl rfl) ?_
 have ⟨Q,m,n⟩:=bnd l
 refine Dk [] [] (eQ m) λ⟨⟩=> ?_
 have ⟨_,o,p⟩:=bnd n
 refine Dy 11 (Yl.sa o rfl rfl rfl) ?_
 refine Dq 12 ?_
 refine Dn ?_
 refine Z2 ?_
 have ⟨d,q,s⟩:=bnd p
 refine Tj0 [(3,.string d)] [1] [] [0] ?_ ?_
 ·refine Yl0 ?_
  refine Tq (η:=Unit) (λa h=>[(3,.string a.2),(21,.int .i64 a.1)]) [1,19,20] (λ_ _=>[]) [0] (λ_ _=>[]) () [0] [] q ?_
  rintro k_ a ⟨⟩ R t u v
  refine Y2 ?_
  refine Tb t (λb=> ?_) λb=> ?_
  ·refine Z1 ?_
   refine Zl ?_
   refine Z1 ?_
   have ⟨S,c,w⟩:=bnd b
   refine L.addr 0 rfl (bH c) λU V x=> ?_
   subst x
   refine Ly (Yl.ia c rfl rfl rfl rfl rfl rfl) ?_
   refine L.el 0 rfl (aI c).2 ?_
   rintro _
   refine Lc 0 0 ?_
   refine Z0 ?_
   have ⟨W,y,z⟩:=bnd w
   refine Lk [] [] (eQ y) λ⟨⟩=> ?_
   have ⟨_,A,B⟩:=bnd z
   refine Ly (Yl.sa A rfl rfl rfl) ?_
   refine Z0 ?_
   cases B
   exact Eg (_,()) (u _ rfl) [0] [] 1
  refine Z0 ?_
  cases b
  have hb:=v _ rfl
  subst d
  exact Eg0 [0] 0
 refine Z1 ?_
 have ⟨X,C,F⟩:=bnd s
 refine Lk [] [] (rn C) λ⟨⟩=> ?_
 have ⟨_,I,J⟩:=bnd F
 refine Ly (Yl.sa I rfl rfl rfl) ?_
 have ⟨Y,M,N⟩:=bnd J
 refine Lk [] [] (rm M) λ⟨⟩=> ?_
 refine Z0 ?_
 cases N
 exact Eo1 () [] []
theorem pD {g:bA} {r:Int} (H:jh g=some r):CT G 112 [.agg (oH g A0 C0).toArray] [] [Im.sl (Ty.int .i64) A0 C0 g.aX] (λ_:Unit=> .int .i64 r) (λh=>[]) (λh=>[]):=by
 delta jh at H
 refine Cf Go.Proofs.Tryz.func112 λK=> ?_
 refine Z1 ?_
 refine Lx λg1=> ?_
 refine Y2 ?_
 have ⟨q,s,t⟩:=bnd H
 refine Tj0 [(28,.bool q)] [1] [] [0] ?_ ?_
 ·refine Z0 ?_
  refine Lw 8 s (λa=> ?_) λa=> ?_
  ·refine Z0 ?_
   cases a
   exact Eg0 [0] 0
  refine Z0 ?_
  refine Lw 13 a (λb=> ?_) λb=> ?_
  ·refine Z0 ?_
   cases b
   exact Eg0 [0] 0
  refine Z0 ?_
  refine Lw 18 b (λc=> ?_) λc=> ?_
  ·refine Z0 ?_
   cases c
   exact Eg0 [0] 0
  refine Z0 ?_
  refine Lw 23 c (λd=> ?_) λd=> ?_
  ·refine Z0 ?_
   cases d
   exact Eg0 [0] 0
  refine Z0 ?_
  cases d
  exact Eg0 [0] 0
 refine Tb t (λe=> ?_) λe=> ?_
 ·refine Z1 ?_
  cases e
  exact Eo1 () [] []
 refine Z2 ?_
 have ⟨f,u,n⟩:=bnd e
 refine Tj (η:=Unit×Unit) (λh=>f = .inl h.1) (λ_=>[]) [1] (λ_=>[]) [0] (λ_=>[]) ?_ ?_
 ·refine Yl0 ?_
  refine Tq (η:=Unit) (λo h=>[(32,.int .i64 o)]) [1,30,31] (λ_ _=>[]) [0] (λ_ _=>[]) () [0] [] u ?_
  rintro k_ o ⟨⟩ v w x p
  refine Y2 ?_
  refine Tb w (λi=> ?_) λi=> ?_
  ·refine Z1 ?_
   refine Zl ?_
   refine Z1 ?_
   have ⟨M,j,y⟩:=bnd i
   refine L.addr 0 rfl (bH j) λN O z=> ?_
   subst z
   refine Ly (Yl.ia j rfl rfl rfl rfl rfl rfl) ?_
   refine L.el 0 rfl (aI j).2 ?_
   rintro _
   refine Lc 0 0 ?_
   refine Y1 ?_
   have ⟨A,B,C⟩:=bnd y
   refine Tj0 [(41,.bool A)] [1,30,31,32] [] [0] ?_ ?_
   ·refine Z0 ?_
    refine Lw 38 B (λk=> ?_) λk=> ?_
    ·refine Z0 ?_
     cases k
     exact Eg0 [0] 0
    refine Z0 ?_
    cases k
    exact Eg0 [0] 0
   refine Tb C (λl=> ?_) λl=> ?_
   ·refine Z1 ?_
    obtain ⟨P,hz,F⟩:=cK l
    subst v
    have hb:=p _ rfl
    subst f
    obtain rfl:=(sm n).symm
    refine Z0 ?_
    cases F
    exact Eo1 () [] []
   refine Z0 ?_
   cases l
   exact Eg (_,()) (x _ rfl) [0] [] 1
  refine Z0 ?_
  cases i
  have hb:=p _ rfl
  subst f
  exact Eg (_,()) rfl [0] [] 0
 rintro ⟨Q,⟨⟩⟩ hy
 subst hy
 refine Z2 ?_
 have ⟨R,I,J⟩:=bnd n
 refine Lk [] [0] (pC I) λ⟨⟩=> ?_
 refine Z0 ?_
 refine Tb J (λm=> ?_) λm=> ?_
 ·refine Z1 ?_
  cases m
  exact Eo1 () [] []
 refine Z1 ?_
 cases m
 exact Eo1 () [] []
theorem uM {s_:ByteArray} {r:bA×Int} (H:kg s_=some r):CT G 60 [.string s_] [] [] (λh:(Option Addr×Nat)=> .tuple #[.agg (oH r.1 h.1 h.2).toArray,.int .i64 r.2]) (λh=>[]) (λh=>[Im.sl (Ty.int .i64) h.1 h.2 r.1.aX]):=by
 delta kg at H
 refine Cf Go.Proofs.Tryz.func60 λK=> ?_
 refine Z1 ?_
 refine Ll λg1=> ?_
 refine Z2 ?_
 refine Tb H (λH3=> ?_) λH3=> ?_
 ·refine Z1 ?_
  refine Lt 0 ?_
  refine Z0 ?_
  refine E.dD [Im.sl (Ty.int .i64) none 0 []] (λA w _ _ f hf=>by rw [List.mem_singleton.1 hf]; exact Im.bV A w) ?_
  cases H3
  exact Eo (none,0) [] [0] (.cell 0 rfl rfl rfl (.tmp rfl .nil))
 refine Z1 ?_
 have ⟨r5,h6,H7⟩:=bnd H3
 refine Lk [] [] (wJ h6) λ⟨⟩=> ?_
 refine Z2 ?_
 refine Tb H7 (λH9=> ?_) λH9=> ?_
 ·refine Z1 ?_
  refine Lt 0 ?_
  refine Z0 ?_
  refine E.dD [Im.sl (Ty.int .i64) none 0 []] (λA w _ _ f hf=>by rw [List.mem_singleton.1 hf]; exact Im.bV A w) ?_
  cases H9
  exact Eo (none,0) [] [0] (.cell 0 rfl rfl rfl (.tmp rfl .nil))
 refine Z1 ?_
 refine Ll λp=> ?_
 refine Lt 0 ?_
 refine Z1 ?_
 refine Ll λq=> ?_
 refine Lt 0 ?_
 refine Z2 ?_
 have ⟨ag,t,u⟩:=bnd H9
 refine Lk [] [] (cR t) λ⟨⟩=> ?_
 refine Z0 ?_
 refine Lt 1 ?_
 refine Z0 ?_
 refine Lt 1 ?_
 refine Z1 ?_
 have ⟨ah,v,x⟩:=bnd u
 refine Lk [] [] (cR v) λ⟨⟩=> ?_
 refine Z0 ?_
 refine Lt 1 ?_
 refine Z0 ?_
 refine Lt 1 ?_
 refine Z1 ?_
 have ⟨ai,y,z⟩:=bnd x
 refine Lk [] [] (cR y) λ⟨⟩=> ?_
 refine Z0 ?_
 refine Lt 1 ?_
 refine Y2 ?_
 have ⟨B,C,F⟩:=bnd z
 refine Tj0 [(51,.bool B)] [2,6,7,8] [] [0,1,2] ?_ ?_
 ·refine Z0 ?_
  refine Lw 48 C (λj=> ?_) λj=> ?_
  ·refine Z0 ?_
   cases j
   exact Eg0 [0,0,0] 0
  refine Z0 ?_
  cases j
  exact Eg0 [0,0,0] 0
 refine Tb F (λk=> ?_) λk=> ?_
 ·refine Z1 ?_
  refine Lt 2 ?_
  refine Z0 ?_
  refine E.dD [Im.sl (Ty.int .i64) none 0 []] (λA w _ _ f hf=>by rw [List.mem_singleton.1 hf]; exact Im.bV A w) ?_
  cases k
  exact Eo (none,0) [] [0] (.cell 0 rfl rfl rfl (.tmp rfl .nil))
 refine Z2 ?_
 have ⟨b,I,J⟩:=bnd k
 refine Tjh (η:=(Option Addr×Nat)) (λ_=>[]) [2,6,7] (λh=>(λg i=>[Ch.arr (Ty.int .i64) 3 g i b.2.aX,Ch.box p 193 [.string b.1.s,.int .i64 b.1.e],Ch.box q 123 (oH b.2 g i)]) h.1 h.2) [2] (λ_=>[]) ?_ ?_
 ·refine Yl0 ?_
  refine T.fZ (Ty.int .i64) 3 ?_
  refine Tq (η:=(Option Addr×Nat)) (λa h=>(λc d=>[(9,.int .i64 a.2.2)]) h.1 h.2) [2,6,7,8] (λa h=>(λc d=>[Ch.arr (Ty.int .i64) 3 c d a.2.1.aX,Ch.box p 193 [.string a.1.s,.int .i64 a.1.e],Ch.box q 123 (oH a.2.1 c d)]) h.1 h.2) [3] (λ_ _=>[]) (none,0) [0,0,0,0] [] I ?_
  rintro k_ a ⟨c,d⟩ aj M N O
  refine Y2 ?_
  have ⟨P,Q,R⟩:=bnd M
  refine Tj0 [(60,.bool P)] [2,6,7,8,9] [] [1,2,3,0] ?_ ?_
  ·refine Z0 ?_
   refine Lw 56 Q (λl=> ?_) λl=> ?_
   ·refine Z0 ?_
    cases l
    exact Eg0 [1,1,1,0] 0
   refine Z0 ?_
   cases l
   exact Eg0 [1,1,1,0] 0
  refine Tb R (λm=> ?_) λm=> ?_
  ·refine Z1 ?_
   refine Zl ?_
   refine Z2 ?_
   have ⟨S,U,V⟩:=bnd m
   refine Lk [] [] (cR U) λ⟨⟩=> ?_
   refine Z0 ?_
   refine Lt 0 ?_
   refine Z0 ?_
   refine La [] [] (Ac.bs (ty:=(Ty.int .i64)) (xs:=[S.2]) (.cons () [] rfl .nil) rfl rfl rfl rfl rfl rfl rfl) λak=> ?_
   refine L.frz 0 rfl ?_
   have ⟨_,W,X⟩:=bnd V
   refine La [3] [0] (Ac.ap (ty:=(Ty.int .i64)) W rfl rfl rfl rfl rfl rfl rfl) ?_
   rintro ⟨Y,Z⟩
   refine Z0 ?_
   refine Lt 2 ?_
   refine Z0 ?_
   cases X
   exact Eg (_,(Y,Z)) (N _ rfl) [1,1,0,0] [] 1
  refine Z0 ?_
  cases m
  have hb:=O _ rfl
  subst b
  exact Eg (c,d) trivial [3,0,0,0] [] 0
 rintro ⟨g,i⟩
 refine Z1 ?_
 have ⟨al,aa,ab⟩:=bnd J
 refine Lk [] [] (nU aa) λ⟨⟩=> ?_
 refine Z0 ?_
 refine Lt 1 ?_
 refine Z0 ?_
 refine Lt 2 ?_
 refine Z2 ?_
 have ⟨am,ac,ad⟩:=bnd ab
 refine Lk [] [] (sB ac) λ⟨⟩=> ?_
 refine Z1 ?_
 refine Tb ad (λn=> ?_) λn=> ?_
 ·refine Z1 ?_
  refine Lt 3 ?_
  refine Z0 ?_
  refine E.dD [Im.sl (Ty.int .i64) none 0 []] (λA w _ _ f hf=>by rw [List.mem_singleton.1 hf]; exact Im.bV A w) ?_
  cases n
  exact Eo (none,0) [] [0] (.cell 0 rfl rfl rfl (.tmp rfl .nil))
 refine Z2 ?_
 refine L.frz 2 rfl ?_
 have ⟨an,ae,af⟩:=bnd n
 refine Lk [] [0] (pD ae) λ⟨⟩=> ?_
 refine Z1 ?_
 refine Tb af (λo=> ?_) λo=> ?_
 ·refine Z1 ?_
  refine Lt 2 ?_
  refine Z0 ?_
  refine E.dD [Im.sl (Ty.int .i64) none 0 []] (λA w _ _ f hf=>by rw [List.mem_singleton.1 hf]; exact Im.bV A w) ?_
  cases o
  exact Eo (none,0) [] [0] (.cell 0 rfl rfl rfl (.tmp rfl .nil))
 refine Z1 ?_
 refine Lt 2 ?_
 refine Z0 ?_
 cases o
 exact Eo (g,i) [] [0] (.cell 0 rfl rfl rfl (.tmp rfl .nil))
theorem sC {s_:cM} {key:Int} {index:Int} {count:Int} {data:ByteArray} {r:cM×Int} (H:lL s_ key index count data=some r):CT G 113 [.agg #[.int .i64 s_.key,.slice A0 s_.has.length C0,.slice A1 s_.parts.length C1],.int .i64 key,.int .i64 index,.int .i64 count,.string data] [] [Im.sl Ty.bool A0 C0 s_.has,Im.sl Ty.str A1 C1 s_.parts] (λh:(Option Addr×Nat)×(Option Addr×Nat)=> .tuple #[.agg #[.int .i64 r.1.key,.slice h.1.1 r.1.has.length h.1.2,.slice h.2.1 r.1.parts.length h.2.2],.int .i64 r.2]) (λh=>[]) (λh=>[Im.sl Ty.bool h.1.1 h.1.2 r.1.has,Im.sl Ty.str h.2.1 h.2.2 r.1.parts]):=by
 delta lL at H
 refine Cf Go.Proofs.Tryz.func113 λK=> ?_
 refine Z1 ?_
 refine Lx λg1=> ?_
 refine Ll λg2=> ?_
 refine Y2 ?_
 have ⟨I,J,M⟩:=bnd H
 refine Tj0 [(31,.bool I)] [1,2,3,4,5,10] [] [0,1] ?_ ?_
 ·refine Z0 ?_
  refine Lw 15 J (λl=> ?_) λl=> ?_
  ·refine Z0 ?_
   cases l
   exact Eg0 [0,0] 0
  refine Z0 ?_
  refine Lw 19 l (λm=> ?_) λm=> ?_
  ·refine Z0 ?_
   cases m
   exact Eg0 [0,0] 0
  refine Z0 ?_
  refine Lw 23 m (λn=> ?_) λn=> ?_
  ·refine Z0 ?_
   cases n
   exact Eg0 [0,0] 0
  refine Z0 ?_
  refine Lw 28 n (λo=> ?_) λo=> ?_
  ·refine Z0 ?_
   cases o
   exact Eg0 [0,0] 0
  refine Z0 ?_
  cases o
  exact Eg0 [0,0] 0
 refine Tb M (λp=> ?_) λp=> ?_
 ·refine Z1 ?_
  refine Lt 0 ?_
  refine Z0 ?_
  cases p
  exact Eo ((A0,C0),(A1,C1)) [] [0,1] (.cell 0 rfl rfl rfl (.tmp rfl .nil))
 refine Z2 ?_
 refine Tb p (λs=> ?_) λs=> ?_
 ·refine Z1 ?_
  refine Lt 0 ?_
  refine Z0 ?_
  cases s
  exact Eo ((A0,C0),(A1,C1)) [] [0,1] (.cell 0 rfl rfl rfl (.tmp rfl .nil))
 refine Y1 ?_
 refine Td [7] [0,0] mo ?_
 refine Dq 0 ?_
 refine Dq 1 ?_
 refine Dq 3 ?_
 refine DF.of rfl ?_
 refine DF.add _ (FSp.ac 6 [] (Ac.alloc rfl rfl) rfl rfl rfl rfl rfl) rfl ?_
 have ⟨_,N,O⟩:=bnd s
 refine DF.add _ (FSp.ac 2 [] (Ac.mk (ty:=Ty.bool) false () N (λ_ _ f hf=>by cases hf) rfl rfl rfl rfl rfl rfl rfl) rfl rfl rfl rfl rfl) rfl ?_
 have ⟨_,P,Q⟩:=bnd O
 refine DF.add _ (FSp.ac 4 [] (Ac.mk (ty:=Ty.str) (ByteArray.mk #[]) () P (λ_ _ f hf=>by cases hf) rfl rfl rfl rfl rfl rfl rfl) rfl rfl rfl rfl rfl) rfl ?_
 refine DF.step 5 rfl rfl rfl rfl rfl ?_
 refine DFp.use 0 rfl rfl rfl ?_
 intro j
 refine DFp.use 0 rfl rfl rfl ?_
 intro k
 refine DFp.a [] [] (Ac.q rfl) rfl rfl rfl rfl rfl rfl rfl rfl ?_
 intro _
 refine DF.step 7 rfl rfl rfl rfl rfl ?_
 refine DFp.use 0 rfl rfl rfl ?_
 intro A
 refine DFp.al [2] [] (Ac.stb rfl rfl rfl rfl rfl rfl) rfl rfl rfl rfl rfl rfl rfl ?_
 intro _
 refine DF.fin rfl rfl rfl rfl rfl ?_
 refine DFe.nil ?_
 refine Z2 ?_
 have ⟨B,R,C⟩:=bnd Q
 refine Tj (η:=cM×((Option Addr×Nat)×(Option Addr×Nat))) (λh=>B = .inl h.1) (λ_=>[]) [2,4,10,12] (λh=>(λb=>(λt c e d=>[Ch.arr Ty.bool 4 t c b.has,Ch.arr Ty.str 9 e d b.parts,Ch.box A 56 [.int .i64 b.key,.slice t b.has.length c,.slice e b.parts.length d]]) h.2.1.1 h.2.1.2 h.2.2.1 h.2.2.2) h.1) [1,2] (λ_=>[]) ?_ ?_
 ·refine Tb R (λu=> ?_) λu=> ?_
  ·refine Z2 ?_
   refine Tb u (λw=> ?_) λw=> ?_
   ·refine Z1 ?_
    refine Lt 1 ?_
    refine Z0 ?_
    obtain ⟨ae,hz,S⟩:=gA w
    subst B
    obtain rfl:=(sm C).symm
    refine Z0 ?_
    cases S
    exact Eo ((A0,C0),(A1,C1)) [] [0,1] (.cell 0 rfl rfl rfl (.tmp rfl .nil))
   refine Z1 ?_
   refine La [3] [0] (Ac.cp (ty:=Ty.bool) rfl rfl rfl rfl rfl rfl rfl) λ_=> ?_
   refine L.bx 1 (cs':=[.int .i64 key,.slice (some ⟨k,0,none⟩) (cpy (List.replicate count.toNat false) s_.has).length count.toNat,.slice (some ⟨j,0,none⟩) (List.replicate count.toNat (ByteArray.mk #[])).length count.toNat]) (by rw [pH ..]) rfl ?_
   refine Z0 ?_
   refine La [4] [1] (Ac.cp (ty:=Ty.str) rfl rfl rfl rfl rfl rfl rfl) λ_=> ?_
   refine L.bx 1 (cs':=[.int .i64 key,.slice (some ⟨k,0,none⟩) (cpy (List.replicate count.toNat false) s_.has).length count.toNat,.slice (some ⟨j,0,none⟩) (cpy (List.replicate count.toNat (ByteArray.mk #[])) s_.parts).length count.toNat]) (by simp only [pH]) rfl ?_
   refine Z0 ?_
   cases w
   exact Eg (_,(((some ⟨k,0,none⟩),count.toNat),((some ⟨j,0,none⟩),count.toNat))) rfl [2,1,0,0,0] [] 0
  refine Z0 ?_
  cases u
  exact Eg (_,(((some ⟨k,0,none⟩),count.toNat),((some ⟨j,0,none⟩),count.toNat))) rfl [3,3,0,0,0] [] 0
 rintro ⟨b,⟨⟨t,c⟩,⟨e,d⟩⟩⟩ hy
 subst hy
 refine Z2 ?_
 have ⟨U,x,V⟩:=bnd C
 refine L.iw 0 rfl (bH x) λg W=> ?_
 subst W
 refine Ly (Yl.ia x rfl rfl rfl rfl rfl rfl) ?_
 refine Ly (Yl.lo (v:= .bool U) 0 index.toNat 0 (aI x).2 rfl rfl rfl rfl (λ_=>rfl)) ?_
 refine Z0 ?_
 have ⟨i,X,Y⟩:=bnd V
 refine Tj0 [] [10,12] [Ch.arr Ty.bool 4 (some ⟨g,0,none⟩) c i.has,Ch.arr Ty.str 9 e d i.parts,Ch.box A 56 [.int .i64 i.key,.slice (some ⟨g,0,none⟩) i.has.length c,.slice e i.parts.length d]] [3,4] ?_ ?_
 ·refine Tb X (λy=> ?_) λy=> ?_
  ·refine Z1 ?_
   have ⟨af,F,Z⟩:=bnd y
   refine Ly (Yl.ia F rfl rfl rfl rfl rfl rfl) ?_
   refine La [0] [] (Ac.se 0 true (aI F).2 rfl rfl rfl rfl rfl rfl (λ_=>⟨(),rfl,[],rfl⟩)) λ_=> ?_
   refine L.bx 2 (cs':=[.int .i64 b.key,.slice (some ⟨g,0,none⟩) (b.has.set index.toNat true).length c,.slice e b.parts.length d]) (by rw [List.length_set ..]) rfl ?_
   refine Z0 ?_
   have ⟨ag,z,aa⟩:=bnd Z
   refine L.iw 2 rfl (bH z) λab ad=> ?_
   subst ad
   refine Ly (Yl.ia z rfl rfl rfl rfl rfl rfl) ?_
   refine La [2] [] (Ac.se 0 data (aI z).2 rfl rfl rfl rfl rfl rfl (λ_=>⟨(),rfl,[],rfl⟩)) λ_=> ?_
   refine L.bx 1 (cs':=[.int .i64 b.key,.slice (some ⟨g,0,none⟩) (b.has.set index.toNat true).length c,.slice (some ⟨ab,0,none⟩) (b.parts.set index.toNat data).length d]) (by simp only [List.length_set]) rfl ?_
   refine Z0 ?_
   cases aa
   exact Eg0 [2,1,0,0,0] 0
  refine Z0 ?_
  cases y
  exact Eg0 [0,0,0,0,0] 0
 refine Z1 ?_
 refine Lt 3 ?_
 refine Z0 ?_
 refine E.frz 1 rfl ?_
 refine E.frz 1 rfl ?_
 cases Y
 exact Eo (((some ⟨g,0,none⟩),c),(e,d)) [] [1,0] (.cell 0 rfl rfl rfl (.tmp rfl .nil))
theorem uN {s_:cM} {there:Bool} {r:(List Int)} (H:kh s_ there=some r):CT G 166 [.agg #[.int .i64 s_.key,.slice A0 s_.has.length C0,.slice A1 s_.parts.length C1],.bool there] [] [Im.sl Ty.bool A0 C0 s_.has,Im.sl Ty.str A1 C1 s_.parts] (λh:(Option Addr×Nat)=> .slice h.1 r.length h.2) (λh=>[Ch.arr (Ty.int .i64) 3 h.1 h.2 r]) (λh=>[]):=by
 delta kh at H
 refine Cf Go.Proofs.Tryz.func166 λK=> ?_
 refine Z1 ?_
 refine Lx λg1=> ?_
 refine Z1 ?_
 refine La [] [] (Ac.bs (ty:=(Ty.int .i64)) (xs:=[]) .nil rfl rfl rfl rfl rfl rfl rfl) λg2=> ?_
 refine Z2 ?_
 have ⟨i,n,o⟩:=bnd H
 refine Tjh (η:=(Option Addr×Nat)) (λh=>(λd e=>[(5,.slice d i.length e)]) h.1 h.2) [] (λh=>(λd e=>[Ch.arr (Ty.int .i64) 3 d e i]) h.1 h.2) [1] (λ_=>[]) ?_ ?_
 ·refine Yl0 ?_
  refine Tq (η:=(Option Addr×Nat)) (λa h=>(λb c=>[(5,.slice b a.2.length c),(12,.int .i64 a.1)]) h.1 h.2) [1,10,11] (λa h=>(λb c=>[Ch.arr (Ty.int .i64) 3 b c a.2]) h.1 h.2) [1] (λ_ _=>[]) ((some ⟨g2,0,none⟩),0) [0,0] [] n ?_
  rintro k_ a ⟨b,c⟩ B p q s
  refine Y2 ?_
  refine Tb p (λj=> ?_) λj=> ?_
  ·refine Y1 ?_
   have ⟨m,t,u⟩:=bnd j
   refine Tjh (η:=(Option Addr×Nat)) (λh=>(λf g=>[(5,.slice f m.length g)]) h.1 h.2) [1,10,11,12] (λh=>(λf g=>[Ch.arr (Ty.int .i64) 3 f g m]) h.1 h.2) [1] (λ_=>[]) ?_ ?_
   ·refine Zl ?_
    refine Z1 ?_
    have ⟨C,k,v⟩:=bnd t
    refine L.addr 0 rfl (bH k) λF I w=> ?_
    subst w
    refine Ly (Yl.ia k rfl rfl rfl rfl rfl rfl) ?_
    refine L.el 0 rfl (aI k).2 ?_
    rintro _
    refine Lc 0 0 ?_
    refine Z1 ?_
    refine Tb v (λl=> ?_) λl=> ?_
    ·refine Z0 ?_
     refine La [] [] (Ac.bs (ty:=(Ty.int .i64)) (xs:=[a.1]) (.cons () [] rfl .nil) rfl rfl rfl rfl rfl rfl rfl) λJ=> ?_
     refine L.frz 0 rfl ?_
     have ⟨_,x,y⟩:=bnd l
     refine La [0] [0] (Ac.ap (ty:=(Ty.int .i64)) x rfl rfl rfl rfl rfl rfl rfl) ?_
     rintro ⟨z,A⟩
     refine Z0 ?_
     cases y
     exact Eg (z,A) trivial [0,0] [] 2
    refine Z0 ?_
    cases l
    exact Eg (b,c) trivial [0,0] [] 1
   rintro ⟨f,g⟩
   refine Z0 ?_
   cases u
   exact Eg (_,(f,g)) (q _ rfl) [0,0] [] 0
  refine Z0 ?_
  cases j
  have hb:=s _ rfl
  subst i
  exact Eg (b,c) trivial [0,0] [] 0
 rintro ⟨d,e⟩
 refine Z1 ?_
 cases o
 exact Eo1 (d,e) [0] []
theorem yj {s_:cM} {r:ByteArray×Bool} (H:lM s_=some r):CT G 114 [.agg #[.int .i64 s_.key,.slice A0 s_.has.length C0,.slice A1 s_.parts.length C1]] [] [Im.sl Ty.bool A0 C0 s_.has,Im.sl Ty.str A1 C1 s_.parts] (λ_:Unit=> .tuple #[.string r.1,.bool r.2]) (λh=>[]) (λh=>[]):=by
 delta lM at H
 refine Cf Go.Proofs.Tryz.func114 λK=> ?_
 refine Z1 ?_
 refine Lx λg1=> ?_
 refine Z3 ?_
 have ⟨e,g,i⟩:=bnd H
 refine Tj0 [(4,.string e)] [1] [] [0] ?_ ?_
 ·refine Yl0 ?_
  refine Tq (η:=Unit) (λa h=>[(4,.string a.2),(10,.int .i64 a.1)]) [1,8,9] (λ_ _=>[]) [0] (λ_ _=>[]) () [0] [] g ?_
  rintro k_ a ⟨⟩ v j k l
  refine Y2 ?_
  refine Tb j (λb=> ?_) λb=> ?_
  ·refine Z1 ?_
   refine Zl ?_
   refine Z1 ?_
   have ⟨w,c,m⟩:=bnd b
   refine L.addr 1 rfl (bH c) λx y n=> ?_
   subst n
   refine Ly (Yl.ia c rfl rfl rfl rfl rfl rfl) ?_
   refine L.el 1 rfl (aI c).2 ?_
   rintro _
   refine Lc 0 0 ?_
   refine Z0 ?_
   have ⟨_,o,p⟩:=bnd m
   refine Ly (Yl.sa o rfl rfl rfl) ?_
   refine Z0 ?_
   cases p
   exact Eg (_,()) (k _ rfl) [0] [] 1
  refine Z0 ?_
  cases b
  have hb:=l _ rfl
  subst e
  exact Eg0 [0] 0
 refine Y1 ?_
 have ⟨f,q,s⟩:=bnd i
 refine Tj0 [(2,.string f.1),(3,.bool f.2)] [] [] [0] ?_ ?_
 ·refine Z0 ?_
  refine Lw 22 q (λd=> ?_) λd=> ?_
  ·refine Z0 ?_
   have ⟨z,t,u⟩:=bnd d
   refine Lk [] [0,1] (uN t) λ⟨A,B⟩=> ?_
   refine Z0 ?_
   cases u
   exact Eg0 [1] 0
  refine Z0 ?_
  cases d
  exact Eg0 [0] 0
 refine Z0 ?_
 cases s
 exact Eo () [] [] (.tmp rfl (.tmp rfl .nil))
theorem pE {s_:bJ} {r:Bool} (H:ib s_=some r):CT G 204 [.agg (xX s_ A0 C0 A1 C1).toArray] [] [Im.sl bB A0 C0 s_.rows,Im.sl aJ A1 C1 s_.begun] (λ_:Unit=> .bool r) (λh=>[]) (λh=>[]):=by
 delta ib at H
 refine Cf Go.Proofs.Tryz.func204 λK=> ?_
 refine Z1 ?_
 refine Lx λg1=> ?_
 refine Y1 ?_
 have ⟨k,l,m⟩:=bnd H
 refine Tj0 [(2,.bool k)] [] [] [0] ?_ ?_
 ·refine Z0 ?_
  refine Lw 6 l (λa=> ?_) λa=> ?_
  ·refine Z0 ?_
   refine Lw 11 a (λb=> ?_) λb=> ?_
   ·refine Z0 ?_
    refine Lw 16 b (λc=> ?_) λc=> ?_
    ·refine Z0 ?_
     refine Lw 21 c (λd=> ?_) λd=> ?_
     ·refine Z0 ?_
      refine Lw 26 d (λe=> ?_) λe=> ?_
      ·refine Z0 ?_
       refine Lw 31 e (λf=> ?_) λf=> ?_
       ·refine Z0 ?_
        refine Lw 37 f (λg=> ?_) λg=> ?_
        ·refine Z0 ?_
         refine Lw 42 g (λi=> ?_) λi=> ?_
         ·refine Z0 ?_
          refine Lw 47 i (λj=> ?_) λj=> ?_
          ·refine Z0 ?_
           cases j
           exact Eg0 [0] 0
          refine Z0 ?_
          cases j
          exact Eg0 [0] 0
         refine Z0 ?_
         cases i
         exact Eg0 [0] 0
        refine Z0 ?_
        cases g
        exact Eg0 [0] 0
       refine Z0 ?_
       cases f
       exact Eg0 [0] 0
      refine Z0 ?_
      cases e
      exact Eg0 [0] 0
     refine Z0 ?_
     cases d
     exact Eg0 [0] 0
    refine Z0 ?_
    cases c
    exact Eg0 [0] 0
   refine Z0 ?_
   cases b
   exact Eg0 [0] 0
  refine Z0 ?_
  cases a
  exact Eg0 [0] 0
 refine Z0 ?_
 cases m
 exact Eo1 () [] []
theorem sD {s_:bJ} {r:Bool} (H:jG s_=some r):CT G 167 [.agg (xX s_ A0 C0 A1 C1).toArray] [] [Im.sl bB A0 C0 s_.rows,Im.sl aJ A1 C1 s_.begun] (λ_:Unit=> .bool r) (λh=>[]) (λh=>[]):=by
 delta jG at H
 refine Cf Go.Proofs.Tryz.func167 λK=> ?_
 refine Z1 ?_
 refine Lx λg1=> ?_
 refine Z2 ?_
 have ⟨r2,h3,H4⟩:=bnd H
 refine Lk [] [0,1] (pE h3) λ⟨⟩=> ?_
 refine Z0 ?_
 refine Tb H4 (λH6=> ?_) λH6=> ?_
 ·refine Z1 ?_
  cases H6
  exact Eo1 () [] []
 refine Y2 ?_
 have ⟨ap,aq,ar⟩:=bnd H6
 refine Tj0 [(70,.bool ap)] [1] [] [0] ?_ ?_
 ·refine Z0 ?_
  refine Lw 14 aq (λf=> ?_) λf=> ?_
  ·refine Z0 ?_
   cases f
   exact Eg0 [0] 0
  refine Z0 ?_
  refine Lw 19 f (λg=> ?_) λg=> ?_
  ·refine Z0 ?_
   cases g
   exact Eg0 [0] 0
  refine Z0 ?_
  refine Lw 24 g (λi=> ?_) λi=> ?_
  ·refine Z0 ?_
   cases i
   exact Eg0 [0] 0
  refine Z0 ?_
  refine Lw 29 i (λj=> ?_) λj=> ?_
  ·refine Z0 ?_
   cases j
   exact Eg0 [0] 0
  refine Z0 ?_
  refine Lw 34 j (λm=> ?_) λm=> ?_
  ·refine Z0 ?_
   cases m
   exact Eg0 [0] 0
  refine Z0 ?_
  refine Lw 39 m (λn=> ?_) λn=> ?_
  ·refine Z0 ?_
   cases n
   exact Eg0 [0] 0
  refine Z0 ?_
  refine Lw 44 n (λo=> ?_) λo=> ?_
  ·refine Z0 ?_
   cases o
   exact Eg0 [0] 0
  refine Z0 ?_
  refine Lw 51 o (λp=> ?_) λp=> ?_
  ·refine Z0 ?_
   cases p
   exact Eg0 [0] 0
  refine Z0 ?_
  refine Lw 56 p (λq=> ?_) λq=> ?_
  ·refine Z0 ?_
   cases q
   exact Eg0 [0] 0
  refine Z0 ?_
  refine Lw 63 q (λs=> ?_) λs=> ?_
  ·refine Z0 ?_
   cases s
   exact Eg0 [0] 0
  refine Z0 ?_
  cases s
  exact Eg0 [0] 0
 refine Tb ar (λt=> ?_) λt=> ?_
 ·refine Z1 ?_
  cases t
  exact Eo1 () [] []
 refine Y2 ?_
 have ⟨au,av,aw⟩:=bnd t
 refine Tj0 [(100,.bool au)] [1] [] [0] ?_ ?_
 ·refine Z0 ?_
  refine Lw 75 av (λu=> ?_) λu=> ?_
  ·refine Z0 ?_
   cases u
   exact Eg0 [0] 0
  refine Z0 ?_
  refine Lw 80 u (λv=> ?_) λv=> ?_
  ·refine Z0 ?_
   cases v
   exact Eg0 [0] 0
  refine Z0 ?_
  refine Lw 85 v (λz=> ?_) λz=> ?_
  ·refine Z0 ?_
   cases z
   exact Eg0 [0] 0
  refine Z0 ?_
  refine Lw 90 z (λA=> ?_) λA=> ?_
  ·refine Z0 ?_
   cases A
   exact Eg0 [0] 0
  refine Z0 ?_
  refine Lw 95 A (λB=> ?_) λB=> ?_
  ·refine Z0 ?_
   cases B
   exact Eg0 [0] 0
  refine Z0 ?_
  cases B
  exact Eg0 [0] 0
 refine Tb aw (λC=> ?_) λC=> ?_
 ·refine Z1 ?_
  cases C
  exact Eo1 () [] []
 refine Z2 ?_
 have ⟨F,ax,ai⟩:=bnd C
 refine Tj (η:=Unit×Unit) (λh=>F = .inl h.1) (λ_=>[]) [1] (λ_=>[]) [0] (λ_=>[]) ?_ ?_
 ·refine Yl0 ?_
  refine Tq (η:=Unit) (λaj h=>[(104,.int .i64 aj)]) [1,102,103] (λ_ _=>[]) [0] (λ_ _=>[]) () [0] [] ax ?_
  rintro k_ aj ⟨⟩ ay az a0 ak
  refine Y2 ?_
  refine Tb az (λI=> ?_) λI=> ?_
  ·refine Z1 ?_
   refine Zl ?_
   refine Z1 ?_
   have ⟨bp,J,a1⟩:=bnd I
   refine L.addr 1 rfl (bH J) λbq br a2=> ?_
   subst a2
   refine Ly (Yl.ia J rfl rfl rfl rfl rfl rfl) ?_
   refine L.el 1 rfl (aI J).2 ?_
   rintro _
   refine Lc 0 0 ?_
   refine Ll λbs=> ?_
   refine Lt 0 ?_
   refine Y1 ?_
   have ⟨a3,a4,a5⟩:=bnd a1
   refine Tj0 [(125,.bool a3)] [1,102,103,104] [] [0,1] ?_ ?_
   ·refine Z0 ?_
    refine Lw 111 a4 (λM=> ?_) λM=> ?_
    ·refine Z0 ?_
     cases M
     exact Eg0 [0,0] 0
    refine Z0 ?_
    refine Lw 116 M (λN=> ?_) λN=> ?_
    ·refine Z0 ?_
     cases N
     exact Eg0 [0,0] 0
    refine Z0 ?_
    refine Lw 121 N (λO=> ?_) λO=> ?_
    ·refine Z0 ?_
     cases O
     exact Eg0 [0,0] 0
    refine Z0 ?_
    cases O
    exact Eg0 [0,0] 0
   refine Tb a5 (λP=> ?_) λP=> ?_
   ·refine Z1 ?_
    obtain ⟨bt,hz,a6⟩:=cK P
    subst ay
    have hb:=ak _ rfl
    subst F
    obtain rfl:=(sm ai).symm
    refine Z0 ?_
    cases a6
    exact Eo1 () [] []
   refine Z0 ?_
   cases P
   exact Eg (_,()) (a0 _ rfl) [1] [] 1
  refine Z0 ?_
  cases I
  have hb:=ak _ rfl
  subst F
  exact Eg (_,()) rfl [0] [] 0
 rintro ⟨bu,⟨⟩⟩ hy
 subst hy
 refine Z2 ?_
 have ⟨b,a7,Q⟩:=bnd ai
 refine Tj (η:=Unit×Unit) (λh=>b = .inl h.1) (λ_=>[]) [] (λ_=>[]) [0] (λ_=>[]) ?_ ?_
 ·refine Yl0 ?_
  refine Tq (η:=Unit) (λc h=>[(130,.int .i64 c)]) [1,128,129] (λ_ _=>[]) [0] (λ_ _=>[]) () [0] [] a7 ?_
  rintro k_ c ⟨⟩ al a8 a9 R
  refine Y2 ?_
  refine Tb a8 (λS=> ?_) λS=> ?_
  ·refine Z1 ?_
   refine Zl ?_
   refine Z1 ?_
   have ⟨a,U,ba⟩:=bnd S
   refine L.addr 0 rfl (bH U) λd e bb=> ?_
   subst bb
   refine Ly (Yl.ia U rfl rfl rfl rfl rfl rfl) ?_
   refine L.el 0 rfl (aI U).2 ?_
   rintro ⟨V,W⟩
   refine Lc 0 0 ?_
   refine Ll λbc=> ?_
   refine Lt 0 ?_
   refine Z2 ?_
   refine Tb ba (λX=> ?_) λX=> ?_
   ·refine Z1 ?_
    obtain ⟨bv,hz,bd⟩:=cK X
    subst al
    have hb:=R _ rfl
    subst b
    obtain rfl:=(sm Q).symm
    refine Z0 ?_
    cases bd
    exact Eo1 () [] []
   refine Z1 ?_
   have ⟨Y,be,am⟩:=bnd X
   refine T.ou (η:=Unit×Unit) (λh=>Y = .inl h.1) (λh=>(λZ=>[(1,.pointer (some ⟨g1,0,none⟩)),(128,.slice (some ⟨d,e,none⟩) s_.rows.length C0),(129,.int .i64 (s_.rows.length:Int)),(130,.int .i64 c)]) h.1) (λh=>(λZ=>[Ch.box bc 265 [.slice V a.l.length W,.bool a.wrapped],Ch.box g1 53 [.int .i64 s_.k,.int .i64 s_.w,.int .i64 s_.h,.int .i64 s_.x,.int .i64 s_.y,.string s_.title,.slice (some ⟨d,e,none⟩) s_.rows.length C0,.int .i64 s_.len,.int .i64 s_.chain,.slice A1 s_.begun.length C1]]) h.1) (λh=>(λZ=>[Im.cells d (e+c.toNat*2) [.slice V a.l.length W,.bool a.wrapped],Im.sl fj V W a.l,Im.sl bB (some ⟨d,e,none⟩) C0 s_.rows,Im.sl aJ A1 C1 s_.begun]) h.1) ?_ ?_
   ·refine Yl0 ?_
    refine Tq (η:=Unit) (λan h=>[(143,.int .i64 an)]) [1,128,129,130,141,142] (λ_ _=>[]) [0,1] (λ_ _=>[]) () [0,0] [] be ?_
    rintro k_ an ⟨⟩ bf bg bh ao
    refine Y2 ?_
    refine Tb bg (λaa=> ?_) λaa=> ?_
    ·refine Z1 ?_
     refine Zl ?_
     refine Z1 ?_
     have ⟨bw,ab,bi⟩:=bnd aa
     refine L.addr 1 rfl (bH ab) λbx bz bj=> ?_
     subst bj
     refine Ly (Yl.ia ab rfl rfl rfl rfl rfl rfl) ?_
     refine L.el 1 rfl (aI ab).2 ?_
     rintro _
     refine Lc 0 0 ?_
     refine Ll λb0=> ?_
     refine Lt 0 ?_
     refine Y1 ?_
     have ⟨bk,bl,bm⟩:=bnd bi
     refine Tj0 [(174,.bool bk)] [1,128,129,130,141,142,143] [] [0,1,2] ?_ ?_
     ·refine Z0 ?_
      refine Lw 150 bl (λac=> ?_) λac=> ?_
      ·refine Z0 ?_
       cases ac
       exact Eg0 [0,0,0] 0
      refine Z0 ?_
      refine Lw 155 ac (λad=> ?_) λad=> ?_
      ·refine Z0 ?_
       cases ad
       exact Eg0 [0,0,0] 0
      refine Z0 ?_
      refine Lw 160 ad (λae=> ?_) λae=> ?_
      ·refine Z0 ?_
       cases ae
       exact Eg0 [0,0,0] 0
      refine Z0 ?_
      refine Lw 165 ae (λaf=> ?_) λaf=> ?_
      ·refine Z0 ?_
       cases af
       exact Eg0 [0,0,0] 0
      refine Z0 ?_
      refine Lw 170 af (λag=> ?_) λag=> ?_
      ·refine Z0 ?_
       cases ag
       exact Eg0 [0,0,0] 0
      refine Z0 ?_
      cases ag
      exact Eg0 [0,0,0] 0
     refine Tb bm (λah=> ?_) λah=> ?_
     ·refine Z1 ?_
      obtain ⟨b1,hz,bn⟩:=cK ah
      subst bf
      have hb:=ao _ rfl
      subst Y
      obtain rfl:=(sm am).symm
      refine Z0 ?_
      obtain ⟨b2,hz,bo⟩:=cK bn
      subst al
      have hb:=R _ rfl
      subst b
      obtain rfl:=(sm Q).symm
      refine Z0 ?_
      cases bo
      exact Eo1 () [] []
     refine Z0 ?_
     cases ah
     exact Eg (_,()) (bh _ rfl) [1,1] [] 1
    refine Z0 ?_
    cases aa
    have hb:=ao _ rfl
    subst Y
    exact Egx (_,()) rfl [0,0] [0,1,2,3]
   rintro ⟨Z,⟨⟩⟩ hy
   subst hy
   refine Z0 ?_
   cases am
   exact Eg (_,()) (a9 _ rfl) [1] [] 2
  refine Z0 ?_
  cases S
  have hb:=R _ rfl
  subst b
  exact Eg (_,()) rfl [0] [] 0
 rintro ⟨b3,⟨⟩⟩ hy
 subst hy
 refine Z1 ?_
 cases Q
 exact Eo1 () [] []
theorem rp {in_:aW} {r:aW×(List aQ)} (H:gS in_=some r):CT G 116 [.agg #[.string in_.s,.int .i64 in_.e]] [] [] (λh:(Option Addr×Nat)=> .tuple #[.agg #[.string r.1.s,.int .i64 r.1.e],.slice h.1 r.2.length h.2]) (λh=>[Ch.arr aJ 191 h.1 h.2 r.2]) (λh=>[]):=by
 delta gS at H
 refine Cf Go.Proofs.Tryz.func116 λK=> ?_
 refine Z1 ?_
 refine Lx λg1=> ?_
 refine Ll λg2=> ?_
 refine Z2 ?_
 have ⟨r3,h4,H5⟩:=bnd H
 refine Lk [] [] (cR h4) λ⟨⟩=> ?_
 refine Z0 ?_
 refine Lt 1 ?_
 refine Y2 ?_
 have ⟨e9,x,y⟩:=bnd H5
 refine Tj0 [(20,.bool e9)] [1,2,4] [] [0,1] ?_ ?_
 ·refine Z0 ?_
  refine Lw 17 x (λj=> ?_) λj=> ?_
  ·refine Z0 ?_
   cases j
   exact Eg0 [0,0] 0
  refine Z0 ?_
  cases j
  exact Eg0 [0,0] 0
 refine Tb y (λk=> ?_) λk=> ?_
 ·refine Z1 ?_
  refine Lt 1 ?_
  refine Z0 ?_
  refine E.fZ aJ 191 ?_
  cases k
  exact Eo (none,0) [0] [] (.cell 1 rfl rfl rfl (.tmp rfl .nil))
 refine Z1 ?_
 refine La [] [] (Ac.bs (ty:=aJ) (xs:=[]) .nil rfl rfl rfl rfl rfl rfl rfl) λz=> ?_
 refine Z2 ?_
 have ⟨i,A,l⟩:=bnd k
 refine Tj (η:=((List aQ)×aW)×((Option Addr×Nat))) (λh=>i = .inl h.1) (λh=>(λb=>(λc d=>[(5,.slice c b.1.length d)]) h.2.1 h.2.2) h.1) [1,2] (λh=>(λb=>(λc d=>[Ch.arr aJ 191 c d b.1,Ch.box g1 193 [.string b.2.s,.int .i64 b.2.e]]) h.2.1 h.2.2) h.1) [2] (λ_=>[]) ?_ ?_
 ·refine Yl0 ?_
  refine Tq (η:=(Option Addr×Nat)) (λa h=>(λf g=>[(5,.slice f a.2.1.length g),(6,.int .i64 a.2.2)]) h.1 h.2) [1,2,4] (λa h=>(λf g=>[Ch.arr aJ 191 f g a.2.1,Ch.box g1 193 [.string a.1.s,.int .i64 a.1.e]]) h.1 h.2) [2] (λ_ _=>[]) ((some ⟨z,0,none⟩),0) [0,0,0] [] A ?_
  rintro k_ a ⟨f,g⟩ w B C m
  refine Y2 ?_
  have ⟨F,I,J⟩:=bnd B
  refine Tj0 [(30,.bool F)] [1,2,4,5,6] [] [1,2,0] ?_ ?_
  ·refine Z0 ?_
   refine Lw 26 I (λn=> ?_) λn=> ?_
   ·refine Z0 ?_
    cases n
    exact Eg0 [1,1,0] 0
   refine Z0 ?_
   cases n
   exact Eg0 [1,1,0] 0
  refine Tb J (λo=> ?_) λo=> ?_
  ·refine Z1 ?_
   refine Zl ?_
   refine Z3 ?_
   have ⟨M,N,O⟩:=bnd o
   refine Lk [] [] (cR N) λ⟨⟩=> ?_
   refine Z0 ?_
   refine Lt 0 ?_
   refine Y2 ?_
   have ⟨P,Q,R⟩:=bnd O
   refine Tj0 [(44,.bool P)] [1,2,4,5,6,7] [] [0,1,2] ?_ ?_
   ·refine Z0 ?_
    refine Lw 41 Q (λp=> ?_) λp=> ?_
    ·refine Z0 ?_
     cases p
     exact Eg0 [0,0,0] 0
    refine Z0 ?_
    cases p
    exact Eg0 [0,0,0] 0
   refine Tb R (λq=> ?_) λq=> ?_
   ·refine Z1 ?_
    refine Lt 1 ?_
    refine Z0 ?_
    obtain ⟨af,hz,S⟩:=cK q
    subst w
    have hb:=m _ rfl
    subst i
    obtain rfl:=(sm l).symm
    refine Z0 ?_
    refine E.fZ aJ 191 ?_
    cases S
    exact Eo (none,0) [0] [] (.cell 1 rfl rfl rfl (.tmp rfl .nil))
   refine Z1 ?_
   have ⟨U,V,W⟩:=bnd q
   refine Lk [] [] (cR V) λ⟨⟩=> ?_
   refine Z0 ?_
   refine Lt 0 ?_
   refine Y2 ?_
   have ⟨X,Y,Z⟩:=bnd W
   refine Tj0 [(57,.bool X)] [1,2,4,5,6,7,8] [] [0,1,2] ?_ ?_
   ·refine Z0 ?_
    refine Lw 54 Y (λt=> ?_) λt=> ?_
    ·refine Z0 ?_
     cases t
     exact Eg0 [0,0,0] 0
    refine Z0 ?_
    cases t
    exact Eg0 [0,0,0] 0
   refine Tb Z (λu=> ?_) λu=> ?_
   ·refine Z1 ?_
    refine Lt 1 ?_
    refine Z0 ?_
    obtain ⟨ag,hz,aa⟩:=cK u
    subst w
    have hb:=m _ rfl
    subst i
    obtain rfl:=(sm l).symm
    refine Z0 ?_
    refine E.fZ aJ 191 ?_
    cases aa
    exact Eo (none,0) [0] [] (.cell 1 rfl rfl rfl (.tmp rfl .nil))
   refine Z0 ?_
   refine La [] [] (Ac.bs (ty:=aJ) (xs:=[(aQ.mk M.2 U.2)]) (.cons () [] rfl .nil) rfl rfl rfl rfl rfl rfl rfl) λah=> ?_
   refine L.frz 0 rfl ?_
   have ⟨_,ab,ac⟩:=bnd u
   refine La [2] [0] (Ac.ap (ty:=aJ) ab rfl rfl rfl rfl rfl rfl rfl) ?_
   rintro ⟨ad,ae⟩
   refine Z0 ?_
   cases ac
   exact Eg (_,(ad,ae)) (C _ rfl) [0,0,0] [] 1
  refine Z0 ?_
  cases o
  have hb:=m _ rfl
  subst i
  exact Eg (_,(f,g)) rfl [2,0,0] [] 0
 rintro ⟨b,⟨c,d⟩⟩ hy
 subst hy
 refine Z2 ?_
 refine Tb l (λv=> ?_) λv=> ?_
 ·refine Z1 ?_
  refine Lt 2 ?_
  refine Z0 ?_
  refine E.fZ aJ 191 ?_
  cases v
  exact Eo (none,0) [0] [] (.cell 1 rfl rfl rfl (.tmp rfl .nil))
 refine Z1 ?_
 refine Lt 2 ?_
 refine Z0 ?_
 cases v
 exact Eo (c,d) [1] [] (.cell 0 rfl rfl rfl (.tmp rfl .nil))
end Go.Tw.X
namespace Go.Tw.X
open Go Go.Tw
variable {A0 A1 A2 A3 A4 A5 A6 A7 A8 : Option Addr} {C0 C1 C2 C3 C4 C5 C6 C7 C8 : Nat}
variable {N0 N1 N2 N3 N4 N5 : Nat}
variable {M0 M1 : Option Nat}
theorem jf {in_:aW} {most:Int} {r:aW×Int} (H:cO in_ most=some r):CT G 205 [.agg #[.string in_.s,.int .i64 in_.e],.int .i64 most] [] [] (λ_:Unit=> .tuple #[.agg #[.string r.1.s,.int .i64 r.1.e],.int .i64 r.2]) (λh=>[]) (λh=>[]):=by
 delta cO at H
 refine Cf Go.Proofs.Tryz.func205 λK=> ?_
 refine Z1 ?_
 refine Lx λg1=> ?_
 refine Ll λg2=> ?_
 refine Z1 ?_
 have ⟨r3,h4,H5⟩:=bnd H
 refine Lk [] [] (cR h4) λ⟨⟩=> ?_
 refine Z0 ?_
 refine Ll λg6=> ?_
 refine Lt 0 ?_
 refine Y2 ?_
 have ⟨c,d,f⟩:=bnd H5
 refine Tj0 [(20,.bool c)] [4,6,7] [] [0,1,2] ?_ ?_
 ·refine Z0 ?_
  refine Lw 16 d (λa=> ?_) λa=> ?_
  ·refine Z0 ?_
   cases a
   exact Eg0 [0,0,0] 0
  refine Z0 ?_
  cases a
  exact Eg0 [0,0,0] 0
 refine Tb f (λb=> ?_) λb=> ?_
 ·refine Z1 ?_
  refine Lt 1 ?_
  refine Z0 ?_
  cases b
  exact Eo () [] [] (.cell 0 rfl rfl rfl (.tmp rfl .nil))
 refine Z1 ?_
 refine Lt 1 ?_
 refine Z0 ?_
 cases b
 exact Eo () [] [] (.cell 0 rfl rfl rfl (.tmp rfl .nil))
theorem sO {in_:aW} {w:Int} {r:aW×bN} (H:gK in_ w=some r):CT G 168 [.agg #[.string in_.s,.int .i64 in_.e],.int .i64 w] [] [] (λh:(Option Addr×Nat)=> .tuple #[.agg #[.string r.1.s,.int .i64 r.1.e],.agg #[.slice h.1 r.2.l.length h.2,.bool r.2.wrapped]]) (λh=>[]) (λh=>[Im.sl fj h.1 h.2 r.2.l]):=by
 delta gK at H
 refine Cf Go.Proofs.Tryz.func168 λK=> ?_
 refine Z1 ?_
 refine Lx λg1=> ?_
 refine Ll λg2=> ?_
 refine Ll λg3=> ?_
 refine Z2 ?_
 have ⟨r4,h5,H6⟩:=bnd H
 refine Lk [] [] (jf h5) λ⟨⟩=> ?_
 refine Z0 ?_
 refine Lt 2 ?_
 refine Z1 ?_
 refine La [] [] (Ac.bs (ty:=fj) (xs:=[]) .nil rfl rfl rfl rfl rfl rfl rfl) λg7=> ?_
 refine Y1 ?_
 have ⟨i,S,U⟩:=bnd H6
 refine Tjh (η:=(Option Addr×Nat)) (λh=>(λj k=>[(7,.slice j i.1.length k)]) h.1 h.2) [2,4,5,6] (λh=>(λj k=>[Ch.arr fj 298 j k i.1,Ch.box g1 193 [.string i.2.s,.int .i64 i.2.e]]) h.1 h.2) [2,3] (λ_=>[]) ?_ ?_
 ·refine Yl0 ?_
  refine Tq (η:=(Option Addr×Nat)) (λa h=>(λb c=>[(7,.slice b a.2.length c)]) h.1 h.2) [1,2,4,5,6] (λa h=>(λb c=>[Ch.arr fj 298 b c a.2,Ch.box g1 193 [.string a.1.s,.int .i64 a.1.e]]) h.1 h.2) [2,3] (λ_ _=>[]) ((some ⟨g7,0,none⟩),0) [0,0,0,0] [] S ?_
  rintro k_ a ⟨b,c⟩ bb V W X
  refine Y2 ?_
  have ⟨Y,Z,aa⟩:=bnd V
  refine Tj0 [(25,.bool Y)] [1,2,4,5,6,7] [] [1,2,3,0] ?_ ?_
  ·refine Z0 ?_
   refine Lw 21 Z (λq=> ?_) λq=> ?_
   ·refine Z0 ?_
    cases q
    exact Eg0 [1,1,1,0] 0
   refine Z0 ?_
   cases q
   exact Eg0 [1,1,1,0] 0
  refine Tb aa (λt=> ?_) λt=> ?_
  ·refine Zl ?_
   refine Z2 ?_
   refine Ll λab=> ?_
   refine Lt 0 ?_
   refine Z1 ?_
   have ⟨bc,ac,ad⟩:=bnd t
   refine Lk [] [] (jf ac) λ⟨⟩=> ?_
   refine Z0 ?_
   refine Lt 1 ?_
   refine Y2 ?_
   have ⟨ae,af,ag⟩:=bnd ad
   refine Tj0 [(42,.bool ae)] [1,2,4,5,6,7,8,9] [] [0,1,2,3,4] ?_ ?_
   ·refine Z0 ?_
    refine Lw 39 af (λu=> ?_) λu=> ?_
    ·refine Z0 ?_
     cases u
     exact Eg0 [0,0,0,0,0] 0
    refine Z0 ?_
    cases u
    exact Eg0 [0,0,0,0,0] 0
   have ⟨O,ah,ai⟩:=bnd ag
   refine Tj0 [] [1,2,4,5,6,7,8,9] [Ch.box g1 193 [.string O.s,.int .i64 O.e]] [1,2,3,4] ?_ ?_
   ·refine Tb ah (λx=> ?_) λx=> ?_
    ·refine Z0 ?_
     refine Lt 0 ?_
     refine Z0 ?_
     cases x
     exact Eg0 [0,0,0,0,0] 0
    refine Z0 ?_
    cases x
    exact Eg0 [0,0,0,0,0] 0
   refine Z1 ?_
   have ⟨P,aj,ak⟩:=bnd ai
   refine Lk [] [] (jf aj) λ⟨⟩=> ?_
   refine Z0 ?_
   refine Lt 0 ?_
   refine Z0 ?_
   refine Lt 1 ?_
   refine Z1 ?_
   have ⟨Q,al,am⟩:=bnd ak
   refine Lk [] [] (jf al) λ⟨⟩=> ?_
   refine Z0 ?_
   refine Lt 1 ?_
   refine Z0 ?_
   refine Lt 1 ?_
   refine Z1 ?_
   have ⟨R,an,ao⟩:=bnd am
   refine Lk [] [] (jf an) λ⟨⟩=> ?_
   refine Z0 ?_
   refine Lt 1 ?_
   refine Z0 ?_
   refine Lt 1 ?_
   refine Y2 ?_
   have ⟨aq,ar,au⟩:=bnd ao
   refine Tj0 [(79,.bool aq)] [1,2,4,5,6,7,8,9] [] [0,1,2,3,4] ?_ ?_
   ·refine Td [] [0,0,0,0,0] mo ?_
    refine Dq 0 ?_
    refine Db 1 1 ?_
    refine Dq 2 ?_
    refine Dq 3 ?_
    refine D.cs 65 ar rfl (λhc y=> ?_) (λhc y=> ?_)
    ·refine Dq 4 ?_
     refine Dq 5 ?_
     refine Dq 6 ?_
     refine Dq 7 ?_
     refine Dq 8 ?_
     refine D.cs 70 y rfl (λhc z=> ?_) (λhc z=> ?_)
     ·refine Dq 9 ?_
      refine Dq 10 ?_
      refine Dq 11 ?_
      refine Dq 12 ?_
      have ⟨B,C,av⟩:=bnd z
      refine D.iw 4 rfl (bH C) λbd aw=> ?_
      subst aw
      refine Dy 13 (Yl.ia C rfl rfl rfl rfl rfl rfl) ?_
      refine Dy 14 (Yl.lo (v:= .agg #[.int .i64 B.rune,.int .i64 B.bW,.int .i64 B.part]) 4 ((IntKind.i64.wrap ((a.2.length:Int) - 1)).toNat) 0 (aI C).2 rfl rfl rfl rfl (λ_=>rfl)) ?_
      refine Db 15 0 ?_
      refine Dq 16 ?_
      refine Dq 17 ?_
      refine Dn ?_
      cases av
      exact Eg0 [0,0,0,0,0] 0
     refine Ds 9 ?_
     refine Ds 10 ?_
     refine Ds 11 ?_
     refine Ds 12 ?_
     refine Ds 13 ?_
     refine Ds 14 ?_
     refine Ds 15 ?_
     refine Ds 16 ?_
     refine Dq 17 ?_
     refine Dn ?_
     cases z
     exact Eg0 [0,0,0,0,0] 0
    refine Ds 4 ?_
    refine Ds 5 ?_
    refine Ds 6 ?_
    refine Dq 7 ?_
    refine Dq 8 ?_
    refine Ds 9 ?_
    refine Ds 10 ?_
    refine Ds 11 ?_
    refine Ds 12 ?_
    refine Ds 13 ?_
    refine Ds 14 ?_
    refine Ds 15 ?_
    refine Ds 16 ?_
    refine Dq 17 ?_
    refine Dn ?_
    cases y
    exact Eg0 [0,0,0,0,0] 0
   have ⟨p,ax,ay⟩:=bnd au
   refine Tj0 [] [1,2,4,5,6,7,8,9] [Ch.box g1 193 [.string p.s,.int .i64 p.e]] [0,2,3,4] ?_ ?_
   ·refine Tb ax (λF=> ?_) λF=> ?_
    ·refine Z0 ?_
     refine Lt 1 ?_
     refine Z0 ?_
     cases F
     exact Eg0 [0,0,0,0,0] 0
    refine Z0 ?_
    cases F
    exact Eg0 [1,0,0,0,0] 0
   refine Z1 ?_
   have ⟨I,az,a0⟩:=bnd ay
   refine T.ou (η:=Unit×((Option Addr×Nat))) (λh=>True) (λh=>(λd g=>[(1,.int .i64 w),(2,.pointer (some ⟨g1,0,none⟩)),(4,.pointer (some ⟨g2,0,none⟩)),(5,.pointer (some ⟨g3,0,none⟩)),(6,.int .i64 r4.2),(7,.slice d I.length g)]) h.2.1 h.2.2) (λh=>(λd g=>[Ch.arr fj 298 d g I,Ch.box g1 193 [.string p.s,.int .i64 p.e],Ch.box ab 298 [.int .i64 P.2,.int .i64 Q.2,.int .i64 R.2],Ch.box g3 265 [.slice none 0 0,.bool false],Ch.box g2 193 [.string (ByteArray.mk #[]),.int .i64 0]]) h.2.1 h.2.2) (λh=>(λd g=>[]) h.2.1 h.2.2) ?_ ?_
   ·refine Yl0 ?_
    refine Tq (η:=(Option Addr×Nat)) (λm h=>(λn o=>[(7,.slice n m.2.length o),(10,.int .i64 m.1)]) h.1 h.2) [1,2,4,5,6,8,9] (λm h=>(λn o=>[Ch.arr fj 298 n o m.2]) h.1 h.2) [0,1,2,3] (λ_ _=>[]) (b,c) [4,0,0,0,0] [] az ?_
    rintro k_ m ⟨n,o⟩ be a1 a2 a3
    refine Y2 ?_
    have ⟨a4,a5,a6⟩:=bnd a1
    refine Tj0 [(88,.bool a4)] [1,2,4,5,6,7,8,9,10] [] [1,2,3,4,0] ?_ ?_
    ·refine Z0 ?_
     refine Lw 84 a5 (λJ=> ?_) λJ=> ?_
     ·refine Z0 ?_
      cases J
      exact Eg0 [1,1,1,1,0] 0
     refine Z0 ?_
     cases J
     exact Eg0 [1,1,1,1,0] 0
    refine Tb a6 (λM=> ?_) λM=> ?_
    ·refine Z1 ?_
     refine Zl ?_
     refine La [] [] (Ac.bs (ty:=fj) (xs:=[(dF.mk P.2 Q.2 R.2)]) (.cons () [] rfl .nil) rfl rfl rfl rfl rfl rfl rfl) λbf=> ?_
     refine L.frz 0 rfl ?_
     have ⟨_,a7,a8⟩:=bnd M
     refine La [4] [0] (Ac.ap (ty:=fj) a7 rfl rfl rfl rfl rfl rfl rfl) ?_
     rintro ⟨a9,ba⟩
     refine Z0 ?_
     cases a8
     exact Eg (_,(a9,ba)) (a2 _ rfl) [0,0,0,0,0] [] 1
    refine Z0 ?_
    cases M
    have hb:=a3 _ rfl
    subst I
    exact Egx ((),(n,o)) trivial [4,0,0,0,0] []
   rintro ⟨_,⟨d,g⟩⟩ _
   refine Z0 ?_
   cases a0
   exact Eg (_,(d,g)) (W _ rfl) [0,0,1,1] [] 0
  refine Z0 ?_
  cases t
  have hb:=X _ rfl
  subst i
  exact Eg (b,c) trivial [3,0,0,0] [] 0
 rintro ⟨j,k⟩
 refine Z2 ?_
 refine Tb U (λN=> ?_) λN=> ?_
 ·refine Z1 ?_
  refine Lt 3 ?_
  refine Lt 3 ?_
  refine Z0 ?_
  refine E.dD [Im.sl fj none 0 []] (λA w _ _ f hf=>by rw [List.mem_singleton.1 hf]; exact Im.bV A w) ?_
  cases N
  exact Eo (none,0) [] [0] (.cell 1 rfl rfl rfl (.cell 0 rfl rfl rfl .nil))
 refine Z1 ?_
 refine Lt 3 ?_
 refine Lt 3 ?_
 refine Z0 ?_
 refine E.frz 2 rfl ?_
 cases N
 exact Eo (j,k) [] [0] (.cell 1 rfl rfl rfl (.cell 0 rfl rfl rfl .nil))
theorem wK {l:List aQ} {r:ByteArray} (H:kO l=some r):CT G 206 [.slice A0 l.length C0] [] [Im.sl aJ A0 C0 l] (λ_:Unit=> .string r) (λh=>[]) (λh=>[]):=by
 delta kO at H
 refine Cf Go.Proofs.Tryz.func206 λK=> ?_
 refine Z2 ?_
 have ⟨r1,h2,H3⟩:=bnd H
 refine Lk [] [] (eQ h2) λ⟨⟩=> ?_
 refine Z2 ?_
 have ⟨d,e,f⟩:=bnd H3
 refine Tj0 [(3,.string d)] [] [] [] ?_ ?_
 ·refine Yl0 ?_
  refine Tq (η:=Unit) (λa h=>[(3,.string a.2),(11,.int .i64 a.1)]) [9,10] (λ_ _=>[]) [] (λ_ _=>[]) () [] [] e ?_
  rintro k_ a ⟨⟩ w g i j
  refine Y2 ?_
  refine Tb g (λb=> ?_) λb=> ?_
  ·refine Z1 ?_
   refine Zl ?_
   refine Z1 ?_
   have ⟨x,c,k⟩:=bnd b
   refine L.addr 0 rfl (bH c) λy z m=> ?_
   subst m
   refine Ly (Yl.ia c rfl rfl rfl rfl rfl rfl) ?_
   refine L.el 0 rfl (aI c).2 ?_
   rintro _
   refine Lc 0 0 ?_
   refine Ll λA=> ?_
   refine Lt 0 ?_
   refine Z0 ?_
   refine Td [] [0] mo ?_
   refine Dq 0 ?_
   refine Dq 1 ?_
   refine Db 2 0 ?_
   refine Dq 4 ?_
   refine Db 5 0 ?_
   have ⟨B,n,o⟩:=bnd k
   refine Dk [] [] (eQ n) λ⟨⟩=> ?_
   have ⟨C,p,q⟩:=bnd o
   refine Dk [] [] (eQ p) λ⟨⟩=> ?_
   have ⟨_,s,t⟩:=bnd q
   refine Dy 7 (Yl.sa s rfl rfl rfl) ?_
   have ⟨_,u,v⟩:=bnd t
   refine Dy 8 (Yl.sa u rfl rfl rfl) ?_
   refine Dq 9 ?_
   refine Dn ?_
   refine Z0 ?_
   cases v
   exact Eg (_,()) (i _ rfl) [] [] 1
  refine Z0 ?_
  cases b
  have hb:=j _ rfl
  subst d
  exact Eg0 [] 0
 refine Z1 ?_
 cases f
 exact Eo1 () [] []
theorem sP {r_:bN} {r:ByteArray} (H:jb r_=some r):CT G 207 [.agg #[.slice A0 r_.l.length C0,.bool r_.wrapped]] [] [Im.sl fj A0 C0 r_.l] (λ_:Unit=> .string r) (λh=>[]) (λh=>[]):=by
 delta jb at H
 refine Cf Go.Proofs.Tryz.func207 λK=> ?_
 refine Z1 ?_
 refine Lx λg1=> ?_
 refine Z3 ?_
 have ⟨e5,H6,H7⟩:=bnd H
 refine Tj0 [(3,.string e5)] [1] [] [0] ?_ ?_
 ·refine Tb H6 (λH8=> ?_) λH8=> ?_
  ·refine Z0 ?_
   cases H8
   exact Eg0 [0] 0
  refine Z0 ?_
  cases H8
  exact Eg0 [0] 0
 refine Z3 ?_
 have ⟨f,j,k⟩:=bnd H7
 refine Tj0 [(3,.string f)] [] [] [0] ?_ ?_
 ·refine Yl0 ?_
  refine Tq (η:=Unit) (λa h=>[(3,.string a.2.1),(4,.int .i64 a.2.2),(12,.int .i64 a.1)]) [1,10,11] (λ_ _=>[]) [0] (λ_ _=>[]) () [0] [] j ?_
  rintro k_ a ⟨⟩ V m n o
  refine Y2 ?_
  refine Tb m (λb=> ?_) λb=> ?_
  ·refine Y1 ?_
   have ⟨g,p,q⟩:=bnd b
   refine Tj0 [(3,.string g.1),(4,.int .i64 g.2)] [1,10,11,12] [] [0] ?_ ?_
   ·refine Zl ?_
    refine Z1 ?_
    have ⟨W,c,s⟩:=bnd p
    refine L.addr 0 rfl (bH c) λX Y t=> ?_
    subst t
    refine Ly (Yl.ia c rfl rfl rfl rfl rfl rfl) ?_
    refine L.el 0 rfl (aI c).2 ?_
    rintro _
    refine Lc 0 0 ?_
    refine Ll λZ=> ?_
    refine Z0 ?_
    refine Lt 0 ?_
    refine Y3 ?_
    have ⟨u,v,w⟩:=bnd s
    refine Tj0 [(34,.bool u)] [1,3,4,6,10,11,12] [] [0,1] ?_ ?_
    ·refine Td [] [0,0] mo ?_
     refine Dq 0 ?_
     refine Dq 1 ?_
     refine Dq 2 ?_
     refine Db 3 1 ?_
     refine Dq 4 ?_
     refine Dq 5 ?_
     refine Dq 6 ?_
     refine D.cs 25 v rfl (λhc d=> ?_) (λhc d=> ?_)
     ·refine Dq 7 ?_
      refine Db 8 1 ?_
      refine Dq 9 ?_
      refine Dq 10 ?_
      have ⟨aa,i,x⟩:=bnd d
      refine Dy 11 (Yl.ia i rfl rfl rfl rfl rfl rfl) ?_
      refine D.el 1 rfl (aI i).2 ?_
      rintro _
      refine Dy 12 (Yl.ldc 0 0 rfl rfl rfl rfl) ?_
      refine Db 13 0 ?_
      refine Dq 14 ?_
      refine Dq 15 ?_
      refine Dn ?_
      cases x
      exact Eg0 [0,0] 1
     refine Ds 7 ?_
     refine Ds 8 ?_
     refine Ds 9 ?_
     refine Ds 10 ?_
     refine Ds 11 ?_
     refine Ds 12 ?_
     refine Ds 13 ?_
     refine Ds 14 ?_
     refine Dq 15 ?_
     refine Dn ?_
     cases d
     exact Eg0 [0,0] 0
    refine Tb w (λe=> ?_) λe=> ?_
    ·refine Z0 ?_
     cases e
     exact Eg0 [1] 1
    refine Y1 ?_
    refine Td [] [0,0] mo ?_
    refine Dq 0 ?_
    refine Dq 1 ?_
    refine Dq 3 ?_
    refine Db 4 0 ?_
    refine Dq 7 ?_
    refine Db 8 0 ?_
    refine Dq 11 ?_
    refine Db 12 0 ?_
    have ⟨ab,y,z⟩:=bnd e
    refine Dk [] [] (eQ y) λ⟨⟩=> ?_
    have ⟨ac,A,B⟩:=bnd z
    refine Dk [] [] (eQ A) λ⟨⟩=> ?_
    have ⟨_,C,F⟩:=bnd B
    refine Dy 6 (Yl.sa C rfl rfl rfl) ?_
    have ⟨ad,I,J⟩:=bnd F
    refine Dk [] [] (eQ I) λ⟨⟩=> ?_
    have ⟨_,M,N⟩:=bnd J
    refine Dy 10 (Yl.sa M rfl rfl rfl) ?_
    have ⟨ae,O,P⟩:=bnd N
    refine Dk [] [] (eQ O) λ⟨⟩=> ?_
    have ⟨_,Q,R⟩:=bnd P
    refine Dy 14 (Yl.sa Q rfl rfl rfl) ?_
    have ⟨_,S,U⟩:=bnd R
    refine Dy 15 (Yl.sa S rfl rfl rfl) ?_
    refine Dq 16 ?_
    refine Dn ?_
    refine Z0 ?_
    cases U
    exact Eg0 [1] 1
   refine Z0 ?_
   cases q
   exact Eg (_,()) (n _ rfl) [0] [] 0
  refine Z0 ?_
  cases b
  have hb:=o _ rfl
  subst f
  exact Eg0 [0] 0
 refine Z1 ?_
 cases k
 exact Eo1 () [] []
theorem rq {s_:bJ} {r:ByteArray} (H:gT s_=some r):CT G 171 [.agg (xX s_ A0 C0 A1 C1).toArray] [] [Im.sl bB A0 C0 s_.rows,Im.sl aJ A1 C1 s_.begun] (λ_:Unit=> .string r) (λh=>[]) (λh=>[]):=by
 delta gT at H
 refine Cf Go.Proofs.Tryz.func171 λK=> ?_
 refine Z1 ?_
 refine Lx λg1=> ?_
 refine Y2 ?_
 have ⟨m,n,o⟩:=bnd H
 refine Tj0 [(14,.bool m)] [1] [] [0] ?_ ?_
 ·refine Z0 ?_
  have ⟨ar,p,q⟩:=bnd n
  refine Lk [] [0,1] (pE p) λ⟨⟩=> ?_
  refine Z0 ?_
  refine Lw 10 q (λb=> ?_) λb=> ?_
  ·refine Z0 ?_
   cases b
   exact Eg0 [0] 0
  refine Z0 ?_
  have ⟨au,s,t⟩:=bnd b
  refine Lk [] [0,1] (sD s) λ⟨⟩=> ?_
  refine Z0 ?_
  cases t
  exact Eg0 [0] 0
 refine Tb o (λc=> ?_) λc=> ?_
 ·refine Z1 ?_
  cases c
  exact Eo1 () [] []
 refine Z3 ?_
 refine La [] [] (Ac.bs (ty:=(Ty.int .i64)) (xs:=[s_.k,s_.w,s_.h,s_.x,s_.y]) (.cons () [] rfl (.cons () [] rfl (.cons () [] rfl (.cons () [] rfl (.cons () [] rfl .nil))))) rfl rfl rfl rfl rfl rfl rfl) λav=> ?_
 refine Z0 ?_
 have ⟨i,u,z⟩:=bnd c
 refine Tj0 [(3,.string i)] [1] [] [1] ?_ ?_
 ·refine Yl0 ?_
  refine Tq (η:=Unit) (λa h=>[(3,.string a.2),(27,.int .i64 a.1)]) [1,25,26] (λ_ _=>[]) [1,0] (λ_ _=>[]) () [1,0] [] u ?_
  rintro k_ a ⟨⟩ aw A B C
  refine Y2 ?_
  refine Tb A (λd=> ?_) λd=> ?_
  ·refine Z1 ?_
   refine Zl ?_
   refine Z1 ?_
   have ⟨F,j,I⟩:=bnd d
   refine Ly (Yl.ia j rfl rfl rfl rfl rfl rfl) ?_
   refine Ly (Yl.lo (v:= .int .i64 F) 1 a.1.toNat 0 (aI j).2 rfl rfl rfl rfl (λ_=>rfl)) ?_
   refine Z0 ?_
   have ⟨ax,J,M⟩:=bnd I
   refine Lk [] [] (eQ J) λ⟨⟩=> ?_
   have ⟨_,N,O⟩:=bnd M
   refine Ly (Yl.sa N rfl rfl rfl) ?_
   refine Z0 ?_
   cases O
   exact Eg (_,()) (B _ rfl) [0,0] [] 0
  refine Z0 ?_
  cases d
  have hb:=C _ rfl
  subst i
  exact Eg0 [0] 0
 refine Y1 ?_
 refine Td [] [0] mo ?_
 refine Dq 0 ?_
 refine Dq 1 ?_
 refine Db 2 0 ?_
 refine Dq 4 ?_
 refine Db 5 0 ?_
 refine Dq 8 ?_
 refine Db 9 0 ?_
 refine Dq 12 ?_
 refine Db 13 0 ?_
 have ⟨ay,P,Q⟩:=bnd z
 refine Dk [] [] (rn P) λ⟨⟩=> ?_
 have ⟨az,R,S⟩:=bnd Q
 refine Dk [] [] (eQ R) λ⟨⟩=> ?_
 have ⟨_,U,V⟩:=bnd S
 refine Dy 7 (Yl.sa U rfl rfl rfl) ?_
 have ⟨a0,W,X⟩:=bnd V
 refine Dk [] [] (eQ W) λ⟨⟩=> ?_
 have ⟨_,Y,Z⟩:=bnd X
 refine Dy 11 (Yl.sa Y rfl rfl rfl) ?_
 have ⟨a1,aa,ab⟩:=bnd Z
 refine Dk [] [1] (wK aa) λ⟨⟩=> ?_
 have ⟨_,ac,ad⟩:=bnd ab
 refine Dy 15 (Yl.sa ac rfl rfl rfl) ?_
 have ⟨_,ae,af⟩:=bnd ad
 refine Dy 16 (Yl.sa ae rfl rfl rfl) ?_
 refine Dq 17 ?_
 refine Dn ?_
 refine Z2 ?_
 have ⟨l,ag,ah⟩:=bnd af
 refine Tj0 [(3,.string l)] [] [] [0] ?_ ?_
 ·refine Yl0 ?_
  refine Tq (η:=Unit) (λe h=>[(3,.string e.1),(56,.int .i64 e.2)]) [54,55] (λ_ _=>[]) [0] (λ_ _=>[]) () [0] [] ag ?_
  rintro k_ e ⟨⟩ a2 ai aj ak
  refine Y2 ?_
  refine Tb ai (λf=> ?_) λf=> ?_
  ·refine Z1 ?_
   refine Zl ?_
   refine Z1 ?_
   have ⟨a3,g,al⟩:=bnd f
   refine L.addr 0 rfl (bH g) λa4 a5 am=> ?_
   subst am
   refine Ly (Yl.ia g rfl rfl rfl rfl rfl rfl) ?_
   refine L.el 0 rfl (aI g).2 ?_
   rintro ⟨a6,a7⟩
   refine Lc 0 0 ?_
   refine Ll λa8=> ?_
   refine Lt 0 ?_
   refine Z0 ?_
   have ⟨a9,an,ao⟩:=bnd al
   refine Lk [] [1] (sP an) λ⟨⟩=> ?_
   have ⟨_,ap,aq⟩:=bnd ao
   refine Ly (Yl.sa ap rfl rfl rfl) ?_
   refine Z0 ?_
   cases aq
   exact Eg (_,()) (aj _ rfl) [1] [] 2
  refine Z0 ?_
  cases f
  have hb:=ak _ rfl
  subst l
  exact Eg0 [0] 0
 refine Z1 ?_
 cases ah
 exact Eo1 () [] []
theorem yk {s_:bJ} {r:Int} (H:lK s_=some r):CT G 169 [.agg (xX s_ A0 C0 A1 C1).toArray] [] [Im.sl bB A0 C0 s_.rows,Im.sl aJ A1 C1 s_.begun] (λ_:Unit=> .int .i64 r) (λh=>[]) (λh=>[]):=by
 delta lK at H
 refine Cf Go.Proofs.Tryz.func169 λK=> ?_
 refine Z1 ?_
 refine Lx λg1=> ?_
 refine Z1 ?_
 have ⟨r2,h3,H4⟩:=bnd H
 refine Lk [] [0,1] (rq h3) λ⟨⟩=> ?_
 have ⟨r5,h6,H7⟩:=bnd H4
 refine Lk [] [] (uw h6) λ⟨⟩=> ?_
 refine Z0 ?_
 cases H7
 exact Eo1 () [] []
theorem rr {a:bN} {b:bN} {r:Bool} (H:gU a b=some r):CT G 170 [.agg #[.slice A0 a.l.length C0,.bool a.wrapped],.agg #[.slice A1 b.l.length C1,.bool b.wrapped]] [] [Im.sl fj A0 C0 a.l,Im.sl fj A1 C1 b.l] (λ_:Unit=> .bool r) (λh=>[]) (λh=>[]):=by
 delta gU at H
 refine Cf Go.Proofs.Tryz.func170 λK=> ?_
 refine Z1 ?_
 refine Lx λg1=> ?_
 refine Lx λg2=> ?_
 refine Y2 ?_
 have ⟨e6,H7,H8⟩:=bnd H
 refine Tj0 [(19,.bool e6)] [2,3] [] [0,1] ?_ ?_
 ·refine Z0 ?_
  refine Lw 11 H7 (λH9=> ?_) λH9=> ?_
  ·refine Z0 ?_
   cases H9
   exact Eg0 [0,0] 0
  refine Z0 ?_
  cases H9
  exact Eg0 [0,0] 0
 refine Tb H8 (λc=> ?_) λc=> ?_
 ·refine Z1 ?_
  cases c
  exact Eo1 () [] []
 refine Z2 ?_
 have ⟨d,n,j⟩:=bnd c
 refine Tj (η:=Unit×Unit) (λh=>d = .inl h.1) (λ_=>[]) [] (λ_=>[]) [0,1] (λ_=>[]) ?_ ?_
 ·refine Yl0 ?_
  refine Tq (η:=Unit) (λk h=>[(23,.int .i64 k)]) [2,3,22] (λ_ _=>[]) [0,1] (λ_ _=>[]) () [0,0] [] n ?_
  rintro k_ k ⟨⟩ o p q m
  refine Y2 ?_
  refine Tb p (λe=> ?_) λe=> ?_
  ·refine Z1 ?_
   refine Zl ?_
   refine Y2 ?_
   refine Td [] [0,0] mo ?_
   refine Dq 0 ?_
   refine Db 1 1 ?_
   refine Dq 2 ?_
   have ⟨x,f,s⟩:=bnd e
   refine D.addr 0 rfl (bH f) λy z t=> ?_
   subst t
   refine Dy 3 (Yl.ia f rfl rfl rfl rfl rfl rfl) ?_
   refine D.el 0 rfl (aI f).2 ?_
   rintro _
   refine Dy 4 (Yl.ldc 0 0 rfl rfl rfl rfl) ?_
   refine Dq 5 ?_
   refine Db 6 0 ?_
   refine Dq 7 ?_
   have ⟨A,g,u⟩:=bnd s
   refine D.addr 2 rfl (bH g) λB C v=> ?_
   subst v
   refine Dy 8 (Yl.ia g rfl rfl rfl rfl rfl rfl) ?_
   refine D.el 2 rfl (aI g).2 ?_
   rintro _
   refine Dy 9 (Yl.ldc 0 0 rfl rfl rfl rfl) ?_
   refine Dq 10 ?_
   refine Dn ?_
   refine Z0 ?_
   refine Tb u (λi=> ?_) λi=> ?_
   ·refine Z1 ?_
    obtain ⟨F,hz,w⟩:=cK i
    subst o
    have hb:=m _ rfl
    subst d
    obtain rfl:=(sm j).symm
    refine Z0 ?_
    cases w
    exact Eo1 () [] []
   refine Z0 ?_
   cases i
   exact Eg (_,()) (q _ rfl) [0,0] [] 2
  refine Z0 ?_
  cases e
  have hb:=m _ rfl
  subst d
  exact Eg (_,()) rfl [0,0] [] 0
 rintro ⟨I,⟨⟩⟩ hy
 subst hy
 refine Z1 ?_
 cases j
 exact Eo1 () [] []
theorem uO {a:bJ} {s_:ByteArray} {r:bJ×Int} (H:ki a s_=some r):CT G 115 [.agg (xX a A0 C0 A1 C1).toArray,.string s_] [] [Im.sl bB A0 C0 a.rows,Im.sl aJ A1 C1 a.begun] (λh:(Option Addr×Nat)×(Option Addr×Nat)=> .tuple #[.agg (xX r.1 h.1.1 h.1.2 h.2.1 h.2.2).toArray,.int .i64 r.2]) (λh=>[]) (λh=>[Im.sl bB h.1.1 h.1.2 r.1.rows,Im.sl aJ h.2.1 h.2.2 r.1.begun]):=by
 delta ki at H
 refine Cf Go.Proofs.Tryz.func115 λK=> ?_
 refine Z1 ?_
 refine Lx λg1=> ?_
 refine Ll λg2=> ?_
 refine Z1 ?_
 refine Ll λg3=> ?_
 refine Lt 0 ?_
 refine Z2 ?_
 have ⟨r4,h5,H6⟩:=bnd H
 refine Lk [] [0,1] (sD h5) λ⟨⟩=> ?_
 refine Z0 ?_
 refine Tb H6 (λH8=> ?_) λH8=> ?_
 ·refine Z1 ?_
  refine Lt 1 ?_
  refine Z0 ?_
  refine E.dD [Im.sl bB none 0 []] (λA w _ _ f hf=>by rw [List.mem_singleton.1 hf]; exact Im.bV A w) ?_
  refine E.dD [Im.sl aJ none 0 []] (λA w _ _ f hf=>by rw [List.mem_singleton.1 hf]; exact Im.bV A w) ?_
  cases H8
  exact Eo ((none,0),(none,0)) [] [1,0] (.cell 0 rfl rfl rfl (.tmp rfl .nil))
 refine Z1 ?_
 refine Ll λB=> ?_
 refine Lt 0 ?_
 refine Z3 ?_
 refine Ll λbd=> ?_
 refine Lt 0 ?_
 refine Z1 ?_
 have ⟨d9,be,bf⟩:=bnd H8
 refine Lk [] [] (cR be) λ⟨⟩=> ?_
 refine Z0 ?_
 refine Lt 1 ?_
 refine Z1 ?_
 have ⟨ea,bg,bh⟩:=bnd bf
 refine Lk [] [] (cR bg) λ⟨⟩=> ?_
 refine Z0 ?_
 refine Lt 0 ?_
 refine Z0 ?_
 refine Lt 1 ?_
 refine Z1 ?_
 have ⟨eb,bi,bj⟩:=bnd bh
 refine Lk [] [] (cR bi) λ⟨⟩=> ?_
 refine Z0 ?_
 refine Lt 1 ?_
 refine Z0 ?_
 refine Lt 1 ?_
 refine Y2 ?_
 have ⟨bk,bl,bm⟩:=bnd bj
 refine Tj0 [(50,.bool bk)] [2,4,6,7,8,10] [] [0,1,2,3,4] ?_ ?_
 ·refine Z0 ?_
  refine Lw 46 bl (λC=> ?_) λC=> ?_
  ·refine Z0 ?_
   cases C
   exact Eg0 [0,0,0,0,0] 0
  refine Z0 ?_
  cases C
  exact Eg0 [0,0,0,0,0] 0
 refine Tb bm (λF=> ?_) λF=> ?_
 ·refine Z1 ?_
  refine Lt 3 ?_
  refine Z0 ?_
  refine E.dD [Im.sl bB none 0 []] (λA w _ _ f hf=>by rw [List.mem_singleton.1 hf]; exact Im.bV A w) ?_
  refine E.dD [Im.sl aJ none 0 []] (λA w _ _ f hf=>by rw [List.mem_singleton.1 hf]; exact Im.bV A w) ?_
  cases F
  exact Eo ((none,0),(none,0)) [] [1,0] (.cell 0 rfl rfl rfl (.tmp rfl .nil))
 refine Z1 ?_
 have ⟨ec,bn,bo⟩:=bnd F
 refine Lk [] [] (cR bn) λ⟨⟩=> ?_
 refine Z0 ?_
 refine Lt 1 ?_
 refine Z0 ?_
 refine Lt 1 ?_
 refine Y2 ?_
 have ⟨bp,bq,br⟩:=bnd bo
 refine Tj0 [(65,.bool bp)] [2,4,6,7,8,10] [] [0,1,2,3,4] ?_ ?_
 ·refine Z0 ?_
  refine Lw 61 bq (λI=> ?_) λI=> ?_
  ·refine Z0 ?_
   cases I
   exact Eg0 [0,0,0,0,0] 0
  refine Z0 ?_
  cases I
  exact Eg0 [0,0,0,0,0] 0
 refine Tb br (λJ=> ?_) λJ=> ?_
 ·refine Z1 ?_
  refine Lt 3 ?_
  refine Z0 ?_
  refine E.dD [Im.sl bB none 0 []] (λA w _ _ f hf=>by rw [List.mem_singleton.1 hf]; exact Im.bV A w) ?_
  refine E.dD [Im.sl aJ none 0 []] (λA w _ _ f hf=>by rw [List.mem_singleton.1 hf]; exact Im.bV A w) ?_
  cases J
  exact Eo ((none,0),(none,0)) [] [1,0] (.cell 0 rfl rfl rfl (.tmp rfl .nil))
 refine Z1 ?_
 have ⟨ed,bs,bt⟩:=bnd J
 refine Lk [] [] (cR bs) λ⟨⟩=> ?_
 refine Z0 ?_
 refine Lt 1 ?_
 refine Z0 ?_
 refine Lt 1 ?_
 refine Z1 ?_
 have ⟨ee,bu,bv⟩:=bnd bt
 refine Lk [] [] (cR bu) λ⟨⟩=> ?_
 refine Z0 ?_
 refine Lt 1 ?_
 refine Z0 ?_
 refine Lt 1 ?_
 refine Z1 ?_
 have ⟨ef,bw,bx⟩:=bnd bv
 refine Lk [] [] (nU bw) λ⟨⟩=> ?_
 refine Z0 ?_
 refine Lt 1 ?_
 refine Z0 ?_
 refine Lt 1 ?_
 refine Z1 ?_
 have ⟨eg,bz,b0⟩:=bnd bx
 refine Lk [] [] (cR bz) λ⟨⟩=> ?_
 refine Z0 ?_
 refine Lt 1 ?_
 refine Z0 ?_
 refine Lt 1 ?_
 refine Z1 ?_
 have ⟨eh,b1,b2⟩:=bnd b0
 refine Lk [] [] (cR b1) λ⟨⟩=> ?_
 refine Z0 ?_
 refine Lt 1 ?_
 refine Z0 ?_
 refine Lt 1 ?_
 refine Z2 ?_
 have ⟨j,b3,b4⟩:=bnd b2
 refine Tjh (η:=(Option Addr×Nat)×(Option Addr×Nat)) (λ_=>[]) [2,4,6,7,8,10] (λh=>(λM N p q=>[Ch.arr bB 265 M N j.1.rows,Ch.arr aJ 191 p q j.1.begun,Ch.box bd 53 (xX j.1 M N p q),Ch.box B 193 [.string j.2.s,.int .i64 j.2.e]]) h.1.1 h.1.2 h.2.1 h.2.2) [2,3,4] (λ_=>[]) ?_ ?_
 ·refine Tb b3 (λO=> ?_) λO=> ?_
  ·refine Z0 ?_
   have ⟨ei,b5,b6⟩:=bnd O
   refine Lk [] [] (rp b5) λ⟨b7,b8⟩=> ?_
   refine Z0 ?_
   refine Lt 2 ?_
   refine Z0 ?_
   refine Lt 2 ?_
   refine Z0 ?_
   refine E.fZ bB 265 ?_
   cases b6
   exact Eg ((none,0),(b7,b8)) trivial [0,2,0,0,0,0,0] [] 0
  refine Z0 ?_
  refine E.fZ bB 265 ?_
  refine E.fZ aJ 191 ?_
  cases O
  exact Eg ((none,0),(none,0)) trivial [1,0,0,0,0,0,0] [] 0
 rintro ⟨⟨M,N⟩,⟨p,q⟩⟩
 refine Z1 ?_
 have ⟨ej,b9,ca⟩:=bnd b4
 refine Lk [] [] (cR b9) λ⟨⟩=> ?_
 refine Z0 ?_
 refine Lt 3 ?_
 refine Z2 ?_
 refine Tb ca (λP=> ?_) λP=> ?_
 ·refine Y1 ?_
  refine Td [] [0,0,0,0,0,1] mo ?_
  refine Db 0 4 ?_
  refine Dq 1 ?_
  refine Db 2 0 ?_
  refine Da [0] [] rfl rfl (Ac.stb rfl rfl rfl rfl rfl rfl) λ_=> ?_
  refine Dq 4 ?_
  refine Dn ?_
  refine Z0 ?_
  refine E.dD [Im.sl bB none 0 []] (λA w _ _ f hf=>by rw [List.mem_singleton.1 hf]; exact Im.bV A w) ?_
  refine E.dD [Im.sl aJ none 0 []] (λA w _ _ f hf=>by rw [List.mem_singleton.1 hf]; exact Im.bV A w) ?_
  cases P
  exact Eo ((none,0),(none,0)) [] [1,0] (.cell 6 rfl rfl rfl (.tmp rfl .nil))
 refine Z1 ?_
 have ⟨_,cb,cc⟩:=bnd P
 refine La [] [] (Ac.mk (ty:=Ty.bool) false () cb (λ_ _ f hf=>by cases hf) rfl rfl rfl rfl rfl rfl rfl) λcd=> ?_
 refine Z1 ?_
 have ⟨_,ce,cf⟩:=bnd cc
 refine La [] [] (Ac.mk (ty:=bB) (bN.mk ([]:List dF) false) (none,0) ce (λ_ _ f hf=>by rw [List.mem_singleton.1 hf]; exact Im.bV _ _) rfl rfl rfl rfl rfl rfl rfl) λcg=> ?_
 refine Z3 ?_
 have ⟨t,ch,Q⟩:=bnd cf
 refine Tj (η:=((List Bool)×(List bN)×aW)×((Option Addr×Nat)×(Option Addr×Nat))) (λh=>t = .inl h.1) (λh=>(λi=>(λu x d g=>[(11,.slice u i.1.length x),(12,.slice d i.2.1.length g)]) h.2.1.1 h.2.1.2 h.2.2.1 h.2.2.2) h.1) [2,4,6,7,8,10] (λh=>(λi=>(λu x d g=>[Ch.arr Ty.bool 4 u x i.1,Ch.arr bB 265 d g i.2.1,Ch.box B 193 [.string i.2.2.s,.int .i64 i.2.2.e]]) h.2.1.1 h.2.1.2 h.2.2.1 h.2.2.2) h.1) [5,6,7,8,3,4] (λ_=>[]) ?_ ?_
 ·refine Yl0 ?_
  refine Tq (η:=(Option Addr×Nat)×(Option Addr×Nat)) (λc h=>(λn k o m=>[(11,.slice n c.2.1.length k),(12,.slice o c.2.2.1.length m),(13,.int .i64 c.2.2.2.1),(14,.int .i64 c.2.2.2.2)]) h.1.1 h.1.2 h.2.1 h.2.2) [2,4,6,7,8,9,10] (λc h=>(λn k o m=>[Ch.arr Ty.bool 4 n k c.2.1,Ch.arr bB 265 o m c.2.2.1,Ch.box B 193 [.string c.1.s,.int .i64 c.1.e]]) h.1.1 h.1.2 h.2.1 h.2.2) [5,6,7,8,3,4] (λ_ _=>[]) (((some ⟨cd,0,none⟩),j.1.h.toNat),((some ⟨cg,0,none⟩),j.1.h.toNat)) [1,0,0,2,2,2,2,0,0] [] ch ?_
  rintro k_ c ⟨⟨n,k⟩,⟨o,m⟩⟩ ax ci cj R
  refine Z2 ?_
  refine Tb ci (λS=> ?_) λS=> ?_
  ·refine Z1 ?_
   refine Zl ?_
   refine Z2 ?_
   have ⟨ay,ck,cl⟩:=bnd S
   refine Lk [] [] (cR ck) λ⟨⟩=> ?_
   refine Z0 ?_
   refine Lt 2 ?_
   refine Y2 ?_
   have ⟨cm,cn,co⟩:=bnd cl
   refine Tj0 [(146,.bool cm)] [2,4,6,7,8,9,10,11,12,14,15] [] [0,3,4,5,6,1,2,7,8] ?_ ?_
   ·refine Z0 ?_
    refine Lw 136 cn (λU=> ?_) λU=> ?_
    ·refine Z0 ?_
     refine Lw 140 U (λV=> ?_) λV=> ?_
     ·refine Z0 ?_
      cases V
      exact Eg0 [0,2,2,2,2,0,0,0,0] 0
     refine Z0 ?_
     cases V
     exact Eg0 [0,2,2,2,2,0,0,0,0] 0
    refine Z0 ?_
    cases U
    exact Eg0 [0,2,2,2,2,0,0,0,0] 0
   refine Tb co (λW=> ?_) λW=> ?_
   ·refine Z1 ?_
    refine Lt 3 ?_
    refine Z0 ?_
    obtain ⟨ek,hz,cp⟩:=cK W
    subst ax
    have hb:=R _ rfl
    subst t
    obtain rfl:=(sm Q).symm
    refine Z0 ?_
    refine E.dD [Im.sl bB none 0 []] (λA w _ _ f hf=>by rw [List.mem_singleton.1 hf]; exact Im.bV A w) ?_
    refine E.dD [Im.sl aJ none 0 []] (λA w _ _ f hf=>by rw [List.mem_singleton.1 hf]; exact Im.bV A w) ?_
    cases cp
    exact Eo ((none,0),(none,0)) [] [1,0] (.cell 0 rfl rfl rfl (.tmp rfl .nil))
   refine Z1 ?_
   refine Ll λem=> ?_
   refine Lt 0 ?_
   refine Z1 ?_
   have ⟨az,cq,cr⟩:=bnd W
   refine Lk [] [] (sO cq) λ⟨ct,cu⟩=> ?_
   refine Z0 ?_
   refine Lt 1 ?_
   refine Lt 1 ?_
   refine Z2 ?_
   refine Tb cr (λX=> ?_) λX=> ?_
   ·refine Y1 ?_
    refine Td [] [0,0,0,0,1,1,1,1,1] mo ?_
    refine Db 0 3 ?_
    refine Dq 1 ?_
    refine Db 2 1 ?_
    refine Da [0] [] rfl rfl (Ac.stb rfl rfl rfl rfl rfl rfl) λ_=> ?_
    refine Dq 4 ?_
    refine Dn ?_
    refine Z0 ?_
    obtain ⟨en,hz,cv⟩:=cK X
    subst ax
    have hb:=R _ rfl
    subst t
    obtain rfl:=(sm Q).symm
    refine Z0 ?_
    refine E.dD [Im.sl bB none 0 []] (λA w _ _ f hf=>by rw [List.mem_singleton.1 hf]; exact Im.bV A w) ?_
    refine E.dD [Im.sl aJ none 0 []] (λA w _ _ f hf=>by rw [List.mem_singleton.1 hf]; exact Im.bV A w) ?_
    cases cv
    exact Eo ((none,0),(none,0)) [] [1,0] (.cell 9 rfl rfl rfl (.tmp rfl .nil))
   refine Z2 ?_
   have ⟨eo,Y,cw⟩:=bnd X
   refine L.iw 6 rfl (bH Y) λcx cy=> ?_
   subst cy
   refine Ly (Yl.ia Y rfl rfl rfl rfl rfl rfl) ?_
   refine La [6] [] (Ac.se 0 true (aI Y).2 rfl rfl rfl rfl rfl rfl (λ_=>⟨(),rfl,[],rfl⟩)) λ_=> ?_
   refine L.sl 11 (k':=(c.2.1.set ay.2.toNat true).length) (List.length_set ..) rfl ?_
   refine Z0 ?_
   have ⟨ep,Z,cz⟩:=bnd cw
   refine L.iw 7 rfl (bH Z) λc0 c1=> ?_
   subst c1
   refine Ly (Yl.ia Z rfl rfl rfl rfl rfl rfl) ?_
   refine La [7] [0] (Ac.se 0 az.2 (aI Z).2 rfl rfl rfl rfl rfl rfl (λ_=>⟨(ct,cu),rfl,[1],rfl⟩)) λ_=> ?_
   refine L.sl 12 (k':=(c.2.2.1.set ay.2.toNat az.2).length) (List.length_set ..) rfl ?_
   refine Z0 ?_
   cases cz
   exact Eg (_,(((some ⟨cx,0,none⟩),k),((some ⟨c0,0,none⟩),m))) (cj _ rfl) [1,0,1,1,1,1,1,1,1] [] 1
  refine Z0 ?_
  cases S
  have hb:=R _ rfl
  subst t
  exact Eg (_,((n,k),(o,m))) rfl [0,0,0,0,0,0,0,0,0] [] 0
 rintro ⟨i,⟨⟨u,x⟩,⟨d,g⟩⟩⟩ hy
 subst hy
 refine Z2 ?_
 refine Tb Q (λaa=> ?_) λaa=> ?_
 ·refine Z1 ?_
  refine Lt 5 ?_
  refine Z0 ?_
  refine E.dD [Im.sl bB none 0 []] (λA w _ _ f hf=>by rw [List.mem_singleton.1 hf]; exact Im.bV A w) ?_
  refine E.dD [Im.sl aJ none 0 []] (λA w _ _ f hf=>by rw [List.mem_singleton.1 hf]; exact Im.bV A w) ?_
  cases aa
  exact Eo ((none,0),(none,0)) [] [1,0] (.cell 0 rfl rfl rfl (.tmp rfl .nil))
 refine Z2 ?_
 have ⟨eq,c2,c3⟩:=bnd aa
 refine Lk [] [0,1] (yk c2) λ⟨⟩=> ?_
 refine Z0 ?_
 refine Tb c3 (λab=> ?_) λab=> ?_
 ·refine Z1 ?_
  refine Lt 5 ?_
  refine Z0 ?_
  refine E.dD [Im.sl bB none 0 []] (λA w _ _ f hf=>by rw [List.mem_singleton.1 hf]; exact Im.bV A w) ?_
  refine E.dD [Im.sl aJ none 0 []] (λA w _ _ f hf=>by rw [List.mem_singleton.1 hf]; exact Im.bV A w) ?_
  cases ab
  exact Eo ((none,0),(none,0)) [] [1,0] (.cell 0 rfl rfl rfl (.tmp rfl .nil))
 refine Z2 ?_
 have ⟨ac,c4,a0⟩:=bnd ab
 refine Tj (η:=(List bN)×Unit) (λh=>ac = .inl h.1) (λh=>(λy=>[(12,.slice d y.length g)]) h.1) [4,6,10] (λh=>(λy=>[Ch.arr bB 265 d g y]) h.1) [2,3,4,5,6,7,8] (λ_=>[]) ?_ ?_
 ·refine Yl0 ?_
  refine Tq (η:=Unit) (λb h=>[(12,.slice d b.1.length g),(181,.int .i64 b.2)]) [2,4,6,10,11,180] (λb h=>[Ch.arr bB 265 d g b.1]) [2,3,4,5,6,0,7,8] (λ_ _=>[]) () [1,1,1,1,1,1,0,0,0] [] c4 ?_
  rintro k_ b ⟨⟩ c5 c6 c7 a1
  refine Y2 ?_
  refine Tb c6 (λad=> ?_) λad=> ?_
  ·refine Y1 ?_
   have ⟨a2,c8,a3⟩:=bnd ad
   refine Tj (η:=(List bN)×Unit) (λh=>a2 = .inl h.1) (λh=>(λz=>[(12,.slice d z.length g)]) h.1) [2,4,6,10,11,180,181] (λh=>(λz=>[Ch.arr bB 265 d g z]) h.1) [1,2,3,4,5,6,7,8] (λ_=>[]) ?_ ?_
   ·refine Zl ?_
    refine Y3 ?_
    have ⟨c9,da,db⟩:=bnd c8
    refine Tj0 [(220,.bool c9)] [2,4,6,10,11,12,17,180,181] [] [1,2,3,4,5,0,6,7,8] ?_ ?_
    ·refine Td [] [1,1,1,1,1,1,1,1] mo ?_
     refine Dq 0 ?_
     refine Dq 1 ?_
     have ⟨dc,ae,dd⟩:=bnd da
     refine D.iw 5 rfl (bH ae) λer de=> ?_
     subst de
     refine Dy 2 (Yl.ia ae rfl rfl rfl rfl rfl rfl) ?_
     refine Dy 3 (Yl.lo (v:= .bool dc) 5 b.2.toNat 0 (aI ae).2 rfl rfl rfl rfl (λ_=>rfl)) ?_
     refine Dq 4 ?_
     refine Dq 5 ?_
     refine D.cs 189 dd rfl (λhc af=> ?_) (λhc af=> ?_)
     ·refine Dq 6 ?_
      refine Dq 7 ?_
      refine Db 8 4 ?_
      refine Dq 9 ?_
      refine Dq 10 ?_
      refine Dq 11 ?_
      refine Dq 12 ?_
      refine D.cs 196 af rfl (λhc ag=> ?_) (λhc ag=> ?_)
      ·refine Ds 13 ?_
       refine Ds 14 ?_
       refine Ds 15 ?_
       refine Ds 16 ?_
       refine Ds 17 ?_
       refine Ds 18 ?_
       refine Ds 19 ?_
       refine Ds 20 ?_
       refine Ds 21 ?_
       refine Ds 22 ?_
       refine Ds 23 ?_
       refine Ds 24 ?_
       refine Ds 25 ?_
       refine Ds 26 ?_
       refine Ds 27 ?_
       refine Ds 28 ?_
       refine Ds 29 ?_
       refine Ds 30 ?_
       refine Ds 31 ?_
       refine Ds 32 ?_
       refine Ds 33 ?_
       refine Ds 34 ?_
       refine Ds 35 ?_
       refine Dq 36 ?_
       refine Dn ?_
       cases ag
       exact Eg0 [0,0,0,0,0,3,0,0,0] 0
      refine Dq 13 ?_
      refine Dq 14 ?_
      have ⟨df,a4,dg⟩:=bnd ag
      refine Dy 15 (Yl.ia a4 rfl rfl rfl rfl rfl rfl) ?_
      refine Dy 16 (Yl.lo (v:= .bool df) 5 b.2.toNat 0 (aI a4).2 rfl rfl rfl rfl (λ_=>rfl)) ?_
      refine Dq 17 ?_
      refine D.cs 201 dg rfl (λhc ah=> ?_) (λhc ah=> ?_)
      ·refine Dq 18 ?_
       refine Dq 19 ?_
       refine Db 20 4 ?_
       refine Dq 21 ?_
       refine Dq 22 ?_
       refine Dq 23 ?_
       refine Dq 24 ?_
       refine D.cs 208 ah rfl (λhc ai=> ?_) (λhc ai=> ?_)
       ·refine Dq 25 ?_
        refine Dq 26 ?_
        have ⟨a5,aj,dh⟩:=bnd ai
        refine D.iw 8 rfl (bH aj) λes di=> ?_
        subst di
        refine Dy 27 (Yl.ia aj rfl rfl rfl rfl rfl rfl) ?_
        refine Dq 29 ?_
        refine Db 30 4 ?_
        refine Dq 31 ?_
        have ⟨et,ak,dj⟩:=bnd dh
        refine D.addr 0 rfl (bH ak) λeu ev dk=> ?_
        subst dk
        refine Dy 32 (Yl.ia ak rfl rfl rfl rfl rfl rfl) ?_
        refine D.el 0 rfl (aI ak).2 ?_
        rintro ⟨ew,ex⟩
        refine Dy 33 (Yl.ldc 0 0 rfl rfl rfl rfl) ?_
        refine Da [0] [] rfl rfl (Ac.lo b.2.toNat 0 (v:=(λh:(Option Addr×Nat)=>(λa6 a7=> .agg #[.slice a6 a5.l.length a7,.bool a5.wrapped]) h.1 h.2)) (aI aj).2 rfl rfl rfl (λ_=>rfl)) ?_
        rintro ⟨a6,a7⟩
        have ⟨ey,dl,dm⟩:=bnd dj
        refine Dk [] [0,2] (rr dl) λ⟨⟩=> ?_
        refine Dq 35 ?_
        refine Dq 36 ?_
        refine Dn ?_
        cases dm
        exact Eg0 [0,0,0,0,0,3,0,0,0] 3
       refine Ds 25 ?_
       refine Ds 26 ?_
       refine Ds 27 ?_
       refine Ds 28 ?_
       refine Ds 29 ?_
       refine Ds 30 ?_
       refine Ds 31 ?_
       refine Ds 32 ?_
       refine Ds 33 ?_
       refine Ds 34 ?_
       refine Dq 35 ?_
       refine Dq 36 ?_
       refine Dn ?_
       cases ai
       exact Eg0 [0,0,0,0,0,3,0,0,0] 0
      refine Ds 18 ?_
      refine Ds 19 ?_
      refine Ds 20 ?_
      refine Ds 21 ?_
      refine Ds 22 ?_
      refine Dq 23 ?_
      refine Dq 24 ?_
      refine Ds 25 ?_
      refine Ds 26 ?_
      refine Ds 27 ?_
      refine Ds 28 ?_
      refine Ds 29 ?_
      refine Ds 30 ?_
      refine Ds 31 ?_
      refine Ds 32 ?_
      refine Ds 33 ?_
      refine Ds 34 ?_
      refine Dq 35 ?_
      refine Dq 36 ?_
      refine Dn ?_
      cases ah
      exact Eg0 [0,0,0,0,0,3,0,0,0] 0
     refine Ds 6 ?_
     refine Ds 7 ?_
     refine Ds 8 ?_
     refine Ds 9 ?_
     refine Ds 10 ?_
     refine Dq 11 ?_
     refine Dq 12 ?_
     refine Dq 13 ?_
     refine Dq 14 ?_
     have ⟨dn,a8,dp⟩:=bnd af
     refine Dy 15 (Yl.ia a8 rfl rfl rfl rfl rfl rfl) ?_
     refine Dy 16 (Yl.lo (v:= .bool dn) 5 b.2.toNat 0 (aI a8).2 rfl rfl rfl rfl (λ_=>rfl)) ?_
     refine Dq 17 ?_
     refine D.cs 201 dp rfl (λhc al=> ?_) (λhc al=> ?_)
     ·refine Dq 18 ?_
      refine Dq 19 ?_
      refine Db 20 4 ?_
      refine Dq 21 ?_
      refine Dq 22 ?_
      refine Dq 23 ?_
      refine Dq 24 ?_
      refine D.cs 208 al rfl (λhc am=> ?_) (λhc am=> ?_)
      ·refine Dq 25 ?_
       refine Dq 26 ?_
       have ⟨a9,an,dq⟩:=bnd am
       refine D.iw 8 rfl (bH an) λez dr=> ?_
       subst dr
       refine Dy 27 (Yl.ia an rfl rfl rfl rfl rfl rfl) ?_
       refine Dq 29 ?_
       refine Db 30 4 ?_
       refine Dq 31 ?_
       have ⟨e0,ao,ds⟩:=bnd dq
       refine D.addr 0 rfl (bH ao) λe1 e2 dt=> ?_
       subst dt
       refine Dy 32 (Yl.ia ao rfl rfl rfl rfl rfl rfl) ?_
       refine D.el 0 rfl (aI ao).2 ?_
       rintro ⟨e3,e4⟩
       refine Dy 33 (Yl.ldc 0 0 rfl rfl rfl rfl) ?_
       refine Da [0] [] rfl rfl (Ac.lo b.2.toNat 0 (v:=(λh:(Option Addr×Nat)=>(λba bb=> .agg #[.slice ba a9.l.length bb,.bool a9.wrapped]) h.1 h.2)) (aI an).2 rfl rfl rfl (λ_=>rfl)) ?_
       rintro ⟨ba,bb⟩
       have ⟨e5,du,dv⟩:=bnd ds
       refine Dk [] [0,2] (rr du) λ⟨⟩=> ?_
       refine Dq 35 ?_
       refine Dq 36 ?_
       refine Dn ?_
       cases dv
       exact Eg0 [0,0,0,0,0,3,0,0,0] 3
      refine Ds 25 ?_
      refine Ds 26 ?_
      refine Ds 27 ?_
      refine Ds 28 ?_
      refine Ds 29 ?_
      refine Ds 30 ?_
      refine Ds 31 ?_
      refine Ds 32 ?_
      refine Ds 33 ?_
      refine Ds 34 ?_
      refine Dq 35 ?_
      refine Dq 36 ?_
      refine Dn ?_
      cases am
      exact Eg0 [0,0,0,0,0,3,0,0,0] 0
     refine Ds 18 ?_
     refine Ds 19 ?_
     refine Ds 20 ?_
     refine Ds 21 ?_
     refine Ds 22 ?_
     refine Dq 23 ?_
     refine Dq 24 ?_
     refine Ds 25 ?_
     refine Ds 26 ?_
     refine Ds 27 ?_
     refine Ds 28 ?_
     refine Ds 29 ?_
     refine Ds 30 ?_
     refine Ds 31 ?_
     refine Ds 32 ?_
     refine Ds 33 ?_
     refine Ds 34 ?_
     refine Dq 35 ?_
     refine Dq 36 ?_
     refine Dn ?_
     cases al
     exact Eg0 [0,0,0,0,0,3,0,0,0] 0
    refine Tb db (λap=> ?_) λap=> ?_
    ·refine Z1 ?_
     refine Lt 3 ?_
     refine Z0 ?_
     obtain ⟨e6,hz,dw⟩:=gA ap
     subst a2
     obtain rfl:=(sm a3).symm
     refine Z0 ?_
     obtain ⟨e7,hz,dx⟩:=cK dw
     subst c5
     have hb:=a1 _ rfl
     subst ac
     obtain rfl:=(sm a0).symm
     refine Z0 ?_
     refine E.dD [Im.sl bB none 0 []] (λA w _ _ f hf=>by rw [List.mem_singleton.1 hf]; exact Im.bV A w) ?_
     refine E.dD [Im.sl aJ none 0 []] (λA w _ _ f hf=>by rw [List.mem_singleton.1 hf]; exact Im.bV A w) ?_
     cases dx
     exact Eo ((none,0),(none,0)) [] [1,0] (.cell 0 rfl rfl rfl (.tmp rfl .nil))
    refine Z1 ?_
    have ⟨dy,aq,dz⟩:=bnd ap
    refine L.iw 6 rfl (bH aq) λe8 d0=> ?_
    subst d0
    refine Ly (Yl.ia aq rfl rfl rfl rfl rfl rfl) ?_
    refine Ly (Yl.lo (v:= .bool dy) 6 b.2.toNat 0 (aI aq).2 rfl rfl rfl rfl (λ_=>rfl)) ?_
    refine Z0 ?_
    refine Tb dz (λar=> ?_) λar=> ?_
    ·refine Z0 ?_
     have ⟨bc,au,d1⟩:=bnd ar
     refine L.addr 0 rfl (bH au) λe9 fa d2=> ?_
     subst d2
     refine Ly (Yl.ia au rfl rfl rfl rfl rfl rfl) ?_
     refine L.el 0 rfl (aI au).2 ?_
     rintro ⟨d3,d4⟩
     refine Lc 0 0 ?_
     have ⟨fb,av,d5⟩:=bnd d1
     refine L.iw 5 rfl (bH av) λfc d6=> ?_
     subst d6
     refine Ly (Yl.ia av rfl rfl rfl rfl rfl rfl) ?_
     refine La [5] [1] (Ac.se 0 bc (aI av).2 rfl rfl rfl rfl rfl rfl (λ_=>⟨(d3,d4),rfl,[1],rfl⟩)) λ_=> ?_
     refine L.sl 12 (k':=(b.1.set b.2.toNat bc).length) (List.length_set ..) rfl ?_
     refine Z0 ?_
     cases d5
     exact Eg (_,()) rfl [0,0,0,0,0,0,0,0,0] [] 2
    refine Z0 ?_
    cases ar
    exact Eg (_,()) rfl [5,0,0,0,0,0,0,0,0] [] 0
   rintro ⟨z,⟨⟩⟩ hy
   subst hy
   refine Z0 ?_
   cases a3
   exact Eg (_,()) (c7 _ rfl) [0,0,0,0,0,0,0,0,0] [] 0
  refine Z0 ?_
  cases ad
  have hb:=a1 _ rfl
  subst ac
  exact Eg (_,()) rfl [0,0,0,0,0,0,1,1] [] 0
 rintro ⟨y,⟨⟩⟩ hy
 subst hy
 refine Z1 ?_
 refine Lt 2 ?_
 refine Z2 ?_
 refine L.frz 1 rfl ?_
 refine L.frz 6 rfl ?_
 have ⟨fd,d7,d8⟩:=bnd a0
 refine Lk [] [1,0] (rq d7) λ⟨⟩=> ?_
 refine Z0 ?_
 refine Tb d8 (λaw=> ?_) λaw=> ?_
 ·refine Z1 ?_
  refine Lt 3 ?_
  refine Z0 ?_
  refine E.dD [Im.sl bB none 0 []] (λA w _ _ f hf=>by rw [List.mem_singleton.1 hf]; exact Im.bV A w) ?_
  refine E.dD [Im.sl aJ none 0 []] (λA w _ _ f hf=>by rw [List.mem_singleton.1 hf]; exact Im.bV A w) ?_
  cases aw
  exact Eo ((none,0),(none,0)) [] [1,0] (.cell 0 rfl rfl rfl (.tmp rfl .nil))
 refine Z1 ?_
 refine Lt 3 ?_
 refine Z0 ?_
 cases aw
 exact Eo ((d,g),(p,q)) [] [1,0] (.cell 0 rfl rfl rfl (.tmp rfl .nil))
theorem wL {t_:dL} {g:bA} {r:dL×Int} (H:kP t_ g=some r):CT G 61 [.agg (GF t_ A0 C0 A1 C1 A2 C2 A3 C3).toArray,.agg (oH g A4 C4).toArray] [] [Im.sl bB A0 C0 t_.aK.rows,Im.sl aJ A1 C1 t_.aK.begun,Im.sl Ty.bool A2 C2 t_.slot.has,Im.sl Ty.str A3 C3 t_.slot.parts,Im.sl (Ty.int .i64) A4 C4 g.aX] (λh:(Option Addr×Nat)×(Option Addr×Nat)×(Option Addr×Nat)×(Option Addr×Nat)=> .tuple #[.agg (GF r.1 h.1.1 h.1.2 h.2.1.1 h.2.1.2 h.2.2.1.1 h.2.2.1.2 h.2.2.2.1 h.2.2.2.2).toArray,.int .i64 r.2]) (λh=>[]) (λh=>[Im.sl bB h.1.1 h.1.2 r.1.aK.rows,Im.sl aJ h.2.1.1 h.2.1.2 r.1.aK.begun,Im.sl Ty.bool h.2.2.1.1 h.2.2.1.2 r.1.slot.has,Im.sl Ty.str h.2.2.2.1 h.2.2.2.2 r.1.slot.parts]):=by
 delta kP at H
 refine Cf Go.Proofs.Tryz.func61 λK=> ?_
 refine Z1 ?_
 refine Lx λg1=> ?_
 refine Lx λg2=> ?_
 refine Ll λg3=> ?_
 refine Z2 ?_
 refine Tb H (λH5=> ?_) λH5=> ?_
 ·refine Z1 ?_
  refine Lt 0 ?_
  refine Z0 ?_
  cases H5
  exact Eo ((A0,C0),(A1,C1),(A2,C2),(A3,C3)) [] [0,1,2,3] (.cell 0 rfl rfl rfl (.tmp rfl .nil))
 refine Z2 ?_
 refine Tb H5 (λH7=> ?_) λH7=> ?_
 ·refine Z1 ?_
  refine Lt 0 ?_
  refine Z0 ?_
  cases H7
  exact Eo ((A0,C0),(A1,C1),(A2,C2),(A3,C3)) [] [0,1,2,3] (.cell 0 rfl rfl rfl (.tmp rfl .nil))
 refine Y2 ?_
 refine Td [] [0,0,0] mo ?_
 refine Dq 0 ?_
 refine Db 1 1 ?_
 have ⟨a9,o,R⟩:=bnd H7
 refine D.addr 4 rfl (bH o) λba bb S=> ?_
 subst S
 refine Dy 2 (Yl.ia o rfl rfl rfl rfl rfl rfl) ?_
 refine D.el 4 rfl (aI o).2 ?_
 rintro _
 refine Dy 3 (Yl.ldc 0 0 rfl rfl rfl rfl) ?_
 refine Dq 4 ?_
 refine Dq 5 ?_
 refine Db 6 2 ?_
 refine Dq 7 ?_
 refine Dn ?_
 refine Z0 ?_
 refine Tb R (λp=> ?_) λp=> ?_
 ·refine Z1 ?_
  refine Lt 0 ?_
  refine Z0 ?_
  cases p
  exact Eo ((A0,C0),(A1,C1),(A2,C2),(A3,C3)) [] [1,2,3,4] (.cell 0 rfl rfl rfl (.tmp rfl .nil))
 refine Y2 ?_
 have ⟨U,V,W⟩:=bnd p
 refine Tj0 [(45,.bool U)] [2,3,4] [] [0,1,2] ?_ ?_
 ·refine Td [] [0,0,0] mo ?_
  refine Dq 0 ?_
  refine Db 1 1 ?_
  have ⟨bc,C,X⟩:=bnd V
  refine Dy 2 (Yl.ia C rfl rfl rfl rfl rfl rfl) ?_
  refine D.el 5 rfl (aI C).2 ?_
  rintro _
  refine Dy 3 (Yl.ldc 0 0 rfl rfl rfl rfl) ?_
  refine Dq 4 ?_
  refine Dq 5 ?_
  refine D.cs 36 X rfl (λhc q=> ?_) (λhc q=> ?_)
  ·refine Dq 6 ?_
   refine Db 7 1 ?_
   have ⟨bd,F,Y⟩:=bnd q
   refine Dy 8 (Yl.ia F rfl rfl rfl rfl rfl rfl) ?_
   refine D.el 6 rfl (aI F).2 ?_
   rintro _
   refine Dy 9 (Yl.ldc 0 0 rfl rfl rfl rfl) ?_
   refine Dq 10 ?_
   refine Dq 11 ?_
   refine Db 12 2 ?_
   refine Dq 13 ?_
   refine Dq 14 ?_
   refine Dn ?_
   cases Y
   exact Eg0 [0,0,0] 2
  refine Ds 6 ?_
  refine Ds 7 ?_
  refine Ds 8 ?_
  refine Ds 9 ?_
  refine Ds 10 ?_
  refine Ds 11 ?_
  refine Ds 12 ?_
  refine Ds 13 ?_
  refine Dq 14 ?_
  refine Dn ?_
  cases q
  exact Eg0 [0,0,0] 1
 refine Tb W (λs=> ?_) λs=> ?_
 ·refine Z1 ?_
  refine Lt 0 ?_
  refine Z0 ?_
  cases s
  exact Eo ((A0,C0),(A1,C1),(A2,C2),(A3,C3)) [] [1,2,3,4] (.cell 0 rfl rfl rfl (.tmp rfl .nil))
 refine Y1 ?_
 have ⟨b,Z,aa⟩:=bnd s
 refine Tjh (η:=Nat×(Option Addr×Nat)×(Option Addr×Nat)) (λh=>(λj c d e i=>[(6,.pointer (some ⟨j,0,none⟩)),(7,.int .i64 b.2)]) h.1 h.2.1.1 h.2.1.2 h.2.2.1 h.2.2.2) [2,3,4] (λh=>(λj c d e i=>[Ch.box j 56 [.int .i64 b.1.key,.slice c b.1.has.length d,.slice e b.1.parts.length i]]) h.1 h.2.1.1 h.2.1.2 h.2.2.1 h.2.2.2) [0,1,2] (λh=>(λj c d e i=>[Im.sl Ty.bool c d b.1.has,Im.sl Ty.str e i b.1.parts]) h.1 h.2.1.1 h.2.1.2 h.2.2.1 h.2.2.2) ?_ ?_
 ·refine Td [21] [0,0,0] mo ?_
  refine Dq 0 ?_
  refine Db 1 2 ?_
  refine Dq 2 ?_
  refine Db 3 1 ?_
  have ⟨be,I,ab⟩:=bnd Z
  refine Dy 4 (Yl.ia I rfl rfl rfl rfl rfl rfl) ?_
  refine D.el 5 rfl (aI I).2 ?_
  rintro _
  refine Dy 5 (Yl.ldc 0 0 rfl rfl rfl rfl) ?_
  refine Dq 6 ?_
  refine Db 7 1 ?_
  have ⟨bf,J,ac⟩:=bnd ab
  refine Dy 8 (Yl.ia J rfl rfl rfl rfl rfl rfl) ?_
  refine D.el 6 rfl (aI J).2 ?_
  rintro _
  refine Dy 9 (Yl.ldc 0 0 rfl rfl rfl rfl) ?_
  refine Dq 10 ?_
  refine Db 11 1 ?_
  have ⟨bg,M,ad⟩:=bnd ac
  refine Dy 12 (Yl.ia M rfl rfl rfl rfl rfl rfl) ?_
  refine D.el 7 rfl (aI M).2 ?_
  rintro _
  refine Dy 13 (Yl.ldc 0 0 rfl rfl rfl rfl) ?_
  refine Dq 14 ?_
  refine Db 15 1 ?_
  have ⟨bh,N,O⟩:=bnd ad
  refine D.two rfl rfl rfl ?_ ?_
  ·refine Dp.a [] [6,7] (Ac.call (sC N) rfl rfl rfl rfl) rfl rfl rfl rfl rfl rfl ?_
   rintro ⟨⟨ae,af⟩,⟨ag,ah⟩⟩
   refine Dq 17 ?_
   refine Dq 18 ?_
   refine Dq 19 ?_
   refine Da [] [] rfl rfl (Ac.alloc rfl rfl) λai=> ?_
   refine Dt 3 ?_
   refine Dq 22 ?_
   refine Dn ?_
   cases O
   exact Eg (ai,(ae,af),(ag,ah)) trivial [0,0,0,0] [0,1] 5
  refine Dp.a [] [] (Ac.alloc rfl rfl) rfl rfl rfl rfl rfl rfl ?_
  intro aj
  refine Dk [] [6,7] (sC N) λ⟨⟨ak,al⟩,⟨am,an⟩⟩=> ?_
  refine Dq 17 ?_
  refine Dq 18 ?_
  refine Dq 19 ?_
  refine Dt 3 ?_
  refine Dq 22 ?_
  refine Dn ?_
  cases O
  exact Eg (aj,(ak,al),(am,an)) trivial [0,0,0,0] [0,1] 5
 rintro ⟨j,⟨c,d⟩,⟨e,i⟩⟩
 refine Z2 ?_
 refine Tb aa (λt=> ?_) λt=> ?_
 ·refine Z1 ?_
  refine Lt 1 ?_
  refine Z0 ?_
  cases t
  exact Eo ((A0,C0),(A1,C1),(A2,C2),(A3,C3)) [] [3,4,5,6] (.cell 0 rfl rfl rfl (.tmp rfl .nil))
 refine Z1 ?_
 have ⟨bi,ao,ap⟩:=bnd t
 refine Lk [] [0,1] (yj ao) λ⟨⟩=> ?_
 refine Z2 ?_
 refine Tb ap (λu=> ?_) λu=> ?_
 ·refine Z1 ?_
  refine Lt 1 ?_
  refine Z0 ?_
  cases u
  exact Eo ((A0,C0),(A1,C1),(c,d),(e,i)) [] [3,4,0,1] (.cell 0 rfl rfl rfl (.tmp rfl .nil))
 refine Z1 ?_
 refine Ll λaq=> ?_
 refine Lt 0 ?_
 refine Z2 ?_
 have ⟨bj,P,ar⟩:=bnd u
 refine Ly (Yl.ia P rfl rfl rfl rfl rfl rfl) ?_
 refine L.el 7 rfl (aI P).2 ?_
 rintro _
 refine Lc 0 0 ?_
 refine Z0 ?_
 have ⟨v,au,av⟩:=bnd ar
 refine Tjh (η:=(Option Addr×Nat)×(Option Addr×Nat)) (λ_=>[]) [2,3,4,8,10] (λh=>(λk l m n=>[Ch.box aq 53 (xX v k l m n)]) h.1.1 h.1.2 h.2.1 h.2.2) [1,2,3,4] (λh=>(λk l m n=>[Im.sl bB k l v.rows,Im.sl aJ m n v.begun]) h.1.1 h.1.2 h.2.1 h.2.2) ?_ ?_
 ·refine Tb au (λx=> ?_) λx=> ?_
  ·refine Z0 ?_
   refine Lt 0 ?_
   refine Z0 ?_
   cases x
   exact Eg ((A0,C0),(A1,C1)) trivial [0,0,0,0,0] [4,5] 0
  refine Z0 ?_
  refine E.dD [Im.sl bB none 0 []] (λA w _ _ f hf=>by rw [List.mem_singleton.1 hf]; exact Im.bV A w) ?_
  refine E.dD [Im.sl aJ none 0 []] (λA w _ _ f hf=>by rw [List.mem_singleton.1 hf]; exact Im.bV A w) ?_
  cases x
  exact Eg ((none,0),(none,0)) trivial [0,0,0,0,0] [1,0] 2
 rintro ⟨⟨k,l⟩,⟨m,n⟩⟩
 refine Z1 ?_
 have ⟨bk,aw,ax⟩:=bnd av
 refine Lk [] [0,1] (uO aw) λ⟨⟨ay,az⟩,⟨a0,a1⟩⟩=> ?_
 refine Z0 ?_
 refine Ll λbl=> ?_
 refine Lt 0 ?_
 refine Y2 ?_
 have ⟨a2,a3,a4⟩:=bnd ax
 refine Tj0 [(106,.bool a2)] [2,4,11,12] [] [0,1,2,3,4,5] ?_ ?_
 ·refine Td [] [0,0,0,0,0,0] mo ?_
  refine Dq 0 ?_
  refine Dq 1 ?_
  refine Dq 2 ?_
  refine D.cs 98 a3 rfl (λhc y=> ?_) (λhc y=> ?_)
  ·refine Dq 3 ?_
   refine Db 4 0 ?_
   refine Dq 5 ?_
   refine Db 6 4 ?_
   have ⟨bm,Q,a5⟩:=bnd y
   refine Dy 7 (Yl.ia Q rfl rfl rfl rfl rfl rfl) ?_
   refine D.el 12 rfl (aI Q).2 ?_
   rintro _
   refine Dy 8 (Yl.ldc 0 0 rfl rfl rfl rfl) ?_
   refine Dq 9 ?_
   refine Dq 10 ?_
   refine Dn ?_
   cases a5
   exact Eg0 [0,0,0,0,0,0] 1
  refine Ds 3 ?_
  refine Ds 4 ?_
  refine Ds 5 ?_
  refine Ds 6 ?_
  refine Ds 7 ?_
  refine Ds 8 ?_
  refine Ds 9 ?_
  refine Dq 10 ?_
  refine Dn ?_
  cases y
  exact Eg0 [0,0,0,0,0,0] 0
 have ⟨a6,a7,a8⟩:=bnd a4
 refine Tj0 [(12,.int .i64 a6)] [2,4,11] [] [0,1,2,3,4,5] ?_ ?_
 ·refine Tb a7 (λz=> ?_) λz=> ?_
  ·refine Z0 ?_
   cases z
   exact Eg0 [0,0,0,0,0,0] 0
  refine Z0 ?_
  cases z
  exact Eg0 [0,0,0,0,0,0] 0
 refine Z2 ?_
 refine Tb a8 (λB=> ?_) λB=> ?_
 ·refine Z1 ?_
  refine Lt 3 ?_
  refine Z0 ?_
  refine E.dD [Im.sl Ty.bool none 0 []] (λA w _ _ f hf=>by rw [List.mem_singleton.1 hf]; exact Im.bV A w) ?_
  refine E.dD [Im.sl Ty.str none 0 []] (λA w _ _ f hf=>by rw [List.mem_singleton.1 hf]; exact Im.bV A w) ?_
  cases B
  exact Eo ((A0,C0),(A1,C1),(none,0),(none,0)) [] [10,11,1,0] (.cell 0 rfl rfl rfl (.tmp rfl .nil))
 refine Z1 ?_
 refine Lt 3 ?_
 refine Z0 ?_
 refine E.dD [Im.sl Ty.bool none 0 []] (λA w _ _ f hf=>by rw [List.mem_singleton.1 hf]; exact Im.bV A w) ?_
 refine E.dD [Im.sl Ty.str none 0 []] (λA w _ _ f hf=>by rw [List.mem_singleton.1 hf]; exact Im.bV A w) ?_
 cases B
 exact Eo ((ay,az),(a0,a1),(none,0),(none,0)) [] [2,3,1,0] (.cell 0 rfl rfl rfl (.tmp rfl .nil))
theorem wM {g:bA} {r:Int×(List (List aQ))×Int} (H:jU g=some r):CT G 62 [.agg (oH g A0 C0).toArray] [] [Im.sl (Ty.int .i64) A0 C0 g.aX] (λh:(Option Addr×Nat)=> .tuple #[.int .i64 r.1,.slice h.1 r.2.1.length h.2,.int .i64 r.2.2]) (λh=>[Ch.arr (Ty.slice aJ) 51 h.1 h.2 r.2.1]) (λh=>[]):=by
 delta jU at H
 refine Cf Go.Proofs.Tryz.func62 λK=> ?_
 refine Z1 ?_
 refine Lx λg1=> ?_
 refine Z2 ?_
 refine Tb H (λH3=> ?_) λH3=> ?_
 ·refine Z1 ?_
  refine E.fZ (Ty.slice aJ) 51 ?_
  cases H3
  exact Eo (none,0) [0] [] (.tmp rfl (.tmp rfl (.tmp rfl .nil)))
 refine Z2 ?_
 refine Tb H3 (λH6=> ?_) λH6=> ?_
 ·refine Z1 ?_
  refine E.fZ (Ty.slice aJ) 51 ?_
  cases H6
  exact Eo (none,0) [0] [] (.tmp rfl (.tmp rfl (.tmp rfl .nil)))
 refine Z1 ?_
 refine Ll λg8=> ?_
 refine Lt 0 ?_
 refine Z1 ?_
 refine La [] [] (Ac.bs (ty:=(Ty.slice aJ)) (xs:=[]) .nil rfl rfl rfl rfl rfl rfl rfl) λg9=> ?_
 refine Y1 ?_
 have ⟨b,q,t⟩:=bnd H6
 refine Tjh (η:=(Option Addr×Nat)) (λh=>(λc d=>[(6,.slice c b.1.length d)]) h.1 h.2) [1,5] (λh=>(λc d=>[Ch.arr (Ty.slice aJ) 51 c d b.1,Ch.box g8 193 [.string b.2.s,.int .i64 b.2.e]]) h.1 h.2) [2] (λ_=>[]) ?_ ?_
 ·refine Yl0 ?_
  refine Tq (η:=(Option Addr×Nat)) (λa h=>(λf i=>[(6,.slice f a.2.length i)]) h.1 h.2) [1,5] (λa h=>(λf i=>[Ch.arr (Ty.slice aJ) 51 f i a.2,Ch.box g8 193 [.string a.1.s,.int .i64 a.1.e]]) h.1 h.2) [2] (λ_ _=>[]) ((some ⟨g9,0,none⟩),0) [0,0,0] [] q ?_
  rintro k_ a ⟨f,i⟩ X u v w
  refine Y2 ?_
  have ⟨x,y,z⟩:=bnd u
  refine Tj0 [(31,.bool x)] [1,5,6] [] [1,2,0] ?_ ?_
  ·refine Z0 ?_
   refine Lw 23 y (λj=> ?_) λj=> ?_
   ·refine Z0 ?_
    have ⟨Y,k,A⟩:=bnd j
    refine L.addr 0 rfl (bH k) λZ aa B=> ?_
    subst B
    refine Ly (Yl.ia k rfl rfl rfl rfl rfl rfl) ?_
    refine L.el 0 rfl (aI k).2 ?_
    rintro _
    refine Lc 0 0 ?_
    refine Z0 ?_
    cases A
    exact Eg0 [1,1,0] 1
   refine Z0 ?_
   cases j
   exact Eg0 [1,1,0] 0
  refine Tb z (λl=> ?_) λl=> ?_
  ·refine Zl ?_
   refine Z1 ?_
   refine La [] [] (Ac.bs (ty:=aJ) (xs:=[]) .nil rfl rfl rfl rfl rfl rfl rfl) λab=> ?_
   refine Z1 ?_
   have ⟨C,F,I⟩:=bnd l
   refine Lk [] [] (rp F) λ⟨J,M⟩=> ?_
   refine Z0 ?_
   refine Lt 2 ?_
   refine Z0 ?_
   refine L.frz 1 rfl ?_
   refine La [] [0] (Ac.bs (ty:=(Ty.slice aJ)) (xs:=[C.2]) (.cons (J,M) [0] rfl .nil) rfl rfl rfl rfl rfl rfl rfl) λac=> ?_
   refine L.frz 0 rfl ?_
   have ⟨_,N,O⟩:=bnd I
   refine La [3] [0] (Ac.ap (ty:=(Ty.slice aJ)) N rfl rfl rfl rfl rfl rfl rfl) ?_
   rintro ⟨P,Q⟩
   refine Z0 ?_
   cases O
   exact Eg (_,(P,Q)) (v _ rfl) [0,0,1] [] 2
  refine Z0 ?_
  cases l
  have hb:=w _ rfl
  subst b
  exact Eg (f,i) trivial [2,0,0] [] 0
 rintro ⟨c,d⟩
 refine Z2 ?_
 have ⟨ad,R,S⟩:=bnd t
 refine Lk [] [] (sB R) λ⟨⟩=> ?_
 refine Z1 ?_
 refine Tb S (λm=> ?_) λm=> ?_
 ·refine Z1 ?_
  refine E.fZ (Ty.slice aJ) 51 ?_
  cases m
  exact Eo (none,0) [0] [] (.tmp rfl (.tmp rfl (.tmp rfl .nil)))
 refine Z2 ?_
 have ⟨ae,n,U⟩:=bnd m
 refine L.addr 0 rfl (bH n) λaf ag V=> ?_
 subst V
 refine Ly (Yl.ia n rfl rfl rfl rfl rfl rfl) ?_
 refine L.el 0 rfl (aI n).2 ?_
 rintro _
 refine Lc 0 0 ?_
 refine Z0 ?_
 refine Tb U (λo=> ?_) λo=> ?_
 ·refine Z1 ?_
  refine E.fZ (Ty.slice aJ) 51 ?_
  cases o
  exact Eo (none,0) [0] [] (.tmp rfl (.tmp rfl (.tmp rfl .nil)))
 refine Z1 ?_
 have ⟨ah,p,W⟩:=bnd o
 refine Ly (Yl.ia p rfl rfl rfl rfl rfl rfl) ?_
 refine L.el 1 rfl (aI p).2 ?_
 rintro _
 refine Lc 0 0 ?_
 refine Z0 ?_
 cases W
 exact Eo (c,d) [0] [] (.tmp rfl (.tmp rfl (.tmp rfl .nil)))
theorem sE {l:List aD} {x_:aD} {r:(List aD)} (H:iL l x_=some r):CT G 118 [.slice A0 l.length C0,.agg #[.int .i64 x_.from_,.int .i64 x_.to]] [] [Im.sl aR A0 C0 l] (λh:(Option Addr×Nat)=> .slice h.1 r.length h.2) (λh=>[Ch.arr aR 187 h.1 h.2 r]) (λh=>[]):=by
 delta iL at H
 refine Cf Go.Proofs.Tryz.func118 λK=> ?_
 refine Z1 ?_
 refine Lx λg1=> ?_
 refine Z1 ?_
 have ⟨r2,h3,H4⟩:=bnd H
 refine Lk [] [] (oN h3) λ⟨a5,c6⟩=> ?_
 refine L.frz 0 rfl ?_
 have ⟨r9,a,b⟩:=bnd H4
 refine Lk [] [1,0] (nu a) λ⟨c,d⟩=> ?_
 refine Z0 ?_
 cases b
 exact Eo1 (c,d) [0] []
theorem ym {f:bR} {i:Int} {r:bR×Bool} (H:jI f i=some r):CT G 63 [.agg (wB f A0 C0).toArray,.int .i64 i] [] [Im.sl aR A0 C0 f.l] (λh:(Option Addr×Nat)=> .tuple #[.agg (wB r.1 h.1 h.2).toArray,.bool r.2]) (λh=>[]) (λh=>[Im.sl aR h.1 h.2 r.1.l]):=by
 delta jI at H
 refine Cf Go.Proofs.Tryz.func63 λK=> ?_
 refine Z1 ?_
 refine Lx λg1=> ?_
 refine Ll λg2=> ?_
 refine Z2 ?_
 have ⟨r3,h4,H5⟩:=bnd H
 refine Lk [] [0] (oO h4) λ⟨⟩=> ?_
 refine Z0 ?_
 refine Tb H5 (λH7=> ?_) λH7=> ?_
 ·refine Z1 ?_
  refine Lt 0 ?_
  refine Z0 ?_
  cases H7
  exact Eo (A0,C0) [] [0] (.cell 0 rfl rfl rfl (.tmp rfl .nil))
 refine Z1 ?_
 have ⟨r8,h9,a⟩:=bnd H7
 refine Lk [] [0] (sE h9) λ⟨b,c⟩=> ?_
 refine Z0 ?_
 refine Lt 2 ?_
 refine Z1 ?_
 refine Lt 2 ?_
 refine Z0 ?_
 refine E.frz 2 rfl ?_
 cases a
 exact Eo (b,c) [] [0] (.cell 0 rfl rfl rfl (.tmp rfl .nil))
theorem oP {c:bX} {e:dP} {r:bX} (H:fY c e=some r):CT G 119 [.agg #[.int .i64 c.most,.slice A0 c.l.length C0],.agg #[.int .i64 e.i,.slice A1 e.l.length C1]] [] [Im.sl bF A0 C0 c.l,Im.sl aJ A1 C1 e.l] (λh:(Option Addr×Nat)=> .agg #[.int .i64 r.most,.slice h.1 r.l.length h.2]) (λh=>[]) (λh=>[Im.sl bF h.1 h.2 r.l]):=by
 delta fY at H
 refine Cf Go.Proofs.Tryz.func119 λK=> ?_
 refine Z1 ?_
 refine Lx λg1=> ?_
 refine Lx λg2=> ?_
 refine Ll λg3=> ?_
 refine Z1 ?_
 refine La [] [] (Ac.bs (ty:=bF) (xs:=[]) .nil rfl rfl rfl rfl rfl rfl rfl) λg4=> ?_
 refine Z2 ?_
 have ⟨m,s,t⟩:=bnd H
 refine Tjh (η:=(Option Addr×Nat)) (λh=>(λj k=>[(5,.slice j m.length k)]) h.1 h.2) [2,3,4] (λh=>(λj k=>[Ch.arr bF 119 j k m]) h.1 h.2) [1,2,3] (λ_=>[]) ?_ ?_
 ·refine Yl0 ?_
  refine Tq (η:=(Option Addr×Nat)) (λd h=>(λa b=>[(5,.slice a d.2.length b),(12,.int .i64 d.1)]) h.1 h.2) [2,3,4,10,11] (λd h=>(λa b=>[Ch.arr bF 119 a b d.2]) h.1 h.2) [1,2,3] (λ_ _=>[]) ((some ⟨g4,0,none⟩),0) [0,0,0,0] [] s ?_
  rintro k_ d ⟨a,b⟩ S u v w
  refine Y2 ?_
  refine Tb u (λn=> ?_) λn=> ?_
  ·refine Y1 ?_
   have ⟨q,x,y⟩:=bnd n
   refine Tjh (η:=(Option Addr×Nat)) (λh=>(λf g=>[(5,.slice f q.length g)]) h.1 h.2) [2,3,4,10,11,12] (λh=>(λf g=>[Ch.arr bF 119 f g q]) h.1 h.2) [1,2,3] (λ_=>[]) ?_ ?_
   ·refine Zl ?_
    refine Z1 ?_
    have ⟨z,o,A⟩:=bnd x
    refine L.addr 0 rfl (bH o) λU V B=> ?_
    subst B
    refine Ly (Yl.ia o rfl rfl rfl rfl rfl rfl) ?_
    refine L.el 0 rfl (aI o).2 ?_
    rintro ⟨C,F⟩
    refine Lc 0 0 ?_
    refine Ll λW=> ?_
    refine Lt 0 ?_
    refine Z1 ?_
    refine Tb A (λp=> ?_) λp=> ?_
    ·refine Z0 ?_
     refine La [] [1] (Ac.bs (ty:=bF) (xs:=[z]) (.cons (C,F) [0] rfl .nil) rfl rfl rfl rfl rfl rfl rfl) λX=> ?_
     refine L.frz 0 rfl ?_
     have ⟨_,I,J⟩:=bnd p
     refine La [1] [0] (Ac.ap (ty:=bF) I rfl rfl rfl rfl rfl rfl rfl) ?_
     rintro ⟨M,N⟩
     refine Z0 ?_
     cases J
     exact Eg (M,N) trivial [0,1,1,1] [] 3
    refine Z0 ?_
    cases p
    exact Eg (a,b) trivial [1,1,1,1] [] 2
   rintro ⟨f,g⟩
   refine Z0 ?_
   cases y
   exact Eg (_,(f,g)) (v _ rfl) [0,0,0,0] [] 0
  refine Z0 ?_
  cases n
  have hb:=w _ rfl
  subst m
  exact Eg (a,b) trivial [0,0,0,0] [] 0
 rintro ⟨j,k⟩
 refine Y1 ?_
 refine Td [7] [1,1,1] mo ?_
 refine Dq 0 ?_
 refine Db 1 2 ?_
 refine Dq 2 ?_
 refine Db 3 1 ?_
 refine Da [] [1] rfl rfl (Ac.bs (ty:=bF) (xs:=[e]) (.cons (A1,C1) [0] rfl .nil) rfl rfl rfl rfl rfl rfl rfl) λY=> ?_
 refine D.frz 0 rfl ?_
 have ⟨_,O,P⟩:=bnd t
 refine Da [0] [0] rfl rfl (Ac.ap (ty:=bF) O rfl rfl rfl rfl rfl rfl rfl) ?_
 rintro ⟨Q,R⟩
 refine Dq 6 ?_
 refine Dt 0 ?_
 refine Dn ?_
 refine Z0 ?_
 refine E.frz 3 rfl ?_
 cases P
 exact Eo (Q,R) [] [0] (.cell 0 rfl rfl rfl .nil)
end Go.Tw.X
namespace Go.Tw.X
open Go Go.Tw
variable {A0 A1 A2 A3 A4 A5 A6 A7 A8 : Option Addr} {C0 C1 C2 C3 C4 C5 C6 C7 C8 : Nat}
variable {N0 N1 N2 N3 N4 N5 : Nat}
variable {M0 M1 : Option Nat}
theorem yn {c:bX} {i:Int} {l:List aQ} {r:bX×Int×Bool} (H:jH c i l=some r):CT G 64 [.agg #[.int .i64 c.most,.slice A0 c.l.length C0],.int .i64 i,.slice A1 l.length C1] [] [Im.sl bF A0 C0 c.l,Im.sl aJ A1 C1 l] (λh:(Option Addr×Nat)=> .tuple #[.agg #[.int .i64 r.1.most,.slice h.1 r.1.l.length h.2],.int .i64 r.2.1,.bool r.2.2]) (λh=>[]) (λh=>[Im.sl bF h.1 h.2 r.1.l]):=by
 delta jH at H
 refine Cf Go.Proofs.Tryz.func64 λK=> ?_
 refine Z1 ?_
 refine Lx λg1=> ?_
 refine Ll λg2=> ?_
 refine Y2 ?_
 have ⟨e6,H7,H8⟩:=bnd H
 refine Tj0 [(15,.bool e6)] [1,2,3,6] [] [0,1] ?_ ?_
 ·refine Z0 ?_
  refine Lw 12 H7 (λH9=> ?_) λH9=> ?_
  ·refine Z0 ?_
   cases H9
   exact Eg0 [0,0] 0
  refine Z0 ?_
  cases H9
  exact Eg0 [0,0] 0
 refine Tb H8 (λa=> ?_) λa=> ?_
 ·refine Z1 ?_
  refine Lt 0 ?_
  refine Z0 ?_
  cases a
  exact Eo (A0,C0) [] [0] (.cell 0 rfl rfl rfl (.tmp rfl (.tmp rfl .nil)))
 refine Z1 ?_
 have ⟨s,e,f⟩:=bnd a
 refine Lk [] [0,1] (oP e) λ⟨g,j⟩=> ?_
 refine Ll λt=> ?_
 refine Lt 0 ?_
 refine Z2 ?_
 refine Tb f (λb=> ?_) λb=> ?_
 ·refine Z1 ?_
  refine Lt 1 ?_
  refine Z0 ?_
  cases b
  exact Eo (g,j) [] [0] (.cell 0 rfl rfl rfl (.tmp rfl (.tmp rfl .nil)))
 refine Y1 ?_
 refine Td [] [0,1] mo ?_
 refine Dq 0 ?_
 refine Db 1 0 ?_
 refine Dq 2 ?_
 refine Db 3 0 ?_
 have ⟨_,k,m⟩:=bnd b
 refine D.rsl 0 4 k rfl rfl rfl rfl rfl rfl rfl rfl rfl rfl rfl rfl rfl rfl ?_
 intro n o
 refine Dq 5 ?_
 refine Dq 6 ?_
 refine Db 7 0 ?_
 have ⟨u,d,p⟩:=bnd m
 refine D.addr 1 rfl (bH d) λv w q=> ?_
 subst q
 refine Dy 8 (Yl.ia d rfl rfl rfl rfl rfl rfl) ?_
 refine D.el 1 rfl (aI d).2 ?_
 rintro ⟨x,y⟩
 refine Dq 9 ?_
 refine Dy 10 (Yl.ldc 0 0 rfl rfl rfl rfl) ?_
 refine Da [0] [] rfl rfl (Ac.stb rfl rfl rfl rfl rfl rfl) λ_=> ?_
 refine Dq 12 ?_
 refine Dq 13 ?_
 refine Dn ?_
 refine Z0 ?_
 cases p
 exact Eo (n,o) [] [2] (.cell 2 rfl rfl rfl (.tmp rfl (.tmp rfl .nil)))
theorem wN {c:aL} {data:ByteArray} {r:aL×Int} (H:kR c data=some r):CT G 22 [.agg (nO c A0 C0 A1 C1 A2 C2 A3 C3 A4 C4 A5 C5).toArray,.string data] [] [Im.sl bB A0 C0 c.t.aK.rows,Im.sl aJ A1 C1 c.t.aK.begun,Im.sl Ty.bool A2 C2 c.t.slot.has,Im.sl Ty.str A3 C3 c.t.slot.parts,Im.sl bF A4 C4 c.l.l,Im.sl aR A5 C5 c.f.l] (λh:(Option Addr×Nat)×(Option Addr×Nat)×(Option Addr×Nat)×(Option Addr×Nat)×(Option Addr×Nat)×(Option Addr×Nat)=> .tuple #[.agg (nO r.1 h.1.1 h.1.2 h.2.1.1 h.2.1.2 h.2.2.1.1 h.2.2.1.2 h.2.2.2.1.1 h.2.2.2.1.2 h.2.2.2.2.1.1 h.2.2.2.2.1.2 h.2.2.2.2.2.1 h.2.2.2.2.2.2).toArray,.int .i64 r.2]) (λh=>[]) (λh=>[Im.sl bB h.1.1 h.1.2 r.1.t.aK.rows,Im.sl aJ h.2.1.1 h.2.1.2 r.1.t.aK.begun,Im.sl Ty.bool h.2.2.1.1 h.2.2.1.2 r.1.t.slot.has,Im.sl Ty.str h.2.2.2.1.1 h.2.2.2.1.2 r.1.t.slot.parts,Im.sl bF h.2.2.2.2.1.1 h.2.2.2.2.1.2 r.1.l.l,Im.sl aR h.2.2.2.2.2.1 h.2.2.2.2.2.2 r.1.f.l]):=by
 delta kR at H
 refine Cf Go.Proofs.Tryz.func22 λK=> ?_
 refine Z1 ?_
 refine Lx λg1=> ?_
 refine Ll λg2=> ?_
 refine Z1 ?_
 have ⟨r3,h4,H5⟩:=bnd H
 refine Lk [] [] (uM h4) λ⟨a6,c7⟩=> ?_
 refine Z0 ?_
 refine Ll λg9=> ?_
 refine Lt 0 ?_
 refine Z2 ?_
 refine Tb H5 (λR=> ?_) λR=> ?_
 ·refine Z1 ?_
  refine Lt 1 ?_
  refine Z0 ?_
  cases R
  exact Eo ((A0,C0),(A1,C1),(A2,C2),(A3,C3),(A4,C4),(A5,C5)) [] [1,2,3,4,5,6] (.cell 0 rfl rfl rfl (.tmp rfl .nil))
 refine Y2 ?_
 have ⟨ad,ae,af⟩:=bnd R
 refine Tj0 [(33,.bool ad)] [2,4,6] [] [0,1,2] ?_ ?_
 ·refine Z0 ?_
  refine Lw 29 ae (λS=> ?_) λS=> ?_
  ·refine Z0 ?_
   cases S
   exact Eg0 [0,0,0] 0
  refine Z0 ?_
  cases S
  exact Eg0 [0,0,0] 0
 refine Tb af (λU=> ?_) λU=> ?_
 ·refine Z1 ?_
  refine Lt 1 ?_
  refine Z0 ?_
  cases U
  exact Eo ((A0,C0),(A1,C1),(A2,C2),(A3,C3),(A4,C4),(A5,C5)) [] [1,2,3,4,5,6] (.cell 0 rfl rfl rfl (.tmp rfl .nil))
 refine Z2 ?_
 refine Tb U (λV=> ?_) λV=> ?_
 ·refine Z1 ?_
  refine Lt 1 ?_
  refine Z0 ?_
  cases V
  exact Eo ((A0,C0),(A1,C1),(A2,C2),(A3,C3),(A4,C4),(A5,C5)) [] [1,2,3,4,5,6] (.cell 0 rfl rfl rfl (.tmp rfl .nil))
 refine Z2 ?_
 have ⟨o,ag,ah⟩:=bnd V
 refine Tjh (η:=(Option Addr×Nat)×(Option Addr×Nat)×(Option Addr×Nat)×(Option Addr×Nat)×(Option Addr×Nat)×(Option Addr×Nat)) (λ_=>[]) [2,4,6] (λh=>(λb d e g i j k m y z B C=>[Ch.box g1 66 (nO o b d e g i j k m y z B C)]) h.1.1 h.1.2 h.2.1.1 h.2.1.2 h.2.2.1.1 h.2.2.1.2 h.2.2.2.1.1 h.2.2.2.1.2 h.2.2.2.2.1.1 h.2.2.2.2.1.2 h.2.2.2.2.2.1 h.2.2.2.2.2.2) [0,1] (λh=>(λb d e g i j k m y z B C=>[Im.sl bB b d o.t.aK.rows,Im.sl aJ e g o.t.aK.begun,Im.sl Ty.bool i j o.t.slot.has,Im.sl Ty.str k m o.t.slot.parts,Im.sl bF y z o.l.l,Im.sl aR B C o.f.l]) h.1.1 h.1.2 h.2.1.1 h.2.1.2 h.2.2.1.1 h.2.2.1.2 h.2.2.2.1.1 h.2.2.2.1.2 h.2.2.2.2.1.1 h.2.2.2.2.1.2 h.2.2.2.2.2.1 h.2.2.2.2.2.2) ?_ ?_
 ·refine Tb ag (λW=> ?_) λW=> ?_
  ·refine Z1 ?_
   refine Lt 2 ?_
   refine Z1 ?_
   refine Lt 0 ?_
   refine Z1 ?_
   refine Lt 0 ?_
   refine Z0 ?_
   refine Lt 0 ?_
   refine Z0 ?_
   refine E.dD [Im.sl bB none 0 []] (λA w _ _ f hf=>by rw [List.mem_singleton.1 hf]; exact Im.bV A w) ?_
   refine E.dD [Im.sl aJ none 0 []] (λA w _ _ f hf=>by rw [List.mem_singleton.1 hf]; exact Im.bV A w) ?_
   refine E.dD [Im.sl Ty.bool none 0 []] (λA w _ _ f hf=>by rw [List.mem_singleton.1 hf]; exact Im.bV A w) ?_
   refine E.dD [Im.sl Ty.str none 0 []] (λA w _ _ f hf=>by rw [List.mem_singleton.1 hf]; exact Im.bV A w) ?_
   refine E.dD [Im.sl bF none 0 []] (λA w _ _ f hf=>by rw [List.mem_singleton.1 hf]; exact Im.bV A w) ?_
   refine E.dD [Im.sl aR none 0 []] (λA w _ _ f hf=>by rw [List.mem_singleton.1 hf]; exact Im.bV A w) ?_
   cases W
   exact Eg ((none,0),(none,0),(none,0),(none,0),(none,0),(none,0)) trivial [0,0,0] [5,4,3,2,1,0] 6
  refine Z0 ?_
  cases W
  exact Eg ((A0,C0),(A1,C1),(A2,C2),(A3,C3),(A4,C4),(A5,C5)) trivial [2,0,0] [1,2,3,4,5,6] 0
 rintro ⟨⟨b,d⟩,⟨e,g⟩,⟨i,j⟩,⟨k,m⟩,⟨y,z⟩,⟨B,C⟩⟩
 refine Z2 ?_
 refine Tb ah (λX=> ?_) λX=> ?_
 ·refine Z1 ?_
  have ⟨bf,ai,aj⟩:=bnd X
  refine Lk [] [0,1,2,3,6] (wL ai) λ⟨⟨ak,al⟩,⟨am,an⟩,⟨ao,ap⟩,⟨aq,ar⟩⟩=> ?_
  refine Z0 ?_
  refine Ll λbg=> ?_
  refine Lt 0 ?_
  refine Z1 ?_
  refine Lt 1 ?_
  refine Z1 ?_
  refine Lt 3 ?_
  refine Z0 ?_
  cases aj
  exact Eo ((ak,al),(am,an),(ao,ap),(aq,ar),(y,z),(B,C)) [] [0,1,2,3,8,9] (.cell 0 rfl rfl rfl (.tmp rfl .nil))
 refine Z1 ?_
 have ⟨bh,au,av⟩:=bnd X
 refine Lk [] [6] (wM au) λ⟨bi,bj⟩=> ?_
 refine Z2 ?_
 have ⟨n,aw,ax⟩:=bnd av
 refine Tjh (η:=(Option Addr×Nat)×(Option Addr×Nat)) (λ_=>[]) [2,4,12] (λh=>(λF I J M=>[Ch.box g1 66 (nO n b d e g i j k m F I J M)]) h.1.1 h.1.2 h.2.1 h.2.2) [2,3] (λh=>(λF I J M=>[Im.sl bB b d n.t.aK.rows,Im.sl aJ e g n.t.aK.begun,Im.sl Ty.bool i j n.t.slot.has,Im.sl Ty.str k m n.t.slot.parts,Im.sl bF F I n.l.l,Im.sl aR J M n.f.l]) h.1.1 h.1.2 h.2.1 h.2.2) ?_ ?_
 ·refine Yl0 ?_
  refine Tq (η:=(Option Addr×Nat)×(Option Addr×Nat)) (λa h=>(λp q s u=>[(83,.int .i64 a.2)]) h.1.1 h.1.2 h.2.1 h.2.2) [2,4,10,12,81,82] (λa h=>(λp q s u=>[Ch.box g1 66 (nO a.1 b d e g i j k m p q s u)]) h.1.1 h.1.2 h.2.1 h.2.2) [2,3,0] (λa h=>(λp q s u=>[Im.sl bB b d a.1.t.aK.rows,Im.sl aJ e g a.1.t.aK.begun,Im.sl Ty.bool i j a.1.t.slot.has,Im.sl Ty.str k m a.1.t.slot.parts,Im.sl bF p q a.1.l.l,Im.sl aR s u a.1.f.l]) h.1.1 h.1.2 h.2.1 h.2.2) ((y,z),(B,C)) [1,1,1,0] [0,1,2,3,4,5] aw ?_
  rintro k_ a ⟨⟨p,q⟩,⟨s,u⟩⟩ bk ay az a0
  refine Y2 ?_
  refine Tb ay (λY=> ?_) λY=> ?_
  ·refine Y1 ?_
   have ⟨x,a1,a2⟩:=bnd Y
   refine Tjh (η:=(Option Addr×Nat)×(Option Addr×Nat)) (λ_=>[]) [2,4,10,12,81,82,83] (λh=>(λN O P Q=>[Ch.box g1 66 (nO x b d e g i j k m N O P Q)]) h.1.1 h.1.2 h.2.1 h.2.2) [1,2,3] (λh=>(λN O P Q=>[Im.sl bB b d x.t.aK.rows,Im.sl aJ e g x.t.aK.begun,Im.sl Ty.bool i j x.t.slot.has,Im.sl Ty.str k m x.t.slot.parts,Im.sl bF N O x.l.l,Im.sl aR P Q x.f.l]) h.1.1 h.1.2 h.2.1 h.2.2) ?_ ?_
   ·refine Zl ?_
    refine Z1 ?_
    have ⟨a3,Z,a4⟩:=bnd a1
    refine L.iw 3 rfl (bH Z) λbl a5=> ?_
    subst a5
    refine Ly (Yl.ia Z rfl rfl rfl rfl rfl rfl) ?_
    refine La [3] [] (Ac.lo a.2.toNat 0 (v:=(λh:(Option Addr×Nat)=>(λab ac=> .slice ab a3.length ac) h.1 h.2)) (aI Z).2 rfl rfl rfl (λ_=>rfl)) ?_
    rintro ⟨ab,ac⟩
    refine Z1 ?_
    have ⟨bm,a7,a8⟩:=bnd a4
    refine Lk [] [6] (ym a7) λ⟨a9,ba⟩=> ?_
    refine Z0 ?_
    refine Ll λbn=> ?_
    refine Lt 0 ?_
    refine Z1 ?_
    refine Tb a8 (λaa=> ?_) λaa=> ?_
    ·refine Z1 ?_
     refine Lt 2 ?_
     refine Z0 ?_
     have ⟨bo,bb,bc⟩:=bnd aa
     refine Lk [] [6,1] (yn bb) λ⟨bd,be⟩=> ?_
     refine Z0 ?_
     refine Lt 0 ?_
     refine Z0 ?_
     cases bc
     exact Eg ((bd,be),(a9,ba)) trivial [0,2,2,1] [3,4,5,6,0,1] 3
    refine Z0 ?_
    cases aa
    exact Eg ((p,q),(s,u)) trivial [2,2,2,1] [2,3,4,5,6,7] 2
   rintro ⟨⟨N,O⟩,⟨P,Q⟩⟩
   refine Z0 ?_
   cases a2
   exact Eg (_,((N,O),(P,Q))) (az _ rfl) [0,0,0,0] [0,1,2,3,4,5] 12
  refine Z0 ?_
  cases Y
  have hb:=a0 _ rfl
  subst n
  exact Eg ((p,q),(s,u)) trivial [0,0,0] [0,1,2,3,4,5] 6
 rintro ⟨⟨F,I⟩,⟨J,M⟩⟩
 refine Z1 ?_
 refine Lt 2 ?_
 refine Z0 ?_
 cases ax
 exact Eo ((b,d),(e,g),(i,j),(k,m),(F,I),(J,M)) [] [0,1,2,3,4,5] (.cell 0 rfl rfl rfl (.tmp rfl .nil))
theorem yo {t_:dL} {r:bA} (H:gV t_=some r):CT G 120 [.agg (GF t_ A0 C0 A1 C1 A2 C2 A3 C3).toArray] [] [Im.sl bB A0 C0 t_.aK.rows,Im.sl aJ A1 C1 t_.aK.begun,Im.sl Ty.bool A2 C2 t_.slot.has,Im.sl Ty.str A3 C3 t_.slot.parts] (λh:(Option Addr×Nat)=> .agg (oH r h.1 h.2).toArray) (λh=>[]) (λh=>[Im.sl (Ty.int .i64) h.1 h.2 r.aX]):=by
 delta gV at H
 refine Cf Go.Proofs.Tryz.func120 λK=> ?_
 refine Z1 ?_
 refine Lx λg1=> ?_
 refine Ll λg2=> ?_
 refine Z3 ?_
 have ⟨j,m,n⟩:=bnd H
 refine Tj0 [(3,.string j)] [1,2] [] [0,1] ?_ ?_
 ·refine Yl0 ?_
  refine Tq (η:=Unit) (λb h=>[(3,.string b.1),(4,.int .i64 b.2)]) [1,2] (λ_ _=>[]) [0,1] (λ_ _=>[]) () [0,0] [] m ?_
  rintro k_ b ⟨⟩ R o p q
  refine Z2 ?_
  refine Tb o (λc=> ?_) λc=> ?_
  ·refine Z1 ?_
   refine Zl ?_
   refine Z3 ?_
   have ⟨d,s,t⟩:=bnd c
   refine Tj0 [(5,.int .i64 d)] [1,2,3,4] [] [0,1] ?_ ?_
   ·refine Yl0 ?_
    refine Tq (η:=Unit) (λa h=>[(5,.int .i64 a.1),(6,.int .i64 a.2)]) [1,2,3,4] (λ_ _=>[]) [0,1] (λ_ _=>[]) () [0,0] [] s ?_
    rintro k_ a ⟨⟩ S u w x
    refine Y2 ?_
    have ⟨y,z,A⟩:=bnd u
    refine Tj0 [(26,.bool y)] [1,2,3,4,5,6] [] [0,1] ?_ ?_
    ·refine Z0 ?_
     refine Lw 17 z (λe=> ?_) λe=> ?_
     ·refine Z0 ?_
      cases e
      exact Eg0 [0,0] 0
     refine Z0 ?_
     cases e
     exact Eg0 [0,0] 0
    refine Tb A (λf=> ?_) λf=> ?_
    ·refine Y1 ?_
     have ⟨B,C,F⟩:=bnd f
     refine Tj0 [(5,.int .i64 B)] [1,2,3,4,6] [] [0,1] ?_ ?_
     ·refine Zl ?_
      refine Z1 ?_
      have ⟨U,g,I⟩:=bnd C
      refine L.addr 2 rfl (bH g) λV W J=> ?_
      subst J
      refine Ly (Yl.ia g rfl rfl rfl rfl rfl rfl) ?_
      refine L.el 2 rfl (aI g).2 ?_
      rintro _
      refine Lc 0 0 ?_
      refine Z0 ?_
      refine Tb I (λi=> ?_) λi=> ?_
      ·refine Z0 ?_
       refine La [] [] (Ac.bs (ty:=(Ty.int .i64)) (xs:=[1,2,4,8,16,32,64,128]) (.cons () [] rfl (.cons () [] rfl (.cons () [] rfl (.cons () [] rfl (.cons () [] rfl (.cons () [] rfl (.cons () [] rfl (.cons () [] rfl .nil)))))))) rfl rfl rfl rfl rfl rfl rfl) λX=> ?_
       refine Z0 ?_
       have ⟨M,l,N⟩:=bnd i
       refine Ly (Yl.ia l rfl rfl rfl rfl rfl rfl) ?_
       refine Ly (Yl.lo (v:= .int .i64 M) 0 a.2.toNat 0 (aI l).2 rfl rfl rfl rfl (λ_=>rfl)) ?_
       refine Z0 ?_
       cases N
       exact Eg0 [1,1] 1
      refine Z0 ?_
      cases i
      exact Eg0 [0,0] 1
     refine Z0 ?_
     cases F
     exact Eg (_,()) (w _ rfl) [0,0] [] 0
    refine Z0 ?_
    cases f
    have hb:=x _ rfl
    subst d
    exact Eg0 [0,0] 0
   refine Z0 ?_
   refine La [] [] (Ac.bs (ty:=(Ty.int .u8)) (xs:=[(IntKind.u8.wrap d)]) (.cons () [] rfl .nil) rfl rfl rfl rfl rfl rfl rfl) λY=> ?_
   refine Ly (Yl.bs 0 rfl rfl rfl rfl rfl rfl rfl rfl rfl) ?_
   have ⟨_,O,P⟩:=bnd t
   refine Ly (Yl.sa O rfl rfl rfl) ?_
   refine Z0 ?_
   cases P
   exact Eg (_,()) (p _ rfl) [1,1] [] 0
  refine Z0 ?_
  cases c
  have hb:=q _ rfl
  subst j
  exact Eg0 [0,0] 0
 refine Z1 ?_
 refine La [] [] (Ac.bs (ty:=(Ty.int .i64)) (xs:=[t_.aK.k,t_.slot.key]) (.cons () [] rfl (.cons () [] rfl .nil)) rfl rfl rfl rfl rfl rfl rfl) λQ=> ?_
 refine Z0 ?_
 refine Lt 1 ?_
 refine Z0 ?_
 refine E.frz 1 rfl ?_
 cases n
 exact Eo ((some ⟨Q,0,none⟩),2) [] [0] (.cell 0 rfl rfl rfl .nil)
theorem ru {g:bA} {r:ByteArray} (H:eI g=some r):CT G 121 [.agg (oH g A0 C0).toArray] [] [Im.sl (Ty.int .i64) A0 C0 g.aX] (λ_:Unit=> .string r) (λh=>[]) (λh=>[]):=by
 delta eI at H
 refine Cf Go.Proofs.Tryz.func121 λK=> ?_
 refine Z1 ?_
 refine Lx λg1=> ?_
 refine Z2 ?_
 have ⟨r2,h3,H4⟩:=bnd H
 refine Lk [] [0] (pD h3) λ⟨⟩=> ?_
 refine Z0 ?_
 refine Tb H4 (λH6=> ?_) λH6=> ?_
 ·refine Z1 ?_
  cases H6
  exact Eo1 () [] []
 refine Z1 ?_
 have ⟨r7,h8,H9⟩:=bnd H6
 refine Lk [] [0] (pC h8) λ⟨⟩=> ?_
 refine Z0 ?_
 cases H9
 exact Eo1 () [] []
theorem zo {l:List aD} {x_:aD} {r:(List aD)} (H:mG l x_=some r):CT G 172 [.slice A0 l.length C0,.agg #[.int .i64 x_.from_,.int .i64 x_.to]] [] [Im.sl aR A0 C0 l] (λh:(Option Addr×Nat)=> .slice h.1 r.length h.2) (λh=>[Ch.arr aR 187 h.1 h.2 r]) (λh=>[]):=by
 delta mG at H
 refine Cf Go.Proofs.Tryz.func172 λK=> ?_
 refine Z1 ?_
 refine Lx λg1=> ?_
 refine Z1 ?_
 have ⟨r2,h3,H4⟩:=bnd H
 refine Lk [] [] (oN h3) λ⟨a5,c6⟩=> ?_
 refine L.frz 0 rfl ?_
 have ⟨r9,a,b⟩:=bnd H4
 refine Lk [] [1,0] (nu a) λ⟨c,d⟩=> ?_
 refine Z0 ?_
 cases b
 exact Eo1 (c,d) [0] []
theorem yp {f:bR} {now:Int} {length:Int} {r:bR×(List aD)} (H:iM f now length=some r):CT G 122 [.agg (wB f A0 C0).toArray,.int .i64 now,.int .i64 length] [] [Im.sl aR A0 C0 f.l] (λh:(Option Addr×Nat)=> .tuple #[.agg (wB r.1 A0 C0).toArray,.slice h.1 r.2.length h.2]) (λh=>[Ch.arr aR 187 h.1 h.2 r.2]) (λh=>[Im.sl aR A0 C0 r.1.l]):=by
 delta iM at H
 refine Cf Go.Proofs.Tryz.func122 λK=> ?_
 refine Z1 ?_
 refine Lx λg1=> ?_
 refine Ll λg2=> ?_
 refine Z1 ?_
 have ⟨r3,h4,H5⟩:=bnd H
 refine Lk [] [0] (zo h4) λ⟨a6,c7⟩=> ?_
 refine Y2 ?_
 have ⟨e,g,i⟩:=bnd H5
 refine Tj0 [(22,.bool e)] [1,3,6,8] [] [1,2,0] ?_ ?_
 ·refine Z0 ?_
  refine Lw 17 g (λa=> ?_) λa=> ?_
  ·refine Z0 ?_
   cases a
   exact Eg0 [1,1,0] 0
  refine Z0 ?_
  cases a
  exact Eg0 [1,1,0] 0
 refine Tb i (λb=> ?_) λb=> ?_
 ·refine Z1 ?_
  refine Lt 0 ?_
  refine Z0 ?_
  refine E.fZ aR 187 ?_
  cases b
  exact Eo (none,0) [0] [0] (.cell 1 rfl rfl rfl (.tmp rfl .nil))
 refine Z1 ?_
 refine Lt 1 ?_
 refine Z2 ?_
 have ⟨d,j,k⟩:=bnd b
 refine Tj0 [(8,.slice a6 d.length c7)] [3,6] [Ch.arr aR 187 a6 c7 d] [0,1] ?_ ?_
 ·refine Tb j (λc=> ?_) λc=> ?_
  ·refine Z0 ?_
   have ⟨_,m,n⟩:=bnd c
   refine La [2] [] (Ac.rso m rfl rfl rfl rfl rfl rfl rfl) λ_=> ?_
   refine Z0 ?_
   cases n
   exact Eg0 [0,0,0] 0
  refine Z0 ?_
  cases c
  exact Eg0 [2,0,0] 0
 refine Z1 ?_
 refine Lt 2 ?_
 refine Z0 ?_
 cases k
 exact Eo (a6,c7) [1] [0] (.cell 0 rfl rfl rfl (.tmp rfl .nil))
theorem wO {c:aL} {now:Int} {r:aL×(List ByteArray)} (H:gW c now=some r):CT G 65 [.agg (nO c A0 C0 A1 C1 A2 C2 A3 C3 A4 C4 A5 C5).toArray,.int .i64 now] [] [Im.sl bB A0 C0 c.t.aK.rows,Im.sl aJ A1 C1 c.t.aK.begun,Im.sl Ty.bool A2 C2 c.t.slot.has,Im.sl Ty.str A3 C3 c.t.slot.parts,Im.sl bF A4 C4 c.l.l,Im.sl aR A5 C5 c.f.l] (λh:(Option Addr×Nat)=> .tuple #[.agg (nO r.1 A0 C0 A1 C1 A2 C2 A3 C3 A4 C4 A5 C5).toArray,.slice h.1 r.2.length h.2]) (λh=>[Ch.arr Ty.str 9 h.1 h.2 r.2]) (λh=>[Im.sl bB A0 C0 r.1.t.aK.rows,Im.sl aJ A1 C1 r.1.t.aK.begun,Im.sl Ty.bool A2 C2 r.1.t.slot.has,Im.sl Ty.str A3 C3 r.1.t.slot.parts,Im.sl bF A4 C4 r.1.l.l,Im.sl aR A5 C5 r.1.f.l]):=by
 delta gW at H
 refine Cf Go.Proofs.Tryz.func65 λK=> ?_
 refine Z1 ?_
 refine Lx λg1=> ?_
 refine Ll λg2=> ?_
 refine Z1 ?_
 refine La [] [] (Ac.bs (ty:=Ty.str) (xs:=[]) .nil rfl rfl rfl rfl rfl rfl rfl) λg3=> ?_
 refine Z3 ?_
 have ⟨a,z,A⟩:=bnd H
 refine Tjh (η:=(Option Addr×Nat)) (λh=>(λb d=>[(6,.slice b a.1.length d)]) h.1 h.2) [1,2,4,7] (λh=>(λb d=>[Ch.arr Ty.str 9 b d a.1,Ch.box g1 66 (nO a.2 A0 C0 A1 C1 A2 C2 A3 C3 A4 C4 A5 C5)]) h.1 h.2) [1] (λh=>(λb d=>[Im.sl bB A0 C0 a.2.t.aK.rows,Im.sl aJ A1 C1 a.2.t.aK.begun,Im.sl Ty.bool A2 C2 a.2.t.slot.has,Im.sl Ty.str A3 C3 a.2.t.slot.parts,Im.sl bF A4 C4 a.2.l.l,Im.sl aR A5 C5 a.2.f.l]) h.1 h.2) ?_ ?_
 ·refine Tb z (λn=> ?_) λn=> ?_
  ·refine Z1 ?_
   refine Lt 2 ?_
   refine Z1 ?_
   have ⟨an,B,C⟩:=bnd n
   refine Lk [] [0,1,2,3] (yo B) λ⟨ao,aq⟩=> ?_
   refine Ll λar=> ?_
   refine Lt 0 ?_
   refine Z1 ?_
   refine Lt 0 ?_
   refine Z0 ?_
   have ⟨F,I,J⟩:=bnd C
   refine Lk [] [0] (ru I) λ⟨⟩=> ?_
   refine La [] [] (Ac.bs (ty:=Ty.str) (xs:=[F]) (.cons () [] rfl .nil) rfl rfl rfl rfl rfl rfl rfl) λau=> ?_
   refine L.frz 0 rfl ?_
   have ⟨_,M,N⟩:=bnd J
   refine La [2] [0] (Ac.ap (ty:=Ty.str) M rfl rfl rfl rfl rfl rfl rfl) ?_
   rintro ⟨O,P⟩
   refine Z0 ?_
   cases N
   exact Eg (O,P) trivial [0,1,1] [2,3,4,5,6,7] 2
  refine Z0 ?_
  cases n
  exact Eg ((some ⟨g3,0,none⟩),0) trivial [0,1,0] [0,1,2,3,4,5] 0
 rintro ⟨b,d⟩
 refine Z1 ?_
 have ⟨av,Q,R⟩:=bnd A
 refine Lk [] [5] (yp Q) λ⟨aw,ax⟩=> ?_
 refine Z0 ?_
 refine Ll λay=> ?_
 refine Lt 0 ?_
 refine Z1 ?_
 refine Lt 3 ?_
 refine Z2 ?_
 have ⟨x,S,U⟩:=bnd R
 refine Tjh (η:=(Option Addr×Nat)) (λh=>(λg i=>[(6,.slice g x.length i)]) h.1 h.2) [2,4] (λh=>(λg i=>[Ch.arr Ty.str 9 g i x]) h.1 h.2) [0,1,4] (λ_=>[]) ?_ ?_
 ·refine Tb S (λo=> ?_) λo=> ?_
  ·refine Z1 ?_
   refine Ll λy=> ?_
   refine Lt 0 ?_
   refine Z2 ?_
   have ⟨p,V,W⟩:=bnd o
   refine Tjh (η:=(Option Addr×Nat)) (λ_=>[]) [2,4,6,11] (λh=>(λq s=>[Ch.arr (Ty.int .i64) 3 q s p.aX,Ch.box y 123 (oH p q s)]) h.1 h.2) [1,2,5,4] (λ_=>[]) ?_ ?_
   ·refine Yl0 ?_
    refine T.fZ (Ty.int .i64) 3 ?_
    refine Tq (η:=(Option Addr×Nat)) (λe h=>(λj k=>[(57,.int .i64 e.2)]) h.1 h.2) [2,4,6,11,55,56] (λe h=>(λj k=>[Ch.arr (Ty.int .i64) 3 j k e.1.aX,Ch.box y 123 (oH e.1 j k)]) h.1 h.2) [2,3,6,4,5] (λ_ _=>[]) (none,0) [0,0,0,0,2,0,0] [] V ?_
    rintro k_ e ⟨j,k⟩ az X Y Z
    refine Y2 ?_
    refine Tb X (λu=> ?_) λu=> ?_
    ·refine Z1 ?_
     refine Zl ?_
     refine Z1 ?_
     have ⟨m,w,aa⟩:=bnd u
     refine L.iw 5 rfl (bH w) λa0 ab=> ?_
     subst ab
     refine Ly (Yl.ia w rfl rfl rfl rfl rfl rfl) ?_
     refine Ly (Yl.lo (v:= .agg #[.int .i64 m.from_,.int .i64 m.to]) 5 e.2.toNat 0 (aI w).2 rfl rfl rfl rfl (λ_=>rfl)) ?_
     refine Ll λa1=> ?_
     refine Lt 0 ?_
     refine Z0 ?_
     refine La [] [] (Ac.bs (ty:=(Ty.int .i64)) (xs:=[m.from_,m.to]) (.cons () [] rfl (.cons () [] rfl .nil)) rfl rfl rfl rfl rfl rfl rfl) λa2=> ?_
     refine L.frz 0 rfl ?_
     have ⟨_,ac,ad⟩:=bnd aa
     refine La [1] [0] (Ac.ap (ty:=(Ty.int .i64)) ac rfl rfl rfl rfl rfl rfl rfl) ?_
     rintro ⟨ae,af⟩
     refine Z0 ?_
     refine Lt 2 ?_
     refine Z0 ?_
     cases ad
     exact Eg (_,(ae,af)) (Y _ rfl) [1,0,1,1,1,1,1] [] 1
    refine Z0 ?_
    cases u
    have hb:=Z _ rfl
    subst p
    exact Eg (j,k) trivial [0,0,0,0,0,1] [] 0
   rintro ⟨q,s⟩
   refine Z0 ?_
   refine L.frz 0 rfl ?_
   have ⟨ag,ah,ai⟩:=bnd W
   refine Lk [] [0] (ru ah) λ⟨⟩=> ?_
   refine La [] [] (Ac.bs (ty:=Ty.str) (xs:=[ag]) (.cons () [] rfl .nil) rfl rfl rfl rfl rfl rfl rfl) λa3=> ?_
   refine L.frz 0 rfl ?_
   have ⟨_,aj,ak⟩:=bnd ai
   refine La [4] [0] (Ac.ap (ty:=Ty.str) aj rfl rfl rfl rfl rfl rfl rfl) ?_
   rintro ⟨al,am⟩
   refine Z0 ?_
   cases ak
   exact Eg (al,am) trivial [0,1,1,1] [] 2
  refine Z0 ?_
  cases o
  exact Eg (b,d) trivial [3,0,0,1] [] 0
 rintro ⟨g,i⟩
 refine Z1 ?_
 refine Lt 3 ?_
 refine Z0 ?_
 cases U
 exact Eo (g,i) [1] [1,2,3,4,5,0] (.cell 0 rfl rfl rfl (.tmp rfl .nil))
theorem pF {l:List ByteArray} {x_:List ByteArray} {r:Bool} (H:jj l x_=some r):CT G 28 [.slice A0 l.length C0,.slice A1 x_.length C1] [] [Im.sl Ty.str A0 C0 l,Im.sl Ty.str A1 C1 x_] (λ_:Unit=> .bool r) (λh=>[]) (λh=>[]):=by
 delta jj at H
 refine Cf Go.Proofs.Tryz.func28 λK=> ?_
 refine Z3 ?_
 refine Tb H (λH2=> ?_) λH2=> ?_
 ·refine Z1 ?_
  cases H2
  exact Eo1 () [] []
 refine Z2 ?_
 have ⟨a,j,f⟩:=bnd H2
 refine Tj (η:=Unit×Unit) (λh=>a = .inl h.1) (λ_=>[]) [] (λ_=>[]) [] (λ_=>[]) ?_ ?_
 ·refine Yl0 ?_
  refine Tq (η:=Unit) (λg h=>[(13,.int .i64 g)]) [0,1,12] (λ_ _=>[]) [] (λ_ _=>[]) () [] [] j ?_
  rintro k_ g ⟨⟩ k m n i
  refine Y2 ?_
  refine Tb m (λb=> ?_) λb=> ?_
  ·refine Z1 ?_
   refine Zl ?_
   refine Y2 ?_
   refine Td [] [] mo ?_
   refine Dq 0 ?_
   refine Dq 1 ?_
   have ⟨u,c,o⟩:=bnd b
   refine D.addr 0 rfl (bH c) λv w p=> ?_
   subst p
   refine Dy 2 (Yl.ia c rfl rfl rfl rfl rfl rfl) ?_
   refine D.el 0 rfl (aI c).2 ?_
   rintro _
   refine Dy 3 (Yl.ldc 0 0 rfl rfl rfl rfl) ?_
   refine Dq 4 ?_
   refine Dq 5 ?_
   have ⟨x,d,q⟩:=bnd o
   refine D.addr 2 rfl (bH d) λy z s=> ?_
   subst s
   refine Dy 6 (Yl.ia d rfl rfl rfl rfl rfl rfl) ?_
   refine D.el 2 rfl (aI d).2 ?_
   rintro _
   refine Dy 7 (Yl.ldc 0 0 rfl rfl rfl rfl) ?_
   refine Dq 8 ?_
   refine Dn ?_
   refine Z0 ?_
   refine Tb q (λe=> ?_) λe=> ?_
   ·refine Z1 ?_
    obtain ⟨A,hz,t⟩:=cK e
    subst k
    have hb:=i _ rfl
    subst a
    obtain rfl:=(sm f).symm
    refine Z0 ?_
    cases t
    exact Eo1 () [] []
   refine Z0 ?_
   cases e
   exact Eg (_,()) (n _ rfl) [] [] 2
  refine Z0 ?_
  cases b
  have hb:=i _ rfl
  subst a
  exact Eg (_,()) rfl [] [] 0
 rintro ⟨B,⟨⟩⟩ hy
 subst hy
 refine Z1 ?_
 cases f
 exact Eo1 () [] []
theorem yq {c:bX} {i:Int} {r:bX×(List aQ)×Bool} (H:kE c i=some r):CT G 123 [.agg #[.int .i64 c.most,.slice A0 c.l.length C0],.int .i64 i] [] [Im.sl bF A0 C0 c.l] (λh:(Option Addr×Nat)×(Option Addr×Nat)=> .tuple #[.agg #[.int .i64 r.1.most,.slice h.1.1 r.1.l.length h.1.2],.slice h.2.1 r.2.1.length h.2.2,.bool r.2.2]) (λh=>[]) (λh=>[Im.sl bF h.1.1 h.1.2 r.1.l,Im.sl aJ h.2.1 h.2.2 r.2.1]):=by
 delta kE at H
 refine Cf Go.Proofs.Tryz.func123 λK=> ?_
 refine Z1 ?_
 refine Lx λg1=> ?_
 refine Ll λg2=> ?_
 refine Z1 ?_
 have ⟨r3,h4,H5⟩:=bnd H
 refine Lk [] [0] (wI h4) λ⟨a6,c7⟩=> ?_
 refine Z2 ?_
 refine Tb H5 (λa=> ?_) λa=> ?_
 ·refine Z1 ?_
  refine Lt 0 ?_
  refine Z0 ?_
  refine E.dD [Im.sl aJ none 0 []] (λA w _ _ f hf=>by rw [List.mem_singleton.1 hf]; exact Im.bV A w) ?_
  cases a
  exact Eo ((A0,C0),(none,0)) [] [2,0] (.cell 0 rfl rfl rfl (.tmp rfl (.tmp rfl .nil)))
 refine Z1 ?_
 have ⟨j,b,d⟩:=bnd a
 refine Lk [] [1,0] (oP b) λ⟨e,g⟩=> ?_
 refine Z0 ?_
 refine Lt 0 ?_
 refine Z0 ?_
 cases d
 exact Eo ((e,g),(a6,c7)) [] [0,1] (.cell 0 rfl rfl rfl (.tmp rfl (.tmp rfl .nil)))
theorem wP {f:bR} {x_:aD} {aK:List aD} {r:bR} (H:kQ f x_ aK=some r):CT G 124 [.agg (wB f A0 C0).toArray,.agg #[.int .i64 x_.from_,.int .i64 x_.to],.slice A1 aK.length C1] [] [Im.sl aR A0 C0 f.l,Im.sl aR A1 C1 aK] (λh:(Option Addr×Nat)=> .agg (wB r h.1 h.2).toArray) (λh=>[]) (λh=>[Im.sl aR h.1 h.2 r.l]):=by
 delta kQ at H
 refine Cf Go.Proofs.Tryz.func124 λK=> ?_
 refine Z1 ?_
 refine Lx λg1=> ?_
 refine Lx λg2=> ?_
 refine Ll λg3=> ?_
 refine Z3 ?_
 refine Lt 2 ?_
 refine Z1 ?_
 refine L.dD [Im.sl aR none 0 []] (λA w _ _ f hf=>by rw [List.mem_singleton.1 hf]; exact Im.bV A w) ?_
 have ⟨r5,h6,H7⟩:=bnd H
 refine Lk [] [0] (sA h6) λ⟨a8,c9⟩=> ?_
 refine Z0 ?_
 refine Lt 1 ?_
 refine Z2 ?_
 have ⟨g,k,m⟩:=bnd H7
 refine Tjh (η:=(Option Addr×Nat)) (λ_=>[]) [3,6] (λh=>(λd e=>[Ch.arr aR 187 d e g.l,Ch.box g1 64 (wB g d e)]) h.1 h.2) [2,3] (λ_=>[]) ?_ ?_
 ·refine Yl0 ?_
  refine Tq (η:=(Option Addr×Nat)) (λa h=>(λb c=>[(32,.int .i64 a.2)]) h.1 h.2) [3,6,30,31] (λa h=>(λb c=>[Ch.arr aR 187 b c a.1.l,Ch.box g1 64 (wB a.1 b c)]) h.1 h.2) [2,3] (λ_ _=>[]) (a8,c9) [1,0,0,0] [] k ?_
  rintro k_ a ⟨b,c⟩ y n o p
  refine Y2 ?_
  refine Tb n (λi=> ?_) λi=> ?_
  ·refine Z1 ?_
   refine Zl ?_
   refine Z1 ?_
   have ⟨z,j,q⟩:=bnd i
   refine L.addr 2 rfl (bH j) λB C s=> ?_
   subst s
   refine Ly (Yl.ia j rfl rfl rfl rfl rfl rfl) ?_
   refine L.el 2 rfl (aI j).2 ?_
   rintro _
   refine Lc 0 0 ?_
   refine Ll λF=> ?_
   refine Lt 0 ?_
   refine Z0 ?_
   refine L.frz 1 rfl ?_
   have ⟨I,t,u⟩:=bnd q
   refine Lk [] [0] (sE t) λ⟨v,x⟩=> ?_
   refine Z0 ?_
   refine Lt 2 ?_
   refine Z0 ?_
   cases u
   exact Eg (_,(v,x)) (o _ rfl) [1,0,1,1] [] 2
  refine Z0 ?_
  cases i
  have hb:=p _ rfl
  subst g
  exact Eg (b,c) trivial [0,0,0,0] [] 0
 rintro ⟨d,e⟩
 refine Z1 ?_
 refine Lt 2 ?_
 refine Z0 ?_
 refine E.frz 1 rfl ?_
 cases m
 exact Eo (d,e) [] [0] (.cell 0 rfl rfl rfl .nil)
theorem uP {l:List aD} {r:Int} (H:ji l=some r):CT G 125 [.slice A0 l.length C0] [] [Im.sl aR A0 C0 l] (λ_:Unit=> .int .i64 r) (λh=>[]) (λh=>[]):=by
 delta ji at H
 refine Cf Go.Proofs.Tryz.func125 λK=> ?_
 refine Z3 ?_
 refine Z1 ?_
 have ⟨d,e,f⟩:=bnd H
 refine Tj0 [(3,.int .i64 d)] [] [] [] ?_ ?_
 ·refine Yl0 ?_
  refine Tq (η:=Unit) (λa h=>[(3,.int .i64 a.1),(8,.int .i64 a.2)]) [6,7] (λ_ _=>[]) [] (λ_ _=>[]) () [] [] e ?_
  rintro k_ a ⟨⟩ n g i j
  refine Y2 ?_
  refine Tb g (λb=> ?_) λb=> ?_
  ·refine Z1 ?_
   refine Zl ?_
   refine Z1 ?_
   have ⟨o,c,k⟩:=bnd b
   refine L.addr 0 rfl (bH c) λp q m=> ?_
   subst m
   refine Ly (Yl.ia c rfl rfl rfl rfl rfl rfl) ?_
   refine L.el 0 rfl (aI c).2 ?_
   rintro _
   refine Lc 0 0 ?_
   refine Ll λs=> ?_
   refine Lt 0 ?_
   refine Z0 ?_
   cases k
   exact Eg (_,()) (i _ rfl) [] [] 1
  refine Z0 ?_
  cases b
  have hb:=j _ rfl
  subst d
  exact Eg0 [] 0
 refine Z1 ?_
 cases f
 exact Eo1 () [] []
theorem wQ {c:aL} {from_:Int} {to:Int} {r:aL×Int} (H:kS c from_ to=some r):CT G 66 [.agg (nO c A0 C0 A1 C1 A2 C2 A3 C3 A4 C4 A5 C5).toArray,.int .i64 from_,.int .i64 to] [] [Im.sl bB A0 C0 c.t.aK.rows,Im.sl aJ A1 C1 c.t.aK.begun,Im.sl Ty.bool A2 C2 c.t.slot.has,Im.sl Ty.str A3 C3 c.t.slot.parts,Im.sl bF A4 C4 c.l.l,Im.sl aR A5 C5 c.f.l] (λh:(Option Addr×Nat)×(Option Addr×Nat)=> .tuple #[.agg (nO r.1 A0 C0 A1 C1 A2 C2 A3 C3 h.1.1 h.1.2 h.2.1 h.2.2).toArray,.int .i64 r.2]) (λh=>[]) (λh=>[Im.sl bB A0 C0 r.1.t.aK.rows,Im.sl aJ A1 C1 r.1.t.aK.begun,Im.sl Ty.bool A2 C2 r.1.t.slot.has,Im.sl Ty.str A3 C3 r.1.t.slot.parts,Im.sl bF h.1.1 h.1.2 r.1.l.l,Im.sl aR h.2.1 h.2.2 r.1.f.l]):=by
 delta kS at H
 refine Cf Go.Proofs.Tryz.func66 λK=> ?_
 refine Z1 ?_
 refine Lx λg1=> ?_
 refine Ll λg2=> ?_
 refine Z3 ?_
 have ⟨r3,h4,H5⟩:=bnd H
 refine Lk [] [4] (uL h4) λ⟨a6,c7⟩=> ?_
 refine Z2 ?_
 have ⟨b,k,m⟩:=bnd H5
 refine Tjh (η:=(Option Addr×Nat)) (λ_=>[]) [1,2,3,6,8] (λh=>(λg i=>[Ch.box g1 66 (nO b A0 C0 A1 C1 A2 C2 A3 C3 g i A5 C5)]) h.1 h.2) [1,0] (λh=>(λg i=>[Im.sl bB A0 C0 b.t.aK.rows,Im.sl aJ A1 C1 b.t.aK.begun,Im.sl Ty.bool A2 C2 b.t.slot.has,Im.sl Ty.str A3 C3 b.t.slot.parts,Im.sl bF g i b.l.l,Im.sl aR A5 C5 b.f.l]) h.1 h.2) ?_ ?_
 ·refine Yl0 ?_
  refine Tq (η:=(Option Addr×Nat)) (λa h=>(λd e=>[(9,.int .i64 a.2)]) h.1 h.2) [1,2,3,6,8] (λa h=>(λd e=>[Ch.box g1 66 (nO a.1 A0 C0 A1 C1 A2 C2 A3 C3 d e A5 C5)]) h.1 h.2) [1,0] (λa h=>(λd e=>[Im.sl bB A0 C0 a.1.t.aK.rows,Im.sl aJ A1 C1 a.1.t.aK.begun,Im.sl Ty.bool A2 C2 a.1.t.slot.has,Im.sl Ty.str A3 C3 a.1.t.slot.parts,Im.sl bF d e a.1.l.l,Im.sl aR A5 C5 a.1.f.l]) h.1 h.2) (A4,C4) [2,1,0] [0,1,2,3,4,5] k ?_
  rintro k_ a ⟨d,e⟩ C n o p
  refine Z2 ?_
  refine Tb n (λj=> ?_) λj=> ?_
  ·refine Z1 ?_
   refine Zl ?_
   have ⟨F,q,s⟩:=bnd j
   refine Lk [] [4] (yq q) λ⟨⟨u,v⟩,⟨I,J⟩⟩=> ?_
   refine Z0 ?_
   refine Lt 0 ?_
   refine Z0 ?_
   cases s
   exact Eg (_,(u,v)) (o _ rfl) [0,0,0] [2,3,4,5,0,7] 8
  refine Z0 ?_
  cases j
  have hb:=p _ rfl
  subst b
  exact Eg (d,e) trivial [0,0,0] [0,1,2,3,4,5] 6
 rintro ⟨g,i⟩
 refine Z1 ?_
 refine L.frz 2 rfl ?_
 have ⟨M,w,x⟩:=bnd m
 refine Lk [] [6,0] (wP w) λ⟨y,z⟩=> ?_
 refine Z0 ?_
 refine Lt 0 ?_
 refine Y1 ?_
 refine Td [5] [0,0] mo ?_
 refine Db 0 0 ?_
 refine Dq 1 ?_
 refine Dq 2 ?_
 refine Db 3 0 ?_
 have ⟨N,A,B⟩:=bnd x
 refine Dk [] [0] (uP A) λ⟨⟩=> ?_
 refine Dt 1 ?_
 refine Dq 6 ?_
 refine Dn ?_
 refine Z0 ?_
 cases B
 exact Eo ((g,i),(y,z)) [] [2,3,4,5,6,0] (.cell 0 rfl rfl rfl (.tmp rfl .nil))
theorem lY {c:aH} {addr:Int} {r:aH} (H:fX c addr=some r):CT G 25 [.pointer (some ⟨N0,0,none⟩),.int .i64 addr] [Ch.box N0 94 (ko c N1 N3 N4),Ch.box N1 155 (eS c.aS N2 A0 C0 A1 C1),Ch.box N2 153 (cP c.aS.slot M0),Ch.mp Ty.str false M0 c.aS.slot.parts,Ch.box N3 158 [.int .i64 c.lines.most,.int .i64 c.lines.now,.map M1],Ch.mp aE true M1 c.lines.l,Ch.box N4 161 (eT c.bS N5),Ch.box N5 106 [.slice A2 c.bS.want.l.length C2]] [Im.sl aU A0 C0 c.aS.aK.rows,Im.sl aF A1 C1 c.aS.aK.begun,Im.sl aC A2 C2 c.bS.want.l] (λ_:Unit=> .tuple #[]) (λh=>[Ch.box N0 94 (ko r N1 N3 N4),Ch.box N1 155 (eS r.aS N2 A0 C0 A1 C1),Ch.box N2 153 (cP r.aS.slot M0),Ch.mp Ty.str false M0 r.aS.slot.parts,Ch.box N3 158 [.int .i64 r.lines.most,.int .i64 r.lines.now,.map M1],Ch.mp aE true M1 r.lines.l,Ch.box N4 161 (eT r.bS N5),Ch.box N5 106 [.slice A2 r.bS.want.l.length C2]]) (λh=>[Im.sl aU A0 C0 r.aS.aK.rows,Im.sl aF A1 C1 r.aS.aK.begun,Im.sl aC A2 C2 r.bS.want.l]):=by
 delta fX at H
 refine Cf Go.Proofs.Tryz.func25 λK=> ?_
 refine Z0 ?_
 have ⟨r1,h2,H3⟩:=bnd H
 refine Lk [] [] (jk h2) λ⟨⟩=> ?_
 refine Z0 ?_
 refine Lt 0 ?_
 refine Ln (E.off ?_)
 cases H3
 exact Eo () [0,0,0,0,0,0,0,0] [0,1,2] .nil
theorem wR {c:aL} {addr:Int} {r:aL} (H:mg c addr=some r):CT G 67 [.agg (nO c A0 C0 A1 C1 A2 C2 A3 C3 A4 C4 A5 C5).toArray,.int .i64 addr] [] [Im.sl bB A0 C0 c.t.aK.rows,Im.sl aJ A1 C1 c.t.aK.begun,Im.sl Ty.bool A2 C2 c.t.slot.has,Im.sl Ty.str A3 C3 c.t.slot.parts,Im.sl bF A4 C4 c.l.l,Im.sl aR A5 C5 c.f.l] (λ_:Unit=> .agg (nO r A0 C0 A1 C1 A2 C2 A3 C3 A4 C4 A5 C5).toArray) (λh=>[]) (λh=>[Im.sl bB A0 C0 r.t.aK.rows,Im.sl aJ A1 C1 r.t.aK.begun,Im.sl Ty.bool A2 C2 r.t.slot.has,Im.sl Ty.str A3 C3 r.t.slot.parts,Im.sl bF A4 C4 r.l.l,Im.sl aR A5 C5 r.f.l]):=by
 delta mg at H
 refine Cf Go.Proofs.Tryz.func67 λK=> ?_
 refine Z1 ?_
 refine Lx λg1=> ?_
 refine Ll λg2=> ?_
 refine Z1 ?_
 have ⟨r3,h4,H5⟩:=bnd H
 refine Lk [] [] (rj h4) λ⟨⟩=> ?_
 refine Z0 ?_
 refine Lt 1 ?_
 refine Z1 ?_
 refine Lt 1 ?_
 refine Z0 ?_
 cases H5
 exact Eo () [] [0,1,2,3,4,5] (.cell 0 rfl rfl rfl .nil)
theorem zp {c:aH} {x_:aL} {a:jJ} {now:Int} {r:aL×Bool×aH} (H:mH c x_ a now=some r):CT G 23 [.pointer (some ⟨N0,0,none⟩),.agg (nO x_ A3 C3 A4 C4 A5 C5 A6 C6 A7 C7 A8 C8).toArray,.agg (Hl a).toArray,.int .i64 now] [Ch.box N0 94 (ko c N1 N3 N4),Ch.box N1 155 (eS c.aS N2 A0 C0 A1 C1),Ch.box N2 153 (cP c.aS.slot M0),Ch.mp Ty.str false M0 c.aS.slot.parts,Ch.box N3 158 [.int .i64 c.lines.most,.int .i64 c.lines.now,.map M1],Ch.mp aE true M1 c.lines.l,Ch.box N4 161 (eT c.bS N5),Ch.box N5 106 [.slice A2 c.bS.want.l.length C2]] [Im.sl aU A0 C0 c.aS.aK.rows,Im.sl aF A1 C1 c.aS.aK.begun,Im.sl aC A2 C2 c.bS.want.l,Im.sl bB A3 C3 x_.t.aK.rows,Im.sl aJ A4 C4 x_.t.aK.begun,Im.sl Ty.bool A5 C5 x_.t.slot.has,Im.sl Ty.str A6 C6 x_.t.slot.parts,Im.sl bF A7 C7 x_.l.l,Im.sl aR A8 C8 x_.f.l,Im.sl (Ty.int .u32) (some ⟨0,0,none⟩) 16 dE] (λh:(Option Addr×Nat)×(Option Addr×Nat)×(Option Addr×Nat)×(Option Addr×Nat)×(Option Addr×Nat)×(Option Addr×Nat)×Nat×Option Nat×(Option Addr×Nat)×(Option Addr×Nat)×Nat×(Option Addr×Nat)=> .tuple #[.agg (nO r.1 h.1.1 h.1.2 h.2.1.1 h.2.1.2 h.2.2.1.1 h.2.2.1.2 h.2.2.2.1.1 h.2.2.2.1.2 h.2.2.2.2.1.1 h.2.2.2.2.1.2 h.2.2.2.2.2.1.1 h.2.2.2.2.2.1.2).toArray,.bool r.2.1]) (λh=>[Ch.box N0 94 (ko r.2.2 N1 N3 N4),Ch.box N1 155 (eS r.2.2.aS h.2.2.2.2.2.2.1 h.2.2.2.2.2.2.2.2.1.1 h.2.2.2.2.2.2.2.2.1.2 h.2.2.2.2.2.2.2.2.2.1.1 h.2.2.2.2.2.2.2.2.2.1.2),Ch.box h.2.2.2.2.2.2.1 153 (cP r.2.2.aS.slot h.2.2.2.2.2.2.2.1),Ch.mp Ty.str false h.2.2.2.2.2.2.2.1 r.2.2.aS.slot.parts,Ch.box N3 158 [.int .i64 r.2.2.lines.most,.int .i64 r.2.2.lines.now,.map M1],Ch.mp aE true M1 r.2.2.lines.l,Ch.box N4 161 (eT r.2.2.bS h.2.2.2.2.2.2.2.2.2.2.1),Ch.box h.2.2.2.2.2.2.2.2.2.2.1 106 [.slice h.2.2.2.2.2.2.2.2.2.2.2.1 r.2.2.bS.want.l.length h.2.2.2.2.2.2.2.2.2.2.2.2]]) (λh=>[Im.sl bB h.1.1 h.1.2 r.1.t.aK.rows,Im.sl aJ h.2.1.1 h.2.1.2 r.1.t.aK.begun,Im.sl Ty.bool h.2.2.1.1 h.2.2.1.2 r.1.t.slot.has,Im.sl Ty.str h.2.2.2.1.1 h.2.2.2.1.2 r.1.t.slot.parts,Im.sl bF h.2.2.2.2.1.1 h.2.2.2.2.1.2 r.1.l.l,Im.sl aR h.2.2.2.2.2.1.1 h.2.2.2.2.2.1.2 r.1.f.l,Im.sl aU h.2.2.2.2.2.2.2.2.1.1 h.2.2.2.2.2.2.2.2.1.2 r.2.2.aS.aK.rows,Im.sl aF h.2.2.2.2.2.2.2.2.2.1.1 h.2.2.2.2.2.2.2.2.2.1.2 r.2.2.aS.aK.begun,Im.sl aC h.2.2.2.2.2.2.2.2.2.2.2.1 h.2.2.2.2.2.2.2.2.2.2.2.2 r.2.2.bS.want.l]):=by
 delta mH at H
 refine Cf Go.Proofs.Tryz.func23 λK=> ?_
 refine Z1 ?_
 refine Lx λg1=> ?_
 refine Lx λg2=> ?_
 refine Ll λg3=> ?_
 refine Z2 ?_
 refine Zl ?_
 refine Z1 ?_
 refine Tb H (λb=> ?_) λb=> ?_
 ·refine Z1 ?_
  have ⟨an,g,i⟩:=bnd b
  refine Lk [] [] (yc g) λ⟨⟩=> ?_
  refine Z1 ?_
  have ⟨ao,j,k⟩:=bnd i
  refine Lk [] [3,4,5,6,7,8] (wN j) λ⟨⟨m,n⟩,⟨o,p⟩,⟨q,s⟩,⟨u,v⟩,⟨w,x⟩,⟨y,z⟩⟩=> ?_
  refine Z0 ?_
  refine Ll λap=> ?_
  refine Lt 0 ?_
  refine Y1 ?_
  refine Td [7] [0,0,0,0] mo ?_
  refine Db 0 0 ?_
  refine Dq 1 ?_
  refine Dq 2 ?_
  refine Dq 3 ?_
  refine Dq 5 ?_
  have ⟨aq,A,B⟩:=bnd k
  refine Dk [0,0,0,0,0,0,0,0] [6,7,8,15] (lV A) λ⟨C,F,⟨I,J⟩,⟨M,N⟩,O,⟨P,Q⟩⟩=> ?_
  refine Dq 6 ?_
  refine Dt 1 ?_
  refine Dq 8 ?_
  refine Dn ?_
  refine Z0 ?_
  cases B
  exact Eo ((m,n),(o,p),(q,s),(u,v),(w,x),(y,z),C,F,(I,J),(M,N),O,(P,Q)) [4,4,4,4,4,4,4,4] [3,4,5,6,7,8,0,1,2] (.cell 0 rfl rfl rfl (.tmp rfl .nil))
 refine Z1 ?_
 refine Tb b (λd=> ?_) λd=> ?_
 ·refine Z1 ?_
  have ⟨ar,R,S⟩:=bnd d
  refine Lk [] [3,4,5,6,7,8] (wO R) λ⟨au,av⟩=> ?_
  refine Z0 ?_
  refine Ll λaw=> ?_
  refine Lt 0 ?_
  refine Y1 ?_
  refine Td [6] [0,0,0,0,0] mo ?_
  refine Db 0 0 ?_
  refine Dq 1 ?_
  refine Dq 2 ?_
  refine Dq 4 ?_
  have ⟨ax,U,V⟩:=bnd S
  refine Dk [0,0,0,0,0,0,0,0] [6,7,8,15] (gY U) λ⟨ay,az⟩=> ?_
  have ⟨a0,W,X⟩:=bnd V
  refine D.one rfl rfl rfl (Dp.br (Ac.call (pF W) rfl rfl rfl rfl) (Bw.ch 5 rfl (Bw.ch 1 rfl (Bw.nil))) rfl rfl rfl rfl ?_)
  intro _
  refine Dt 2 ?_
  refine Dq 7 ?_
  refine Dn ?_
  refine Z0 ?_
  cases X
  exact Eo ((A3,C3),(A4,C4),(A5,C5),(A6,C6),(A7,C7),(A8,C8),N2,M0,(A0,C0),(A1,C1),N5,(A2,C2)) [6,6,6,6,6,6,6,6] [3,4,5,6,7,8,0,1,2] (.cell 0 rfl rfl rfl (.tmp rfl .nil))
 refine Z1 ?_
 refine Tb d (λe=> ?_) λe=> ?_
 ·refine Z1 ?_
  have ⟨a1,Y,Z⟩:=bnd e
  refine Lk [] [3,4,5,6,7,8] (wQ Y) λ⟨⟨aa,ab⟩,⟨ac,ad⟩⟩=> ?_
  refine Z0 ?_
  refine Ll λa2=> ?_
  refine Lt 0 ?_
  refine Y1 ?_
  refine Td [9] [0,0,0,0] mo ?_
  refine Db 0 0 ?_
  refine Dq 1 ?_
  refine Dq 2 ?_
  refine Db 3 2 ?_
  refine Dq 4 ?_
  refine Db 5 2 ?_
  refine Dq 7 ?_
  have ⟨a3,ae,af⟩:=bnd Z
  refine Dk [0,0,0,0,0,0,0,0] [6,7,8] (lW ae) λ⟨ag,⟨ah,ai⟩⟩=> ?_
  refine Dq 8 ?_
  refine Dt 1 ?_
  refine Dq 10 ?_
  refine Dn ?_
  refine Z0 ?_
  cases af
  exact Eo ((A3,C3),(A4,C4),(A5,C5),(A6,C6),(aa,ab),(ac,ad),N2,M0,(A0,C0),(A1,C1),ag,(ah,ai)) [4,4,4,4,4,4,4,4] [3,4,5,6,7,8,0,1,2] (.cell 0 rfl rfl rfl (.tmp rfl .nil))
 refine Z1 ?_
 have ⟨a4,aj,ak⟩:=bnd e
 refine Lk [3,3,3,3,3,3,3,3] [0,1,2] (lY aj) λ⟨⟩=> ?_
 refine Z1 ?_
 refine Lb 10 ?_
 refine Z0 ?_
 have ⟨a5,al,am⟩:=bnd ak
 refine Lk [] [6,7,8,9,10,11] (wR al) λ⟨⟩=> ?_
 refine Lt 8 ?_
 refine Z0 ?_
 cases am
 exact Eo ((A3,C3),(A4,C4),(A5,C5),(A6,C6),(A7,C7),(A8,C8),N2,M0,(A0,C0),(A1,C1),N5,(A2,C2)) [1,1,1,1,1,1,1,1] [0,1,2,3,4,5,6,7,8] (.cell 0 rfl rfl rfl (.tmp rfl .nil))
end Go.Tw.X
namespace Go.Tw.X
open Go Go.Tw
variable {A0 A1 A2 A3 A4 A5 A6 A7 A8 : Option Addr} {C0 C1 C2 C3 C4 C5 C6 C7 C8 : Nat}
variable {N0 N1 N2 N3 N4 N5 : Nat}
variable {M0 M1 : Option Nat}
theorem pq {m_:Mp ByteArray} (v_0:Option Nat) {r:(Mp ByteArray)} (H:jY m_=some r):CT G 173 [.map v_0] [Ch.mp Ty.str false v_0 m_] [] (λh:Option Nat=> .map h) (λh=>[Ch.mp Ty.str false h r,Ch.mp Ty.str false v_0 m_]) (λh=>[]):=by
  delta jY at H
  cases H
  refine Cf Go.Proofs.Tryz.func173 λK=> ?_
  cases m_
  · refine Z3 ?_
    refine Ly (Yl.mz 0 rfl rfl rfl rfl rfl rfl) ?_
    refine Z0 ?_
    refine T.cond rfl (λ_=> ?_) (λh=>nomatch h)
    refine Z1 ?_
    refine E.mp0 Ty.str false ?_
    exact Eo1 none [0,0] []
  refine Z3 ?_
  refine Ly (Yl.mz 0 rfl rfl rfl rfl rfl rfl) ?_
  refine Z0 ?_
  refine T.cond rfl (λh=>nomatch h) (λ_=> ?_)
  refine Z1 ?_
  refine Ly (Yl.mif rfl rfl rfl rfl) ?_
  refine La [0] [] (Ac.mpc rfl rfl rfl Go.Proofs.Tryz.func174 (by kernel_rfl) (by kernel_rfl) (by kernel_rfl) (by kernel_rfl)) λg=> ?_
  refine Ly (Yl.mta rfl rfl rfl rfl) ?_
  refine Z0 ?_
  exact Eo1 (some g) [0,0] []
theorem pY {s_:bU} {r:bU} (H:iS s_=some r):CT G 126 [.pointer (some ⟨N0,0,none⟩)] [Ch.box N0 153 (cP s_ M0),Ch.mp Ty.str false M0 s_.parts] [] (λh:Nat×Option Nat=> .pointer (some ⟨h.1,0,none⟩)) (λh=>[Ch.box h.1 153 (cP r h.2),Ch.mp Ty.str false h.2 r.parts,Ch.box N0 153 (cP s_ M0),Ch.mp Ty.str false M0 s_.parts]) (λh=>[]):=by
 delta iS at H
 refine Cf Go.Proofs.Tryz.func126 λK=> ?_
 refine Z2 ?_
 refine Ll λg1=> ?_
 refine Lt 0 ?_
 refine Z1 ?_
 have ⟨r2,h3,H4⟩:=bnd H
 refine Lk [2] [] (pq M0 h3) λv5=> ?_
 refine Z0 ?_
 refine Lt 2 ?_
 refine Z1 ?_
 cases H4
 exact Eo1 (g1,v5) [0,0,1,0] []
theorem pw {t_:aZ} {r:aZ} (H:iu t_=some r):CT G 68 [.pointer (some ⟨N0,0,none⟩)] [Ch.box N0 155 (eS t_ N1 A0 C0 A1 C1),Ch.box N1 153 (cP t_.slot M0),Ch.mp Ty.str false M0 t_.slot.parts] [Im.sl aU A0 C0 t_.aK.rows,Im.sl aF A1 C1 t_.aK.begun] (λh:Nat×Nat×Option Nat×(Option Addr×Nat)×(Option Addr×Nat)=> .pointer (some ⟨h.1,0,none⟩)) (λh=>[Ch.box h.1 155 (eS r h.2.1 h.2.2.2.1.1 h.2.2.2.1.2 h.2.2.2.2.1 h.2.2.2.2.2),Ch.box h.2.1 153 (cP r.slot h.2.2.1),Ch.mp Ty.str false h.2.2.1 r.slot.parts,Ch.box N0 155 (eS t_ N1 A0 C0 A1 C1),Ch.box N1 153 (cP t_.slot M0),Ch.mp Ty.str false M0 t_.slot.parts]) (λh=>[Im.sl aU h.2.2.2.1.1 h.2.2.2.1.2 r.aK.rows,Im.sl aF h.2.2.2.2.1 h.2.2.2.2.2 r.aK.begun]):=by
 delta iu at H
 refine Cf Go.Proofs.Tryz.func68 λK=> ?_
 refine Y2 ?_
 refine Td [] [0,0,0] mo ?_
 refine Dq 0 ?_
 refine Dq 1 ?_
 refine Dq 2 ?_
 refine Db 3 0 ?_
 refine Dq 5 ?_
 refine Dq 6 ?_
 refine Dq 7 ?_
 refine Db 8 0 ?_
 have ⟨m,a,b⟩:=bnd H
 refine D.one rfl rfl rfl (Dp.ab [1,1] [] [4,2,2] (Ac.call (pY a) rfl rfl rfl rfl) rfl rfl rfl rfl rfl rfl (λ_=>rfl) ?_)
 rintro ⟨c,d⟩
 have ⟨n,e,f⟩:=bnd b
 refine Dk [] [0,1] (k7 e) λ⟨⟨g,i⟩,⟨j,k⟩⟩=> ?_
 refine Dq 10 ?_
 refine Da [] [] rfl rfl (Ac.box rfl rfl) λl=> ?_
 refine Dq 12 ?_
 refine Dn ?_
 refine Z0 ?_
 cases f
 exact Eo1 (l,c,d,(g,i),(j,k)) [3,3,3,0,0,0] [0,1]
theorem nv {m_:Mp CacheEntry} (v_0:Option Nat) {r:(Mp CacheEntry)} (H:hU m_=some r):CT G 127 [.map v_0] [Ch.mp aE true v_0 m_] [] (λh:Option Nat=> .map h) (λh=>[Ch.mp aE true h r,Ch.mp aE true v_0 m_]) (λh=>[]):=by
  delta hU at H
  cases H
  refine Cf Go.Proofs.Tryz.func127 λK=> ?_
  cases m_
  · refine Z3 ?_
    refine Ly (Yl.mz 0 rfl rfl rfl rfl rfl rfl) ?_
    refine Z0 ?_
    refine T.cond rfl (λ_=> ?_) (λh=>nomatch h)
    refine Z1 ?_
    refine E.mp0 aE true ?_
    exact Eo1 none [0,0] []
  refine Z3 ?_
  refine Ly (Yl.mz 0 rfl rfl rfl rfl rfl rfl) ?_
  refine Z0 ?_
  refine T.cond rfl (λh=>nomatch h) (λ_=> ?_)
  refine Z1 ?_
  refine Ly (Yl.mif rfl rfl rfl rfl) ?_
  refine La [0] [] (Ac.mpc rfl rfl rfl Go.Proofs.Tryz.func174 (by kernel_rfl) (by kernel_rfl) (by kernel_rfl) (by kernel_rfl)) λg=> ?_
  refine Ly (Yl.mta rfl rfl rfl rfl) ?_
  refine Z0 ?_
  exact Eo1 (some g) [0,0] []
theorem px {c:aP} {r:aP} (H:ik c=some r):CT G 69 [.pointer (some ⟨N0,0,none⟩)] [Ch.box N0 158 [.int .i64 c.most,.int .i64 c.now,.map M0],Ch.mp aE true M0 c.l] [] (λh:Nat×Option Nat=> .pointer (some ⟨h.1,0,none⟩)) (λh=>[Ch.box h.1 158 [.int .i64 r.most,.int .i64 r.now,.map h.2],Ch.mp aE true h.2 r.l,Ch.box N0 158 [.int .i64 c.most,.int .i64 c.now,.map M0],Ch.mp aE true M0 c.l]) (λh=>[]):=by
 delta ik at H
 refine Cf Go.Proofs.Tryz.func69 λK=> ?_
 refine Y2 ?_
 refine Td [] [0,0] mo ?_
 refine Dq 0 ?_
 refine Dq 1 ?_
 refine Dq 2 ?_
 refine Db 3 0 ?_
 refine Dq 4 ?_
 refine Dq 5 ?_
 refine Dq 6 ?_
 refine Db 7 0 ?_
 refine Dq 8 ?_
 refine Dq 9 ?_
 refine Dq 10 ?_
 refine Db 11 0 ?_
 have ⟨f,a,b⟩:=bnd H
 refine D.one rfl rfl rfl (Dp.ab [1] [] [2,1] (Ac.call (nv M0 a) rfl rfl rfl rfl) rfl rfl rfl rfl rfl rfl (λ_=>rfl) ?_)
 rintro d
 refine Dq 13 ?_
 refine Da [] [] rfl rfl (Ac.box rfl rfl) λe=> ?_
 refine Dq 15 ?_
 refine Dn ?_
 refine Z0 ?_
 cases b
 exact Eo1 (e,d) [2,2,0,0] []
theorem rv {s_:bZ} {r:bZ} (H:ju s_=some r):CT G 128 [.pointer (some ⟨N0,0,none⟩)] [Ch.box N0 106 [.slice A0 s_.l.length C0]] [Im.sl aC A0 C0 s_.l] (λh:Nat×(Option Addr×Nat)=> .pointer (some ⟨h.1,0,none⟩)) (λh=>[Ch.box h.1 106 [.slice h.2.1 r.l.length h.2.2],Ch.box N0 106 [.slice A0 s_.l.length C0]]) (λh=>[Im.sl aC h.2.1 h.2.2 r.l]):=by
 delta ju at H
 refine Cf Go.Proofs.Tryz.func128 λK=> ?_
 refine Z2 ?_
 have ⟨r1,h2,H3⟩:=bnd H
 refine Lk [] [0] (jX A0 C0 h2) λ⟨a4,c5⟩=> ?_
 refine Z0 ?_
 refine Lx λg7=> ?_
 refine Z0 ?_
 refine E.frz 1 rfl ?_
 cases H3
 exact Eo1 (g7,(a4,c5)) [0,0] [0]
theorem py {f:bE} {r:bE} (H:gp f=some r):CT G 70 [.pointer (some ⟨N0,0,none⟩)] [Ch.box N0 161 (eT f N1),Ch.box N1 106 [.slice A0 f.want.l.length C0]] [Im.sl aC A0 C0 f.want.l] (λh:Nat×Nat×(Option Addr×Nat)=> .pointer (some ⟨h.1,0,none⟩)) (λh=>[Ch.box h.1 161 (eT r h.2.1),Ch.box h.2.1 106 [.slice h.2.2.1 r.want.l.length h.2.2.2],Ch.box N0 161 (eT f N1),Ch.box N1 106 [.slice A0 f.want.l.length C0]]) (λh=>[Im.sl aC h.2.2.1 h.2.2.2 r.want.l]):=by
 delta gp at H
 refine Cf Go.Proofs.Tryz.func70 λK=> ?_
 refine Z2 ?_
 refine Ll λg1=> ?_
 refine Lt 0 ?_
 refine Z1 ?_
 have ⟨r2,h3,H4⟩:=bnd H
 refine Lk [2] [0] (rv h3) λ⟨g5,⟨a6,c7⟩⟩=> ?_
 refine Z0 ?_
 refine Lt 2 ?_
 refine Z1 ?_
 cases H4
 exact Eo1 (g1,g5,(a6,c7)) [0,0,1,0] [0]
theorem ot {c:aH} {r:aH} (H:fR c=some r):CT G 24 [.pointer (some ⟨N0,0,none⟩)] [Ch.box N0 94 (ko c N1 N3 N4),Ch.box N1 155 (eS c.aS N2 A0 C0 A1 C1),Ch.box N2 153 (cP c.aS.slot M0),Ch.mp Ty.str false M0 c.aS.slot.parts,Ch.box N3 158 [.int .i64 c.lines.most,.int .i64 c.lines.now,.map M1],Ch.mp aE true M1 c.lines.l,Ch.box N4 161 (eT c.bS N5),Ch.box N5 106 [.slice A2 c.bS.want.l.length C2]] [Im.sl aU A0 C0 c.aS.aK.rows,Im.sl aF A1 C1 c.aS.aK.begun,Im.sl aC A2 C2 c.bS.want.l] (λh:Nat×Nat×Nat×Option Nat×(Option Addr×Nat)×(Option Addr×Nat)×Nat×Option Nat×Nat×Nat×(Option Addr×Nat)=> .pointer (some ⟨h.1,0,none⟩)) (λh=>[Ch.box h.1 94 (ko r h.2.1 h.2.2.2.2.2.2.1 h.2.2.2.2.2.2.2.2.1),Ch.box h.2.1 155 (eS r.aS h.2.2.1 h.2.2.2.2.1.1 h.2.2.2.2.1.2 h.2.2.2.2.2.1.1 h.2.2.2.2.2.1.2),Ch.box h.2.2.1 153 (cP r.aS.slot h.2.2.2.1),Ch.mp Ty.str false h.2.2.2.1 r.aS.slot.parts,Ch.box h.2.2.2.2.2.2.1 158 [.int .i64 r.lines.most,.int .i64 r.lines.now,.map h.2.2.2.2.2.2.2.1],Ch.mp aE true h.2.2.2.2.2.2.2.1 r.lines.l,Ch.box h.2.2.2.2.2.2.2.2.1 161 (eT r.bS h.2.2.2.2.2.2.2.2.2.1),Ch.box h.2.2.2.2.2.2.2.2.2.1 106 [.slice h.2.2.2.2.2.2.2.2.2.2.1 r.bS.want.l.length h.2.2.2.2.2.2.2.2.2.2.2],Ch.box N0 94 (ko c N1 N3 N4),Ch.box N1 155 (eS c.aS N2 A0 C0 A1 C1),Ch.box N2 153 (cP c.aS.slot M0),Ch.mp Ty.str false M0 c.aS.slot.parts,Ch.box N3 158 [.int .i64 c.lines.most,.int .i64 c.lines.now,.map M1],Ch.mp aE true M1 c.lines.l,Ch.box N4 161 (eT c.bS N5),Ch.box N5 106 [.slice A2 c.bS.want.l.length C2]]) (λh=>[Im.sl aU h.2.2.2.2.1.1 h.2.2.2.2.1.2 r.aS.aK.rows,Im.sl aF h.2.2.2.2.2.1.1 h.2.2.2.2.2.1.2 r.aS.aK.begun,Im.sl aC h.2.2.2.2.2.2.2.2.2.2.1 h.2.2.2.2.2.2.2.2.2.2.2 r.bS.want.l]):=by
 delta fR at H
 refine Cf Go.Proofs.Tryz.func24 λK=> ?_
 refine Z2 ?_
 refine Ll λg1=> ?_
 refine Lt 0 ?_
 refine Y1 ?_
 refine Td [16,18,20] [0,0,0,0,0,0,0,0,0] mo ?_
 refine Dq 0 ?_
 refine Dq 1 ?_
 refine Dq 2 ?_
 refine Db 3 1 ?_
 refine Dq 5 ?_
 refine Dq 6 ?_
 refine Dq 7 ?_
 refine Db 8 1 ?_
 refine Dq 10 ?_
 refine Dq 11 ?_
 refine Dq 12 ?_
 refine Db 13 1 ?_
 have ⟨x,a,b⟩:=bnd H
 refine D.one rfl rfl rfl (Dp.ab [2,2,2] [0,1] [6,6,3,3,3,3,3,3,3] (Ac.call (pw a) rfl rfl rfl rfl) rfl rfl rfl rfl rfl rfl (λ_=>rfl) ?_)
 rintro ⟨d,e,f,⟨g,i⟩,⟨j,k⟩⟩
 have ⟨y,m,n⟩:=bnd b
 refine D.one rfl rfl rfl (Dp.ab [5,5] [] [4,4,4,4,4,2,2,2,2] (Ac.call (px m) rfl rfl rfl rfl) rfl rfl rfl rfl rfl rfl (λ_=>rfl) ?_)
 rintro ⟨o,p⟩
 have ⟨z,q,s⟩:=bnd n
 refine D.one rfl rfl rfl (Dp.ab [7,7] [4] [4,4,4,4,4,4,4,2,2] (Ac.call (py q) rfl rfl rfl rfl) rfl rfl rfl rfl rfl rfl (λ_=>rfl) ?_)
 rintro ⟨t,u,⟨v,w⟩⟩
 refine Dq 15 ?_
 refine Dt 0 ?_
 refine Dq 17 ?_
 refine Dt 0 ?_
 refine Dq 19 ?_
 refine Dt 0 ?_
 refine Dn ?_
 refine Z1 ?_
 cases s
 exact Eo1 (g1,d,e,f,(g,i),(j,k),o,p,t,u,(v,w)) [0,12,12,12,10,10,8,8,0,0,0,0,0,0,0,0] [1,2,0]
theorem kp {s1_:List aY} {s2_:List aY} {r:Bool} (H:cS s1_ s2_=some r):CT G 71 [.slice A0 s1_.length C0,.slice A1 s2_.length C1,.func (.func 72) #[] #[]] [] [Im.sl aU A0 C0 s1_,Im.sl aU A1 C1 s2_] (λ_:Unit=> .bool r) (λh=>[]) (λh=>[]):=by
 delta cS at H
 refine Cf Go.Proofs.Tryz.func71 λK=> ?_
 refine Z3 ?_
 refine Tb H (λH2=> ?_) λH2=> ?_
 ·refine Z1 ?_
  cases H2
  exact Eo1 () [] []
 refine Z2 ?_
 have ⟨a,j,f⟩:=bnd H2
 refine Tj (η:=Unit×Unit) (λh=>a = .inl h.1) (λ_=>[]) [] (λ_=>[]) [] (λ_=>[]) ?_ ?_
 ·refine Yl0 ?_
  refine Tq (η:=Unit) (λg h=>[(17,.int .i64 g)]) [1,2,15,16] (λ_ _=>[]) [] (λ_ _=>[]) () [] [] j ?_
  rintro k_ g ⟨⟩ k l m i
  refine Y2 ?_
  refine Tb l (λb=> ?_) λb=> ?_
  ·refine Z1 ?_
   refine Zl ?_
   refine Z1 ?_
   have ⟨v,c,n⟩:=bnd b
   refine L.addr 0 rfl (bH c) λw x o=> ?_
   subst o
   refine Ly (Yl.ia c rfl rfl rfl rfl rfl rfl) ?_
   refine L.el 0 rfl (aI c).2 ?_
   rintro ⟨y,z⟩
   refine Lc 0 0 ?_
   refine Ll λA=> ?_
   refine Z0 ?_
   refine Lt 0 ?_
   refine Z1 ?_
   have ⟨B,d,p⟩:=bnd n
   refine L.addr 3 rfl (bH d) λC F q=> ?_
   subst q
   refine Ly (Yl.ia d rfl rfl rfl rfl rfl rfl) ?_
   refine L.el 3 rfl (aI d).2 ?_
   rintro ⟨I,J⟩
   refine Lc 0 0 ?_
   refine Ll λM=> ?_
   refine Lt 0 ?_
   refine Z1 ?_
   have ⟨N,s,t⟩:=bnd p
   refine Lk [] [3,1] (oM s) λ⟨⟩=> ?_
   refine Z0 ?_
   refine Tb t (λe=> ?_) λe=> ?_
   ·refine Z1 ?_
    obtain ⟨O,hz,u⟩:=cK e
    subst k
    have hb:=i _ rfl
    subst a
    obtain rfl:=(sm f).symm
    refine Z0 ?_
    cases u
    exact Eo1 () [] []
   refine Z0 ?_
   cases e
   exact Eg (_,()) (m _ rfl) [] [] 4
  refine Z0 ?_
  cases b
  have hb:=i _ rfl
  subst a
  exact Eg (_,()) rfl [] [] 0
 rintro ⟨P,⟨⟩⟩ hy
 subst hy
 refine Z1 ?_
 cases f
 exact Eo1 () [] []
theorem nw {s1_:List aM} {s2_:List aM} {r:Bool} (H:fp s1_ s2_=some r):CT G 73 [.slice A0 s1_.length C0,.slice A1 s2_.length C1] [] [Im.sl aF A0 C0 s1_,Im.sl aF A1 C1 s2_] (λ_:Unit=> .bool r) (λh=>[]) (λh=>[]):=by
 delta fp at H
 refine Cf Go.Proofs.Tryz.func73 λK=> ?_
 refine Z3 ?_
 refine Tb H (λH2=> ?_) λH2=> ?_
 ·refine Z1 ?_
  cases H2
  exact Eo1 () [] []
 refine Z2 ?_
 have ⟨a,j,f⟩:=bnd H2
 refine Tj (η:=Unit×Unit) (λh=>a = .inl h.1) (λ_=>[]) [] (λ_=>[]) [] (λ_=>[]) ?_ ?_
 ·refine Yl0 ?_
  refine Tq (η:=Unit) (λg h=>[(13,.int .i64 g)]) [0,1,12] (λ_ _=>[]) [] (λ_ _=>[]) () [] [] j ?_
  rintro k_ g ⟨⟩ k l m i
  refine Y2 ?_
  refine Tb l (λb=> ?_) λb=> ?_
  ·refine Z1 ?_
   refine Zl ?_
   refine Y2 ?_
   refine Td [] [] mo ?_
   refine Dq 0 ?_
   refine Dq 1 ?_
   have ⟨t,c,n⟩:=bnd b
   refine D.addr 0 rfl (bH c) λu v o=> ?_
   subst o
   refine Dy 2 (Yl.ia c rfl rfl rfl rfl rfl rfl) ?_
   refine D.el 0 rfl (aI c).2 ?_
   rintro _
   refine Dy 3 (Yl.ldc 0 0 rfl rfl rfl rfl) ?_
   refine Dq 4 ?_
   refine Dq 5 ?_
   have ⟨w,d,p⟩:=bnd n
   refine D.addr 2 rfl (bH d) λx y q=> ?_
   subst q
   refine Dy 6 (Yl.ia d rfl rfl rfl rfl rfl rfl) ?_
   refine D.el 2 rfl (aI d).2 ?_
   rintro _
   refine Dy 7 (Yl.ldc 0 0 rfl rfl rfl rfl) ?_
   refine Dq 8 ?_
   refine Dn ?_
   refine Z0 ?_
   refine Tb p (λe=> ?_) λe=> ?_
   ·refine Z1 ?_
    obtain ⟨z,hz,s⟩:=cK e
    subst k
    have hb:=i _ rfl
    subst a
    obtain rfl:=(sm f).symm
    refine Z0 ?_
    cases s
    exact Eo1 () [] []
   refine Z0 ?_
   cases e
   exact Eg (_,()) (m _ rfl) [] [] 2
  refine Z0 ?_
  cases b
  have hb:=i _ rfl
  subst a
  exact Eg (_,()) rfl [] [] 0
 rintro ⟨A,⟨⟩⟩ hy
 subst hy
 refine Z1 ?_
 cases f
 exact Eo1 () [] []
theorem rU {s_:aN} {t_:aN} {r:Bool} (H:iC s_ t_=some r):CT G 27 [.agg (oG s_ A0 C0 A1 C1).toArray,.agg (oG t_ A2 C2 A3 C3).toArray] [] [Im.sl aU A0 C0 s_.rows,Im.sl aF A1 C1 s_.begun,Im.sl aU A2 C2 t_.rows,Im.sl aF A3 C3 t_.begun] (λ_:Unit=> .bool r) (λh=>[]) (λh=>[]):=by
 delta iC at H
 refine Cf Go.Proofs.Tryz.func27 λK=> ?_
 refine Z1 ?_
 refine Lx λg1=> ?_
 refine Lx λg2=> ?_
 refine Y1 ?_
 have ⟨k,l,m⟩:=bnd H
 refine Tj0 [(4,.bool k)] [] [] [0,1] ?_ ?_
 ·refine Tra ?_
  refine Z0 ?_
  refine Lw 10 l (λa=> ?_) λa=> ?_
  ·refine Z0 ?_
   refine Lw 17 a (λb=> ?_) λb=> ?_
   ·refine Z0 ?_
    refine Lw 24 b (λc=> ?_) λc=> ?_
    ·refine Z0 ?_
     refine Lw 31 c (λd=> ?_) λd=> ?_
     ·refine Z0 ?_
      refine Lw 38 d (λe=> ?_) λe=> ?_
      ·refine Z0 ?_
       refine Lw 45 e (λf=> ?_) λf=> ?_
       ·refine Z0 ?_
        refine Lw 52 f (λg=> ?_) λg=> ?_
        ·refine Z0 ?_
         refine Lw 59 g (λi=> ?_) λi=> ?_
         ·refine Z0 ?_
          have ⟨s,n,o⟩:=bnd i
          refine Lk [] [0,2] (kp n) λ⟨⟩=> ?_
          refine Z0 ?_
          refine Lw 66 o (λj=> ?_) λj=> ?_
          ·refine Z0 ?_
           have ⟨t,p,q⟩:=bnd j
           refine Lk [] [1,3] (nw p) λ⟨⟩=> ?_
           refine Z0 ?_
           cases q
           exact Eg0 [0,0] 0
          refine Z0 ?_
          cases j
          exact Eg0 [0,0] 0
         refine Z0 ?_
         cases i
         exact Eg0 [0,0] 0
        refine Z0 ?_
        cases g
        exact Eg0 [0,0] 0
       refine Z0 ?_
       cases f
       exact Eg0 [0,0] 0
      refine Z0 ?_
      cases e
      exact Eg0 [0,0] 0
     refine Z0 ?_
     cases d
     exact Eg0 [0,0] 0
    refine Z0 ?_
    cases c
    exact Eg0 [0,0] 0
   refine Z0 ?_
   cases b
   exact Eg0 [0,0] 0
  refine Z0 ?_
  cases a
  exact Eg0 [0,0] 0
 refine Z0 ?_
 cases m
 exact Eo1 () [] []
theorem pA {acts:List jJ} {addr:Int} {r:Bool} (H:iv acts addr=some r):CT G 7 [.slice A0 acts.length C0,.int .i64 addr] [] [Im.sl mN A0 C0 acts,Im.sl (Ty.int .u32) (some ⟨0,0,none⟩) 16 dE] (λ_:Unit=> .bool r) (λh=>[]) (λh=>[]):=by
 delta iv at H
 refine Cf Go.Proofs.Tryz.func7 λK=> ?_
 refine Z3 ?_
 have ⟨r1,h2,H3⟩:=bnd H
 refine Lk [] [1] (uK h2) λ⟨⟩=> ?_
 refine Z0 ?_
 refine Tb H3 (λH5=> ?_) λH5=> ?_
 ·refine Z1 ?_
  cases H5
  exact Eo1 () [] []
 refine Z1 ?_
 have ⟨r6,h7,H8⟩:=bnd H5
 refine Lk [] [] (qS h7) λ⟨g9,p,a8,a9,⟨ba,bb⟩,⟨bc,bd⟩,q,s,u,be,⟨bf,bg⟩⟩=> ?_
 refine Z0 ?_
 have ⟨dp,bh,bi⟩:=bnd H8
 refine Lk [] [] (yg bh) λ⟨⟨bj,bk⟩,⟨bl,bm⟩,⟨bn,bo⟩,⟨bp,bq⟩,⟨bs,bt⟩,⟨bu,bv⟩⟩=> ?_
 refine Ll λar=> ?_
 refine Z0 ?_
 refine Lt 0 ?_
 refine Z2 ?_
 refine Ly (Yl.pn rfl rfl rfl rfl rfl rfl) ?_
 refine Z0 ?_
 refine T.cond rfl (λh=>nomatch h) (λ_=> ?_)
 refine Z3 ?_
 have ⟨c,bw,bx⟩:=bnd bi
 refine Tjh (η:=(Option Addr×Nat)×(Option Addr×Nat)×(Option Addr×Nat)×(Option Addr×Nat)×(Option Addr×Nat)×(Option Addr×Nat)×Nat×Option Nat×(Option Addr×Nat)×(Option Addr×Nat)×Nat×(Option Addr×Nat)) (λh=>(λX Y Z aa ac ad ae af ag ah ai aj d e g i j k m n o=>[(7,.int .i64 c.1)]) h.1.1 h.1.2 h.2.1.1 h.2.1.2 h.2.2.1.1 h.2.2.1.2 h.2.2.2.1.1 h.2.2.2.1.2 h.2.2.2.2.1.1 h.2.2.2.2.1.2 h.2.2.2.2.2.1.1 h.2.2.2.2.2.1.2 h.2.2.2.2.2.2.1 h.2.2.2.2.2.2.2.1 h.2.2.2.2.2.2.2.2.1.1 h.2.2.2.2.2.2.2.2.1.2 h.2.2.2.2.2.2.2.2.2.1.1 h.2.2.2.2.2.2.2.2.2.1.2 h.2.2.2.2.2.2.2.2.2.2.1 h.2.2.2.2.2.2.2.2.2.2.2.1 h.2.2.2.2.2.2.2.2.2.2.2.2) [1,5,6] (λh=>(λX Y Z aa ac ad ae af ag ah ai aj d e g i j k m n o=>[Ch.mp Ty.str false e c.2.2.aS.slot.parts,Ch.mp aE true s c.2.2.lines.l,Ch.box ar 66 (nO c.2.1 X Y Z aa ac ad ae af ag ah ai aj),Ch.box g9 94 (ko c.2.2 p q u),Ch.box p 155 (eS c.2.2.aS d g i j k),Ch.box q 158 [.int .i64 c.2.2.lines.most,.int .i64 c.2.2.lines.now,.map s],Ch.box u 161 (eT c.2.2.bS m),Ch.box d 153 (cP c.2.2.aS.slot e),Ch.box m 106 [.slice n c.2.2.bS.want.l.length o]]) h.1.1 h.1.2 h.2.1.1 h.2.1.2 h.2.2.1.1 h.2.2.1.2 h.2.2.2.1.1 h.2.2.2.1.2 h.2.2.2.2.1.1 h.2.2.2.2.1.2 h.2.2.2.2.2.1.1 h.2.2.2.2.2.1.2 h.2.2.2.2.2.2.1 h.2.2.2.2.2.2.2.1 h.2.2.2.2.2.2.2.2.1.1 h.2.2.2.2.2.2.2.2.1.2 h.2.2.2.2.2.2.2.2.2.1.1 h.2.2.2.2.2.2.2.2.2.1.2 h.2.2.2.2.2.2.2.2.2.2.1 h.2.2.2.2.2.2.2.2.2.2.2.1 h.2.2.2.2.2.2.2.2.2.2.2.2) [] (λh=>(λX Y Z aa ac ad ae af ag ah ai aj d e g i j k m n o=>[Im.sl bB X Y c.2.1.t.aK.rows,Im.sl aJ Z aa c.2.1.t.aK.begun,Im.sl Ty.bool ac ad c.2.1.t.slot.has,Im.sl Ty.str ae af c.2.1.t.slot.parts,Im.sl bF ag ah c.2.1.l.l,Im.sl aR ai aj c.2.1.f.l,Im.sl aU g i c.2.2.aS.aK.rows,Im.sl aF j k c.2.2.aS.aK.begun,Im.sl aC n o c.2.2.bS.want.l]) h.1.1 h.1.2 h.2.1.1 h.2.1.2 h.2.2.1.1 h.2.2.1.2 h.2.2.2.1.1 h.2.2.2.1.2 h.2.2.2.2.1.1 h.2.2.2.2.1.2 h.2.2.2.2.2.1.1 h.2.2.2.2.2.1.2 h.2.2.2.2.2.2.1 h.2.2.2.2.2.2.2.1 h.2.2.2.2.2.2.2.2.1.1 h.2.2.2.2.2.2.2.2.1.2 h.2.2.2.2.2.2.2.2.2.1.1 h.2.2.2.2.2.2.2.2.2.1.2 h.2.2.2.2.2.2.2.2.2.2.1 h.2.2.2.2.2.2.2.2.2.2.2.1 h.2.2.2.2.2.2.2.2.2.2.2.2) ?_ ?_
 ·refine Yl0 ?_
  refine Tq (η:=(Option Addr×Nat)×(Option Addr×Nat)×(Option Addr×Nat)×(Option Addr×Nat)×(Option Addr×Nat)×(Option Addr×Nat)×Nat×Option Nat×(Option Addr×Nat)×(Option Addr×Nat)×Nat×(Option Addr×Nat)) (λb h=>(λv w x y z A B C F I J M N O P Q R S U V W=>[(7,.int .i64 b.2.2.1),(8,.int .i64 b.2.2.2)]) h.1.1 h.1.2 h.2.1.1 h.2.1.2 h.2.2.1.1 h.2.2.1.2 h.2.2.2.1.1 h.2.2.2.1.2 h.2.2.2.2.1.1 h.2.2.2.2.1.2 h.2.2.2.2.2.1.1 h.2.2.2.2.2.1.2 h.2.2.2.2.2.2.1 h.2.2.2.2.2.2.2.1 h.2.2.2.2.2.2.2.2.1.1 h.2.2.2.2.2.2.2.2.1.2 h.2.2.2.2.2.2.2.2.2.1.1 h.2.2.2.2.2.2.2.2.2.1.2 h.2.2.2.2.2.2.2.2.2.2.1 h.2.2.2.2.2.2.2.2.2.2.2.1 h.2.2.2.2.2.2.2.2.2.2.2.2) [0,1,5,6] (λb h=>(λv w x y z A B C F I J M N O P Q R S U V W=>[Ch.mp Ty.str false O b.2.1.aS.slot.parts,Ch.mp aE true s b.2.1.lines.l,Ch.box ar 66 (nO b.1 v w x y z A B C F I J M),Ch.box g9 94 (ko b.2.1 p q u),Ch.box p 155 (eS b.2.1.aS N P Q R S),Ch.box q 158 [.int .i64 b.2.1.lines.most,.int .i64 b.2.1.lines.now,.map s],Ch.box u 161 (eT b.2.1.bS U),Ch.box N 153 (cP b.2.1.aS.slot O),Ch.box U 106 [.slice V b.2.1.bS.want.l.length W]]) h.1.1 h.1.2 h.2.1.1 h.2.1.2 h.2.2.1.1 h.2.2.1.2 h.2.2.2.1.1 h.2.2.2.1.2 h.2.2.2.2.1.1 h.2.2.2.2.1.2 h.2.2.2.2.2.1.1 h.2.2.2.2.2.1.2 h.2.2.2.2.2.2.1 h.2.2.2.2.2.2.2.1 h.2.2.2.2.2.2.2.2.1.1 h.2.2.2.2.2.2.2.2.1.2 h.2.2.2.2.2.2.2.2.2.1.1 h.2.2.2.2.2.2.2.2.2.1.2 h.2.2.2.2.2.2.2.2.2.2.1 h.2.2.2.2.2.2.2.2.2.2.2.1 h.2.2.2.2.2.2.2.2.2.2.2.2) [] (λb h=>(λv w x y z A B C F I J M N O P Q R S U V W=>[Im.sl bB v w b.1.t.aK.rows,Im.sl aJ x y b.1.t.aK.begun,Im.sl Ty.bool z A b.1.t.slot.has,Im.sl Ty.str B C b.1.t.slot.parts,Im.sl bF F I b.1.l.l,Im.sl aR J M b.1.f.l,Im.sl aU P Q b.2.1.aS.aK.rows,Im.sl aF R S b.2.1.aS.aK.begun,Im.sl aC V W b.2.1.bS.want.l]) h.1.1 h.1.2 h.2.1.1 h.2.1.2 h.2.2.1.1 h.2.2.1.2 h.2.2.2.1.1 h.2.2.2.1.2 h.2.2.2.2.1.1 h.2.2.2.2.1.2 h.2.2.2.2.2.1.1 h.2.2.2.2.2.1.2 h.2.2.2.2.2.2.1 h.2.2.2.2.2.2.2.1 h.2.2.2.2.2.2.2.2.1.1 h.2.2.2.2.2.2.2.2.1.2 h.2.2.2.2.2.2.2.2.2.1.1 h.2.2.2.2.2.2.2.2.2.1.2 h.2.2.2.2.2.2.2.2.2.2.1 h.2.2.2.2.2.2.2.2.2.2.2.1 h.2.2.2.2.2.2.2.2.2.2.2.2) ((bj,bk),(bl,bm),(bn,bo),(bp,bq),(bs,bt),(bu,bv),a8,a9,(ba,bb),(bc,bd),be,(bf,bg)) [4,5,0,0,0,1,1,0,0] [0,1,2,3,4,5,6,7,8] bw ?_
  rintro k_ b ⟨⟨v,w⟩,⟨x,y⟩,⟨z,A⟩,⟨B,C⟩,⟨F,I⟩,⟨J,M⟩,N,O,⟨P,Q⟩,⟨R,S⟩,U,⟨V,W⟩⟩ dq bz b0 b1
  refine Y2 ?_
  have ⟨b2,b3,b4⟩:=bnd bz
  refine Tj0 [(25,.bool b2)] [0,1,5,6,7,8] [] [2,3,4,5,6,7,8,0,1] ?_ ?_
  ·refine Z0 ?_
   refine Lw 22 b3 (λak=> ?_) λak=> ?_
   ·refine Z0 ?_
    cases ak
    exact Eg0 [2,2,2,2,2,2,2,0,0] 0
   refine Z0 ?_
   cases ak
   exact Eg0 [2,2,2,2,2,2,2,0,0] 0
  refine Tb b4 (λal=> ?_) λal=> ?_
  ·refine Z1 ?_
   refine Zl ?_
   refine Z1 ?_
   have ⟨dr,am,b5⟩:=bnd al
   refine L.addr 18 rfl (bH am) λds dt b6=> ?_
   subst b6
   refine Ly (Yl.ia am rfl rfl rfl rfl rfl rfl) ?_
   refine L.el 18 rfl (aI am).2 ?_
   rintro _
   refine Z0 ?_
   refine Lc 0 1 ?_
   refine Z0 ?_
   refine Td [11] [0] mo ?_
   refine Dq 0 ?_
   refine Db 1 0 ?_
   refine Dq 2 ?_
   refine Dq 3 ?_
   have ⟨du,au,b7⟩:=bnd b5
   refine Dy 4 (Yl.ia au rfl rfl rfl rfl rfl rfl) ?_
   refine D.el 19 rfl (aI au).2 ?_
   rintro _
   refine Dy 5 (Yl.ldc 0 0 rfl rfl rfl rfl) ?_
   refine Dq 6 ?_
   have ⟨dv,b8,b9⟩:=bnd b7
   refine Dk [0,0,2,3,0,2,0,0] [8,9,10,2,3,4,5,6,7,21] (zp b8) λ⟨⟨ca,cb⟩,⟨cc,cd⟩,⟨ce,cf⟩,⟨cg,ci⟩,⟨cj,ck⟩,⟨cl,cm⟩,cn,co,⟨cp,cq⟩,⟨cr,ct⟩,cu,⟨cv,cw⟩⟩=> ?_
   refine Dq 8 ?_
   refine Dq 9 ?_
   refine Dq 10 ?_
   refine Dt 0 ?_
   refine Dn ?_
   refine Z0 ?_
   cases b9
   exact Eg (_,((ca,cb),(cc,cd),(ce,cf),(cg,ci),(cj,ck),(cl,cm),cn,co,(cp,cq),(cr,ct),cu,(cv,cw))) (b0 _ rfl) [4,5,0,0,0,1,1,0,0] [0,1,2,3,4,5,6,7,8] 20
  refine Z0 ?_
  cases al
  have hb:=b1 _ rfl
  subst c
  exact Eg ((v,w),(x,y),(z,A),(B,C),(F,I),(J,M),N,O,(P,Q),(R,S),U,(V,W)) trivial [7,7,0,0,0,0,0,0,0] [0,1,2,3,4,5,6,7,8] 9
 rintro ⟨⟨X,Y⟩,⟨Z,aa⟩,⟨ac,ad⟩,⟨ae,af⟩,⟨ag,ah⟩,⟨ai,aj⟩,d,e,⟨g,i⟩,⟨j,k⟩,m,⟨n,o⟩⟩
 refine Z1 ?_
 have ⟨dw,cx,cy⟩:=bnd bx
 refine Lk [3,3,5,0,2,0,1,1] [6,7,8] (ot cx) λ⟨cz,av,aw,ax,⟨ay,az⟩,⟨a0,a1⟩,a2,a3,a4,a5,⟨a6,a7⟩⟩=> ?_
 refine Z2 ?_
 refine Ly (Yl.pn rfl rfl rfl rfl rfl rfl) ?_
 refine Z0 ?_
 refine T.cond rfl (λh=>nomatch h) (λ_=> ?_)
 refine Z1 ?_
 have ⟨dx,c0,c1⟩:=bnd cy
 refine Lk [8,8,8,8,8,8,8,8] [9,10,11] (lY c0) λ⟨⟩=> ?_
 refine Y1 ?_
 have ⟨a,c2,c3⟩:=bnd c1
 refine Tjh (η:=Unit) (λh=>[(4,.bool a.1)]) [] (λh=>[Ch.mp Ty.str false e a.2.1.aS.slot.parts,Ch.mp aE true s a.2.1.lines.l,Ch.mp Ty.str false ax a.2.2.aS.slot.parts,Ch.mp aE true a3 a.2.2.lines.l,Ch.box g9 94 (ko a.2.1 p q u),Ch.box p 155 (eS a.2.1.aS d g i j k),Ch.box d 153 (cP a.2.1.aS.slot e),Ch.box q 158 [.int .i64 a.2.1.lines.most,.int .i64 a.2.1.lines.now,.map s],Ch.box u 161 (eT a.2.1.bS m),Ch.box m 106 [.slice n a.2.1.bS.want.l.length o],Ch.box cz 94 (ko a.2.2 av a2 a4),Ch.box av 155 (eS a.2.2.aS aw ay az a0 a1),Ch.box aw 153 (cP a.2.2.aS.slot ax),Ch.box a2 158 [.int .i64 a.2.2.lines.most,.int .i64 a.2.2.lines.now,.map a3],Ch.box a4 161 (eT a.2.2.bS a5),Ch.box a5 106 [.slice a6 a.2.2.bS.want.l.length a7]]) [16] (λh=>[Im.sl aU g i a.2.1.aS.aK.rows,Im.sl aF j k a.2.1.aS.aK.begun,Im.sl aC n o a.2.1.bS.want.l,Im.sl aU ay az a.2.2.aS.aK.rows,Im.sl aF a0 a1 a.2.2.aS.aK.begun,Im.sl aC a6 a7 a.2.2.bS.want.l]) ?_ ?_
 ·refine Td [] [16] mo ?_
  refine Dq 0 ?_
  refine Dq 2 ?_
  refine Dq 3 ?_
  refine Dq 4 ?_
  have ⟨dy,c4,c5⟩:=bnd c2
  refine D.one rfl rfl rfl (Dp.ab [1,1,1,1,1,1,1,1] [0,1,2] [8] (Ac.call (jN c4) rfl rfl rfl rfl) rfl rfl rfl rfl rfl rfl (λ_=>rfl) ?_)
  rintro ⟨⟩
  refine Dq 5 ?_
  refine Dq 6 ?_
  refine D.cs 60 c5 rfl (λhc an=> ?_) (λhc an=> ?_)
  ·refine Dq 7 ?_
   refine Dq 9 ?_
   refine Db 10 0 ?_
   have ⟨dz,c6,c7⟩:=bnd an
   refine D.one rfl rfl rfl (Dp.ab [9,9,9,9,9,9,9,9] [3,4,5] [8] (Ac.call (jN c6) rfl rfl rfl rfl) rfl rfl rfl rfl rfl rfl (λ_=>rfl) ?_)
   rintro ⟨⟩
   refine Dq 11 ?_
   refine Dq 12 ?_
   refine Dq 13 ?_
   refine D.cs 67 c7 rfl (λhc ao=> ?_) (λhc ao=> ?_)
   ·refine Dq 14 ?_
    refine Dq 16 ?_
    have ⟨d0,c8,c9⟩:=bnd ao
    refine D.one rfl rfl rfl (Dp.ab [9,9,9,9,9,9,9,9] [0,1,2] [8] (Ac.call (lX c8) rfl rfl rfl rfl) rfl rfl rfl rfl rfl rfl (λ_=>rfl) ?_)
    rintro ⟨⟨d1,d2⟩,⟨d3,d4⟩⟩
    have ⟨d5,da,db⟩:=bnd c9
    refine D.one rfl rfl rfl (Dp.ab [9,9,9,9,9,9,9,9] [5,6,7] [8] (Ac.call (lX da) rfl rfl rfl rfl) rfl rfl rfl rfl rfl rfl (λ_=>rfl) ?_)
    rintro ⟨⟨d6,d7⟩,⟨d8,d9⟩⟩
    have ⟨ea,dc,dd⟩:=bnd db
    refine Dk [] [2,3,0,1] (rU dc) λ⟨⟩=> ?_
    refine Dq 19 ?_
    refine Dq 20 ?_
    refine D.cs 74 dd rfl (λhc ap=> ?_) (λhc ap=> ?_)
    ·refine Dq 21 ?_
     refine Dq 23 ?_
     have ⟨eb,de,df⟩:=bnd ap
     refine D.one rfl rfl rfl (Dp.ab [9,9,9,9,9,9,9,9] [4,5,6] [8] (Ac.call (jr de) rfl rfl rfl rfl) rfl rfl rfl rfl rfl rfl (λ_=>rfl) ?_)
     rintro ⟨⟩
     have ⟨ec,dg,dh⟩:=bnd df
     refine D.one rfl rfl rfl (Dp.ab [9,9,9,9,9,9,9,9] [7,8,9] [8] (Ac.call (jr dg) rfl rfl rfl rfl) rfl rfl rfl rfl rfl rfl (λ_=>rfl) ?_)
     rintro ⟨⟩
     refine Dq 25 ?_
     refine Dq 26 ?_
     refine Dq 27 ?_
     refine D.cs 81 dh rfl (λhc aq=> ?_) (λhc aq=> ?_)
     ·refine Dq 28 ?_
      refine Dq 29 ?_
      refine Dq 30 ?_
      refine Dq 32 ?_
      refine Dq 33 ?_
      refine Dq 34 ?_
      have ⟨ed,di,dj⟩:=bnd aq
      refine Dk [8,8,8,8,8,8,8,8] [4,5,6,29] (gY di) λ⟨ee,ef⟩=> ?_
      have ⟨eg,dk,dl⟩:=bnd dj
      refine Dk [9,9,9,9,9,9,9,9] [10,11,12,32] (gY dk) λ⟨eh,ei⟩=> ?_
      have ⟨ej,dm,dn⟩:=bnd dl
      refine D.one rfl rfl rfl (Dp.br (Ac.call (pF dm) rfl rfl rfl rfl) (Bw.ch 10 rfl (Bw.ch 1 rfl (Bw.nil))) rfl rfl rfl rfl ?_)
      intro _
      refine Dq 37 ?_
      refine Dq 38 ?_
      refine Dn ?_
      cases dn
      exact Eg () trivial [14,15,5,6,9,9,9,9,9,9,2,2,2,2,2,2,0] [3,4,5,0,1,2] 10
     refine Ds 28 ?_
     refine Ds 29 ?_
     refine Ds 30 ?_
     refine Ds 31 ?_
     refine Ds 32 ?_
     refine Ds 33 ?_
     refine Ds 34 ?_
     refine Ds 35 ?_
     refine Ds 36 ?_
     refine Dq 37 ?_
     refine Dq 38 ?_
     refine Dn ?_
     cases aq
     exact Eg () trivial [12,13,4,5,7,7,7,7,7,7,1,1,1,1,1,1,0] [4,5,6,7,8,9] 4
    refine Ds 21 ?_
    refine Ds 22 ?_
    refine Ds 23 ?_
    refine Ds 24 ?_
    refine Ds 25 ?_
    refine Dq 26 ?_
    refine Dq 27 ?_
    refine Ds 28 ?_
    refine Ds 29 ?_
    refine Ds 30 ?_
    refine Ds 31 ?_
    refine Ds 32 ?_
    refine Ds 33 ?_
    refine Ds 34 ?_
    refine Ds 35 ?_
    refine Ds 36 ?_
    refine Dq 37 ?_
    refine Dq 38 ?_
    refine Dn ?_
    cases ap
    exact Eg () trivial [12,13,4,5,7,7,7,7,7,7,1,1,1,1,1,1,0] [4,5,6,7,8,9] 4
   refine Ds 14 ?_
   refine Ds 15 ?_
   refine Ds 16 ?_
   refine Ds 17 ?_
   refine Ds 18 ?_
   refine Dq 19 ?_
   refine Dq 20 ?_
   refine Ds 21 ?_
   refine Ds 22 ?_
   refine Ds 23 ?_
   refine Ds 24 ?_
   refine Ds 25 ?_
   refine Dq 26 ?_
   refine Dq 27 ?_
   refine Ds 28 ?_
   refine Ds 29 ?_
   refine Ds 30 ?_
   refine Ds 31 ?_
   refine Ds 32 ?_
   refine Ds 33 ?_
   refine Ds 34 ?_
   refine Ds 35 ?_
   refine Ds 36 ?_
   refine Dq 37 ?_
   refine Dq 38 ?_
   refine Dn ?_
   cases ao
   exact Eg () trivial [12,13,4,5,7,7,7,7,7,7,1,1,1,1,1,1,0] [0,1,2,3,4,5] 0
  refine Ds 7 ?_
  refine Ds 8 ?_
  refine Ds 9 ?_
  refine Ds 10 ?_
  refine Ds 11 ?_
  refine Dq 12 ?_
  refine Dq 13 ?_
  refine Ds 14 ?_
  refine Ds 15 ?_
  refine Ds 16 ?_
  refine Ds 17 ?_
  refine Ds 18 ?_
  refine Dq 19 ?_
  refine Dq 20 ?_
  refine Ds 21 ?_
  refine Ds 22 ?_
  refine Ds 23 ?_
  refine Ds 24 ?_
  refine Ds 25 ?_
  refine Dq 26 ?_
  refine Dq 27 ?_
  refine Ds 28 ?_
  refine Ds 29 ?_
  refine Ds 30 ?_
  refine Ds 31 ?_
  refine Ds 32 ?_
  refine Ds 33 ?_
  refine Ds 34 ?_
  refine Ds 35 ?_
  refine Ds 36 ?_
  refine Dq 37 ?_
  refine Dq 38 ?_
  refine Dn ?_
  cases an
  exact Eg () trivial [4,5,10,11,1,1,1,1,1,1,1,1,1,1,1,1,0] [0,1,2,3,4,5] 0
 rintro ⟨⟩
 refine Z0 ?_
 cases c3
 exact Eo1 () [] []
end Go.Tw.X
namespace Go.Tw.X
open Go Go.Tw
theorem GH {P:Program} {α β:Type} {t:TypeId} {ty:Ty α} {ty':Ty β} {wf:α->Prop} {wf':β->Prop} (h:Opn P t ty wf) (g:α->β) (gh:ty.Hid->ty'.Hid) (h1: ∀ y hh,ty'.cs (g y) (gh hh)=ty.cs y hh) (h2: ∀ y hh,ty'.im (g y) (gh hh)=ty.im y hh) (h3: ∀ y,wf y->wf' (g y)):Opn P t ty' wf':=Opn.to g gh h h1 h2 h3
theorem DV:Opn Go.Proofs.Tryz.prog 3 (Ty.int .i64) (inK .i64):=Opn.int (by kernel_rfl)
theorem Hm:Opn Go.Proofs.Tryz.prog 9 Ty.str (λs:ByteArray=>s.size<=maxLen):=Opn.str (by kernel_rfl)
theorem G5:Opn Go.Proofs.Tryz.prog 31 mN n4:=GH (β:=jJ) (ty':=mN) (wf':=n4) (Opn.struct (fs:=[(3,0),(3,1),(3,2),(3,3),(9,4)]) (by kernel_rfl) (by kernel_rfl) (.cons DV (by kernel_rfl) (.cons DV (by kernel_rfl) (.cons DV (by kernel_rfl) (.cons DV (by kernel_rfl) (.cons Hm (by kernel_rfl) .nil)))))) (λy=>⟨y.1,y.2.1,y.2.2.1,y.2.2.2.1,y.2.2.2.2.1⟩) (λh=>()) (λ_ _=>rfl) (λ_ _=>rfl) (λy h=>h)
theorem G6:Opn Go.Proofs.Tryz.prog 24 (Ty.slice mN) (λxs:List jJ=> ∀ x∈xs,n4 x):=Opn.slice (by kernel_rfl) G5 (by kernel_rfl) (by decide)
end Go.Tw.X

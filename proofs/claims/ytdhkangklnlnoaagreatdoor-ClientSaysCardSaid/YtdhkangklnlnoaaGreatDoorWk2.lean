import Derived.Test.YtdhkangklnlnoaaGreatDoorWk1
import Derived.Test.YtdhkangklnlnoaaGreatDoorFw2
set_option maxHeartbeats 2000000
set_option linter.unusedVariables false
set_option linter.unusedSimpArgs false
set_option maxRecDepth 10000
namespace Go.Tw.X
open Go Go.Tw
variable {A0 A1 A2 A3 A4 A5 A6 A7 A8 : Option Addr} {C0 C1 C2 C3 C4 C5 C6 C7 C8 : Nat}
variable {N0 N1 N2 N3 N4 N5 : Nat}
variable {M0 M1 : Option Nat}
theorem l5 {c:aD} {r:(List aB)} (H:eU c=some r):CT G 17 [.pointer (some ⟨N0,0,none⟩)] [Ch.box N0 94 (jz c N1 N3 N4),Ch.box N1 155 (eR c.aL N2 A0 C0 A1 C1),Ch.box N2 153 (cH c.aL.slot M0),Ch.mp Ty.str false M0 c.aL.slot.parts,Ch.box N3 158 [.int .i64 c.lines.most,.int .i64 c.lines.now,.map M1],Ch.mp aG true M1 c.lines.l,Ch.box N4 161 (eG c.bF N5),Ch.box N5 106 [.slice A2 c.bF.want.l.length C2]] [Im.sl aN A0 C0 c.aL.aO.rows,Im.sl aF A1 C1 c.aL.aO.begun,Im.sl aC A2 C2 c.bF.want.l] (λh:(Option Addr×Nat)=> .slice h.1 r.length h.2) (λh=>[Ch.arr aC 47 h.1 h.2 r,Ch.box N0 94 (jz c N1 N3 N4),Ch.box N1 155 (eR c.aL N2 A0 C0 A1 C1),Ch.box N2 153 (cH c.aL.slot M0),Ch.mp Ty.str false M0 c.aL.slot.parts,Ch.box N3 158 [.int .i64 c.lines.most,.int .i64 c.lines.now,.map M1],Ch.mp aG true M1 c.lines.l,Ch.box N4 161 (eG c.bF N5),Ch.box N5 106 [.slice A2 c.bF.want.l.length C2]]) (λh=>[]):=by
 delta eU at H
 refine Cf Go.Proofs.Tryz.func17 λK=> ?_
 refine Z2 ?_
 have ⟨r1,h2,H3⟩:=bnd H
 refine Lk [4,4] [] (jY N3 M1 h2) λ⟨a4,c5⟩=> ?_
 refine Z0 ?_
 cases H3
 exact Eo1 (a4,c5) [0,2,2,2,2,0,0,0,0] []
theorem mA {f:aS} {r:(List aB)} (H:fN f=some r):CT G 50 [.pointer (some ⟨N0,0,none⟩)] [Ch.box N0 161 (eG f N1),Ch.box N1 106 [.slice A0 f.want.l.length C0]] [Im.sl aC A0 C0 f.want.l] (λh:(Option Addr×Nat)=> .slice h.1 r.length h.2) (λh=>[Ch.arr aC 47 h.1 h.2 r,Ch.box N0 161 (eG f N1),Ch.box N1 106 [.slice A0 f.want.l.length C0]]) (λh=>[]):=by
 delta fN at H
 refine Cf Go.Proofs.Tryz.func50 λK=> ?_
 refine Z2 ?_
 have ⟨r1,h2,H3⟩:=bnd H
 refine Lk [1] [0] (kR h2) λ⟨a4,c5⟩=> ?_
 refine Z0 ?_
 cases H3
 exact Eo1 (a4,c5) [0,1,0] []
theorem lW {c:aD} {r:(List aB)} (H:eO c=some r):CT G 18 [.pointer (some ⟨N0,0,none⟩)] [Ch.box N0 94 (jz c N1 N3 N4),Ch.box N1 155 (eR c.aL N2 A0 C0 A1 C1),Ch.box N2 153 (cH c.aL.slot M0),Ch.mp Ty.str false M0 c.aL.slot.parts,Ch.box N3 158 [.int .i64 c.lines.most,.int .i64 c.lines.now,.map M1],Ch.mp aG true M1 c.lines.l,Ch.box N4 161 (eG c.bF N5),Ch.box N5 106 [.slice A2 c.bF.want.l.length C2]] [Im.sl aN A0 C0 c.aL.aO.rows,Im.sl aF A1 C1 c.aL.aO.begun,Im.sl aC A2 C2 c.bF.want.l] (λh:(Option Addr×Nat)=> .slice h.1 r.length h.2) (λh=>[Ch.arr aC 47 h.1 h.2 r,Ch.box N0 94 (jz c N1 N3 N4),Ch.box N1 155 (eR c.aL N2 A0 C0 A1 C1),Ch.box N2 153 (cH c.aL.slot M0),Ch.mp Ty.str false M0 c.aL.slot.parts,Ch.box N3 158 [.int .i64 c.lines.most,.int .i64 c.lines.now,.map M1],Ch.mp aG true M1 c.lines.l,Ch.box N4 161 (eG c.bF N5),Ch.box N5 106 [.slice A2 c.bF.want.l.length C2]]) (λh=>[]):=by
 delta eO at H
 refine Cf Go.Proofs.Tryz.func18 λK=> ?_
 refine Z2 ?_
 have ⟨r1,h2,H3⟩:=bnd H
 refine Lk [6,6] [2] (mA h2) λ⟨a4,c5⟩=> ?_
 refine Z0 ?_
 cases H3
 exact Eo1 (a4,c5) [0,2,2,2,2,2,2,0,0] []
theorem nt {c:eQ} {acts:List jJ} {r:Bool} (H:gH c acts=some r):CT G 3 [.agg #[.int .i64 c.cache,.int .i64 c.every,.int .i64 c.addr],.slice A0 acts.length C0] [] [Im.sl jy A0 C0 acts,Im.sl (Ty.int .u32) (some ⟨0,0,none⟩) 16 cI] (λ_:Unit=> .bool r) (λh=>[]) (λh=>[]):=by
 delta gH at H
 refine Cf Go.Proofs.Tryz.func3 λK=> ?_
 refine Z1 ?_
 refine Lx λg1=> ?_
 refine Z2 ?_
 have ⟨r2,h3,H4⟩:=bnd H
 refine Lk [] [1] (qH h3) λ⟨⟩=> ?_
 refine Z0 ?_
 refine Tb H4 (λH6=> ?_) λH6=> ?_
 ·refine Z1 ?_
  cases H6
  exact Eo1 () [] []
 refine Z1 ?_
 have ⟨r7,h8,H9⟩:=bnd H6
 refine Lk [] [] (qI h8) λ⟨⟩=> ?_
 refine Lt 0 ?_
 refine Z1 ?_
 have ⟨aa,bo,bp⟩:=bnd H9
 refine Lk [] [] (n9 bo) λ⟨x,q,bq,br,⟨a9,ba⟩,⟨bb,bc⟩,s,t,u,bs,⟨bd,be⟩⟩=> ?_
 refine Z2 ?_
 refine Ly (Yl.pn rfl rfl rfl rfl rfl rfl) ?_
 refine Z0 ?_
 refine T.cond rfl (λh=>nomatch h) (λ_=> ?_)
 refine Z3 ?_
 have ⟨N,bt,ac⟩:=bnd bp
 refine Tj (η:=aD×(Nat×Option Nat×(Option Addr×Nat)×(Option Addr×Nat)×Nat×(Option Addr×Nat))) (λh=>N = .inl h.1) (λ_=>[]) [] (λh=>(λb=>(λO P Q R S U V W X=>[Ch.mp Ty.str false P b.aL.slot.parts,Ch.mp aG true t b.lines.l,Ch.box x 94 (jz b q s u),Ch.box q 155 (eR b.aL O Q R S U),Ch.box s 158 [.int .i64 b.lines.most,.int .i64 b.lines.now,.map t],Ch.box u 161 (eG b.bF V),Ch.box O 153 (cH b.aL.slot P),Ch.box V 106 [.slice W b.bF.want.l.length X]]) h.2.1 h.2.2.1 h.2.2.2.1.1 h.2.2.2.1.2 h.2.2.2.2.1.1 h.2.2.2.2.1.2 h.2.2.2.2.2.1 h.2.2.2.2.2.2.1 h.2.2.2.2.2.2.2) h.1) [8] (λh=>(λb=>(λO P Q R S U V W X=>[Im.sl aN Q R b.aL.aO.rows,Im.sl aF S U b.aL.aO.begun,Im.sl aC W X b.bF.want.l]) h.2.1 h.2.2.1 h.2.2.2.1.1 h.2.2.2.1.2 h.2.2.2.2.1.1 h.2.2.2.2.1.2 h.2.2.2.2.2.1 h.2.2.2.2.2.2.1 h.2.2.2.2.2.2.2) h.1) ?_ ?_
 ·refine Yl0 ?_
  refine Tq (η:=Nat×Option Nat×(Option Addr×Nat)×(Option Addr×Nat)×Nat×(Option Addr×Nat)) (λa h=>(λk m f g i j p n o=>[(6,.int .i64 a.2.1),(7,.int .i64 a.2.2)]) h.1 h.2.1 h.2.2.1.1 h.2.2.1.2 h.2.2.2.1.1 h.2.2.2.1.2 h.2.2.2.2.1 h.2.2.2.2.2.1 h.2.2.2.2.2.2) [1,2,5] (λa h=>(λk m f g i j p n o=>[Ch.mp Ty.str false m a.1.aL.slot.parts,Ch.mp aG true t a.1.lines.l,Ch.box x 94 (jz a.1 q s u),Ch.box q 155 (eR a.1.aL k f g i j),Ch.box s 158 [.int .i64 a.1.lines.most,.int .i64 a.1.lines.now,.map t],Ch.box u 161 (eG a.1.bF p),Ch.box k 153 (cH a.1.aL.slot m),Ch.box p 106 [.slice n a.1.bF.want.l.length o]]) h.1 h.2.1 h.2.2.1.1 h.2.2.1.2 h.2.2.2.1.1 h.2.2.2.1.2 h.2.2.2.2.1 h.2.2.2.2.2.1 h.2.2.2.2.2.2) [8] (λa h=>(λk m f g i j p n o=>[Im.sl aN f g a.1.aL.aO.rows,Im.sl aF i j a.1.aL.aO.begun,Im.sl aC n o a.1.bF.want.l]) h.1 h.2.1 h.2.2.1.1 h.2.2.1.2 h.2.2.2.1.1 h.2.2.2.1.2 h.2.2.2.2.1 h.2.2.2.2.2.1 h.2.2.2.2.2.2) (bq,br,(a9,ba),(bb,bc),bs,(bd,be)) [3,4,0,0,1,1,0,0,0] [0,1,2] bt ?_
  rintro k_ a ⟨k,m,⟨f,g⟩,⟨i,j⟩,p,⟨n,o⟩⟩ bf bu bv ad
  refine Y2 ?_
  have ⟨bw,bx,bz⟩:=bnd bu
  refine Tj0 [(34,.bool bw)] [1,2,5,6,7] [] [2,3,4,5,6,7,8,0,1] ?_ ?_
  ·refine Z0 ?_
   refine Lw 31 bx (λae=> ?_) λae=> ?_
   ·refine Z0 ?_
    cases ae
    exact Eg0 [2,2,2,2,2,2,2,0,0] 0
   refine Z0 ?_
   cases ae
   exact Eg0 [2,2,2,2,2,2,2,0,0] 0
  refine Tb bz (λaf=> ?_) λaf=> ?_
  ·refine Z1 ?_
   refine Zl ?_
   refine Z1 ?_
   have ⟨w,ag,b0⟩:=bnd af
   refine L.addr 6 rfl (cO ag) λah ai b1=> ?_
   subst b1
   refine Ly (Yl.ia ag rfl rfl rfl rfl rfl rfl) ?_
   refine L.el 6 rfl (aT ag).2 ?_
   rintro _
   refine Lc 0 0 ?_
   refine Ll λb2=> ?_
   refine Lt 0 ?_
   refine Z3 ?_
   have ⟨bg,b3,bh⟩:=bnd b0
   refine Tj (η:=aD×(Nat×Option Nat×(Option Addr×Nat)×(Option Addr×Nat)×Nat×(Option Addr×Nat))) (λh=>bg = .inl h.1) (λ_=>[]) [1,2,5,6,7] (λh=>(λd=>(λy z A B C F I J M=>[Ch.mp Ty.str false z d.aL.slot.parts,Ch.mp aG true t d.lines.l,Ch.box x 94 (jz d q s u),Ch.box q 155 (eR d.aL y A B C F),Ch.box s 158 [.int .i64 d.lines.most,.int .i64 d.lines.now,.map t],Ch.box u 161 (eG d.bF I),Ch.box y 153 (cH d.aL.slot z),Ch.box I 106 [.slice J d.bF.want.l.length M]]) h.2.1 h.2.2.1 h.2.2.2.1.1 h.2.2.2.1.2 h.2.2.2.2.1.1 h.2.2.2.2.1.2 h.2.2.2.2.2.1 h.2.2.2.2.2.2.1 h.2.2.2.2.2.2.2) h.1) [0,7] (λh=>(λd=>(λy z A B C F I J M=>[Im.sl aN A B d.aL.aO.rows,Im.sl aF C F d.aL.aO.begun,Im.sl aC J M d.bF.want.l]) h.2.1 h.2.2.1 h.2.2.2.1.1 h.2.2.2.1.2 h.2.2.2.2.1.1 h.2.2.2.2.1.2 h.2.2.2.2.2.1 h.2.2.2.2.2.2.1 h.2.2.2.2.2.2.2) h.1) ?_ ?_
   ·refine Zl ?_
    refine Z1 ?_
    refine Tb b3 (λaj=> ?_) λaj=> ?_
    ·refine Z0 ?_
     have ⟨dt,b4,b5⟩:=bnd aj
     refine Lk [] [] (tN b4) λ⟨⟩=> ?_
     have ⟨du,b6,b7⟩:=bnd b5
     refine Lk [1,1,3,5,1,4,1,1] [1,2,3,8] (jR b6) λ⟨b8,b9,⟨ca,cb⟩,⟨cc,cd⟩,ce,⟨cf,cg⟩⟩=> ?_
     refine Z0 ?_
     cases b7
     exact Eg (_,(b8,b9,(ca,cb),(cc,cd),ce,(cf,cg))) rfl [3,4,0,0,1,1,0,0,0,0] [0,1,2] 3
    refine Z1 ?_
    refine Tb aj (λak=> ?_) λak=> ?_
    ·refine Z1 ?_
     have ⟨e,ch,ci⟩:=bnd ak
     refine Lk [1,1,3,5,1,4,1,1] [1,2,3,8] (jP ch) λ⟨dv,dw⟩=> ?_
     refine Z0 ?_
     have ⟨al,cj,bi⟩:=bnd ci
     refine T.oR (η:=Unit×Unit) (λh=>al = .inl h.1) (λh=>(λam=>[(1,.slice (some ⟨ah,ai,none⟩) acts.length C0),(2,.pointer (some ⟨g1,0,none⟩)),(5,.pointer (some ⟨x,0,none⟩)),(6,.int .i64 (IntKind.i64.wrap (a.2.1+(Go.bits .and .i64 w.later 7)))),(7,.int .i64 a.2.2)]) h.1) (λh=>(λam=>[Ch.box x 94 (jz e.2 q s u),Ch.box q 155 (eR e.2.aL k f g i j),Ch.box k 153 (cH e.2.aL.slot m),Ch.box s 158 [.int .i64 e.2.lines.most,.int .i64 e.2.lines.now,.map t],Ch.box u 161 (eG e.2.bF p),Ch.box p 106 [.slice n e.2.bF.want.l.length o],Ch.box b2 31 (B5 w),Ch.box g1 23 [.int .i64 r7.cache,.int .i64 r7.every,.int .i64 r7.addr],Ch.mp Ty.str false m e.2.aL.slot.parts,Ch.mp aG true t e.2.lines.l]) h.1) (λh=>(λam=>[Im.sl aN f g e.2.aL.aO.rows,Im.sl aF i j e.2.aL.aO.begun,Im.sl aC n o e.2.bF.want.l,Im.cells ah (ai+a.2.2.toNat*5) [.int .i64 w.kind,.int .i64 w.later,.int .i64 w.from_,.int .i64 w.to,.string w.text],Im.sl aN f g a.1.aL.aO.rows,Im.sl aF i j a.1.aL.aO.begun,Im.sl aC n o a.1.bF.want.l,Im.sl aN a9 ba aa.aL.aO.rows,Im.sl aF bb bc aa.aL.aO.begun,Im.sl aC bd be aa.bF.want.l,Im.sl jy (some ⟨ah,ai,none⟩) C0 acts,Im.sl (Ty.int .u32) (some ⟨0,0,none⟩) 16 cI]) h.1) ?_ ?_
     ·refine Yl0 ?_
      refine Tq (η:=Unit) (λan h=>[(68,.int .i64 an)]) [1,2,5,6,7,66,67] (λ_ _=>[]) [1,2,3,5,7,8,9,10,0,4,6] (λ_ _=>[]) () [1,1,1,2,3,3,3,3,0,0,0] [] cj ?_
      rintro k_ an ⟨⟩ ck cl cm bj
      refine Y2 ?_
      refine Tb cl (λao=> ?_) λao=> ?_
      ·refine Z1 ?_
       refine Zl ?_
       refine Z1 ?_
       have ⟨cn,ap,co⟩:=bnd ao
       refine L.lY 8 rfl (cO ap) λdx cp=> ?_
       subst cp
       refine Ly (Yl.ia ap rfl rfl rfl rfl rfl rfl) ?_
       refine Ly (Yl.lo (v:= .string cn) 8 an.toNat 0 (aT ap).2 rfl rfl rfl rfl (λ_=>rfl)) ?_
       refine Z1 ?_
       have ⟨dy,cq,cr⟩:=bnd co
       refine Lk [] [11] (lV cq) λ⟨dz,d0⟩=> ?_
       refine Z0 ?_
       refine Ll λd1=> ?_
       refine Lt 0 ?_
       refine Y1 ?_
       have ⟨ct,cu,cv⟩:=bnd cr
       refine Tj0 [(120,.bool ct)] [1,2,5,6,7,66,67,68] [] [0,1,2,3,4,5,6,7,8,9,10,11] ?_ ?_
       ·refine Td [] [0,0,0,0,0,0,0,0,0,0,0,0] mo ?_
        refine Dq 0 ?_
        refine Dq 1 ?_
        refine Dq 2 ?_
        refine D.cs 79 cu rfl (λhc aq=> ?_) (λhc aq=> ?_)
        ·refine Ds 3 ?_
         refine Ds 4 ?_
         refine Ds 5 ?_
         refine Ds 6 ?_
         refine Ds 7 ?_
         refine Ds 8 ?_
         refine Dq 9 ?_
         refine Dq 10 ?_
         refine Ds 11 ?_
         refine Ds 12 ?_
         refine Ds 13 ?_
         refine Ds 14 ?_
         refine Ds 15 ?_
         refine Ds 16 ?_
         refine Ds 17 ?_
         refine Ds 18 ?_
         refine Dq 19 ?_
         refine Dq 20 ?_
         refine Ds 21 ?_
         refine Ds 22 ?_
         refine Ds 23 ?_
         refine Ds 24 ?_
         refine Ds 25 ?_
         refine Ds 26 ?_
         refine Ds 27 ?_
         refine Ds 28 ?_
         refine Ds 29 ?_
         refine Ds 30 ?_
         refine Ds 31 ?_
         refine Ds 32 ?_
         refine Ds 33 ?_
         refine Ds 34 ?_
         refine Ds 35 ?_
         refine Ds 36 ?_
         refine Ds 37 ?_
         refine Ds 38 ?_
         refine Ds 39 ?_
         refine Ds 40 ?_
         refine Ds 41 ?_
         refine Ds 42 ?_
         refine Dq 43 ?_
         refine Dn ?_
         cases aq
         exact Eg0 [0,0,0,0,0,0,0,0,0,0,0,0] 0
        refine Dq 3 ?_
        refine Db 4 0 ?_
        refine Dq 5 ?_
        have ⟨d2,cw,cx⟩:=bnd aq
        refine D.one rfl rfl rfl (Dp.ab [1,1,1,7,1,6,1,1] [1,2,3] [8,0,0,0,1,2,2,2,2,2,0,0] (Ac.call (jj cw) rfl rfl rfl rfl) rfl rfl rfl rfl rfl rfl (λ_=>rfl) ?_)
        rintro ⟨⟩
        refine Dq 7 ?_
        refine Dq 8 ?_
        refine Dq 9 ?_
        refine Dq 10 ?_
        refine D.cs 87 cx rfl (λhc ar=> ?_) (λhc ar=> ?_)
        ·refine Ds 11 ?_
         refine Ds 12 ?_
         refine Ds 13 ?_
         refine Ds 14 ?_
         refine Ds 15 ?_
         refine Ds 16 ?_
         refine Ds 17 ?_
         refine Ds 18 ?_
         refine Dq 19 ?_
         refine Dq 20 ?_
         refine Ds 21 ?_
         refine Ds 22 ?_
         refine Ds 23 ?_
         refine Ds 24 ?_
         refine Ds 25 ?_
         refine Ds 26 ?_
         refine Ds 27 ?_
         refine Ds 28 ?_
         refine Ds 29 ?_
         refine Ds 30 ?_
         refine Ds 31 ?_
         refine Ds 32 ?_
         refine Ds 33 ?_
         refine Ds 34 ?_
         refine Ds 35 ?_
         refine Ds 36 ?_
         refine Ds 37 ?_
         refine Ds 38 ?_
         refine Ds 39 ?_
         refine Ds 40 ?_
         refine Ds 41 ?_
         refine Ds 42 ?_
         refine Dq 43 ?_
         refine Dn ?_
         cases ar
         exact Eg0 [0,0,0,0,0,0,0,0,0,0,0,0] 0
        refine Dq 11 ?_
        refine Db 12 0 ?_
        refine Dq 13 ?_
        refine Dq 14 ?_
        refine D.cs 91 ar rfl (λhc au=> ?_) (λhc au=> ?_)
        ·refine Dq 15 ?_
         refine Db 16 0 ?_
         refine Dq 17 ?_
         refine Dq 18 ?_
         refine Dq 19 ?_
         refine Dq 20 ?_
         refine D.cs 97 au rfl (λhc av=> ?_) (λhc av=> ?_)
         ·refine Ds 21 ?_
          refine Ds 22 ?_
          refine Ds 23 ?_
          refine Ds 24 ?_
          refine Ds 25 ?_
          refine Ds 26 ?_
          refine Ds 27 ?_
          refine Ds 28 ?_
          refine Ds 29 ?_
          refine Ds 30 ?_
          refine Ds 31 ?_
          refine Ds 32 ?_
          refine Ds 33 ?_
          refine Ds 34 ?_
          refine Ds 35 ?_
          refine Ds 36 ?_
          refine Ds 37 ?_
          refine Ds 38 ?_
          refine Ds 39 ?_
          refine Ds 40 ?_
          refine Ds 41 ?_
          refine Ds 42 ?_
          refine Dq 43 ?_
          refine Dn ?_
          cases av
          exact Eg0 [0,0,0,0,0,0,0,0,0,0,0,0] 0
         refine Dq 21 ?_
         refine Db 22 0 ?_
         refine Dq 23 ?_
         refine Dq 24 ?_
         refine D.cs 101 av rfl (λhc aw=> ?_) (λhc aw=> ?_)
         ·refine Dq 25 ?_
          refine Db 26 0 ?_
          refine Dq 27 ?_
          refine Dq 28 ?_
          refine Dq 29 ?_
          refine D.cs 106 aw rfl (λhc ax=> ?_) (λhc ax=> ?_)
          ·refine Ds 30 ?_
           refine Ds 31 ?_
           refine Ds 32 ?_
           refine Ds 33 ?_
           refine Dq 34 ?_
           refine Dq 35 ?_
           refine Ds 36 ?_
           refine Ds 37 ?_
           refine Ds 38 ?_
           refine Ds 39 ?_
           refine Ds 40 ?_
           refine Dq 41 ?_
           refine Dq 42 ?_
           refine Dq 43 ?_
           refine Dn ?_
           cases ax
           exact Eg0 [0,0,0,0,0,0,0,0,0,0,0,0] 0
          refine Dq 30 ?_
          refine Db 31 0 ?_
          refine Dq 32 ?_
          refine Dq 33 ?_
          refine Dq 34 ?_
          refine Dq 35 ?_
          refine D.cs 112 ax rfl (λhc ay=> ?_) (λhc ay=> ?_)
          ·refine Ds 36 ?_
           refine Ds 37 ?_
           refine Ds 38 ?_
           refine Ds 39 ?_
           refine Ds 40 ?_
           refine Dq 41 ?_
           refine Dq 42 ?_
           refine Dq 43 ?_
           refine Dn ?_
           cases ay
           exact Eg0 [0,0,0,0,0,0,0,0,0,0,0,0] 0
          refine Dq 36 ?_
          refine Db 37 0 ?_
          refine Dq 38 ?_
          refine Dq 39 ?_
          refine Dq 40 ?_
          refine Dq 41 ?_
          refine Dq 42 ?_
          refine Dq 43 ?_
          refine Dn ?_
          cases ay
          exact Eg0 [0,0,0,0,0,0,0,0,0,0,0,0] 0
         refine Ds 25 ?_
         refine Ds 26 ?_
         refine Ds 27 ?_
         refine Ds 28 ?_
         refine Ds 29 ?_
         refine Ds 30 ?_
         refine Ds 31 ?_
         refine Ds 32 ?_
         refine Ds 33 ?_
         refine Ds 34 ?_
         refine Ds 35 ?_
         refine Ds 36 ?_
         refine Ds 37 ?_
         refine Ds 38 ?_
         refine Ds 39 ?_
         refine Ds 40 ?_
         refine Ds 41 ?_
         refine Dq 42 ?_
         refine Dq 43 ?_
         refine Dn ?_
         cases aw
         exact Eg0 [0,0,0,0,0,0,0,0,0,0,0,0] 0
        refine Ds 15 ?_
        refine Ds 16 ?_
        refine Ds 17 ?_
        refine Dq 18 ?_
        refine Dq 19 ?_
        refine Dq 20 ?_
        refine Dq 21 ?_
        refine Db 22 0 ?_
        refine Dq 23 ?_
        refine Dq 24 ?_
        refine D.cs 101 au rfl (λhc az=> ?_) (λhc az=> ?_)
        ·refine Dq 25 ?_
         refine Db 26 0 ?_
         refine Dq 27 ?_
         refine Dq 28 ?_
         refine Dq 29 ?_
         refine D.cs 106 az rfl (λhc a0=> ?_) (λhc a0=> ?_)
         ·refine Ds 30 ?_
          refine Ds 31 ?_
          refine Ds 32 ?_
          refine Ds 33 ?_
          refine Dq 34 ?_
          refine Dq 35 ?_
          refine Ds 36 ?_
          refine Ds 37 ?_
          refine Ds 38 ?_
          refine Ds 39 ?_
          refine Ds 40 ?_
          refine Dq 41 ?_
          refine Dq 42 ?_
          refine Dq 43 ?_
          refine Dn ?_
          cases a0
          exact Eg0 [0,0,0,0,0,0,0,0,0,0,0,0] 0
         refine Dq 30 ?_
         refine Db 31 0 ?_
         refine Dq 32 ?_
         refine Dq 33 ?_
         refine Dq 34 ?_
         refine Dq 35 ?_
         refine D.cs 112 a0 rfl (λhc a1=> ?_) (λhc a1=> ?_)
         ·refine Ds 36 ?_
          refine Ds 37 ?_
          refine Ds 38 ?_
          refine Ds 39 ?_
          refine Ds 40 ?_
          refine Dq 41 ?_
          refine Dq 42 ?_
          refine Dq 43 ?_
          refine Dn ?_
          cases a1
          exact Eg0 [0,0,0,0,0,0,0,0,0,0,0,0] 0
         refine Dq 36 ?_
         refine Db 37 0 ?_
         refine Dq 38 ?_
         refine Dq 39 ?_
         refine Dq 40 ?_
         refine Dq 41 ?_
         refine Dq 42 ?_
         refine Dq 43 ?_
         refine Dn ?_
         cases a1
         exact Eg0 [0,0,0,0,0,0,0,0,0,0,0,0] 0
        refine Ds 25 ?_
        refine Ds 26 ?_
        refine Ds 27 ?_
        refine Ds 28 ?_
        refine Ds 29 ?_
        refine Ds 30 ?_
        refine Ds 31 ?_
        refine Ds 32 ?_
        refine Ds 33 ?_
        refine Ds 34 ?_
        refine Ds 35 ?_
        refine Ds 36 ?_
        refine Ds 37 ?_
        refine Ds 38 ?_
        refine Ds 39 ?_
        refine Ds 40 ?_
        refine Ds 41 ?_
        refine Dq 42 ?_
        refine Dq 43 ?_
        refine Dn ?_
        cases az
        exact Eg0 [0,0,0,0,0,0,0,0,0,0,0,0] 0
       refine Tb cv (λa2=> ?_) λa2=> ?_
       ·refine Z1 ?_
        obtain ⟨d3,hz,cy⟩:=dX a2
        subst ck
        have hb:=bj _ rfl
        subst al
        obtain rfl:=(sm bi).symm
        refine Z0 ?_
        obtain ⟨d4,hz,cz⟩:=iu cy
        subst bg
        obtain rfl:=(sm bh).symm
        refine Z0 ?_
        obtain ⟨d5,hz,c0⟩:=dX cz
        subst bf
        have hb:=ad _ rfl
        subst N
        obtain rfl:=(sm ac).symm
        refine Z0 ?_
        cases c0
        exact Eo1 () [] []
       refine Z0 ?_
       cases a2
       exact Eg (_,()) (cm _ rfl) [1,1,1,1,1,1,1,1,1,1,1] [] 1
      refine Z0 ?_
      cases ao
      have hb:=bj _ rfl
      subst al
      exact Egx (_,()) rfl [0,0,0,0,0,0,0,0,1,1] [0,1,2,3,4,5,6,7,8,9,10,11]
     rintro ⟨am,⟨⟩⟩ hy
     subst hy
     refine Z0 ?_
     cases bi
     exact Eg (_,(k,m,(f,g),(i,j),p,(n,o))) rfl [8,8,0,0,1,1,0,0,0,0] [0,1,2] 3
    refine Z0 ?_
    have ⟨d6,c1,c2⟩:=bnd ak
    refine Lk [1,1,3,5,1,4,1,1] [1,2,3] (jS c1) λ⟨c3,⟨c4,c5⟩⟩=> ?_
    refine Z0 ?_
    cases c2
    exact Eg (_,(k,m,(f,g),(i,j),c3,(c4,c5))) rfl [3,4,0,0,1,1,0,0,0,0] [0,1,2] 3
   rintro ⟨d,⟨y,z,⟨A,B⟩,⟨C,F⟩,I,⟨J,M⟩⟩⟩ hy
   subst hy
   refine Z3 ?_
   have ⟨d7,c6,c7⟩:=bnd bh
   refine Lk [2,2,4,0,1,0,0,0] [0,1,2] (l5 c6) λ⟨d8,d9⟩=> ?_
   refine Z0 ?_
   have ⟨bk,c8,c9⟩:=bnd c7
   refine Tj0 [(13,.int .i64 bk)] [1,2,5,6,7,14] [] [1,2,3,5,7,8,9,10,4,6] ?_ ?_
   ·refine Yl0 ?_
    refine Tq (η:=Unit) (λY h=>[(13,.int .i64 Y.2),(125,.int .i64 Y.1)]) [1,2,5,6,7,14,123,124] (λ_ _=>[]) [1,2,3,5,7,8,9,10,0,4,6] (λ_ _=>[]) () [1,1,1,2,3,3,3,3,0,0,0] [] c8 ?_
    rintro k_ Y ⟨⟩ ea da db dc
    refine Y2 ?_
    refine Tb da (λa3=> ?_) λa3=> ?_
    ·refine Z1 ?_
     refine Zl ?_
     refine Z1 ?_
     have ⟨bl,a4,dd⟩:=bnd a3
     refine L.lY 8 rfl (cO a4) λeb de=> ?_
     subst de
     refine Ly (Yl.ia a4 rfl rfl rfl rfl rfl rfl) ?_
     refine Ly (Yl.lo (v:= .agg #[.int .i64 bl.from_,.int .i64 bl.to]) 8 Y.1.toNat 0 (aT a4).2 rfl rfl rfl rfl (λ_=>rfl)) ?_
     refine Ll λec=> ?_
     refine Lt 0 ?_
     refine Z0 ?_
     cases dd
     exact Eg (_,()) (db _ rfl) [1,1,1,1,1,1,1,1,1,1,1] [] 0
    refine Z0 ?_
    cases a3
    have hb:=dc _ rfl
    subst bk
    exact Eg0 [0,0,0,0,0,0,0,0,1,1] 0
   refine Z2 ?_
   have ⟨ed,df,dg⟩:=bnd c9
   refine Lk [0,0,0,5,0,4,0,0] [0,1,2] (lW df) λ⟨ee,ef⟩=> ?_
   refine Z0 ?_
   have ⟨bm,dh,di⟩:=bnd dg
   refine Tj0 [(14,.int .i64 bm)] [1,2,5,6,7,13] [] [1,2,3,5,7,8,9,10,4,6] ?_ ?_
   ·refine Yl0 ?_
    refine Tq (η:=Unit) (λZ h=>[(14,.int .i64 Z.1),(140,.int .i64 Z.2)]) [1,2,5,6,7,13,138,139] (λ_ _=>[]) [1,2,3,5,7,8,9,10,0,4,6] (λ_ _=>[]) () [1,1,1,2,3,3,3,3,0,0,0] [] dh ?_
    rintro k_ Z ⟨⟩ eg dj dk dl
    refine Y2 ?_
    refine Tb dj (λa5=> ?_) λa5=> ?_
    ·refine Z1 ?_
     refine Zl ?_
     refine Z1 ?_
     have ⟨bn,a6,dm⟩:=bnd a5
     refine L.lY 8 rfl (cO a6) λeh dn=> ?_
     subst dn
     refine Ly (Yl.ia a6 rfl rfl rfl rfl rfl rfl) ?_
     refine Ly (Yl.lo (v:= .agg #[.int .i64 bn.from_,.int .i64 bn.to]) 8 Z.2.toNat 0 (aT a6).2 rfl rfl rfl rfl (λ_=>rfl)) ?_
     refine Ll λei=> ?_
     refine Lt 0 ?_
     refine Z0 ?_
     cases dm
     exact Eg (_,()) (dk _ rfl) [1,1,1,1,1,1,1,1,1,1,1] [] 0
    refine Z0 ?_
    cases a5
    have hb:=dl _ rfl
    subst bm
    exact Eg0 [0,0,0,0,0,0,0,0,1,1] 0
   refine Y1 ?_
   have ⟨dp,dq,dr⟩:=bnd di
   refine Tj0 [(163,.bool dp)] [1,2,5,6,7] [] [0,1,2,3,4,5,6,7,8,9] ?_ ?_
   ·refine Z0 ?_
    refine Lw 157 dq (λa7=> ?_) λa7=> ?_
    ·refine Z0 ?_
     cases a7
     exact Eg0 [0,0,0,0,0,0,0,0,0,0] 0
    refine Z0 ?_
    cases a7
    exact Eg0 [0,0,0,0,0,0,0,0,0,0] 0
   refine Tb dr (λa8=> ?_) λa8=> ?_
   ·refine Z1 ?_
    obtain ⟨ej,hz,ds⟩:=dX a8
    subst bf
    have hb:=ad _ rfl
    subst N
    obtain rfl:=(sm ac).symm
    refine Z0 ?_
    cases ds
    exact Eo1 () [] []
   refine Z0 ?_
   cases a8
   exact Eg (_,(y,z,(A,B),(C,F),I,(J,M))) (bv _ rfl) [8,8,0,0,1,1,0,0,1] [0,1,2] 7
  refine Z0 ?_
  cases af
  have hb:=ad _ rfl
  subst N
  exact Eg (_,(k,m,(f,g),(i,j),p,(n,o))) rfl [7,7,0,0,0,0,0,0,0] [0,1,2] 3
 rintro ⟨b,⟨O,P,⟨Q,R⟩,⟨S,U⟩,V,⟨W,X⟩⟩⟩ hy
 subst hy
 refine Z1 ?_
 cases ac
 exact Eo1 () [] []
end Go.Tw.X
namespace Go.Tw.X
open Go Go.Tw
theorem yw {P:Program} {α β:Type} {t:TypeId} {ty:Ty α} {ty':Ty β} {wf:α->Prop} {wf':β->Prop} (h:Opn P t ty wf) (g:α->β) (gh:ty.Hid->ty'.Hid) (h1: ∀ y hh,ty'.cs (g y) (gh hh)=ty.cs y hh) (h2: ∀ y hh,ty'.im (g y) (gh hh)=ty.im y hh) (h3: ∀ y,wf y->wf' (g y)):Opn P t ty' wf':=Opn.to g gh h h1 h2 h3
theorem uR:Opn Go.Proofs.Tryz.prog 3 (Ty.int .i64) (inK .i64):=Opn.int (by kernel_rfl)
theorem BK:Opn Go.Proofs.Tryz.prog 23 mV kV:=yw (β:=eQ) (ty':=mV) (wf':=kV) (Opn.struct (fs:=[(3,0),(3,1),(3,2)]) (by kernel_rfl) (by kernel_rfl) (.cons uR (by kernel_rfl) (.cons uR (by kernel_rfl) (.cons uR (by kernel_rfl) .nil)))) (λy=>⟨y.1,y.2.1,y.2.2.1⟩) (λh=>()) (λ_ _=>rfl) (λ_ _=>rfl) (λy h=>h)
theorem B6:Opn Go.Proofs.Tryz.prog 9 Ty.str (λs:ByteArray=>s.size<=maxLen):=Opn.str (by kernel_rfl)
theorem BL:Opn Go.Proofs.Tryz.prog 31 jy lM:=yw (β:=jJ) (ty':=jy) (wf':=lM) (Opn.struct (fs:=[(3,0),(3,1),(3,2),(3,3),(9,4)]) (by kernel_rfl) (by kernel_rfl) (.cons uR (by kernel_rfl) (.cons uR (by kernel_rfl) (.cons uR (by kernel_rfl) (.cons uR (by kernel_rfl) (.cons B6 (by kernel_rfl) .nil)))))) (λy=>⟨y.1,y.2.1,y.2.2.1,y.2.2.2.1,y.2.2.2.2.1⟩) (λh=>()) (λ_ _=>rfl) (λ_ _=>rfl) (λy h=>h)
theorem BM:Opn Go.Proofs.Tryz.prog 24 (Ty.slice jy) (λxs:List jJ=> ∀ x∈xs,lM x):=Opn.slice (by kernel_rfl) BL (by kernel_rfl) (by decide)
end Go.Tw.X

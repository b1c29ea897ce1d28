import Derived.Test.YtjpeabeokdkkbaaGreatDoorWk1
import Derived.Test.YtjpeabeokdkkbaaGreatDoorFw2
set_option maxHeartbeats 2000000
set_option linter.unusedVariables false
set_option linter.unusedSimpArgs false
set_option maxRecDepth 10000
namespace Go.Tw.X
open Go Go.Tw
variable {A0 A1 A2 A3 A4 A5 : Option Addr} {C0 C1 C2 C3 C4 C5 : Nat}
variable {N0 N1 N2 N3 N4 : Nat}
variable {M0 : Option Nat}
theorem rG {σ η:Type} {Y:σ→(List aE)→Option (σ×Bool)} {y0:σ} {x1:bK} {x2:ByteArray} (g_1:Nat) (g_1_0:Nat) (g_1_1:Nat) (a_1_2:Option Addr) (c_1_2:Nat) (a_1_3:Option Addr) (c_1_3:Nat) (a_1_4:Option Addr) (c_1_4:Nat) (g_1_5:Nat) (a_1_6:Option Addr) (c_1_6:Nat) (a_1_7:Option Addr) (c_1_7:Nat) (g_1_8:Nat) (g_1_9:Nat) (a_1_10:Option Addr) (c_1_10:Nat) (g_2:Nat) {yl:Nat} {C:σ→η→Ch} (hY: ∀ s (h:η) (x:(List aE)) (t:(Option Addr×Nat)) z,Y s x=some z→YT G yl [.slice t.1 x.length t.2] [C s h,Ch.box g_1_0 58 (rA x1 g_1_1 g_1_5 g_1_8)] [Im.sl aD t.1 t.2 x] (fun _:η=> .bool z.2) (fun h2=>[C z.1 h2,Ch.box g_1_0 58 (rA x1 g_1_1 g_1_5 g_1_8)]) (fun _=>[])) (h0:η) {r:σ×bK} (H:iI Y y0 x1 x2=some r):CT G 63 [.func (.yield yl) #[] #[],.pointer (some ⟨g_1,0,none⟩),.pointer (some ⟨g_2,0,none⟩)] [C y0 h0,Ch.box g_1 23 [.pointer (some ⟨g_1_0,0,none⟩)],Ch.box g_1_0 58 (rA x1 g_1_1 g_1_5 g_1_8),Ch.box g_1_5 54 (lZ x1.parser a_1_6 c_1_6),Ch.opt (x1.parser.state == (3:Int)) (Ty.int .i64) 3 a_1_6 c_1_6 x1.parser.order.bQ,Ch.box g_1_8 108 (cH x1.bB g_1_9),Ch.box g_1_9 153 [.int .i64 x1.bB.g.w,.slice a_1_10 x1.bB.g.l.length c_1_10],Ch.arr aD 71 a_1_10 c_1_10 x1.bB.g.l,Ch.box g_2 9 [.string x2]] [Im.sl cI (some ⟨1,0,none⟩) 13 cT,Im.sl cI (some ⟨2,0,none⟩) 14 dC,Im.sl dY (some ⟨3,0,none⟩) 8 bW] (fun h:η×(Option Addr×Nat)×(Option Addr×Nat)×Nat×(Option Addr×Nat)=> .tuple #[]) (fun h=>[C r.1 h.1,Ch.box g_1 23 [.pointer (some ⟨g_1_0,0,none⟩)],Ch.box g_1_0 58 (rA r.2 g_1_1 g_1_5 g_1_8),Ch.box g_1_5 54 (lZ r.2.parser h.2.1.1 h.2.1.2),Ch.opt (r.2.parser.state == (3:Int)) (Ty.int .i64) 3 h.2.1.1 h.2.1.2 r.2.parser.order.bQ,Ch.box g_1_8 108 (cH r.2.bB h.2.2.2.1),Ch.box h.2.2.2.1 153 [.int .i64 r.2.bB.g.w,.slice h.2.2.2.2.1 r.2.bB.g.l.length h.2.2.2.2.2],Ch.arr aD 71 h.2.2.2.2.1 h.2.2.2.2.2 r.2.bB.g.l,Ch.box g_2 9 [.string x2]]) (fun h=>[]):=by
  delta iI at H
  refine Cf Go.Proofs.Tryz.func63 fun K=> ?_
  refine Y1 ?_
  refine Td [] [0,0,0,2,2,2,2] mo ?_
  refine Db 0 1 ?_
  refine Dq 1 ?_
  refine Dq 2 ?_
  refine Db 3 2 ?_
  refine Db 4 6 ?_
  refine Dq 7 ?_
  have ⟨p,Q,R⟩:=bnd H
  refine Dk [0,0] [2] (tI Q) fun ⟨⟨ai,aj⟩,⟨m,n⟩,⟨ak,al⟩⟩=> ?_
  refine Dq 6 ?_
  refine Dn ?_
  refine Z0 ?_
  have ⟨q,S,B⟩:=bnd R
  refine T.uH (η:=(aB×σ)×(Nat×(Option Addr×Nat)×η)) (fun h=>q = .inl h.1) (fun h=>(fun b=>(fun c d e f=>[]) h.2.1 h.2.2.1.1 h.2.2.1.2 h.2.2.2) h.1) (fun h=>(fun b=>(fun c d e f=>[Ch.arr aD 71 d e b.1.g.l,C b.2 f,Ch.box g_1_8 108 (cH b.1 c),Ch.box c 153 [.int .i64 b.1.g.w,.slice d b.1.g.l.length e],Ch.box g_1 23 [.pointer (some ⟨g_1_0,0,none⟩)],Ch.box g_1_0 58 (rA x1 g_1_1 g_1_5 g_1_8),Ch.box g_2 9 [.string x2],Ch.box g_1_5 54 (lZ p.2 m n),Ch.opt (p.2.state == (3:Int)) (Ty.int .i64) 3 m n p.2.order.bQ]) h.2.1 h.2.2.1.1 h.2.2.1.2 h.2.2.2) h.1) (fun h=>(fun b=>(fun c d e f=>[Im.sl cI (some ⟨1,0,none⟩) 13 cT,Im.sl cI (some ⟨2,0,none⟩) 14 dC,Im.sl dY (some ⟨3,0,none⟩) 8 bW]) h.2.1 h.2.2.1.1 h.2.2.1.2 h.2.2.2) h.1) ?_ ?_
  ·refine Yl0 ?_
   refine Tq (η:=Nat×(Option Addr×Nat)×η) (fun a h=>(fun i j k o=>[(14,.int .i64 a.2.1)]) h.1 h.2.1.1 h.2.1.2 h.2.2) [0,1,12,13] (fun a h=>(fun i j k o=>[Ch.arr aD 71 j k a.1.g.l,C a.2.2 o,Ch.box g_1_8 108 (cH a.1 i),Ch.box i 153 [.int .i64 a.1.g.w,.slice j a.1.g.l.length k]]) h.1 h.2.1.1 h.2.1.2 h.2.2) [1,2,6,8,7,9] (fun _ _=>[]) (g_1_9,(a_1_10,c_1_10),h0) [5,0,2,2,0,0,0,1,0,0] [] S ?_
   rintro k_ a ⟨i,⟨j,k⟩,o⟩ U V W F
   refine Y2 ?_
   refine Tb V (fun u=> ?_) fun u=> ?_
   ·refine Z1 ?_
    refine Zl ?_
    refine Z1 ?_
    have ⟨X,y,Z⟩:=bnd u
    refine L.l8 8 rfl (cX y) fun am aa=> ?_
    subst aa
    refine Ly (Yl.ia y rfl rfl rfl rfl rfl rfl) ?_
    refine La [8] [] (Ac.lo a.2.1.toNat 0 (v:=(fun h:(Option Addr×Nat)=>(fun I J=> .agg (wQ X I J).toArray) h.1 h.2)) (bD y).2 rfl rfl rfl (fun _=>rfl)) ?_
    rintro ⟨I,J⟩
    refine Ll fun an=> ?_
    refine Lt 0 ?_
    refine Y1 ?_
    refine Td [] [0,0,1,3,3,3,3,3] mo ?_
    refine Db 0 3 ?_
    refine Dq 1 ?_
    refine Dq 2 ?_
    refine Db 3 4 ?_
    refine Db 4 0 ?_
    have ⟨ao,ab,ac⟩:=bnd Z
    refine Dk [1,1,0] [0,1,2] (sL ab) fun ⟨⟨ad,ae⟩,M,⟨N,O⟩⟩=> ?_
    refine Dq 6 ?_
    refine Dn ?_
    refine Z1 ?_
    refine L.frz 8 rfl ?_
    have ⟨ap,af,ag⟩:=bnd ac
    refine L.yd [2,3] [0] (hY _ _ _ (ad,ae) _ af) rfl rfl rfl rfl rfl rfl rfl rfl ?_
    intro P
    refine Z0 ?_
    refine Tb ag (fun A=> ?_) fun A=> ?_
    ·refine Z0 ?_
     obtain ⟨aq,hz,ah⟩:=fI A
     subst U
     have hb:=F _ rfl
     subst q
     obtain rfl:=(sm B).symm
     refine Z0 ?_
     cases ah
     exact Eo (P,(m,n),(none,0),M,(N,O)) [0,3,0,3,3,3,3,3,2] [] .nil
    refine Z0 ?_
    cases A
    exact Eg (_,(M,(N,O),P)) (W _ rfl) [10,0,7,7,3,0,2,2,1,1] [] 2
   refine Z0 ?_
   cases u
   have hb:=F _ rfl
   subst q
   exact Egx (_,(i,(j,k),o)) rfl [0,0,0,0,0,0,0,0,1] [0,1,2]
  rintro ⟨b,⟨c,⟨d,e⟩,f⟩⟩ hy
  subst hy
  refine E.off ?_
  cases B
  exact Eo (f,(m,n),(none,0),c,(d,e)) [1,3,3,4,4,1,1,0,0] [] .nil
theorem uB {m_:bK} {e:lY} {r:Int×bK} (H:ja m_ e=some r):CT G 6 [.pointer (some ⟨N0,0,none⟩),.agg (IS e).toArray] [Ch.box N0 58 (rA m_ N1 N2 N3),Ch.box N1 100 [.slice A0 m_.book.l.length C0,.slice A1 m_.book.bZ.length C1,.slice A2 m_.book.begun.length C2],Ch.arr (Ty.slice aJ) 26 A0 C0 m_.book.l,Ch.arr (Ty.int .i64) 3 A1 C1 m_.book.bZ,Ch.arr aJ 87 A2 C2 m_.book.begun,Ch.box N2 54 (lZ m_.parser A3 C3),Ch.opt (m_.parser.state == (3:Int)) (Ty.int .i64) 3 A3 C3 m_.parser.order.bQ,Ch.box N3 108 (cH m_.bB N4),Ch.box N4 153 [.int .i64 m_.bB.g.w,.slice A5 m_.bB.g.l.length C5],Ch.arr aD 71 A5 C5 m_.bB.g.l] [Im.sl (Ty.int .u32) (some ⟨0,0,none⟩) 16 eE,Im.sl cI (some ⟨1,0,none⟩) 13 cT,Im.sl cI (some ⟨2,0,none⟩) 14 dC,Im.sl dY (some ⟨3,0,none⟩) 8 bW] (fun h:(Option Addr×Nat)×(Option Addr×Nat)×(Option Addr×Nat)×(Option Addr×Nat)×(Option Addr×Nat)×Nat×(Option Addr×Nat)=> .int .i64 r.1) (fun h=>[Ch.box N0 58 (rA r.2 N1 N2 N3),Ch.box N1 100 [.slice h.1.1 r.2.book.l.length h.1.2,.slice h.2.1.1 r.2.book.bZ.length h.2.1.2,.slice h.2.2.1.1 r.2.book.begun.length h.2.2.1.2],Ch.arr (Ty.slice aJ) 26 h.1.1 h.1.2 r.2.book.l,Ch.arr (Ty.int .i64) 3 h.2.1.1 h.2.1.2 r.2.book.bZ,Ch.arr aJ 87 h.2.2.1.1 h.2.2.1.2 r.2.book.begun,Ch.box N2 54 (lZ r.2.parser h.2.2.2.1.1 h.2.2.2.1.2),Ch.opt (r.2.parser.state == (3:Int)) (Ty.int .i64) 3 h.2.2.2.1.1 h.2.2.2.1.2 r.2.parser.order.bQ,Ch.box N3 108 (cH r.2.bB h.2.2.2.2.2.1),Ch.box h.2.2.2.2.2.1 153 [.int .i64 r.2.bB.g.w,.slice h.2.2.2.2.2.2.1 r.2.bB.g.l.length h.2.2.2.2.2.2.2],Ch.arr aD 71 h.2.2.2.2.2.2.1 h.2.2.2.2.2.2.2 r.2.bB.g.l]) (fun h=>[]):=by
 delta ja at H
 refine Cf Go.Proofs.Tryz.func6 fun K=> ?_
 refine T.y3 ?_
 refine Z1 ?_
 refine Lx fun g1=> ?_
 refine Lx fun g2=> ?_
 refine Z2 ?_
 have ⟨r3,h4,H5⟩:=bnd H
 refine Lk [] [] (rB h4) fun ⟨⟩=> ?_
 refine Z1 ?_
 refine Tb H5 (fun H7=> ?_) fun H7=> ?_
 ·refine Z1 ?_
  cases H7
  exact E.y4 ((A0,C0),(A1,C1),(A2,C2),(A3,C3),(none,0),N4,(A5,C5)) 2 [2,2,2,2,2,2,2,2,2,2] [] rfl (.tmp rfl .nil) rfl rfl rfl
 refine Z2 ?_
 have ⟨a,J,M⟩:=bnd H7
 refine T.ED (η:=Unit×((Option Addr×Nat)×(Option Addr×Nat)×(Option Addr×Nat)×(Option Addr×Nat)×Nat×(Option Addr×Nat)×List Nat)) (fun h=>True) (fun h=>(fun c d f i j k m n o p q s=>s) h.2.1.1 h.2.1.2 h.2.2.1.1 h.2.2.1.2 h.2.2.2.1.1 h.2.2.2.1.2 h.2.2.2.2.1.1 h.2.2.2.2.1.2 h.2.2.2.2.2.1 h.2.2.2.2.2.2.1.1 h.2.2.2.2.2.2.1.2 h.2.2.2.2.2.2.2) (fun h=>(fun c d f i j k m n o p q s=>[(2,.pointer (some ⟨g1,0,none⟩))]) h.2.1.1 h.2.1.2 h.2.2.1.1 h.2.2.1.2 h.2.2.2.1.1 h.2.2.2.1.2 h.2.2.2.2.1.1 h.2.2.2.2.1.2 h.2.2.2.2.2.1 h.2.2.2.2.2.2.1.1 h.2.2.2.2.2.2.1.2 h.2.2.2.2.2.2.2) (fun h=>(fun c d f i j k m n o p q s=>[Ch.arr (Ty.slice aJ) 26 c d a.book.l,Ch.arr (Ty.int .i64) 3 f i a.book.bZ,Ch.arr aJ 87 j k a.book.begun,Ch.opt (a.parser.state == (3:Int)) (Ty.int .i64) 3 m n a.parser.order.bQ,Ch.arr aD 71 p q a.bB.g.l,Ch.box g2 35 (IS e),Ch.box g1 23 [.pointer (some ⟨N0,0,none⟩)],Ch.dfs s,Ch.box N0 58 (rA a N1 N2 N3),Ch.box N1 100 [.slice c a.book.l.length d,.slice f a.book.bZ.length i,.slice j a.book.begun.length k],Ch.box N2 54 (lZ a.parser m n),Ch.box N3 108 (cH a.bB o),Ch.box o 153 [.int .i64 a.bB.g.w,.slice p a.bB.g.l.length q]]) h.2.1.1 h.2.1.2 h.2.2.1.1 h.2.2.1.2 h.2.2.2.1.1 h.2.2.2.1.2 h.2.2.2.2.1.1 h.2.2.2.2.1.2 h.2.2.2.2.2.1 h.2.2.2.2.2.2.1.1 h.2.2.2.2.2.2.1.2 h.2.2.2.2.2.2.2) (fun h=>(fun c d f i j k m n o p q s=>[Im.sl (Ty.int .u32) (some ⟨0,0,none⟩) 16 eE,Im.sl cI (some ⟨1,0,none⟩) 13 cT,Im.sl cI (some ⟨2,0,none⟩) 14 dC,Im.sl dY (some ⟨3,0,none⟩) 8 bW]) h.2.1.1 h.2.1.2 h.2.2.1.1 h.2.2.1.2 h.2.2.2.1.1 h.2.2.2.1.2 h.2.2.2.2.1.1 h.2.2.2.2.1.2 h.2.2.2.2.2.1 h.2.2.2.2.2.2.1.1 h.2.2.2.2.2.2.1.2 h.2.2.2.2.2.2.2) ?_ ?_
 ·refine Tb J (fun I=> ?_) fun I=> ?_
  ·refine Td [] [0,0,0,0,4,4] mo ?_
   refine Db 0 1 ?_
   refine Dq 1 ?_
   refine Dq 2 ?_
   refine Db 3 3 ?_
   refine Db 4 1 ?_
   refine Dq 5 ?_
   refine Dq 6 ?_
   refine Db 7 3 ?_
   refine Dq 8 ?_
   refine Db 9 0 ?_
   refine Dq 10 ?_
   refine Db 11 0 ?_
   have ⟨az,N,O⟩:=bnd I
   refine Dk [4,4,4] [] (px N) fun ⟨⟨a0,a1⟩,⟨P,Q⟩⟩=> ?_
   refine D.frz 0 rfl ?_
   have ⟨a2,R,S⟩:=bnd O
   refine Dk [3,3,3,3] [0,1] (pH R) fun ⟨⟨U,V⟩,⟨W,Y⟩,⟨Z,aa⟩⟩=> ?_
   refine Dn ?_
   cases S
   exact E.xj ((),((U,V),(W,Y),(Z,aa),(A3,C3),N4,(P,Q),[])) [7,7,7,5,8,0,0,0,0,1,0,0,0] [1,2,3,4] trivial rfl ⟨rfl,trivial⟩ rfl rfl
  refine Z1 ?_
  have ⟨a3,ab,ac⟩:=bnd I
  refine Lk [3,3,3,3,3,3,3,3,3,3] [1,2,3] (tG ab) fun ⟨ad,ae⟩=> ?_
  refine Yl0 ?_
  have ⟨af,ag,ah⟩:=bnd ac
  refine T.rf4 (σ:=cG) (η:=(Option Addr×Nat)×(Option Addr×Nat)×(Option Addr×Nat)) (X:=(List aE)) (θ:=(Option Addr×Nat)) (τ:=((Option Addr×Nat)×(Option Addr×Nat)×(Option Addr×Nat))×(Option Addr×Nat)×(Option Addr×Nat)×Nat×(Option Addr×Nat)) (s1:=af.1) (hx:=fun x=>x.1) (fun x t=>[.slice t.1 x.length t.2]) (fun x t=>[Im.sl aD t.1 t.2 x]) (fun _=>none) _ [Ch.box N0 58 (rA m_ N1 N2 N3)] (fun b h=>(fun v y z A B F=>[Ch.arr (Ty.slice aJ) 26 v y b.l,Ch.arr (Ty.int .i64) 3 z A b.bZ,Ch.arr aJ 87 B F b.begun,Ch.box N1 100 [.slice v b.l.length y,.slice z b.bZ.length A,.slice B b.begun.length F],Ch.box g2 35 (IS e),Ch.box g1 23 [.pointer (some ⟨N0,0,none⟩)]]) h.1.1 h.1.2 h.2.1.1 h.2.1.2 h.2.2.1 h.2.2.2) (fun b h=>(fun v y z A B F=>[Im.sl (Ty.int .u32) (some ⟨0,0,none⟩) 16 eE,Im.sl cI (some ⟨1,0,none⟩) 13 cT,Im.sl cI (some ⟨2,0,none⟩) 14 dC,Im.sl dY (some ⟨3,0,none⟩) 8 bW]) h.1.1 h.1.2 h.2.1.1 h.2.1.2 h.2.2.1 h.2.2.2) 14 [4,4,4,3,8,8,0,1,1,1,1,1,1,0] [0,1,2,3] [1,2,3] rfl rfl (fun _ _=>rfl) rfl (fun yl C hY=>(rG ad N0 N1 A0 C0 A1 C1 A2 C2 N2 A3 C3 none 0 N3 N4 A5 C5 ae hY ((A0,C0),(A1,C1),(A2,C2)) ag:_)) (fun _ _ _ _=>rfl) rfl rfl rfl rfl rfl ?_ rfl ?_
  ·rintro yl K2 b ⟨⟨v,y⟩,⟨z,A⟩,⟨B,F⟩⟩ a4 ⟨a5,a6⟩ a7 ai
   refine Z0 ?_
   refine E.begin fun K3=> ?_
   refine Zl ?_
   have ⟨a8,aj,ak⟩:=bnd ai
   refine Lk [3,0,0,0] [0,1] (pH aj) fun ⟨⟨al,am⟩,⟨an,ao⟩,⟨ap,aq⟩⟩=> ?_
   refine Z0 ?_
   cases ak
   exact E.on ((al,am),(an,ao),(ap,aq)) [1,1,1,0,0,0,0] [1,2,3,4] rfl rfl rfl rfl
  rintro ⟨u,⟨ar,au⟩,⟨a9,ba⟩,av,⟨aw,ax⟩⟩ ay
  refine Z0 ?_
  cases ah
  exact E.xj ((),((u.1.1,u.1.2),(u.2.1.1,u.2.1.2),(u.2.2.1,u.2.2.2),(ar,au),av,(aw,ax),(ay::[]))) [1,1,1,7,9,2,2,0,2,0,1,1,1] [0,1,2,3] trivial rfl ⟨rfl,trivial⟩ rfl rfl
 rintro ⟨_,⟨⟨c,d⟩,⟨f,i⟩,⟨j,k⟩,⟨m,n⟩,o,⟨p,q⟩,s⟩⟩ _
 refine Z1 ?_
 refine Lt 8 ?_
 refine Z1 ?_
 cases M
 exact E.y4 ((c,d),(f,i),(j,k),(m,n),(none,0),o,(p,q)) 8 [0,7,0,0,0,4,0,3,3,0] [] rfl (.tmp rfl .nil) rfl rfl rfl
theorem mz {s_:aM} {r:Bool} (H:fH s_=some r):CT G 29 [.agg (iQ s_ A0 C0 A1 C1).toArray] [] [Im.sl aD A0 C0 s_.rows,Im.sl aJ A1 C1 s_.begun] (fun _:Unit=> .bool r) (fun h=>[]) (fun h=>[]):=by
 delta fH at H
 refine Cf Go.Proofs.Tryz.func29 fun K=> ?_
 refine Z1 ?_
 refine Lx fun g1=> ?_
 refine Y1 ?_
 have ⟨k,l,m⟩:=bnd H
 refine Tj0 [(2,.bool k)] [] [] [0] ?_ ?_
 ·refine Z0 ?_
  refine Lw 6 l (fun a=> ?_) fun a=> ?_
  ·refine Z0 ?_
   refine Lw 11 a (fun b=> ?_) fun b=> ?_
   ·refine Z0 ?_
    refine Lw 16 b (fun c=> ?_) fun c=> ?_
    ·refine Z0 ?_
     refine Lw 21 c (fun d=> ?_) fun d=> ?_
     ·refine Z0 ?_
      refine Lw 26 d (fun e=> ?_) fun e=> ?_
      ·refine Z0 ?_
       refine Lw 31 e (fun f=> ?_) fun f=> ?_
       ·refine Z0 ?_
        refine Lw 37 f (fun g=> ?_) fun g=> ?_
        ·refine Z0 ?_
         refine Lw 42 g (fun i=> ?_) fun i=> ?_
         ·refine Z0 ?_
          refine Lw 47 i (fun j=> ?_) fun j=> ?_
          ·refine Z0 ?_
           cases j
           exact Eg0 [0] 0
          refine Z0 ?_
          cases j
          exact Eg0 [0] 0
         refine Z0 ?_
         cases i
         exact Eg0 [0] 0
        refine Z0 ?_
        cases g
        exact Eg0 [0] 0
       refine Z0 ?_
       cases f
       exact Eg0 [0] 0
      refine Z0 ?_
      cases e
      exact Eg0 [0] 0
     refine Z0 ?_
     cases d
     exact Eg0 [0] 0
    refine Z0 ?_
    cases c
    exact Eg0 [0] 0
   refine Z0 ?_
   cases b
   exact Eg0 [0] 0
  refine Z0 ?_
  cases a
  exact Eg0 [0] 0
 refine Z0 ?_
 cases m
 exact Eo1 () [] []
theorem gq {n_:Int} {lo:Int} {hi:Int} {r:Bool} (H:eI n_ lo hi=some r):CT G 103 [.int .i64 n_,.int .i64 lo,.int .i64 hi] [] [] (fun _:Unit=> .bool r) (fun h=>[]) (fun h=>[]):=by
 delta eI at H
 refine Cf Go.Proofs.Tryz.func103 fun K=> ?_
 refine Y2 ?_
 have ⟨e4,H5,H6⟩:=bnd H
 refine Tj0 [(6,.bool e4)] [] [] [] ?_ ?_
 ·refine Z0 ?_
  refine Lw 10 H5 (fun H7=> ?_) fun H7=> ?_
  ·refine Z0 ?_
   cases H7
   exact Eg0 [] 0
  refine Z0 ?_
  cases H7
  exact Eg0 [] 0
 refine Z0 ?_
 cases H6
 exact Eo1 () [] []
theorem tN {s_:aM} {r:Bool} (H:jB s_=some r):CT G 71 [.agg (iQ s_ A0 C0 A1 C1).toArray] [] [Im.sl aD A0 C0 s_.rows,Im.sl aJ A1 C1 s_.begun] (fun _:Unit=> .bool r) (fun h=>[]) (fun h=>[]):=by
 delta jB at H
 refine Cf Go.Proofs.Tryz.func71 fun K=> ?_
 refine Z1 ?_
 refine Lx fun g1=> ?_
 refine Y1 ?_
 have ⟨k,l,m⟩:=bnd H
 refine Tj0 [(2,.bool k)] [] [] [0] ?_ ?_
 ·refine Z0 ?_
  have ⟨C,n,o⟩:=bnd l
  refine Lk [] [] (gq n) fun ⟨⟩=> ?_
  refine Z0 ?_
  refine Lw 6 o (fun a=> ?_) fun a=> ?_
  ·refine Z0 ?_
   have ⟨F,p,q⟩:=bnd a
   refine Lk [] [] (gq p) fun ⟨⟩=> ?_
   refine Z0 ?_
   refine Lw 11 q (fun b=> ?_) fun b=> ?_
   ·refine Z0 ?_
    have ⟨I,s,t⟩:=bnd b
    refine Lk [] [] (gq s) fun ⟨⟩=> ?_
    refine Z0 ?_
    refine Lw 16 t (fun c=> ?_) fun c=> ?_
    ·refine Z0 ?_
     have ⟨J,u,v⟩:=bnd c
     refine Lk [] [] (gq u) fun ⟨⟩=> ?_
     refine Z0 ?_
     refine Lw 24 v (fun d=> ?_) fun d=> ?_
     ·refine Z0 ?_
      have ⟨M,w,x⟩:=bnd d
      refine Lk [] [] (gq w) fun ⟨⟩=> ?_
      refine Z0 ?_
      refine Lw 32 x (fun e=> ?_) fun e=> ?_
      ·refine Z0 ?_
       refine Lw 40 e (fun f=> ?_) fun f=> ?_
       ·refine Z0 ?_
        refine Lw 46 f (fun g=> ?_) fun g=> ?_
        ·refine Z0 ?_
         have ⟨N,y,z⟩:=bnd g
         refine Lk [] [] (gq y) fun ⟨⟩=> ?_
         refine Z0 ?_
         refine Lw 51 z (fun i=> ?_) fun i=> ?_
         ·refine Z0 ?_
          have ⟨O,A,B⟩:=bnd i
          refine Lk [] [] (gq A) fun ⟨⟩=> ?_
          refine Z0 ?_
          refine Lw 56 B (fun j=> ?_) fun j=> ?_
          ·refine Z0 ?_
           cases j
           exact Eg0 [0] 0
          refine Z0 ?_
          cases j
          exact Eg0 [0] 0
         refine Z0 ?_
         cases i
         exact Eg0 [0] 0
        refine Z0 ?_
        cases g
        exact Eg0 [0] 0
       refine Z0 ?_
       cases f
       exact Eg0 [0] 0
      refine Z0 ?_
      cases e
      exact Eg0 [0] 0
     refine Z0 ?_
     cases d
     exact Eg0 [0] 0
    refine Z0 ?_
    cases c
    exact Eg0 [0] 0
   refine Z0 ?_
   cases b
   exact Eg0 [0] 0
  refine Z0 ?_
  cases a
  exact Eg0 [0] 0
 refine Z0 ?_
 cases m
 exact Eo1 () [] []
theorem tO {r_:Int} {aP:Int} {r:Bool} (H:ln r_ aP=some r):CT G 74 [.int .i32 r_,.int .i64 aP] [] [] (fun _:Unit=> .bool r) (fun h=>[]) (fun h=>[]):=by
 delta ln at H
 refine Cf Go.Proofs.Tryz.func74 fun K=> ?_
 refine Y2 ?_
 have ⟨b,c,d⟩:=bnd H
 refine Tj0 [(4,.bool b)] [] [] [] ?_ ?_
 ·refine Z0 ?_
  have ⟨j,e,f⟩:=bnd c
  refine Lk [] [] (gq e) fun ⟨⟩=> ?_
  refine Z0 ?_
  refine Lw 8 f (fun a=> ?_) fun a=> ?_
  ·refine Z0 ?_
   have ⟨k,g,i⟩:=bnd a
   refine Lk [] [] (gq g) fun ⟨⟩=> ?_
   refine Z0 ?_
   cases i
   exact Eg0 [] 0
  refine Z0 ?_
  cases a
  exact Eg0 [] 0
 refine Z0 ?_
 cases d
 exact Eo1 () [] []
theorem rH {g:aN} {r:Bool} (H:iF g=some r):CT G 73 [.agg #[.int .i32 g.rune,.int .i64 g.aP]] [] [] (fun _:Unit=> .bool r) (fun h=>[]) (fun h=>[]):=by
 delta iF at H
 refine Cf Go.Proofs.Tryz.func73 fun K=> ?_
 refine Z1 ?_
 refine Lx fun g1=> ?_
 refine Z1 ?_
 have ⟨r2,h3,H4⟩:=bnd H
 refine Lk [] [] (tO h3) fun ⟨⟩=> ?_
 refine Z0 ?_
 cases H4
 exact Eo1 () [] []
theorem kI {s_:List aN} {r:Int} (H:dG s_=some r):CT G 104 [.slice A0 s_.length C0,.func (.func 73) #[] #[]] [] [Im.sl aJ A0 C0 s_] (fun _:Unit=> .int .i64 r) (fun h=>[]) (fun h=>[]):=by
 delta dG at H
 refine Cf Go.Proofs.Tryz.func104 fun K=> ?_
 refine Z3 ?_
 have ⟨a,i,e⟩:=bnd H
 refine Tj (η:=Unit×Unit) (fun h=>a = .inl h.1) (fun _=>[]) [] (fun _=>[]) [] (fun _=>[]) ?_ ?_
 ·refine Yl0 ?_
  refine Tq (η:=Unit) (fun f h=>[(8,.int .i64 f)]) [0,1,7] (fun _ _=>[]) [] (fun _ _=>[]) () [] [] i ?_
  rintro k_ f ⟨⟩ j k l g
  refine Y2 ?_
  refine Tb k (fun b=> ?_) fun b=> ?_
  ·refine Z1 ?_
   refine Zl ?_
   refine Z2 ?_
   have ⟨s,c,m⟩:=bnd b
   refine L.addr 0 rfl (cX c) fun t u n=> ?_
   subst n
   refine Ly (Yl.ia c rfl rfl rfl rfl rfl rfl) ?_
   refine L.el 0 rfl (bD c).2 ?_
   rintro _
   refine Lc 0 0 ?_
   have ⟨v,o,p⟩:=bnd m
   refine Lk [] [] (rH o) fun ⟨⟩=> ?_
   refine Z0 ?_
   refine Tb p (fun d=> ?_) fun d=> ?_
   ·refine Z1 ?_
    obtain ⟨w,hz,q⟩:=fI d
    subst j
    have hb:=g _ rfl
    subst a
    obtain rfl:=(sm e).symm
    refine Z0 ?_
    cases q
    exact Eo1 () [] []
   refine Z0 ?_
   cases d
   exact Eg (_,()) (l _ rfl) [] [] 1
  refine Z0 ?_
  cases b
  have hb:=g _ rfl
  subst a
  exact Eg (_,()) rfl [] [] 0
 rintro ⟨x,⟨⟩⟩ hy
 subst hy
 refine Z1 ?_
 cases e
 exact Eo1 () [] []
theorem ka {s_:List aN} {r:Bool} (H:cK s_=some r):CT G 72 [.slice A0 s_.length C0,.func (.func 73) #[] #[]] [] [Im.sl aJ A0 C0 s_] (fun _:Unit=> .bool r) (fun h=>[]) (fun h=>[]):=by
 delta cK at H
 refine Cf Go.Proofs.Tryz.func72 fun K=> ?_
 refine Z2 ?_
 have ⟨r1,h2,H3⟩:=bnd H
 refine Lk [] [0] (kI h2) fun ⟨⟩=> ?_
 refine Z0 ?_
 cases H3
 exact Eo1 () [] []
theorem AA {c:aG} {r:Bool} (H:mY c=some r):CT G 77 [.agg #[.int .i32 c.rune,.int .i64 c.aP,.int .i64 c.part]] [] [] (fun _:Unit=> .bool r) (fun h=>[]) (fun h=>[]):=by
 delta mY at H
 refine Cf Go.Proofs.Tryz.func77 fun K=> ?_
 refine Z1 ?_
 refine Lx fun g1=> ?_
 refine Y1 ?_
 have ⟨b,d,e⟩:=bnd H
 refine Tj0 [(2,.bool b)] [] [] [0] ?_ ?_
 ·refine Z0 ?_
  have ⟨k,f,g⟩:=bnd d
  refine Lk [] [] (tO f) fun ⟨⟩=> ?_
  refine Z0 ?_
  refine Lw 8 g (fun a=> ?_) fun a=> ?_
  ·refine Z0 ?_
   have ⟨l,i,j⟩:=bnd a
   refine Lk [] [] (gq i) fun ⟨⟩=> ?_
   refine Z0 ?_
   cases j
   exact Eg0 [0] 0
  refine Z0 ?_
  cases a
  exact Eg0 [0] 0
 refine Z0 ?_
 cases e
 exact Eo1 () [] []
theorem rI {c:aG} {r:Bool} (H:iG c=some r):CT G 76 [.agg #[.int .i32 c.rune,.int .i64 c.aP,.int .i64 c.part]] [] [] (fun _:Unit=> .bool r) (fun h=>[]) (fun h=>[]):=by
 delta iG at H
 refine Cf Go.Proofs.Tryz.func76 fun K=> ?_
 refine Z1 ?_
 refine Lx fun g1=> ?_
 refine Z1 ?_
 have ⟨r2,h3,H4⟩:=bnd H
 refine Lk [] [] (AA h3) fun ⟨⟩=> ?_
 refine Z0 ?_
 cases H4
 exact Eo1 () [] []
theorem kP {s_:List aG} {r:Int} (H:dH s_=some r):CT G 105 [.slice A0 s_.length C0,.func (.func 76) #[] #[]] [] [Im.sl aT A0 C0 s_] (fun _:Unit=> .int .i64 r) (fun h=>[]) (fun h=>[]):=by
 delta dH at H
 refine Cf Go.Proofs.Tryz.func105 fun K=> ?_
 refine Z3 ?_
 have ⟨a,i,e⟩:=bnd H
 refine Tj (η:=Unit×Unit) (fun h=>a = .inl h.1) (fun _=>[]) [] (fun _=>[]) [] (fun _=>[]) ?_ ?_
 ·refine Yl0 ?_
  refine Tq (η:=Unit) (fun f h=>[(8,.int .i64 f)]) [0,1,7] (fun _ _=>[]) [] (fun _ _=>[]) () [] [] i ?_
  rintro k_ f ⟨⟩ j k l g
  refine Y2 ?_
  refine Tb k (fun b=> ?_) fun b=> ?_
  ·refine Z1 ?_
   refine Zl ?_
   refine Z2 ?_
   have ⟨s,c,m⟩:=bnd b
   refine L.addr 0 rfl (cX c) fun t u n=> ?_
   subst n
   refine Ly (Yl.ia c rfl rfl rfl rfl rfl rfl) ?_
   refine L.el 0 rfl (bD c).2 ?_
   rintro _
   refine Lc 0 0 ?_
   have ⟨v,o,p⟩:=bnd m
   refine Lk [] [] (rI o) fun ⟨⟩=> ?_
   refine Z0 ?_
   refine Tb p (fun d=> ?_) fun d=> ?_
   ·refine Z1 ?_
    obtain ⟨w,hz,q⟩:=fI d
    subst j
    have hb:=g _ rfl
    subst a
    obtain rfl:=(sm e).symm
    refine Z0 ?_
    cases q
    exact Eo1 () [] []
   refine Z0 ?_
   cases d
   exact Eg (_,()) (l _ rfl) [] [] 1
  refine Z0 ?_
  cases b
  have hb:=g _ rfl
  subst a
  exact Eg (_,()) rfl [] [] 0
 rintro ⟨x,⟨⟩⟩ hy
 subst hy
 refine Z1 ?_
 cases e
 exact Eo1 () [] []
theorem kd {s_:List aG} {r:Bool} (H:cB s_=some r):CT G 75 [.slice A0 s_.length C0,.func (.func 76) #[] #[]] [] [Im.sl aT A0 C0 s_] (fun _:Unit=> .bool r) (fun h=>[]) (fun h=>[]):=by
 delta cB at H
 refine Cf Go.Proofs.Tryz.func75 fun K=> ?_
 refine Z2 ?_
 have ⟨r1,h2,H3⟩:=bnd H
 refine Lk [] [0] (kP h2) fun ⟨⟩=> ?_
 refine Z0 ?_
 cases H3
 exact Eo1 () [] []
theorem kS {s_:aM} {r:Int} (H:eJ s_=some r):CT G 30 [.agg (iQ s_ A0 C0 A1 C1).toArray] [] [Im.sl aD A0 C0 s_.rows,Im.sl aJ A1 C1 s_.begun] (fun _:Unit=> .int .i64 r) (fun h=>[]) (fun h=>[]):=by
 delta eJ at H
 refine Cf Go.Proofs.Tryz.func30 fun K=> ?_
 refine Z1 ?_
 refine Lx fun g1=> ?_
 refine Z2 ?_
 have ⟨r2,h3,H4⟩:=bnd H
 refine Lk [] [0,1] (mz h3) fun ⟨⟩=> ?_
 refine Z0 ?_
 refine Tb H4 (fun H6=> ?_) fun H6=> ?_
 ·refine Z1 ?_
  cases H6
  exact Eo1 () [] []
 refine Y2 ?_
 have ⟨l,m,n⟩:=bnd H6
 refine Tj0 [(14,.bool l)] [1] [] [0] ?_ ?_
 ·refine Z0 ?_
  have ⟨J,o,p⟩:=bnd m
  refine Lk [] [0,1] (tN o) fun ⟨⟩=> ?_
  refine Z0 ?_
  refine Lw 10 p (fun a=> ?_) fun a=> ?_
  ·refine Z0 ?_
   cases a
   exact Eg0 [0] 0
  refine Z0 ?_
  have ⟨M,q,s⟩:=bnd a
  refine Lk [] [1] (ka q) fun ⟨⟩=> ?_
  refine Z0 ?_
  cases s
  exact Eg0 [0] 0
 refine Tb n (fun b=> ?_) fun b=> ?_
 ·refine Z1 ?_
  cases b
  exact Eo1 () [] []
 refine Z2 ?_
 have ⟨c,t,i⟩:=bnd b
 refine Tj (η:=Unit×Unit) (fun h=>c = .inl h.1) (fun _=>[]) [] (fun _=>[]) [0] (fun _=>[]) ?_ ?_
 ·refine Yl0 ?_
  refine Tq (η:=Unit) (fun j h=>[(18,.int .i64 j)]) [1,16,17] (fun _ _=>[]) [0] (fun _ _=>[]) () [0] [] t ?_
  rintro k_ j ⟨⟩ u v w k
  refine Y2 ?_
  refine Tb v (fun d=> ?_) fun d=> ?_
  ·refine Z1 ?_
   refine Zl ?_
   refine Z1 ?_
   have ⟨N,e,x⟩:=bnd d
   refine L.addr 0 rfl (cX e) fun O P y=> ?_
   subst y
   refine Ly (Yl.ia e rfl rfl rfl rfl rfl rfl) ?_
   refine L.el 0 rfl (bD e).2 ?_
   rintro ⟨Q,R⟩
   refine Lc 0 0 ?_
   refine Ll fun S=> ?_
   refine Lt 0 ?_
   refine Y1 ?_
   have ⟨z,A,B⟩:=bnd x
   refine Tj0 [(32,.bool z)] [1,16,17,18] [] [0,1] ?_ ?_
   ·refine Z0 ?_
    refine Lw 28 A (fun f=> ?_) fun f=> ?_
    ·refine Z0 ?_
     cases f
     exact Eg0 [0,0] 0
    refine Z0 ?_
    have ⟨U,C,F⟩:=bnd f
    refine Lk [] [1] (kd C) fun ⟨⟩=> ?_
    refine Z0 ?_
    cases F
    exact Eg0 [0,0] 0
   refine Tb B (fun g=> ?_) fun g=> ?_
   ·refine Z1 ?_
    obtain ⟨V,hz,I⟩:=fI g
    subst u
    have hb:=k _ rfl
    subst c
    obtain rfl:=(sm i).symm
    refine Z0 ?_
    cases I
    exact Eo1 () [] []
   refine Z0 ?_
   cases g
   exact Eg (_,()) (w _ rfl) [1] [] 2
  refine Z0 ?_
  cases d
  have hb:=k _ rfl
  subst c
  exact Eg (_,()) rfl [0] [] 0
 rintro ⟨W,⟨⟩⟩ hy
 subst hy
 refine Z1 ?_
 cases i
 exact Eo1 () [] []
theorem lP {o:cE} {l:List ByteArray} {r:cE} (H:gn o l=some r):CT G 33 [.pointer (some ⟨N0,0,none⟩),.slice A1 l.length C1] [Ch.box N0 76 [.slice A0 o.b.length C0],Ch.arr (Ty.int .u8) 5 A0 C0 o.b] [Im.sl Ty.str A1 C1 l] (fun h:(Option Addr×Nat)=> .pointer (some ⟨N0,0,none⟩)) (fun h=>[Ch.box N0 76 [.slice h.1 r.b.length h.2],Ch.arr (Ty.int .u8) 5 h.1 h.2 r.b]) (fun h=>[]):=by
 delta gn at H
 refine Cf Go.Proofs.Tryz.func33 fun K=> ?_
 refine Z3 ?_
 have ⟨g,k,m⟩:=bnd H
 refine Tjh (η:=(Option Addr×Nat)) (fun _=>[]) [0] (fun h=>(fun e f=>[Ch.arr (Ty.int .u8) 5 e f g.b,Ch.box N0 76 [.slice e g.b.length f]]) h.1 h.2) [] (fun _=>[]) ?_ ?_
 ·refine Yl0 ?_
  refine Tq (η:=(Option Addr×Nat)) (fun a h=>(fun c d=>[(9,.int .i64 a.2)]) h.1 h.2) [0,7,8] (fun a h=>(fun c d=>[Ch.arr (Ty.int .u8) 5 c d a.1.b,Ch.box N0 76 [.slice c a.1.b.length d]]) h.1 h.2) [] (fun _ _=>[]) (A0,C0) [1,0] [] k ?_
  rintro k_ a ⟨c,d⟩ y n p q
  refine Y2 ?_
  refine Tb n (fun i=> ?_) fun i=> ?_
  ·refine Z1 ?_
   refine Zl ?_
   refine Z1 ?_
   have ⟨z,j,s⟩:=bnd i
   refine L.addr 0 rfl (cX j) fun A B t=> ?_
   subst t
   refine Ly (Yl.ia j rfl rfl rfl rfl rfl rfl) ?_
   refine L.el 0 rfl (bD j).2 ?_
   rintro _
   refine Lc 0 0 ?_
   refine Z0 ?_
   have ⟨_,u,v⟩:=bnd s
   refine La [0] [] (Ac.aps u rfl rfl rfl rfl rfl rfl rfl rfl rfl LK) ?_
   rintro ⟨w,x⟩
   refine Z0 ?_
   refine Lt 1 ?_
   refine Z0 ?_
   cases v
   exact Eg (_,(w,x)) (p _ rfl) [1,0] [] 1
  refine Z0 ?_
  cases i
  have hb:=q _ rfl
  subst g
  exact Eg (c,d) trivial [0,0] [] 0
 rintro ⟨e,f⟩
 refine Z1 ?_
 cases m
 exact Eo1 (e,f) [1,0] []
theorem qH {o:cE} {l:List ByteArray} {r:cE} (H:jS o l=some r):CT G 32 [.pointer (some ⟨N0,0,none⟩),.slice A1 l.length C1] [Ch.box N0 76 [.slice A0 o.b.length C0],Ch.arr (Ty.int .u8) 5 A0 C0 o.b] [Im.sl Ty.str A1 C1 l] (fun h:(Option Addr×Nat)=> .pointer (some ⟨N0,0,none⟩)) (fun h=>[Ch.box N0 76 [.slice h.1 r.b.length h.2],Ch.arr (Ty.int .u8) 5 h.1 h.2 r.b]) (fun h=>[]):=by
 delta jS at H
 refine Cf Go.Proofs.Tryz.func32 fun K=> ?_
 refine Z3 ?_
 have ⟨g,m,n⟩:=bnd H
 refine Tjh (η:=(Option Addr×Nat)) (fun _=>[]) [0] (fun h=>(fun e f=>[Ch.arr (Ty.int .u8) 5 e f g.b,Ch.box N0 76 [.slice e g.b.length f]]) h.1 h.2) [] (fun _=>[]) ?_ ?_
 ·refine Yl0 ?_
  refine Tq (η:=(Option Addr×Nat)) (fun a h=>(fun c d=>[(9,.int .i64 a.2)]) h.1 h.2) [0,7,8] (fun a h=>(fun c d=>[Ch.arr (Ty.int .u8) 5 c d a.1.b,Ch.box N0 76 [.slice c a.1.b.length d]]) h.1 h.2) [] (fun _ _=>[]) (A0,C0) [1,0] [] m ?_
  rintro k_ a ⟨c,d⟩ B p q s
  refine Y2 ?_
  refine Tb p (fun i=> ?_) fun i=> ?_
  ·refine Z1 ?_
   refine Zl ?_
   refine Z1 ?_
   have ⟨k,j,t⟩:=bnd i
   refine L.addr 0 rfl (cX j) fun C F u=> ?_
   subst u
   refine Ly (Yl.ia j rfl rfl rfl rfl rfl rfl) ?_
   refine L.el 0 rfl (bD j).2 ?_
   rintro _
   refine Lc 0 0 ?_
   refine Z0 ?_
   refine La [] [] (Ac.bs (ty:=(Ty.int .i64)) (xs:=[(k.size:Int)]) (.cons () [] rfl .nil) rfl rfl rfl rfl rfl rfl rfl) fun I=> ?_
   refine L.frz 0 rfl ?_
   have ⟨J,v,w⟩:=bnd t
   refine Lk [1,0] [0] (fP v) fun ⟨M,N⟩=> ?_
   refine Z0 ?_
   refine La [] [] (Ac.bs (ty:=Ty.str) (xs:=[k]) (.cons () [] rfl .nil) rfl rfl rfl rfl rfl rfl rfl) fun O=> ?_
   refine L.frz 0 rfl ?_
   have ⟨P,x,y⟩:=bnd w
   refine Lk [0,0] [0] (lP x) fun ⟨z,A⟩=> ?_
   refine Z0 ?_
   cases y
   exact Eg (_,(z,A)) (q _ rfl) [1,0] [] 3
  refine Z0 ?_
  cases i
  have hb:=s _ rfl
  subst g
  exact Eg (c,d) trivial [0,0] [] 0
 rintro ⟨e,f⟩
 refine Z1 ?_
 cases n
 exact Eo1 (e,f) [1,0] []
theorem BI {is:Bool} {r:Int} (H:o7 is=some r):CT G 79 [.bool is] [] [] (fun _:Unit=> .int .i64 r) (fun h=>[]) (fun h=>[]):=by
 delta o7 at H
 refine Cf Go.Proofs.Tryz.func79 fun K=> ?_
 refine Z3 ?_
 refine Tb H (fun H2=> ?_) fun H2=> ?_
 ·refine Z1 ?_
  cases H2
  exact Eo1 () [] []
 refine Z1 ?_
 cases H2
 exact Eo1 () [] []
theorem AB {l:List aG} {r:(List aG)} (H:nX l=some r):CT G 80 [.slice A0 l.length C0] [] [Im.sl aT A0 C0 l] (fun h:Nat=> .func (.func 108) #[] #[.pointer (some ⟨h,0,none⟩)]) (fun h=>[Ch.box h 69 [.slice A0 r.length C0]]) (fun h=>[Im.sl aT A0 C0 r]):=by
 delta nX at H
 refine Cf Go.Proofs.Tryz.func80 fun K=> ?_
 refine Z1 ?_
 refine Lx fun g1=> ?_
 refine Z1 ?_
 cases H
 exact Eo1 g1 [0] [0]
theorem xe {σ η:Type} {Y:σ→(Int×aG)→Option (σ×Bool)} {y0:σ} {x1:List aG} {yl:Nat} {C:σ→η→Ch} (hY: ∀ s (h:η) (x:Int×aG) (t:Unit) z,Y s x=some z→YT G yl [.int .i64 x.1,.agg #[.int .i32 x.2.rune,.int .i64 x.2.aP,.int .i64 x.2.part]] [C s h] [] (fun _:η=> .bool z.2) (fun h2=>[C z.1 h2]) (fun _=>[])) (h0:η) (g_1:Nat) (a_1_0:Option Addr) (c_1_0:Nat) {r:σ×(List aG)} (H:mS Y y0 x1=some r):CT G 108 [.func (.yield yl) #[] #[],.pointer (some ⟨g_1,0,none⟩)] [C y0 h0,Ch.box g_1 69 [.slice a_1_0 x1.length c_1_0]] [Im.sl aT a_1_0 c_1_0 x1] (fun h:η×(Option Addr×Nat)=> .tuple #[]) (fun h=>[C r.1 h.1,Ch.box g_1 69 [.slice h.2.1 r.2.length h.2.2]]) (fun h=>[Im.sl aT h.2.1 h.2.2 r.2]):=by
  delta mS at H
  refine Cf Go.Proofs.Tryz.func108 fun K=> ?_
  have ⟨j,B,q⟩:=bnd H
  refine T.uH (η:=((List aG)×σ)×((Option Addr×Nat)×η)) (fun h=>j = .inl h.1) (fun h=>(fun a=>(fun b c e=>[]) h.2.1.1 h.2.1.2 h.2.2) h.1) (fun h=>(fun a=>(fun b c e=>[C a.2 e,Ch.box g_1 69 [.slice b a.1.length c]]) h.2.1.1 h.2.1.2 h.2.2) h.1) (fun h=>(fun a=>(fun b c e=>[Im.sl aT b c a.1,Im.sl aT a_1_0 c_1_0 x1]) h.2.1.1 h.2.1.2 h.2.2) h.1) ?_ ?_
  ·refine Yl0 ?_
   refine Tq (η:=(Option Addr×Nat)×η) (fun _ _=>[]) [0,1] (fun f h=>(fun g d i=>[C f.2 i,Ch.box g_1 69 [.slice g f.1.length d]]) h.1.1 h.1.2 h.2) [] (fun f h=>(fun g d i=>[Im.sl aT g d f.1]) h.1.1 h.1.2 h.2) ((a_1_0,c_1_0),h0) [0,0] [0] B ?_
   rintro k_ f ⟨⟨g,d⟩,i⟩ F I J u
   refine Z2 ?_
   refine Tb I (fun k=> ?_) fun k=> ?_
   ·refine Zl ?_
    refine Y2 ?_
    have ⟨v,M,N⟩:=bnd k
    refine Tj0 [(3,.int .i64 v)] [0,1] [] [0,1] ?_ ?_
    ·refine Yl0 ?_
     refine Tq (η:=Unit) (fun w h=>[(3,.int .i64 w)]) [0,1] (fun _ _=>[]) [0,1] (fun _ _=>[]) () [0,0] [] M ?_
     rintro k_ w ⟨⟩ ak O P Q
     refine Y2 ?_
     have ⟨R,S,U⟩:=bnd O
     refine Tj0 [(20,.bool R)] [0,1,3] [] [0,1] ?_ ?_
     ·refine Td [] [0,0] mo ?_
      refine Dq 0 ?_
      refine Db 1 1 ?_
      refine Dq 2 ?_
      refine Dq 3 ?_
      refine Dq 4 ?_
      refine D.cs 11 S rfl (fun hc l=> ?_) (fun hc l=> ?_)
      ·refine Db 5 1 ?_
       refine Dq 6 ?_
       have ⟨al,m,V⟩:=bnd l
       refine D.addr 0 rfl (cX m) fun am an W=> ?_
       subst W
       refine Dy 7 (Yl.ia m rfl rfl rfl rfl rfl rfl) ?_
       refine D.el 0 rfl (bD m).2 ?_
       rintro _
       refine Dy 8 (Yl.ldc 0 0 rfl rfl rfl rfl) ?_
       refine Db 9 1 ?_
       have ⟨ao,y,X⟩:=bnd V
       refine Dy 10 (Yl.ia y rfl rfl rfl rfl rfl rfl) ?_
       refine D.el 1 rfl (bD y).2 ?_
       rintro _
       refine Dy 11 (Yl.ldc 0 0 rfl rfl rfl rfl) ?_
       refine Dq 12 ?_
       refine Dq 13 ?_
       refine Dn ?_
       cases X
       exact Eg0 [0,0] 2
      refine Ds 5 ?_
      refine Ds 6 ?_
      refine Ds 7 ?_
      refine Ds 8 ?_
      refine Ds 9 ?_
      refine Ds 10 ?_
      refine Ds 11 ?_
      refine Ds 12 ?_
      refine Dq 13 ?_
      refine Dn ?_
      cases l
      exact Eg0 [0,0] 0
     refine Tb U (fun n=> ?_) fun n=> ?_
     ·refine Zl ?_
      cases n
      exact Eg (_,()) (P _ rfl) [0,0] [] 0
     refine Z0 ?_
     cases n
     have hb:=Q _ rfl
     subst v
     exact Eg0 [0,0] 0
    refine Z2 ?_
    have ⟨ap,o,Z⟩:=bnd N
    refine L.addr 0 rfl (cX o) fun aa ab ac=> ?_
    subst ac
    refine Ly (Yl.ia o rfl rfl rfl rfl rfl rfl) ?_
    refine L.el 0 rfl (bD o).2 ?_
    rintro _
    refine Lc 0 0 ?_
    have ⟨aq,ad,ae⟩:=bnd Z
    refine L.yd [0] [] (hY _ _ _ () _ ad) rfl rfl rfl rfl rfl rfl rfl rfl ?_
    intro A
    refine Z0 ?_
    refine Tb ae (fun p=> ?_) fun p=> ?_
    ·refine Z0 ?_
     obtain ⟨ar,hz,af⟩:=fI p
     subst F
     have hb:=u _ rfl
     subst j
     obtain rfl:=(sm q).symm
     refine Z0 ?_
     cases af
     exact Eo (A,((some ⟨aa,ab,none⟩),d)) [0,0] [1] .nil
    refine Z0 ?_
    have ⟨_,ag,ah⟩:=bnd p
    refine L.rs 1 ag rfl rfl rfl rfl rfl rfl rfl rfl rfl rfl rfl rfl ?_
    intro ai aj
    refine Lt 1 ?_
    refine Z0 ?_
    cases ah
    exact Eg (_,((ai,aj),A)) (J _ rfl) [1,0] [0] 3
   refine Z0 ?_
   cases k
   have hb:=u _ rfl
   subst j
   exact Egx (_,((g,d),i)) rfl [0,0] [0,1]
  rintro ⟨a,⟨⟨b,c⟩,e⟩⟩ hy
  subst hy
  refine E.off ?_
  cases q
  exact Eo (e,(b,c)) [0,0] [0] .nil
theorem qI {r_:aE} {r:ByteArray} (H:jb r_=some r):CT G 35 [.agg #[.slice A0 r_.cells.length C0,.bool r_.wrapped]] [] [Im.sl aT A0 C0 r_.cells] (fun _:Unit=> .string r) (fun h=>[]) (fun h=>[]):=by
 delta jb at H
 refine Cf Go.Proofs.Tryz.func35 fun K=> ?_
 refine T.y3 ?_
 refine Z1 ?_
 refine Lx fun g1=> ?_
 refine Z1 ?_
 refine Ll fun g2=> ?_
 refine Z1 ?_
 have ⟨r3,h4,H5⟩:=bnd H
 refine Lk [] [] (BI h4) fun ⟨⟩=> ?_
 refine La [] [] (Ac.bs (ty:=(Ty.int .i64)) (xs:=[r3]) (.cons () [] rfl .nil) rfl rfl rfl rfl rfl rfl rfl) fun g6=> ?_
 refine L.iM (Ty.int .u8) 5 ?_
 refine L.frz 1 rfl ?_
 have ⟨B,f,g⟩:=bnd H5
 refine Lk [1,0] [0] (fP f) fun ⟨i,j⟩=> ?_
 refine Z2 ?_
 have ⟨k,l,m⟩:=bnd g
 refine Lk [] [1] (AB l) fun n=> ?_
 refine Yl0 ?_
 have ⟨o,p,q⟩:=bnd m
 refine T.rf2 (σ:=cE) (η:=(Option Addr×Nat)) (X:=Int×aG) (θ:=Unit) (τ:=(Option Addr×Nat)×(Option Addr×Nat)) (s1:=o.1) (hx:=fun x=>x.1) (fun x t=>[.int .i64 x.1,.agg #[.int .i32 x.2.rune,.int .i64 x.2.aP,.int .i64 x.2.part]]) (fun x t=>[]) (fun _=>none) (fun a h=>(fun c d=>[Ch.arr (Ty.int .u8) 5 c d a.b,Ch.box g2 76 [.slice c a.b.length d],Ch.box g1 71 [.slice A0 r_.cells.length C0,.bool r_.wrapped]]) h.1 h.2) (fun a h=>(fun c d=>[Im.sl aT A0 C0 k,Im.sl (Ty.int .i64) (some ⟨g6,0,none⟩) 1 [r3],Im.sl aT A0 C0 r_.cells]) h.1 h.2) 4 [2,1,1,0] [0,1,2] [0] rfl rfl (fun _ _=>rfl) rfl (fun yl C hY=>(xe hY (i,j) n A0 C0 p:_)) (fun _ _ _ _=>rfl) rfl rfl rfl rfl rfl ?_ rfl ?_
 ·rintro yl K2 a ⟨c,d⟩ e ⟨⟩ F s
  refine Z1 ?_
  refine Ll fun I=> ?_
  refine Lt 0 ?_
  refine Z0 ?_
  refine E.begin fun K3=> ?_
  refine Zl ?_
  refine La [] [] (Ac.bs (ty:=(Ty.int .i64)) (xs:=[e.1,(IntKind.i64.wrap e.2.rune),e.2.aP,e.2.part]) (.cons () [] rfl (.cons () [] rfl (.cons () [] rfl (.cons () [] rfl .nil)))) rfl rfl rfl rfl rfl rfl rfl) fun J=> ?_
  refine L.frz 0 rfl ?_
  have ⟨M,u,v⟩:=bnd s
  refine Lk [2,1] [0] (fP u) fun ⟨w,y⟩=> ?_
  refine Z0 ?_
  cases v
  exact E.on (w,y) [1,0,1] [1,2,3] rfl rfl rfl rfl
 rintro ⟨N,⟨O,P⟩⟩ Q
 refine Z1 ?_
 have ⟨R,z,A⟩:=bnd q
 refine Lk [2,1] [] (lV z) fun ⟨⟩=> ?_
 refine Z0 ?_
 cases A
 exact E.y4 () 2 [] [] rfl (.tmp rfl .nil) rfl rfl rfl
theorem mQ {s_:aM} {r:ByteArray} (H:gL s_=some r):CT G 9 [.agg (iQ s_ A0 C0 A1 C1).toArray] [] [Im.sl aD A0 C0 s_.rows,Im.sl aJ A1 C1 s_.begun] (fun _:Unit=> .string r) (fun h=>[]) (fun h=>[]):=by
 delta gL at H
 refine Cf Go.Proofs.Tryz.func9 fun K=> ?_
 refine Z1 ?_
 refine Lx fun g1=> ?_
 refine Y2 ?_
 have ⟨p,q,s⟩:=bnd H
 refine Tj0 [(12,.bool p)] [1] [] [0] ?_ ?_
 ·refine Z0 ?_
  have ⟨al,t,u⟩:=bnd q
  refine Lk [] [0,1] (mz t) fun ⟨⟩=> ?_
  refine Z0 ?_
  refine Lw 8 u (fun f=> ?_) fun f=> ?_
  ·refine Z0 ?_
   cases f
   exact Eg0 [0] 0
  refine Z0 ?_
  have ⟨am,v,z⟩:=bnd f
  refine Lk [] [0,1] (kS v) fun ⟨⟩=> ?_
  refine Z0 ?_
  cases z
  exact Eg0 [0] 0
 refine Tb s (fun g=> ?_) fun g=> ?_
 ·refine Z1 ?_
  cases g
  exact Eo1 () [] []
 refine Z1 ?_
 refine Ll fun o=> ?_
 refine Y1 ?_
 refine Td [] [1] mo ?_
 refine Dq 0 ?_
 refine Db 1 0 ?_
 refine Dq 2 ?_
 refine Db 3 0 ?_
 refine Dq 4 ?_
 refine Db 5 0 ?_
 refine Dq 6 ?_
 refine Db 7 0 ?_
 refine Dq 8 ?_
 refine Db 9 0 ?_
 refine Dq 12 ?_
 refine Db 13 0 ?_
 refine Dq 16 ?_
 refine Db 17 0 ?_
 refine Dq 18 ?_
 refine Db 19 0 ?_
 refine Dq 22 ?_
 refine Db 23 0 ?_
 refine DF.of rfl ?_
 refine DF.add _ (FSp.ac 10 [] (Ac.frz (Ac.bs (ty:=(Ty.int .i64)) (xs:=[s_.k,s_.w,s_.h,s_.x,s_.y]) (.cons () [] rfl (.cons () [] rfl (.cons () [] rfl (.cons () [] rfl (.cons () [] rfl .nil))))) rfl rfl rfl rfl rfl rfl rfl)) rfl rfl rfl rfl rfl) rfl ?_
 refine DF.add _ (FSp.ac 14 [] (Ac.frz (Ac.bs (ty:=Ty.str) (xs:=[s_.title]) (.cons () [] rfl .nil) rfl rfl rfl rfl rfl rfl rfl)) rfl rfl rfl rfl rfl) rfl ?_
 refine DF.add _ (FSp.ac 20 [] (Ac.frz (Ac.bs (ty:=(Ty.int .i64)) (xs:=[s_.len,s_.chain]) (.cons () [] rfl (.cons () [] rfl .nil)) rfl rfl rfl rfl rfl rfl rfl)) rfl rfl rfl rfl rfl) rfl ?_
 refine DF.step 11 rfl rfl rfl rfl rfl ?_
 refine DFp.use 2 rfl rfl rfl ?_
 intro an
 refine DFp.iM (Ty.int .u8) 5 ?_
 have ⟨ao,A,B⟩:=bnd g
 refine DFp.a [1,0] [0] (Ac.call (fP A) rfl rfl rfl rfl) rfl rfl rfl rfl rfl rfl rfl rfl ?_
 rintro ⟨ap,aq⟩
 refine DF.step 15 rfl rfl rfl rfl rfl ?_
 refine DFp.use 1 rfl rfl rfl ?_
 intro ar
 have ⟨au,C,F⟩:=bnd B
 refine DFp.a [0,0] [0] (Ac.call (qH C) rfl rfl rfl rfl) rfl rfl rfl rfl rfl rfl rfl rfl ?_
 rintro ⟨av,aw⟩
 refine DF.step 21 rfl rfl rfl rfl rfl ?_
 refine DFp.use 0 rfl rfl rfl ?_
 intro ax
 have ⟨ay,I,J⟩:=bnd F
 refine DFp.a [0,0] [0] (Ac.call (fP I) rfl rfl rfl rfl) rfl rfl rfl rfl rfl rfl rfl rfl ?_
 rintro ⟨az,a0⟩
 have ⟨M,N,O⟩:=bnd J
 refine DF.add _ (FSp.ac 24 [4] (Ac.call (qp N) rfl rfl rfl rfl) rfl rfl rfl rfl rfl) rfl ?_
 refine DF.add _ (FSp.dep 0 rfl rfl fun ⟨⟩=>FSp.ac 25 [] (Ac.frz (Ac.bs (ty:=Ty.str) (xs:=[M]) (.cons () [] rfl .nil) rfl rfl rfl rfl rfl rfl rfl)) rfl rfl rfl rfl rfl) rfl ?_
 refine DF.step 26 rfl rfl rfl rfl rfl ?_
 refine DFp.use 0 rfl rfl rfl ?_
 intro a1
 refine DFp.use 0 rfl rfl rfl ?_
 rintro ⟨⟩
 have ⟨a2,P,Q⟩:=bnd O
 refine DFp.a [0,0] [0] (Ac.call (lP P) rfl rfl rfl rfl) rfl rfl rfl rfl rfl rfl rfl rfl ?_
 rintro ⟨R,S⟩
 refine DF.fin rfl rfl rfl rfl rfl ?_
 refine DFe.nil ?_
 refine Z2 ?_
 have ⟨i,U,V⟩:=bnd Q
 refine Tjh (η:=(Option Addr×Nat)) (fun _=>[]) [3] (fun h=>(fun j l=>[Ch.arr (Ty.int .u8) 5 j l i.b,Ch.box o 76 [.slice j i.b.length l]]) h.1 h.2) [0] (fun _=>[]) ?_ ?_
 ·refine Yl0 ?_
  refine Tq (η:=(Option Addr×Nat)) (fun c h=>(fun d e=>[(43,.int .i64 c.2)]) h.1 h.2) [3,41,42] (fun c h=>(fun d e=>[Ch.arr (Ty.int .u8) 5 d e c.1.b,Ch.box o 76 [.slice d c.1.b.length e]]) h.1 h.2) [0] (fun _ _=>[]) (R,S) [2,1,0] [] U ?_
  rintro k_ c ⟨d,e⟩ a3 W X Y
  refine Y2 ?_
  refine Tb W (fun m=> ?_) fun m=> ?_
  ·refine Z1 ?_
   refine Zl ?_
   refine Z1 ?_
   have ⟨a4,n,Z⟩:=bnd m
   refine L.addr 4 rfl (cX n) fun a5 a6 aa=> ?_
   subst aa
   refine Ly (Yl.ia n rfl rfl rfl rfl rfl rfl) ?_
   refine L.el 4 rfl (bD n).2 ?_
   rintro ⟨a7,a8⟩
   refine Lc 0 0 ?_
   refine Ll fun a9=> ?_
   refine Lt 0 ?_
   refine Z0 ?_
   have ⟨ab,ad,ae⟩:=bnd Z
   refine Lk [] [1] (qI ad) fun ⟨⟩=> ?_
   refine La [] [] (Ac.bs (ty:=Ty.str) (xs:=[ab]) (.cons () [] rfl .nil) rfl rfl rfl rfl rfl rfl rfl) fun ba=> ?_
   refine L.frz 0 rfl ?_
   have ⟨bb,af,ag⟩:=bnd ae
   refine Lk [2,1] [0] (lP af) fun ⟨ah,ai⟩=> ?_
   refine Z0 ?_
   cases ag
   exact Eg (_,(ah,ai)) (X _ rfl) [1,0,1] [] 3
  refine Z0 ?_
  cases m
  have hb:=Y _ rfl
  subst i
  exact Eg (d,e) trivial [0,0,0] [] 0
 rintro ⟨j,l⟩
 refine Z1 ?_
 have ⟨bc,aj,ak⟩:=bnd V
 refine Lk [1,0] [] (lV aj) fun ⟨⟩=> ?_
 refine Z0 ?_
 cases ak
 exact Eo1 () [] []
theorem AD {s_:ByteArray} {r:aU} (H:ow s_=some r):CT G 21 [.string s_] [] [] (fun h:Nat=> .pointer (some ⟨h,0,none⟩)) (fun h=>[Ch.box h 126 [.string r.s,.int .i64 r.e]]) (fun h=>[]):=by
 delta ow at H
 refine Cf Go.Proofs.Tryz.func21 fun K=> ?_
 refine Z2 ?_
 refine Lx fun g1=> ?_
 refine Z0 ?_
 cases H
 exact Eo1 g1 [0] []
theorem fA {in_:aU} {e:Int} {r:aU} (H:bV in_ e=some r):CT G 66 [.pointer (some ⟨N0,0,none⟩),.int .i64 e] [Ch.box N0 126 [.string in_.s,.int .i64 in_.e]] [] (fun _:Unit=> .tuple #[]) (fun h=>[Ch.box N0 126 [.string r.s,.int .i64 r.e]]) (fun h=>[]):=by
 delta bV at H
 refine Cf Go.Proofs.Tryz.func66 fun K=> ?_
 refine Y1 ?_
 have ⟨e4,H5,H6⟩:=bnd H
 refine Tj0 [(12,.bool e4)] [0,1] [] [0] ?_ ?_
 ·refine Z0 ?_
  refine Lw 9 H5 (fun H7=> ?_) fun H7=> ?_
  ·refine Z0 ?_
   cases H7
   exact Eg0 [0] 0
  refine Z0 ?_
  cases H7
  exact Eg0 [0] 0
 refine Tb H6 (fun H8=> ?_) fun H8=> ?_
 ·refine Z0 ?_
  refine Lt 0 ?_
  refine Z0 ?_
  refine Lt 0 ?_
  refine Ln (E.off ?_)
  cases H8
  exact Eo () [0] [] .nil
 refine Tk (E.off ?_)
 cases H8
 exact Eo () [0] [] .nil
theorem cW {in_:aU} {r:Int×aU} (H:bH in_=some r):CT G 22 [.pointer (some ⟨N0,0,none⟩)] [Ch.box N0 126 [.string in_.s,.int .i64 in_.e]] [] (fun _:Unit=> .int .i64 r.1) (fun h=>[Ch.box N0 126 [.string r.2.s,.int .i64 r.2.e]]) (fun h=>[]):=by
 delta bH at H
 refine Cf Go.Proofs.Tryz.func22 fun K=> ?_
 refine Z3 ?_
 refine Z1 ?_
 have ⟨a,o,b⟩:=bnd H
 refine Tj (η:=Unit×Unit) (fun h=>a = .inl h.1) (fun _=>[]) [0] (fun _=>[]) [0] (fun _=>[]) ?_ ?_
 ·refine Yl0 ?_
  refine Tq (η:=Unit) (fun c h=>[(3,.int .i64 c.2),(12,.int .i64 c.1)]) [0,11] (fun _ _=>[]) [0] (fun _ _=>[]) () [0] [] o ?_
  rintro k_ c ⟨⟩ m p q d
  refine Y2 ?_
  refine Tb p (fun f=> ?_) fun f=> ?_
  ·refine Z1 ?_
   refine Zl ?_
   refine Z2 ?_
   have ⟨S,t,u⟩:=bnd f
   refine Ly (Yl.si t rfl rfl rfl rfl rfl) ?_
   refine Z1 ?_
   have ⟨_,v,w⟩:=bnd u
   refine Ly (Yl.shl (nb:=64) rfl v rfl rfl rfl) ?_
   refine Z2 ?_
   refine Tb w (fun g=> ?_) fun g=> ?_
   ·refine Z0 ?_
    cases g
    exact Eg (_,()) (q _ rfl) [0] [] 0
   refine Y2 ?_
   have ⟨x,y,z⟩:=bnd g
   refine Tj0 [(40,.bool x)] [0,3,4] [] [0] ?_ ?_
   ·refine Z0 ?_
    refine Lw 33 y (fun i=> ?_) fun i=> ?_
    ·refine Z0 ?_
     refine Lw 37 i (fun j=> ?_) fun j=> ?_
     ·refine Z0 ?_
      cases j
      exact Eg0 [0] 0
     refine Z0 ?_
     cases j
     exact Eg0 [0] 0
    refine Z0 ?_
    cases i
    exact Eg0 [0] 0
   refine Tb z (fun k=> ?_) fun k=> ?_
   ·refine Z1 ?_
    have ⟨U,A,B⟩:=bnd k
    refine Lk [0] [] (fA A) fun ⟨⟩=> ?_
    refine Z1 ?_
    obtain ⟨V,hz,C⟩:=fI B
    subst m
    have hb:=d _ rfl
    subst a
    obtain rfl:=(sm b).symm
    refine Z0 ?_
    cases C
    exact Eo1 () [0] []
   refine Z1 ?_
   have ⟨_,F,I⟩:=bnd k
   refine Ly (Yl.sc F rfl rfl rfl rfl rfl rfl) ?_
   refine Z0 ?_
   refine Lt 0 ?_
   refine Z1 ?_
   obtain ⟨W,hz,J⟩:=fI I
   subst m
   have hb:=d _ rfl
   subst a
   obtain rfl:=(sm b).symm
   refine Z0 ?_
   cases J
   exact Eo1 () [0] []
  refine Z0 ?_
  cases f
  have hb:=d _ rfl
  subst a
  exact Eg (_,()) rfl [0] [] 0
 rintro ⟨X,⟨⟩⟩ hy
 subst hy
 refine Z2 ?_
 have ⟨n,M,N⟩:=bnd b
 refine Tj0 [] [0] [Ch.box N0 126 [.string n.s,.int .i64 n.e]] [] ?_ ?_
 ·refine Tb M (fun l=> ?_) fun l=> ?_
  ·refine Z0 ?_
   have ⟨Y,O,P⟩:=bnd l
   refine Lk [0] [] (fA O) fun ⟨⟩=> ?_
   refine Z0 ?_
   cases P
   exact Eg0 [0] 0
  refine Z0 ?_
  cases l
  exact Eg0 [0] 0
 refine Z1 ?_
 have ⟨Z,Q,R⟩:=bnd N
 refine Lk [0] [] (fA Q) fun ⟨⟩=> ?_
 refine Z1 ?_
 cases R
 exact Eo1 () [0] []
theorem uT {in_:aU} {r:Int×aU} (H:kg in_=some r):CT G 23 [.pointer (some ⟨N0,0,none⟩)] [Ch.box N0 126 [.string in_.s,.int .i64 in_.e]] [] (fun _:Unit=> .int .i64 r.1) (fun h=>[Ch.box N0 126 [.string r.2.s,.int .i64 r.2.e]]) (fun h=>[]):=by
 delta kg at H
 refine Cf Go.Proofs.Tryz.func23 fun K=> ?_
 refine Z2 ?_
 have ⟨r1,h2,H3⟩:=bnd H
 refine Lk [0] [] (cW h2) fun ⟨⟩=> ?_
 refine Z2 ?_
 refine Tb H3 (fun H8=> ?_) fun H8=> ?_
 ·refine Z1 ?_
  have ⟨r9,a,b⟩:=bnd H8
  refine Lk [0] [] (fA a) fun ⟨⟩=> ?_
  refine Z1 ?_
  cases b
  exact Eo1 () [0] []
 refine Z1 ?_
 cases H8
 exact Eo1 () [0] []
theorem yQ {in_:aU} {n_:Int} {r:ByteArray×aU} (H:mb in_ n_=some r):CT G 67 [.pointer (some ⟨N0,0,none⟩),.int .i64 n_] [Ch.box N0 126 [.string in_.s,.int .i64 in_.e]] [] (fun _:Unit=> .string r.1) (fun h=>[Ch.box N0 126 [.string r.2.s,.int .i64 r.2.e]]) (fun h=>[]):=by
 delta mb at H
 refine Cf Go.Proofs.Tryz.func67 fun K=> ?_
 refine Z3 ?_
 refine Z1 ?_
 refine Tb H (fun H5=> ?_) fun H5=> ?_
 ·refine Z1 ?_
  have ⟨r6,h7,H8⟩:=bnd H5
  refine Lk [0] [] (fA h7) fun ⟨⟩=> ?_
  refine Z1 ?_
  cases H8
  exact Eo1 () [0] []
 refine Z1 ?_
 have ⟨_,h9,a⟩:=bnd H5
 refine Ly (Yl.sc h9 rfl rfl rfl rfl rfl rfl) ?_
 refine Z1 ?_
 have ⟨_,b,c⟩:=bnd a
 refine Ly (Yl.sc b rfl rfl rfl rfl rfl rfl) ?_
 refine Z0 ?_
 refine Lt 0 ?_
 refine Z1 ?_
 cases c
 exact Eo1 () [0] []
theorem rT {in_:aU} {r:ByteArray×aU} (H:iR in_=some r):CT G 24 [.pointer (some ⟨N0,0,none⟩)] [Ch.box N0 126 [.string in_.s,.int .i64 in_.e]] [] (fun _:Unit=> .string r.1) (fun h=>[Ch.box N0 126 [.string r.2.s,.int .i64 r.2.e]]) (fun h=>[]):=by
 delta iR at H
 refine Cf Go.Proofs.Tryz.func24 fun K=> ?_
 refine Z2 ?_
 have ⟨r1,h2,H3⟩:=bnd H
 refine Lk [0] [] (cW h2) fun ⟨⟩=> ?_
 have ⟨r4,h5,H6⟩:=bnd H3
 refine Lk [0] [] (yQ h5) fun ⟨⟩=> ?_
 refine Z0 ?_
 cases H6
 exact Eo1 () [0] []
theorem nU {in_:aU} {most:Int} {r:Int×aU} (H:gv in_ most=some r):CT G 68 [.pointer (some ⟨N0,0,none⟩),.int .i64 most] [Ch.box N0 126 [.string in_.s,.int .i64 in_.e]] [] (fun _:Unit=> .int .i64 r.1) (fun h=>[Ch.box N0 126 [.string r.2.s,.int .i64 r.2.e]]) (fun h=>[]):=by
 delta gv at H
 refine Cf Go.Proofs.Tryz.func68 fun K=> ?_
 refine Z2 ?_
 have ⟨r1,h2,H3⟩:=bnd H
 refine Lk [0] [] (cW h2) fun ⟨⟩=> ?_
 refine Z2 ?_
 refine Tb H3 (fun H8=> ?_) fun H8=> ?_
 ·refine Z1 ?_
  have ⟨r9,a,b⟩:=bnd H8
  refine Lk [0] [] (fA a) fun ⟨⟩=> ?_
  refine Z1 ?_
  cases b
  exact Eo1 () [0] []
 refine Z1 ?_
 cases H8
 exact Eo1 () [0] []
theorem ly {in_:aU} {r:Int} (H:cM in_=some r):CT G 26 [.pointer (some ⟨N0,0,none⟩)] [Ch.box N0 126 [.string in_.s,.int .i64 in_.e]] [] (fun _:Unit=> .int .i64 r) (fun h=>[Ch.box N0 126 [.string in_.s,.int .i64 in_.e]]) (fun h=>[]):=by
 delta cM at H
 refine Cf Go.Proofs.Tryz.func26 fun K=> ?_
 refine Z2 ?_
 cases H
 exact Eo1 () [0] []
theorem uU {in_:aU} {r:(List aN)×aU} (H:kf in_=some r):CT G 25 [.pointer (some ⟨N0,0,none⟩)] [Ch.box N0 126 [.string in_.s,.int .i64 in_.e]] [] (fun h:(Option Addr×Nat)=> .slice h.1 r.1.length h.2) (fun h=>[Ch.arr aJ 87 h.1 h.2 r.1,Ch.box N0 126 [.string r.2.s,.int .i64 r.2.e]]) (fun h=>[]):=by
 delta kf at H
 refine Cf Go.Proofs.Tryz.func25 fun K=> ?_
 refine Z3 ?_
 refine Z1 ?_
 have ⟨r1,h2,H3⟩:=bnd H
 refine Lk [0] [] (nU h2) fun ⟨⟩=> ?_
 refine Z0 ?_
 have ⟨b,k,l⟩:=bnd H3
 refine Tjh (η:=(Option Addr×Nat)) (fun h=>(fun c d=>[(3,.slice c b.1.length d)]) h.1 h.2) [0] (fun h=>(fun c d=>[Ch.arr aJ 87 c d b.1,Ch.box N0 126 [.string b.2.s,.int .i64 b.2.e]]) h.1 h.2) [] (fun _=>[]) ?_ ?_
 ·refine Yl0 ?_
  refine T.iM aJ 87 ?_
  refine Tq (η:=(Option Addr×Nat)) (fun a h=>(fun f g=>[(3,.slice f a.2.1.length g),(6,.int .i64 a.2.2)]) h.1 h.2) [0,5] (fun a h=>(fun f g=>[Ch.arr aJ 87 f g a.2.1,Ch.box N0 126 [.string a.1.s,.int .i64 a.1.e]]) h.1 h.2) [] (fun _ _=>[]) (none,0) [0,0] [] k ?_
  rintro k_ a ⟨f,g⟩ F m n o
  refine Y2 ?_
  refine Tb m (fun i=> ?_) fun i=> ?_
  ·refine Z1 ?_
   refine Zl ?_
   have ⟨p,q,t⟩:=bnd i
   refine Lk [1] [] (nU q) fun ⟨⟩=> ?_
   refine Z0 ?_
   have ⟨u,v,w⟩:=bnd t
   refine Lk [0] [] (nU v) fun ⟨⟩=> ?_
   refine Z0 ?_
   refine La [] [] (Ac.bs (ty:=aJ) (xs:=[(aN.mk (IntKind.i32.wrap p.1) u.1)]) (.cons () [] rfl .nil) rfl rfl rfl rfl rfl rfl rfl) fun I=> ?_
   refine L.frz 0 rfl ?_
   have ⟨_,x,y⟩:=bnd w
   refine La [1] [0] (Ac.ap (ty:=aJ) x rfl rfl rfl rfl rfl rfl rfl) ?_
   rintro ⟨z,A⟩
   refine Z0 ?_
   cases y
   exact Eg (_,(z,A)) (n _ rfl) [0,0] [] 1
  refine Z0 ?_
  cases i
  have hb:=o _ rfl
  subst b
  exact Eg (f,g) trivial [0,0] [] 0
 rintro ⟨c,d⟩
 refine Z2 ?_
 have ⟨J,B,C⟩:=bnd l
 refine Lk [1] [] (ly B) fun ⟨⟩=> ?_
 refine Z0 ?_
 refine Tb C (fun j=> ?_) fun j=> ?_
 ·refine Z1 ?_
  refine E.iM aJ 87 ?_
  cases j
  exact Eo1 (none,0) [0,0] []
 refine Z1 ?_
 cases j
 exact Eo1 (c,d) [1,0] []
theorem BJ {in_:aU} {left:Int} {r:Int×aG×Bool×aU} (H:mK in_ left=some r):CT G 69 [.pointer (some ⟨N0,0,none⟩),.int .i64 left] [Ch.box N0 126 [.string in_.s,.int .i64 in_.e]] [] (fun _:Unit=> .tuple #[.int .i64 r.1,.agg #[.int .i32 r.2.1.rune,.int .i64 r.2.1.aP,.int .i64 r.2.1.part],.bool r.2.2.1]) (fun h=>[Ch.box N0 126 [.string r.2.2.2.s,.int .i64 r.2.2.2.e]]) (fun h=>[]):=by
 delta mK at H
 refine Cf Go.Proofs.Tryz.func69 fun K=> ?_
 refine Z1 ?_
 refine Ll fun g1=> ?_
 refine Z1 ?_
 have ⟨r2,h3,H4⟩:=bnd H
 refine Lk [1] [] (cW h3) fun ⟨⟩=> ?_
 refine Y2 ?_
 have ⟨e8,H9,n⟩:=bnd H4
 refine Tj0 [(19,.bool e8)] [0,5,7] [] [0,1] ?_ ?_
 ·refine Z0 ?_
  refine Lw 15 H9 (fun d=> ?_) fun d=> ?_
  ·refine Z0 ?_
   cases d
   exact Eg0 [0,0] 0
  refine Z0 ?_
  cases d
  exact Eg0 [0,0] 0
 have ⟨l,o,p⟩:=bnd n
 refine Tj0 [] [0,5,7] [Ch.box N0 126 [.string l.s,.int .i64 l.e]] [1] ?_ ?_
 ·refine Tb o (fun f=> ?_) fun f=> ?_
  ·refine Z0 ?_
   have ⟨V,q,t⟩:=bnd f
   refine Lk [0] [] (fA q) fun ⟨⟩=> ?_
   refine Z0 ?_
   cases t
   exact Eg0 [0,0] 0
  refine Z0 ?_
  cases f
  exact Eg0 [0,0] 0
 refine Z1 ?_
 refine Ll fun g=> ?_
 refine Lt 0 ?_
 refine Z2 ?_
 have ⟨b,u,v⟩:=bnd p
 refine Tj0 [] [0,5,7,8] [Ch.box g 162 [.int .i64 b.1.e0,.int .i64 b.1.e1,.int .i64 b.1.e2],Ch.box N0 126 [.string b.2.s,.int .i64 b.2.e]] [2] ?_ ?_
 ·refine Yl0 ?_
  refine Tq (η:=Unit) (fun a h=>[(24,.int .i64 a.2.2)]) [0,5,7,8,23] (fun a h=>[Ch.box g 162 [.int .i64 a.1.e0,.int .i64 a.1.e1,.int .i64 a.1.e2],Ch.box N0 126 [.string a.2.1.s,.int .i64 a.2.1.e]]) [2] (fun _ _=>[]) () [0,0,0] [] u ?_
  rintro k_ a ⟨⟩ W w x y
  refine Y2 ?_
  refine Tb w (fun i=> ?_) fun i=> ?_
  ·refine Y1 ?_
   have ⟨c,z,A⟩:=bnd i
   refine Tj0 [] [0,5,7,8,23,24] [Ch.box g 162 [.int .i64 c.1.e0,.int .i64 c.1.e1,.int .i64 c.1.e2],Ch.box N0 126 [.string c.2.s,.int .i64 c.2.e]] [2] ?_ ?_
   ·refine Zl ?_
    refine Z1 ?_
    have ⟨X,B,C⟩:=bnd z
    refine Ly (Yl.xa B rfl rfl rfl rfl rfl rfl rfl rfl rfl) ?_
    refine Z1 ?_
    have ⟨Y,F,I⟩:=bnd C
    refine Lk [1] [] (cW F) fun ⟨⟩=> ?_
    have ⟨_,m,J⟩:=bnd I
    refine Ly (Yl.xp m rfl rfl rfl rfl rfl rfl rfl) ?_
    refine La [1] [] (Ac.sx m [a.1.e0,a.1.e1,a.1.e2] rfl rfl rfl rfl rfl rfl rfl rfl) fun _=> ?_
    refine Z1 ?_
    have ⟨_,M,N⟩:=bnd J
    refine Ly (Yl.xp M rfl rfl rfl rfl rfl rfl rfl) ?_
    have ⟨Z,O,P⟩:=bnd N
    refine Ly (Yl.xl 0 O rfl rfl rfl rfl rfl rfl) ?_
    refine Z0 ?_
    refine Tb P (fun j=> ?_) fun j=> ?_
    ·refine Z0 ?_
     have ⟨aa,Q,R⟩:=bnd j
     refine Lk [1] [] (fA Q) fun ⟨⟩=> ?_
     refine Z0 ?_
     cases R
     exact Eg0 [1,0,0] 0
    refine Z0 ?_
    cases j
    exact Eg0 [0,0,0] 0
   refine Z0 ?_
   cases A
   exact Eg (_,()) (x _ rfl) [0,0,0] [] 0
  refine Z0 ?_
  cases i
  have hb:=y _ rfl
  subst b
  exact Eg0 [0,0,0] 0
 refine Z2 ?_
 have ⟨ab,S,U⟩:=bnd v
 refine Lk [1] [] (ly S) fun ⟨⟩=> ?_
 refine Z0 ?_
 refine Tb U (fun k=> ?_) fun k=> ?_
 ·refine Z1 ?_
  refine Lt 2 ?_
  refine Z0 ?_
  cases k
  exact Eo () [1] [] (.tmp rfl (.cell 0 rfl rfl rfl (.tmp rfl .nil)))
 refine Y1 ?_
 refine Td [10] [0,0,0] mo ?_
 refine Dq 0 ?_
 refine Dq 1 ?_
 refine Db 2 1 ?_
 refine Dq 3 ?_
 refine Dq 4 ?_
 refine Db 5 1 ?_
 refine Dq 6 ?_
 refine Db 7 1 ?_
 refine Dq 8 ?_
 refine Dq 9 ?_
 refine Dt 2 ?_
 refine Dq 11 ?_
 refine Dn ?_
 refine Z0 ?_
 cases k
 exact Eo () [1] [] (.tmp rfl (.cell 0 rfl rfl rfl (.tmp rfl .nil)))
theorem qJ {in_:aU} {w:Int} {r:aE×aU} (H:fO in_ w=some r):CT G 27 [.pointer (some ⟨N0,0,none⟩),.int .i64 w] [Ch.box N0 126 [.string in_.s,.int .i64 in_.e]] [] (fun h:(Option Addr×Nat)=> .agg #[.slice h.1 r.1.cells.length h.2,.bool r.1.wrapped]) (fun h=>[Ch.box N0 126 [.string r.2.s,.int .i64 r.2.e]]) (fun h=>[Im.sl aT h.1 h.2 r.1.cells]):=by
 delta fO at H
 refine Cf Go.Proofs.Tryz.func27 fun K=> ?_
 refine Z1 ?_
 refine Ll fun g1=> ?_
 refine Z1 ?_
 have ⟨r2,h3,H4⟩:=bnd H
 refine Lk [1] [] (cW h3) fun ⟨⟩=> ?_
 refine Z2 ?_
 have ⟨x,y,z⟩:=bnd H4
 refine Tj0 [] [0,1,4,5] [Ch.box N0 126 [.string x.s,.int .i64 x.e]] [1] ?_ ?_
 ·refine Tb y (fun j=> ?_) fun j=> ?_
  ·refine Z0 ?_
   have ⟨al,B,C⟩:=bnd j
   refine Lk [0] [] (fA B) fun ⟨⟩=> ?_
   refine Z0 ?_
   cases C
   exact Eg0 [0,0] 0
  refine Z0 ?_
  cases j
  exact Eg0 [0,0] 0
 refine Y2 ?_
 have ⟨d,F,I⟩:=bnd z
 refine Tjh (η:=(Option Addr×Nat)) (fun h=>(fun g i=>[(6,.slice g d.1.length i)]) h.1 h.2) [0,4,5] (fun h=>(fun g i=>[Ch.arr aT 131 g i d.1,Ch.box N0 126 [.string d.2.s,.int .i64 d.2.e]]) h.1 h.2) [1] (fun _=>[]) ?_ ?_
 ·refine Yl0 ?_
  refine T.iM aT 131 ?_
  refine Tq (η:=(Option Addr×Nat)) (fun a h=>(fun b c=>[(6,.slice b a.2.length c)]) h.1 h.2) [0,1,4,5] (fun a h=>(fun b c=>[Ch.arr aT 131 b c a.2,Ch.box N0 126 [.string a.1.s,.int .i64 a.1.e]]) h.1 h.2) [2] (fun _ _=>[]) (none,0) [0,0,0] [] F ?_
  rintro k_ a ⟨b,c⟩ am J k M
  refine Y2 ?_
  have ⟨N,O,P⟩:=bnd J
  refine Tj0 [(24,.bool N)] [0,1,4,5,6] [] [1,2,0] ?_ ?_
  ·refine Z0 ?_
   refine Lw 20 O (fun l=> ?_) fun l=> ?_
   ·refine Z0 ?_
    have ⟨an,Q,R⟩:=bnd l
    refine Lk [1] [] (ly Q) fun ⟨⟩=> ?_
    refine Z0 ?_
    cases R
    exact Eg0 [0,1,0] 0
   refine Z0 ?_
   cases l
   exact Eg0 [1,1,0] 0
  refine Tb P (fun m=> ?_) fun m=> ?_
  ·refine Zl ?_
   refine Z1 ?_
   have ⟨S,U,V⟩:=bnd m
   refine Lk [0] [] (BJ U) fun ⟨⟩=> ?_
   refine Z0 ?_
   refine Ll fun ao=> ?_
   refine Z0 ?_
   refine Lt 0 ?_
   refine Zl ?_
   refine Z1 ?_
   refine Tb V (fun n=> ?_) fun n=> ?_
   ·refine Z0 ?_
    cases n
    exact Eg (_,(b,c)) (k _ rfl) [3,1,1] [] 0
   refine Y1 ?_
   have ⟨W,X,Y⟩:=bnd n
   refine Tj0 [(44,.bool W)] [0,1,4,5,6,7,8] [] [0,1,2,3] ?_ ?_
   ·refine Td [] [0,0,0,0] mo ?_
    refine Dq 0 ?_
    refine Dq 1 ?_
    refine Dq 2 ?_
    refine Dq 3 ?_
    refine D.cs 48 X rfl (fun hc o=> ?_) (fun hc o=> ?_)
    ·refine Dq 4 ?_
     refine Dq 5 ?_
     refine Dq 6 ?_
     refine Dq 7 ?_
     have ⟨p,q,Z⟩:=bnd o
     refine D.l8 3 rfl (cX q) fun aq aa=> ?_
     subst aa
     refine Dy 8 (Yl.ia q rfl rfl rfl rfl rfl rfl) ?_
     refine Dy 9 (Yl.lo (v:= .agg #[.int .i32 p.rune,.int .i64 p.aP,.int .i64 p.part]) 3 ((IntKind.i64.wrap ((a.2.length:Int) - 1)).toNat) 0 (bD q).2 rfl rfl rfl rfl (fun _=>rfl)) ?_
     refine Db 10 0 ?_
     refine Dq 11 ?_
     refine Dq 12 ?_
     refine Dq 13 ?_
     refine Dn ?_
     cases Z
     exact Eg0 [0,0,0,0] 0
    refine Ds 4 ?_
    refine Ds 5 ?_
    refine Ds 6 ?_
    refine Ds 7 ?_
    refine Ds 8 ?_
    refine Ds 9 ?_
    refine Ds 10 ?_
    refine Ds 11 ?_
    refine Dq 12 ?_
    refine Dq 13 ?_
    refine Dn ?_
    cases o
    exact Eg0 [0,0,0,0] 0
   refine Tb Y (fun t=> ?_) fun t=> ?_
   ·refine Z0 ?_
    have ⟨ar,ab,ac⟩:=bnd t
    refine Lk [1] [] (fA ab) fun ⟨⟩=> ?_
    refine Z0 ?_
    cases ac
    exact Eg (_,(b,c)) (k _ rfl) [3,0,1] [] 0
   refine Z0 ?_
   refine La [] [] (Ac.bs (ty:=aT) (xs:=[S.2.1]) (.cons () [] rfl .nil) rfl rfl rfl rfl rfl rfl rfl) fun au=> ?_
   refine Z0 ?_
   refine L.frz 0 rfl ?_
   have ⟨av,ad,ae⟩:=bnd t
   refine Lk [] [0] (lJ ad) fun ⟨aw,ax⟩=> ?_
   refine L.frz 0 rfl ?_
   have ⟨_,af,ag⟩:=bnd ae
   refine La [3] [0] (Ac.ap (ty:=aT) af rfl rfl rfl rfl rfl rfl rfl) ?_
   rintro ⟨ah,ai⟩
   refine Z0 ?_
   cases ag
   exact Eg (_,(ah,ai)) (k _ rfl) [0,1,1] [] 2
  refine Z0 ?_
  cases m
  have hb:=M _ rfl
  subst d
  exact Eg (b,c) trivial [2,0,0] [] 0
 rintro ⟨g,i⟩
 refine Z2 ?_
 have ⟨ay,aj,ak⟩:=bnd I
 refine Lk [1] [] (ly aj) fun ⟨⟩=> ?_
 refine Z0 ?_
 refine Tb ak (fun u=> ?_) fun u=> ?_
 ·refine Z1 ?_
  refine Lt 2 ?_
  refine Z0 ?_
  refine E.jf [Im.sl aT none 0 []] (fun A w _ _ f hf=>by rw [List.mem_singleton.1 hf]; exact Im.gU A w) ?_
  cases u
  exact Eo (none,0) [1] [0] (.cell 0 rfl rfl rfl .nil)
 refine Z1 ?_
 refine Lt 2 ?_
 refine Z0 ?_
 refine E.frz 2 rfl ?_
 cases u
 exact Eo (g,i) [1] [0] (.cell 0 rfl rfl rfl .nil)
end Go.Tw.X
set_option maxHeartbeats 2000000
set_option linter.unusedVariables false
set_option linter.unusedSimpArgs false
set_option maxRecDepth 10000
namespace Go.Tw.X
open Go Go.Tw
variable {A0 A1 A2 A3 A4 A5 : Option Addr} {C0 C1 C2 C3 C4 C5 : Nat}
variable {N0 N1 N2 N3 N4 : Nat}
variable {M0 : Option Nat}
theorem tP {in_:aU} {r:Int} (H:lf in_=some r):CT G 28 [.pointer (some ⟨N0,0,none⟩)] [Ch.box N0 126 [.string in_.s,.int .i64 in_.e]] [] (fun _:Unit=> .int .i64 r) (fun h=>[Ch.box N0 126 [.string in_.s,.int .i64 in_.e]]) (fun h=>[]):=by
 delta lf at H
 refine Cf Go.Proofs.Tryz.func28 fun K=> ?_
 refine Z3 ?_
 refine Tb H (fun H2=> ?_) fun H2=> ?_
 ·refine Z1 ?_
  cases H2
  exact Eo1 () [0] []
 refine Z1 ?_
 cases H2
 exact Eo1 () [0] []
theorem yR {s_:ByteArray} {r:aM×Int} (H:lq s_=some r):CT G 8 [.string s_] [] [] (fun h:(Option Addr×Nat)×(Option Addr×Nat)=> .tuple #[.agg (iQ r.1 h.1.1 h.1.2 h.2.1 h.2.2).toArray,.int .i64 r.2]) (fun h=>[]) (fun h=>[Im.sl aD h.1.1 h.1.2 r.1.rows,Im.sl aJ h.2.1 h.2.2 r.1.begun]):=by
 delta lq at H
 refine Cf Go.Proofs.Tryz.func8 fun K=> ?_
 refine Z1 ?_
 refine Ll fun g1=> ?_
 refine Z2 ?_
 refine Tb H (fun H3=> ?_) fun H3=> ?_
 ·refine Z1 ?_
  refine Lt 0 ?_
  refine Z0 ?_
  refine E.jf [Im.sl aD none 0 []] (fun A w _ _ f hf=>by rw [List.mem_singleton.1 hf]; exact Im.gU A w) ?_
  refine E.jf [Im.sl aJ none 0 []] (fun A w _ _ f hf=>by rw [List.mem_singleton.1 hf]; exact Im.gU A w) ?_
  cases H3
  exact Eo ((none,0),(none,0)) [] [1,0] (.cell 0 rfl rfl rfl (.tmp rfl .nil))
 refine Z1 ?_
 have ⟨r6,h7,H8⟩:=bnd H3
 refine Lk [] [] (AD h7) fun g9=> ?_
 refine Z1 ?_
 have ⟨a9,I,J⟩:=bnd H8
 refine Lk [0] [] (cW I) fun ⟨⟩=> ?_
 refine Z0 ?_
 have ⟨ba,M,N⟩:=bnd J
 refine Lk [0] [] (uT M) fun ⟨⟩=> ?_
 refine Z0 ?_
 have ⟨bb,O,P⟩:=bnd N
 refine Lk [0] [] (uT O) fun ⟨⟩=> ?_
 refine Z0 ?_
 have ⟨bc,Q,R⟩:=bnd P
 refine Lk [0] [] (cW Q) fun ⟨⟩=> ?_
 refine Z0 ?_
 have ⟨bd,S,U⟩:=bnd R
 refine Lk [0] [] (cW S) fun ⟨⟩=> ?_
 refine Z0 ?_
 have ⟨be,V,W⟩:=bnd U
 refine Lk [0] [] (rT V) fun ⟨⟩=> ?_
 refine Z0 ?_
 have ⟨bf,X,Y⟩:=bnd W
 refine Lk [0] [] (cW X) fun ⟨⟩=> ?_
 refine Z0 ?_
 have ⟨bg,Z,aa⟩:=bnd Y
 refine Lk [0] [] (cW Z) fun ⟨⟩=> ?_
 refine Z0 ?_
 have ⟨bh,ab,ac⟩:=bnd aa
 refine Lk [0] [] (uU ab) fun ⟨a,b⟩=> ?_
 refine Z0 ?_
 refine Ll fun q=> ?_
 refine Lt 0 ?_
 refine Z2 ?_
 have ⟨d,ad,ae⟩:=bnd ac
 refine Tjh (η:=(Option Addr×Nat)) (fun _=>[]) [2,4,5] (fun h=>(fun g i=>[Ch.arr aD 71 g i d.1.rows,Ch.arr aJ 87 a b d.1.begun,Ch.box q 28 (iQ d.1 g i a b),Ch.box g9 126 [.string d.2.s,.int .i64 d.2.e]]) h.1 h.2) [3] (fun _=>[]) ?_ ?_
 ·refine Yl0 ?_
  refine T.iM aD 71 ?_
  refine Tq (η:=(Option Addr×Nat)) (fun c h=>(fun j k=>[(33,.int .i64 c.2.2)]) h.1 h.2) [2,4,5,32] (fun c h=>(fun j k=>[Ch.arr aD 71 j k c.1.rows,Ch.arr aJ 87 a b c.1.begun,Ch.box q 28 (iQ c.1 j k a b),Ch.box g9 126 [.string c.2.1.s,.int .i64 c.2.1.e]]) h.1 h.2) [4] (fun _ _=>[]) (none,0) [0,1,0,0,0] [] ad ?_
  rintro k_ c ⟨j,k⟩ bi af ag ah
  refine Y2 ?_
  refine Tb af (fun x=> ?_) fun x=> ?_
  ·refine Y1 ?_
   have ⟨p,ai,aj⟩:=bnd x
   refine Tjh (η:=(Option Addr×Nat)) (fun _=>[]) [2,4,5,32,33] (fun h=>(fun t u=>[Ch.arr aD 71 t u p.1.rows,Ch.arr aJ 87 a b p.1.begun,Ch.box q 28 (iQ p.1 t u a b),Ch.box g9 126 [.string p.2.s,.int .i64 p.2.e]]) h.1 h.2) [4] (fun _=>[]) ?_ ?_
   ·refine Zl ?_
    refine Z1 ?_
    have ⟨bj,ak,al⟩:=bnd ai
    refine Lk [3] [] (ly ak) fun ⟨⟩=> ?_
    refine Z0 ?_
    refine Tb al (fun y=> ?_) fun y=> ?_
    ·refine Td [9] [2,2,2] mo ?_
     refine Dq 0 ?_
     refine Db 1 1 ?_
     refine Dq 2 ?_
     refine Dq 3 ?_
     refine Db 4 1 ?_
     have ⟨am,an,ao⟩:=bnd y
     refine Dk [0] [] (qJ an) fun ⟨aq,ar⟩=> ?_
     refine Da [] [0] rfl rfl (Ac.bs (ty:=aD) (xs:=[am.1]) (.cons (aq,ar) [0] rfl .nil) rfl rfl rfl rfl rfl rfl rfl) fun bk=> ?_
     refine D.frz 0 rfl ?_
     have ⟨_,au,av⟩:=bnd ao
     refine Da [1] [0] rfl rfl (Ac.ap (ty:=aD) au rfl rfl rfl rfl rfl rfl rfl) ?_
     rintro ⟨aw,ax⟩
     refine Dq 8 ?_
     refine Dt 1 ?_
     refine Dn ?_
     refine Z0 ?_
     cases av
     exact Eg (aw,ax) trivial [3,1,0,1,0] [] 2
    refine Z0 ?_
    cases y
    exact Eg (j,k) trivial [1,1,1,0,0] [] 0
   rintro ⟨t,u⟩
   refine Z0 ?_
   cases aj
   exact Eg (_,(t,u)) (ag _ rfl) [0,0,0,0,0] [] 0
  refine Z0 ?_
  cases x
  have hb:=ah _ rfl
  subst d
  exact Eg (j,k) trivial [0,0,0,0,0] [] 0
 rintro ⟨g,i⟩
 refine Z1 ?_
 have ⟨bl,ay,az⟩:=bnd ae
 refine Lk [3] [] (tP ay) fun ⟨⟩=> ?_
 refine Y2 ?_
 have ⟨v,a0,a1⟩:=bnd az
 refine Tjh (η:=(Option Addr×Nat)×(Option Addr×Nat)) (fun h=>(fun l m n o=>[(60,.bool v.1)]) h.1.1 h.1.2 h.2.1 h.2.2) [2,5,6] (fun h=>(fun l m n o=>[Ch.box q 28 (iQ v.2 l m n o)]) h.1.1 h.1.2 h.2.1 h.2.2) [0,4] (fun h=>(fun l m n o=>[Im.sl aD l m v.2.rows,Im.sl aJ n o v.2.begun]) h.1.1 h.1.2 h.2.1 h.2.2) ?_ ?_
 ·refine Z0 ?_
  refine Lw 52 a0 (fun z=> ?_) fun z=> ?_
  ·refine Z0 ?_
   refine L.frz 1 rfl ?_
   refine L.frz 1 rfl ?_
   have ⟨bm,a2,a3⟩:=bnd z
   refine Lk [] [1,0] (mz a2) fun ⟨⟩=> ?_
   refine Z0 ?_
   refine Lw 55 a3 (fun B=> ?_) fun B=> ?_
   ·refine Z0 ?_
    cases B
    exact Eg ((g,i),(a,b)) trivial [1,0,0] [1,0] 2
   refine Z0 ?_
   have ⟨bn,a4,a5⟩:=bnd B
   refine Lk [] [1,0] (kS a4) fun ⟨⟩=> ?_
   refine Z0 ?_
   cases a5
   exact Eg ((g,i),(a,b)) trivial [1,0,0] [1,0] 2
  refine Z0 ?_
  refine E.frz 1 rfl ?_
  refine E.frz 1 rfl ?_
  cases z
  exact Eg ((g,i),(a,b)) trivial [1,0,0] [1,0] 2
 rintro ⟨⟨l,m⟩,⟨n,o⟩⟩
 have ⟨a6,a7,a8⟩:=bnd a1
 refine Tj0 [(6,.int .i64 a6)] [2,5] [] [0,1,2] ?_ ?_
 ·refine Tb a7 (fun C=> ?_) fun C=> ?_
  ·refine Z0 ?_
   cases C
   exact Eg0 [0,0,0] 0
  refine Z0 ?_
  cases C
  exact Eg0 [0,0,0] 0
 refine Z2 ?_
 refine Tb a8 (fun F=> ?_) fun F=> ?_
 ·refine Z1 ?_
  refine Lt 2 ?_
  refine Z0 ?_
  refine E.jf [Im.sl aD none 0 []] (fun A w _ _ f hf=>by rw [List.mem_singleton.1 hf]; exact Im.gU A w) ?_
  refine E.jf [Im.sl aJ none 0 []] (fun A w _ _ f hf=>by rw [List.mem_singleton.1 hf]; exact Im.gU A w) ?_
  cases F
  exact Eo ((none,0),(none,0)) [] [1,0] (.cell 0 rfl rfl rfl (.tmp rfl .nil))
 refine Z1 ?_
 refine Lt 2 ?_
 refine Z0 ?_
 cases F
 exact Eo ((l,m),(n,o)) [] [0,1] (.cell 0 rfl rfl rfl (.tmp rfl .nil))
theorem oW {s1_:List aG} {s2_:List aG} {r:Bool} (H:fZ s1_ s2_=some r):CT G 81 [.slice A0 s1_.length C0,.slice A1 s2_.length C1] [] [Im.sl aT A0 C0 s1_,Im.sl aT A1 C1 s2_] (fun _:Unit=> .bool r) (fun h=>[]) (fun h=>[]):=by
 delta fZ at H
 refine Cf Go.Proofs.Tryz.func81 fun K=> ?_
 refine Z3 ?_
 refine Tb H (fun H2=> ?_) fun H2=> ?_
 ·refine Z1 ?_
  cases H2
  exact Eo1 () [] []
 refine Z2 ?_
 have ⟨a,j,f⟩:=bnd H2
 refine Tj (η:=Unit×Unit) (fun h=>a = .inl h.1) (fun _=>[]) [] (fun _=>[]) [] (fun _=>[]) ?_ ?_
 ·refine Yl0 ?_
  refine Tq (η:=Unit) (fun g h=>[(13,.int .i64 g)]) [0,1,12] (fun _ _=>[]) [] (fun _ _=>[]) () [] [] j ?_
  rintro k_ g ⟨⟩ k l m i
  refine Y2 ?_
  refine Tb l (fun b=> ?_) fun b=> ?_
  ·refine Z1 ?_
   refine Zl ?_
   refine Y2 ?_
   refine Td [] [] mo ?_
   refine Dq 0 ?_
   refine Dq 1 ?_
   have ⟨t,c,n⟩:=bnd b
   refine D.addr 0 rfl (cX c) fun u v o=> ?_
   subst o
   refine Dy 2 (Yl.ia c rfl rfl rfl rfl rfl rfl) ?_
   refine D.el 0 rfl (bD c).2 ?_
   rintro _
   refine Dy 3 (Yl.ldc 0 0 rfl rfl rfl rfl) ?_
   refine Dq 4 ?_
   refine Dq 5 ?_
   have ⟨w,d,p⟩:=bnd n
   refine D.addr 2 rfl (cX d) fun x y q=> ?_
   subst q
   refine Dy 6 (Yl.ia d rfl rfl rfl rfl rfl rfl) ?_
   refine D.el 2 rfl (bD d).2 ?_
   rintro _
   refine Dy 7 (Yl.ldc 0 0 rfl rfl rfl rfl) ?_
   refine Dq 8 ?_
   refine Dn ?_
   refine Z0 ?_
   refine Tb p (fun e=> ?_) fun e=> ?_
   ·refine Z1 ?_
    obtain ⟨z,hz,s⟩:=fI e
    subst k
    have hb:=i _ rfl
    subst a
    obtain rfl:=(sm f).symm
    refine Z0 ?_
    cases s
    exact Eo1 () [] []
   refine Z0 ?_
   cases e
   exact Eg (_,()) (m _ rfl) [] [] 2
  refine Z0 ?_
  cases b
  have hb:=i _ rfl
  subst a
  exact Eg (_,()) rfl [] [] 0
 rintro ⟨A,⟨⟩⟩ hy
 subst hy
 refine Z1 ?_
 cases f
 exact Eo1 () [] []
theorem nV {r_:aE} {q:aE} {r:Bool} (H:gZ r_ q=some r):CT G 38 [.agg #[.slice A0 r_.cells.length C0,.bool r_.wrapped],.agg #[.slice A1 q.cells.length C1,.bool q.wrapped]] [] [Im.sl aT A0 C0 r_.cells,Im.sl aT A1 C1 q.cells] (fun _:Unit=> .bool r) (fun h=>[]) (fun h=>[]):=by
 delta gZ at H
 refine Cf Go.Proofs.Tryz.func38 fun K=> ?_
 refine Z1 ?_
 refine Lx fun g1=> ?_
 refine Lx fun g2=> ?_
 refine Y1 ?_
 have ⟨b,c,d⟩:=bnd H
 refine Tj0 [(4,.bool b)] [] [] [0,1] ?_ ?_
 ·refine Z0 ?_
  refine Lw 10 c (fun a=> ?_) fun a=> ?_
  ·refine Z0 ?_
   have ⟨g,e,f⟩:=bnd a
   refine Lk [] [0,1] (oW e) fun ⟨⟩=> ?_
   refine Z0 ?_
   cases f
   exact Eg0 [0,0] 0
  refine Z0 ?_
  cases a
  exact Eg0 [0,0] 0
 refine Z0 ?_
 cases d
 exact Eo1 () [] []
theorem lQ {s1_:List aE} {s2_:List aE} {r:Bool} (H:dD s1_ s2_=some r):CT G 37 [.slice A0 s1_.length C0,.slice A1 s2_.length C1,.func (.func 38) #[] #[]] [] [Im.sl aD A0 C0 s1_,Im.sl aD A1 C1 s2_] (fun _:Unit=> .bool r) (fun h=>[]) (fun h=>[]):=by
 delta dD at H
 refine Cf Go.Proofs.Tryz.func37 fun K=> ?_
 refine Z3 ?_
 refine Tb H (fun H2=> ?_) fun H2=> ?_
 ·refine Z1 ?_
  cases H2
  exact Eo1 () [] []
 refine Z2 ?_
 have ⟨a,j,f⟩:=bnd H2
 refine Tj (η:=Unit×Unit) (fun h=>a = .inl h.1) (fun _=>[]) [] (fun _=>[]) [] (fun _=>[]) ?_ ?_
 ·refine Yl0 ?_
  refine Tq (η:=Unit) (fun g h=>[(17,.int .i64 g)]) [1,2,15,16] (fun _ _=>[]) [] (fun _ _=>[]) () [] [] j ?_
  rintro k_ g ⟨⟩ k l m i
  refine Y2 ?_
  refine Tb l (fun b=> ?_) fun b=> ?_
  ·refine Z1 ?_
   refine Zl ?_
   refine Z1 ?_
   have ⟨v,c,n⟩:=bnd b
   refine L.addr 0 rfl (cX c) fun w x o=> ?_
   subst o
   refine Ly (Yl.ia c rfl rfl rfl rfl rfl rfl) ?_
   refine L.el 0 rfl (bD c).2 ?_
   rintro ⟨y,z⟩
   refine Lc 0 0 ?_
   refine Ll fun A=> ?_
   refine Z0 ?_
   refine Lt 0 ?_
   refine Z1 ?_
   have ⟨B,d,p⟩:=bnd n
   refine L.addr 3 rfl (cX d) fun C F q=> ?_
   subst q
   refine Ly (Yl.ia d rfl rfl rfl rfl rfl rfl) ?_
   refine L.el 3 rfl (bD d).2 ?_
   rintro ⟨I,J⟩
   refine Lc 0 0 ?_
   refine Ll fun M=> ?_
   refine Lt 0 ?_
   refine Z1 ?_
   have ⟨N,s,t⟩:=bnd p
   refine Lk [] [3,1] (nV s) fun ⟨⟩=> ?_
   refine Z0 ?_
   refine Tb t (fun e=> ?_) fun e=> ?_
   ·refine Z1 ?_
    obtain ⟨O,hz,u⟩:=fI e
    subst k
    have hb:=i _ rfl
    subst a
    obtain rfl:=(sm f).symm
    refine Z0 ?_
    cases u
    exact Eo1 () [] []
   refine Z0 ?_
   cases e
   exact Eg (_,()) (m _ rfl) [] [] 4
  refine Z0 ?_
  cases b
  have hb:=i _ rfl
  subst a
  exact Eg (_,()) rfl [] [] 0
 rintro ⟨P,⟨⟩⟩ hy
 subst hy
 refine Z1 ?_
 cases f
 exact Eo1 () [] []
theorem oh {s1_:List aN} {s2_:List aN} {r:Bool} (H:fM s1_ s2_=some r):CT G 39 [.slice A0 s1_.length C0,.slice A1 s2_.length C1] [] [Im.sl aJ A0 C0 s1_,Im.sl aJ A1 C1 s2_] (fun _:Unit=> .bool r) (fun h=>[]) (fun h=>[]):=by
 delta fM at H
 refine Cf Go.Proofs.Tryz.func39 fun K=> ?_
 refine Z3 ?_
 refine Tb H (fun H2=> ?_) fun H2=> ?_
 ·refine Z1 ?_
  cases H2
  exact Eo1 () [] []
 refine Z2 ?_
 have ⟨a,j,f⟩:=bnd H2
 refine Tj (η:=Unit×Unit) (fun h=>a = .inl h.1) (fun _=>[]) [] (fun _=>[]) [] (fun _=>[]) ?_ ?_
 ·refine Yl0 ?_
  refine Tq (η:=Unit) (fun g h=>[(13,.int .i64 g)]) [0,1,12] (fun _ _=>[]) [] (fun _ _=>[]) () [] [] j ?_
  rintro k_ g ⟨⟩ k l m i
  refine Y2 ?_
  refine Tb l (fun b=> ?_) fun b=> ?_
  ·refine Z1 ?_
   refine Zl ?_
   refine Y2 ?_
   refine Td [] [] mo ?_
   refine Dq 0 ?_
   refine Dq 1 ?_
   have ⟨t,c,n⟩:=bnd b
   refine D.addr 0 rfl (cX c) fun u v o=> ?_
   subst o
   refine Dy 2 (Yl.ia c rfl rfl rfl rfl rfl rfl) ?_
   refine D.el 0 rfl (bD c).2 ?_
   rintro _
   refine Dy 3 (Yl.ldc 0 0 rfl rfl rfl rfl) ?_
   refine Dq 4 ?_
   refine Dq 5 ?_
   have ⟨w,d,p⟩:=bnd n
   refine D.addr 2 rfl (cX d) fun x y q=> ?_
   subst q
   refine Dy 6 (Yl.ia d rfl rfl rfl rfl rfl rfl) ?_
   refine D.el 2 rfl (bD d).2 ?_
   rintro _
   refine Dy 7 (Yl.ldc 0 0 rfl rfl rfl rfl) ?_
   refine Dq 8 ?_
   refine Dn ?_
   refine Z0 ?_
   refine Tb p (fun e=> ?_) fun e=> ?_
   ·refine Z1 ?_
    obtain ⟨z,hz,s⟩:=fI e
    subst k
    have hb:=i _ rfl
    subst a
    obtain rfl:=(sm f).symm
    refine Z0 ?_
    cases s
    exact Eo1 () [] []
   refine Z0 ?_
   cases e
   exact Eg (_,()) (m _ rfl) [] [] 2
  refine Z0 ?_
  cases b
  have hb:=i _ rfl
  subst a
  exact Eg (_,()) rfl [] [] 0
 rintro ⟨A,⟨⟩⟩ hy
 subst hy
 refine Z1 ?_
 cases f
 exact Eo1 () [] []
theorem mR {s_:aM} {t_:aM} {r:Bool} (H:gj s_ t_=some r):CT G 10 [.agg (iQ s_ A0 C0 A1 C1).toArray,.agg (iQ t_ A2 C2 A3 C3).toArray] [] [Im.sl aD A0 C0 s_.rows,Im.sl aJ A1 C1 s_.begun,Im.sl aD A2 C2 t_.rows,Im.sl aJ A3 C3 t_.begun] (fun _:Unit=> .bool r) (fun h=>[]) (fun h=>[]):=by
 delta gj at H
 refine Cf Go.Proofs.Tryz.func10 fun K=> ?_
 refine Z1 ?_
 refine Lx fun g1=> ?_
 refine Lx fun g2=> ?_
 refine Y1 ?_
 have ⟨k,l,m⟩:=bnd H
 refine Tj0 [(4,.bool k)] [] [] [0,1] ?_ ?_
 ·refine Tra ?_
  refine Z0 ?_
  refine Lw 10 l (fun a=> ?_) fun a=> ?_
  ·refine Z0 ?_
   refine Lw 17 a (fun b=> ?_) fun b=> ?_
   ·refine Z0 ?_
    refine Lw 24 b (fun c=> ?_) fun c=> ?_
    ·refine Z0 ?_
     refine Lw 31 c (fun d=> ?_) fun d=> ?_
     ·refine Z0 ?_
      refine Lw 38 d (fun e=> ?_) fun e=> ?_
      ·refine Z0 ?_
       refine Lw 45 e (fun f=> ?_) fun f=> ?_
       ·refine Z0 ?_
        refine Lw 52 f (fun g=> ?_) fun g=> ?_
        ·refine Z0 ?_
         refine Lw 59 g (fun i=> ?_) fun i=> ?_
         ·refine Z0 ?_
          have ⟨s,n,o⟩:=bnd i
          refine Lk [] [0,2] (lQ n) fun ⟨⟩=> ?_
          refine Z0 ?_
          refine Lw 66 o (fun j=> ?_) fun j=> ?_
          ·refine Z0 ?_
           have ⟨t,p,q⟩:=bnd j
           refine Lk [] [1,3] (oh p) fun ⟨⟩=> ?_
           refine Z0 ?_
           cases q
           exact Eg0 [0,0] 0
          refine Z0 ?_
          cases j
          exact Eg0 [0,0] 0
         refine Z0 ?_
         cases i
         exact Eg0 [0,0] 0
        refine Z0 ?_
        cases g
        exact Eg0 [0,0] 0
       refine Z0 ?_
       cases f
       exact Eg0 [0,0] 0
      refine Z0 ?_
      cases e
      exact Eg0 [0,0] 0
     refine Z0 ?_
     cases d
     exact Eg0 [0,0] 0
    refine Z0 ?_
    cases c
    exact Eg0 [0,0] 0
   refine Z0 ?_
   cases b
   exact Eg0 [0,0] 0
  refine Z0 ?_
  cases a
  exact Eg0 [0,0] 0
 refine Z0 ?_
 cases m
 exact Eo1 () [] []
theorem uV {s_:aM} {r:Bool} (H:jD s_=some r):CT G 40 [.agg (iQ s_ A0 C0 A1 C1).toArray] [] [Im.sl aD A0 C0 s_.rows,Im.sl aJ A1 C1 s_.begun] (fun _:Unit=> .bool r) (fun h=>[]) (fun h=>[]):=by
 delta jD at H
 refine Cf Go.Proofs.Tryz.func40 fun K=> ?_
 refine Z1 ?_
 refine Lx fun g1=> ?_
 refine Z1 ?_
 have ⟨r2,h3,H4⟩:=bnd H
 refine Lk [] [0,1] (mQ h3) fun ⟨⟩=> ?_
 refine Z0 ?_
 cases H4
 exact Eo1 () [] []
theorem jn {s_:aM} {r:Int} (H:eZ s_=some r):CT G 13 [.agg (iQ s_ A0 C0 A1 C1).toArray] [] [Im.sl aD A0 C0 s_.rows,Im.sl aJ A1 C1 s_.begun,Im.sl (Ty.int .u32) (some ⟨0,0,none⟩) 16 eE] (fun _:Unit=> .int .i64 r) (fun h=>[]) (fun h=>[]):=by
 delta eZ at H
 refine Cf Go.Proofs.Tryz.func13 fun K=> ?_
 refine Z1 ?_
 refine Lx fun g1=> ?_
 refine Z1 ?_
 have ⟨r2,h3,H4⟩:=bnd H
 refine Lk [] [0,1] (mQ h3) fun ⟨⟩=> ?_
 refine La [] [] (Ac.bs (ty:=Ty.str) (xs:=[r2]) (.cons () [] rfl .nil) rfl rfl rfl rfl rfl rfl rfl) fun g5=> ?_
 have ⟨r7,h8,H9⟩:=bnd H4
 refine L.br (Ac.call (Ay h8) rfl rfl rfl rfl) (Bw.ch 0 rfl (Bw.im 2 rfl (Bw.nil))) rfl rfl rfl ?_
 intro _
 refine Z0 ?_
 cases H9
 exact Eo1 () [] []
theorem pJ {a:aM} {b:aM} {r:(aM×aM)} (H:ji a b=some r):CT G 42 [.agg (iQ a A0 C0 A1 C1).toArray,.agg (iQ b A2 C2 A3 C3).toArray] [] [Im.sl aD A0 C0 a.rows,Im.sl aJ A1 C1 a.begun,Im.sl aD A2 C2 b.rows,Im.sl aJ A3 C3 b.begun] (fun h:Nat×Nat=> .func (.func 82) #[] #[.pointer (some ⟨h.1,0,none⟩),.pointer (some ⟨h.2,0,none⟩)]) (fun h=>[Ch.box h.1 28 (iQ r.1 A2 C2 A3 C3),Ch.box h.2 28 (iQ r.2 A0 C0 A1 C1)]) (fun h=>[Im.sl aD A2 C2 r.1.rows,Im.sl aJ A3 C3 r.1.begun,Im.sl aD A0 C0 r.2.rows,Im.sl aJ A1 C1 r.2.begun]):=by
 delta ji at H
 refine Cf Go.Proofs.Tryz.func42 fun K=> ?_
 refine Z1 ?_
 refine Lx fun g1=> ?_
 refine Lx fun g2=> ?_
 refine Z1 ?_
 cases H
 exact Eo1 (g2,g1) [0,0] [2,3,0,1]
theorem rU {s_:aM} {y:Int} {r:aE×Bool} (H:gQ s_ y=some r):CT G 83 [.agg (iQ s_ A0 C0 A1 C1).toArray,.int .i64 y] [] [Im.sl aD A0 C0 s_.rows,Im.sl aJ A1 C1 s_.begun] (fun h:(Option Addr×Nat)=> .tuple #[.agg #[.slice h.1 r.1.cells.length h.2,.bool r.1.wrapped],.bool r.2]) (fun h=>[]) (fun h=>[Im.sl aT h.1 h.2 r.1.cells]):=by
 delta gQ at H
 refine Cf Go.Proofs.Tryz.func83 fun K=> ?_
 refine Z1 ?_
 refine Lx fun g1=> ?_
 refine Ll fun g2=> ?_
 refine Y2 ?_
 have ⟨e6,H7,H8⟩:=bnd H
 refine Tj0 [(14,.bool e6)] [1,2,4] [] [0,1] ?_ ?_
 ·refine Z0 ?_
  refine Lw 8 H7 (fun H9=> ?_) fun H9=> ?_
  ·refine Z0 ?_
   cases H9
   exact Eg0 [0,0] 0
  refine Z0 ?_
  cases H9
  exact Eg0 [0,0] 0
 refine Tb H8 (fun a=> ?_) fun a=> ?_
 ·refine Z1 ?_
  refine Lt 0 ?_
  refine Z0 ?_
  refine E.jf [Im.sl aT none 0 []] (fun A w _ _ f hf=>by rw [List.mem_singleton.1 hf]; exact Im.gU A w) ?_
  cases a
  exact Eo (none,0) [] [0] (.cell 0 rfl rfl rfl (.tmp rfl .nil))
 refine Z1 ?_
 have ⟨i,b,c⟩:=bnd a
 refine L.addr 0 rfl (cX b) fun j k d=> ?_
 subst d
 refine Ly (Yl.ia b rfl rfl rfl rfl rfl rfl) ?_
 refine L.el 0 rfl (bD b).2 ?_
 rintro ⟨e,g⟩
 refine Lc 0 0 ?_
 refine Lt 0 ?_
 refine Z0 ?_
 cases c
 exact Eo (e,g) [] [1] (.cell 0 rfl rfl rfl (.tmp rfl .nil))
theorem oc {σ η:Type} {Y:σ→(Int×aE)→Option (σ×Bool)} {y0:σ} {x1:aM} {x2:aM} {yl:Nat} {C:σ→η→Ch} (hY: ∀ s (h:η) (x:Int×aE) (t:(Option Addr×Nat)) z,Y s x=some z→YT G yl [.int .i64 x.1,.agg #[.slice t.1 x.2.cells.length t.2,.bool x.2.wrapped]] [C s h] [Im.sl aT t.1 t.2 x.2.cells] (fun _:η=> .bool z.2) (fun h2=>[C z.1 h2]) (fun _=>[])) (h0:η) (g_1:Nat) (a_1_0:Option Addr) (c_1_0:Nat) (a_1_1:Option Addr) (c_1_1:Nat) (g_2:Nat) (a_2_0:Option Addr) (c_2_0:Nat) (a_2_1:Option Addr) (c_2_1:Nat) {r:σ} (H:gB Y y0 x1 x2=some r):CT G 82 [.func (.yield yl) #[] #[],.pointer (some ⟨g_1,0,none⟩),.pointer (some ⟨g_2,0,none⟩)] [C y0 h0,Ch.box g_1 28 (iQ x1 a_1_0 c_1_0 a_1_1 c_1_1),Ch.box g_2 28 (iQ x2 a_2_0 c_2_0 a_2_1 c_2_1)] [Im.sl aD a_1_0 c_1_0 x1.rows,Im.sl aJ a_1_1 c_1_1 x1.begun,Im.sl aD a_2_0 c_2_0 x2.rows,Im.sl aJ a_2_1 c_2_1 x2.begun] (fun h:η=> .tuple #[]) (fun h=>[C r h,Ch.box g_1 28 (iQ x1 a_1_0 c_1_0 a_1_1 c_1_1),Ch.box g_2 28 (iQ x2 a_2_0 c_2_0 a_2_1 c_2_1)]) (fun h=>[]):=by
  delta gB at H
  refine Cf Go.Proofs.Tryz.func82 fun K=> ?_
  refine Z1 ?_
  have ⟨e,v,m⟩:=bnd H
  refine T.uH (η:=σ×(η)) (fun h=>e = .inl h.1) (fun h=>(fun c=>(fun a=>[]) h.2) h.1) (fun h=>(fun c=>(fun a=>[C c a,Ch.box g_1 28 (iQ x1 a_1_0 c_1_0 a_1_1 c_1_1),Ch.box g_2 28 (iQ x2 a_2_0 c_2_0 a_2_1 c_2_1)]) h.2) h.1) (fun h=>(fun c=>(fun a=>[Im.sl aD a_1_0 c_1_0 x1.rows,Im.sl aJ a_1_1 c_1_1 x1.begun,Im.sl aD a_2_0 c_2_0 x2.rows,Im.sl aJ a_2_1 c_2_1 x2.begun]) h.2) h.1) ?_ ?_
  ·refine Yl0 ?_
   refine Tq (η:=η) (fun d h=>(fun b=>[(11,.int .i64 d.1)]) h) [0,2,9,10] (fun d h=>(fun b=>[C d.2 b]) h) [1,2] (fun _ _=>[]) h0 [0,0,0] [] v ?_
   rintro k_ d b w y A n
   refine Y2 ?_
   refine Tb y (fun f=> ?_) fun f=> ?_
   ·refine Y1 ?_
    have ⟨o,B,p⟩:=bnd f
    refine Tj (η:=σ×(η)) (fun h=>o = .inl h.1) (fun _=>[]) [0,2,9,10,11] (fun h=>(fun q=>(fun g=>[C q g]) h.2) h.1) [1,2] (fun _=>[]) ?_ ?_
    ·refine Zl ?_
     refine Z1 ?_
     have ⟨aa,i,F⟩:=bnd B
     refine L.addr 0 rfl (cX i) fun ab ac I=> ?_
     subst I
     refine Ly (Yl.ia i rfl rfl rfl rfl rfl rfl) ?_
     refine L.el 0 rfl (bD i).2 ?_
     rintro ⟨J,M⟩
     refine Lc 0 0 ?_
     refine Ll fun ad=> ?_
     refine Z0 ?_
     refine Lt 0 ?_
     refine Z2 ?_
     have ⟨ae,N,O⟩:=bnd F
     refine Lk [] [4,5] (rU N) fun ⟨af,ag⟩=> ?_
     refine Z0 ?_
     refine Ll fun ah=> ?_
     refine Lt 0 ?_
     refine Y1 ?_
     have ⟨P,Q,R⟩:=bnd O
     refine Tj0 [(27,.bool P)] [0,2,4,5,9,10,11] [] [0,1,2,3,4] ?_ ?_
     ·refine Z0 ?_
      refine Lw 23 Q (fun j=> ?_) fun j=> ?_
      ·refine Z0 ?_
       have ⟨ai,S,U⟩:=bnd j
       refine Lk [] [0,2] (nV S) fun ⟨⟩=> ?_
       refine Z0 ?_
       cases U
       exact Eg0 [0,0,0,0,0] 0
      refine Z0 ?_
      cases j
      exact Eg0 [0,0,0,0,0] 0
     refine Tb R (fun k=> ?_) fun k=> ?_
     ·refine Z0 ?_
      cases k
      exact Eg (_,b) rfl [2,2,2] [] 3
     refine Z1 ?_
     have ⟨aj,V,W⟩:=bnd k
     refine L.yd [2] [2] (hY _ _ _ (J,M) _ V) rfl rfl rfl rfl rfl rfl rfl rfl ?_
     intro u
     refine Z0 ?_
     refine Tb W (fun l=> ?_) fun l=> ?_
     ·refine Z0 ?_
      obtain ⟨ak,hz,X⟩:=dU l
      subst o
      obtain rfl:=(sm p).symm
      refine Z0 ?_
      obtain ⟨al,hz,Z⟩:=fI X
      subst w
      have hb:=n _ rfl
      subst e
      obtain rfl:=(sm m).symm
      refine Z0 ?_
      cases Z
      exact Eo u [0,2,2] [] .nil
     refine Z0 ?_
     cases l
     exact Eg (_,u) rfl [0,2,2] [] 3
    rintro ⟨q,g⟩ hy
    subst hy
    refine Z0 ?_
    cases p
    exact Eg (_,g) (A _ rfl) [0,0,0] [] 0
   refine Z0 ?_
   cases f
   have hb:=n _ rfl
   subst e
   exact Egx (_,b) rfl [0,0,0] [0,1,2,3]
  rintro ⟨c,a⟩ hy
  subst hy
  refine E.off ?_
  cases m
  exact Eo a [0,0,0] [] .nil
theorem u4 {a:aM} {b:aM} {r:(List Int)} (H:kC a b=some r):CT G 41 [.agg (iQ a A0 C0 A1 C1).toArray,.agg (iQ b A2 C2 A3 C3).toArray] [] [Im.sl aD A0 C0 a.rows,Im.sl aJ A1 C1 a.begun,Im.sl aD A2 C2 b.rows,Im.sl aJ A3 C3 b.begun] (fun h:(Option Addr×Nat)=> .slice h.1 r.length h.2) (fun h=>[Ch.arr (Ty.int .i64) 3 h.1 h.2 r]) (fun h=>[]):=by
 delta kC at H
 refine Cf Go.Proofs.Tryz.func41 fun K=> ?_
 refine T.y3 ?_
 refine Z1 ?_
 refine Lx fun g1=> ?_
 refine Lx fun g2=> ?_
 refine Z1 ?_
 refine Ll fun g3=> ?_
 refine Z2 ?_
 have ⟨r4,h5,H6⟩:=bnd H
 refine Lk [] [0,1,2,3] (pJ h5) fun ⟨g7,g8⟩=> ?_
 refine Yl0 ?_
 refine T.iM (Ty.int .i64) 3 ?_
 have ⟨g,i,j⟩:=bnd H6
 refine T.rf2 (σ:=(List Int)) (η:=(Option Addr×Nat)) (X:=Int×aE) (θ:=(Option Addr×Nat)) (τ:=(Option Addr×Nat)) (s1:=g) (hx:=fun x=>x) (fun x t=>[.int .i64 x.1,.agg #[.slice t.1 x.2.cells.length t.2,.bool x.2.wrapped]]) (fun x t=>[Im.sl aT t.1 t.2 x.2.cells]) (fun _=>none) (fun c h=>(fun d e=>[Ch.arr (Ty.int .i64) 3 d e c,Ch.box g3 47 [.slice d c.length e],Ch.box g2 28 (iQ b A2 C2 A3 C3),Ch.box g1 28 (iQ a A0 C0 A1 C1)]) h.1 h.2) (fun c h=>(fun d e=>[Im.sl aD A2 C2 r4.1.rows,Im.sl aJ A3 C3 r4.1.begun,Im.sl aD A0 C0 r4.2.rows,Im.sl aJ A1 C1 r4.2.begun,Im.sl aD A0 C0 a.rows,Im.sl aJ A1 C1 a.begun,Im.sl aD A2 C2 b.rows,Im.sl aJ A3 C3 b.begun]) h.1 h.2) 6 [0,2,2,2,0,0] [0,1,2,3,4,5,6,7] [0,1,2,3] rfl rfl (fun _ _=>rfl) rfl (fun yl C hY=>(oc hY (none,0) g7 A2 C2 A3 C3 g8 A0 C0 A1 C1 i:_)) (fun _ _ _ _=>rfl) rfl rfl rfl rfl rfl ?_ rfl ?_
 ·rintro yl K2 c ⟨d,e⟩ k ⟨q,s⟩ u l
  refine Z0 ?_
  refine E.begin fun K3=> ?_
  refine Zl ?_
  refine La [] [] (Ac.bs (ty:=(Ty.int .i64)) (xs:=[k.1]) (.cons () [] rfl .nil) rfl rfl rfl rfl rfl rfl rfl) fun v=> ?_
  refine L.frz 0 rfl ?_
  have ⟨_,m,n⟩:=bnd l
  refine La [0] [0] (Ac.ap (ty:=(Ty.int .i64)) m rfl rfl rfl rfl rfl rfl rfl) ?_
  rintro ⟨o,p⟩
  refine Lt 1 ?_
  refine Z0 ?_
  cases n
  exact E.on (o,p) [1,0,0,0] [2,3,4,5,6,7,8,9] rfl rfl rfl rfl
 rintro f w
 refine Z1 ?_
 cases j
 exact E.y4 (f.1,f.2) 0 [0] [] rfl (.tmp rfl .nil) rfl rfl rfl
theorem yS {a:aM} {b:aM} {r:ByteArray} (H:lr a b=some r):CT G 11 [.agg (iQ a A0 C0 A1 C1).toArray,.agg (iQ b A2 C2 A3 C3).toArray] [] [Im.sl aD A0 C0 a.rows,Im.sl aJ A1 C1 a.begun,Im.sl aD A2 C2 b.rows,Im.sl aJ A3 C3 b.begun,Im.sl (Ty.int .u32) (some ⟨0,0,none⟩) 16 eE] (fun _:Unit=> .string r) (fun h=>[]) (fun h=>[]):=by
 delta lr at H
 refine Cf Go.Proofs.Tryz.func11 fun K=> ?_
 refine T.y3 ?_
 refine Z1 ?_
 refine Lx fun g1=> ?_
 refine Lx fun g2=> ?_
 refine Y2 ?_
 have ⟨p,s,u⟩:=bnd H
 refine T.ED (η:=Unit×Unit) (fun h=>True) (fun h=>[]) (fun h=>[(2,.pointer (some ⟨g1,0,none⟩)),(3,.pointer (some ⟨g2,0,none⟩)),(15,.bool p)]) (fun h=>[Ch.box g2 28 (iQ b A2 C2 A3 C3),Ch.box g1 28 (iQ a A0 C0 A1 C1),Ch.dfs []]) (fun h=>[Im.sl aD A0 C0 a.rows,Im.sl aJ A1 C1 a.begun,Im.sl aD A2 C2 b.rows,Im.sl aJ A3 C3 b.begun,Im.sl (Ty.int .u32) (some ⟨0,0,none⟩) 16 eE]) ?_ ?_
 ·refine Z0 ?_
  have ⟨a6,v,z⟩:=bnd s
  refine Lk [] [0,1] (kS v) fun ⟨⟩=> ?_
  refine Z0 ?_
  refine Lw 11 z (fun g=> ?_) fun g=> ?_
  ·refine Z0 ?_
   cases g
   exact E.xj ((),()) [0,0,0] [0,1,2,3,4] trivial rfl ⟨rfl,rfl,rfl,trivial⟩ rfl rfl
  refine Z0 ?_
  have ⟨a7,A,B⟩:=bnd g
  refine Lk [] [2,3] (uV A) fun ⟨⟩=> ?_
  refine Z0 ?_
  cases B
  exact E.xj ((),()) [0,0,0] [0,1,2,3,4] trivial rfl ⟨rfl,rfl,rfl,trivial⟩ rfl rfl
 rintro ⟨_,⟨⟩⟩ _
 refine Tb u (fun i=> ?_) fun i=> ?_
 ·refine Z1 ?_
  cases i
  exact E.y4 () 2 [] [] rfl (.tmp rfl .nil) rfl rfl rfl
 refine Z1 ?_
 refine Ll fun F=> ?_
 refine Y1 ?_
 refine Td [] [1,1,1] mo ?_
 refine Db 0 1 ?_
 refine Dq 2 ?_
 refine Db 3 0 ?_
 refine Dq 4 ?_
 refine Db 5 0 ?_
 refine Dq 6 ?_
 refine Db 7 0 ?_
 refine Dq 8 ?_
 refine Db 9 0 ?_
 refine Dq 10 ?_
 refine Db 11 0 ?_
 refine Dq 14 ?_
 refine Db 15 0 ?_
 refine Dq 18 ?_
 refine Db 19 0 ?_
 refine Dq 20 ?_
 refine Db 21 0 ?_
 refine Dq 24 ?_
 refine Db 25 0 ?_
 refine Db 29 1 ?_
 refine Db 30 0 ?_
 refine DF.of rfl ?_
 have ⟨l,I,J⟩:=bnd i
 refine DF.add _ (FSp.ac 1 [0,1,4] (Ac.call (jn I) rfl rfl rfl rfl) rfl rfl rfl rfl rfl) rfl ?_
 refine DF.add _ (FSp.dep 0 rfl rfl fun ⟨⟩=>FSp.ac 12 [] (Ac.frz (Ac.bs (ty:=(Ty.int .i64)) (xs:=[l,b.k,b.w,b.h,b.x,b.y]) (.cons () [] rfl (.cons () [] rfl (.cons () [] rfl (.cons () [] rfl (.cons () [] rfl (.cons () [] rfl .nil)))))) rfl rfl rfl rfl rfl rfl rfl)) rfl rfl rfl rfl rfl) rfl ?_
 refine DF.add _ (FSp.ac 16 [] (Ac.frz (Ac.bs (ty:=Ty.str) (xs:=[b.title]) (.cons () [] rfl .nil) rfl rfl rfl rfl rfl rfl rfl)) rfl rfl rfl rfl rfl) rfl ?_
 refine DF.add _ (FSp.ac 22 [] (Ac.frz (Ac.bs (ty:=(Ty.int .i64)) (xs:=[b.len,b.chain]) (.cons () [] rfl (.cons () [] rfl .nil)) rfl rfl rfl rfl rfl rfl rfl)) rfl rfl rfl rfl rfl) rfl ?_
 refine DF.step 13 rfl rfl rfl rfl rfl ?_
 refine DFp.use 2 rfl rfl rfl ?_
 intro M
 refine DFp.use 2 rfl rfl rfl ?_
 rintro ⟨⟩
 refine DFp.iM (Ty.int .u8) 5 ?_
 have ⟨a8,N,O⟩:=bnd J
 refine DFp.a [1,0] [0] (Ac.call (fP N) rfl rfl rfl rfl) rfl rfl rfl rfl rfl rfl rfl rfl ?_
 rintro ⟨a9,ba⟩
 refine DF.step 17 rfl rfl rfl rfl rfl ?_
 refine DFp.use 1 rfl rfl rfl ?_
 intro P
 have ⟨bb,Q,R⟩:=bnd O
 refine DFp.a [0,0] [0] (Ac.call (qH Q) rfl rfl rfl rfl) rfl rfl rfl rfl rfl rfl rfl rfl ?_
 rintro ⟨bc,bd⟩
 refine DF.step 23 rfl rfl rfl rfl rfl ?_
 refine DFp.use 0 rfl rfl rfl ?_
 intro S
 have ⟨be,U,V⟩:=bnd R
 refine DFp.a [0,0] [0] (Ac.call (fP U) rfl rfl rfl rfl) rfl rfl rfl rfl rfl rfl rfl rfl ?_
 rintro ⟨bf,bg⟩
 have ⟨m,W,Y⟩:=bnd V
 refine DF.add _ (FSp.ac 26 [6] (Ac.call (qp W) rfl rfl rfl rfl) rfl rfl rfl rfl rfl) rfl ?_
 refine DF.add _ (FSp.dep 0 rfl rfl fun ⟨⟩=>FSp.ac 27 [] (Ac.frz (Ac.bs (ty:=Ty.str) (xs:=[m]) (.cons () [] rfl .nil) rfl rfl rfl rfl rfl rfl rfl)) rfl rfl rfl rfl rfl) rfl ?_
 refine DF.step 28 rfl rfl rfl rfl rfl ?_
 refine DFp.use 0 rfl rfl rfl ?_
 intro Z
 refine DFp.use 0 rfl rfl rfl ?_
 rintro ⟨⟩
 have ⟨bh,aa,ab⟩:=bnd Y
 refine DFp.a [0,0] [0] (Ac.call (lP aa) rfl rfl rfl rfl) rfl rfl rfl rfl rfl rfl rfl rfl ?_
 rintro ⟨bi,bj⟩
 have ⟨j,ad,ae⟩:=bnd ab
 refine DF.add _ (FSp.ac 31 [4,5,6,7] (Ac.frz (Ac.call (u4 ad) rfl rfl rfl rfl)) rfl rfl rfl rfl rfl) rfl ?_
 refine DF.add _ (FSp.dep 0 rfl rfl fun ⟨n,o⟩=>FSp.q 32 rfl rfl rfl rfl rfl) rfl ?_
 refine DF.add _ (FSp.dep 0 rfl rfl fun _=>FSp.ac 33 [] (Ac.frz (Ac.bs (ty:=(Ty.int .i64)) (xs:=[(j.length:Int)]) (.cons () [] rfl .nil) rfl rfl rfl rfl rfl rfl rfl)) rfl rfl rfl rfl rfl) rfl ?_
 refine DF.step 34 rfl rfl rfl rfl rfl ?_
 refine DFp.use 0 rfl rfl rfl ?_
 intro af
 refine DFp.use 1 rfl rfl rfl ?_
 rintro ⟨n,o⟩
 have ⟨bk,ag,ah⟩:=bnd ae
 refine DFp.a [0,0] [1] (Ac.call (fP ag) rfl rfl rfl rfl) rfl rfl rfl rfl rfl rfl rfl rfl ?_
 rintro ⟨ai,aj⟩
 refine DF.fin rfl rfl rfl rfl rfl ?_
 refine DFe.use ?_
 intro _
 refine DFe.nil ?_
 refine Z2 ?_
 have ⟨c,ak,al⟩:=bnd ah
 refine Lk [] [6,7,8,9] (pJ ak) fun ⟨am,an⟩=> ?_
 refine Yl0 ?_
 have ⟨ao,ap,aq⟩:=bnd al
 refine T.rf2 (σ:=cE) (η:=(Option Addr×Nat)) (X:=Int×aE) (θ:=(Option Addr×Nat)) (τ:=(Option Addr×Nat)) (s1:=ao) (hx:=fun x=>x) (fun x t=>[.int .i64 x.1,.agg #[.slice t.1 x.2.cells.length t.2,.bool x.2.wrapped]]) (fun x t=>[Im.sl aT t.1 t.2 x.2.cells]) (fun _=>none) (fun d h=>(fun e f=>[Ch.arr (Ty.int .u8) 5 e f d.b,Ch.box g2 28 (iQ b A2 C2 A3 C3),Ch.box g1 28 (iQ a A0 C0 A1 C1),Ch.box F 76 [.slice e d.b.length f]]) h.1 h.2) (fun d h=>(fun e f=>[Im.sl aD A2 C2 c.1.rows,Im.sl aJ A3 C3 c.1.begun,Im.sl aD A0 C0 c.2.rows,Im.sl aJ A1 C1 c.2.begun,Im.sl (Ty.int .i64) n o j,Im.sl (Ty.int .i64) (some ⟨af,0,none⟩) 1 [(j.length:Int)],Im.sl Ty.str (some ⟨Z,0,none⟩) 1 [m],Im.sl (Ty.int .i64) (some ⟨S,0,none⟩) 2 [b.len,b.chain],Im.sl Ty.str (some ⟨P,0,none⟩) 1 [b.title],Im.sl (Ty.int .i64) (some ⟨M,0,none⟩) 6 [l,b.k,b.w,b.h,b.x,b.y],Im.sl aD A0 C0 a.rows,Im.sl aJ A1 C1 a.begun,Im.sl aD A2 C2 b.rows,Im.sl aJ A3 C3 b.begun,Im.sl (Ty.int .u32) (some ⟨0,0,none⟩) 16 eE]) h.1 h.2) 4 [5,2,2,2,0,0] [0,1,2,3,4,5,6,7,8,9,10,11,12,13,14] [0,1,2,3] rfl rfl (fun _ _=>rfl) rfl (fun yl C hY=>(oc hY (ai,aj) am A2 C2 A3 C3 an A0 C0 A1 C1 ap:_)) (fun _ _ _ _=>rfl) rfl rfl rfl rfl rfl ?_ rfl ?_
 ·rintro yl K2 d ⟨e,f⟩ ar ⟨bl,bm⟩ bn au
  refine Z1 ?_
  refine Ll fun bo=> ?_
  refine Lt 0 ?_
  refine Z0 ?_
  refine E.begin fun K3=> ?_
  refine Yl0 ?_
  refine Td [] [0,1,1] mo ?_
  refine Dq 0 ?_
  refine Db 3 0 ?_
  refine Da [] [] rfl rfl (Ac.bs (ty:=(Ty.int .i64)) (xs:=[ar.1]) (.cons () [] rfl .nil) rfl rfl rfl rfl rfl rfl rfl) fun bp=> ?_
  refine D.frz 0 rfl ?_
  have ⟨bq,av,aw⟩:=bnd au
  refine Dk [1,0] [0] (fP av) fun ⟨br,bt⟩=> ?_
  have ⟨ax,ay,az⟩:=bnd aw
  refine Dk [] [1] (qI ay) fun ⟨⟩=> ?_
  refine Da [] [] rfl rfl (Ac.bs (ty:=Ty.str) (xs:=[ax]) (.cons () [] rfl .nil) rfl rfl rfl rfl rfl rfl rfl) fun bu=> ?_
  refine D.frz 0 rfl ?_
  have ⟨bv,a0,a1⟩:=bnd az
  refine Dk [0,0] [0] (lP a0) fun ⟨a2,a3⟩=> ?_
  refine Dn ?_
  refine Z0 ?_
  cases a1
  exact E.on (a2,a3) [4,1,1,1] [3,4,5,6,7,8,9,10,11,12,13,14,15,16,17] rfl rfl rfl rfl
 rintro bw bx
 refine Z1 ?_
 have ⟨bz,a4,a5⟩:=bnd aq
 refine Lk [4,1] [] (lV a4) fun ⟨⟩=> ?_
 refine Z0 ?_
 cases a5
 exact E.y4 () 2 [] [] rfl (.tmp rfl .nil) rfl rfl rfl
theorem tQ {in_:aU} {r:Int×aU} (H:ko in_=some r):CT G 84 [.pointer (some ⟨N0,0,none⟩)] [Ch.box N0 126 [.string in_.s,.int .i64 in_.e]] [] (fun _:Unit=> .int .i64 r.1) (fun h=>[Ch.box N0 126 [.string r.2.s,.int .i64 r.2.e]]) (fun h=>[]):=by
 delta ko at H
 refine Cf Go.Proofs.Tryz.func84 fun K=> ?_
 refine Z2 ?_
 have ⟨r1,h2,H3⟩:=bnd H
 refine Lk [0] [] (cW h2) fun ⟨⟩=> ?_
 refine Z2 ?_
 refine Tb H3 (fun H8=> ?_) fun H8=> ?_
 ·refine Z1 ?_
  have ⟨r9,a,b⟩:=bnd H8
  refine Lk [0] [] (fA a) fun ⟨⟩=> ?_
  refine Z1 ?_
  cases b
  exact Eo1 () [0] []
 refine Z1 ?_
 cases H8
 exact Eo1 () [0] []
theorem yT {s_:ByteArray} {r:bT×Int} (H:mf s_=some r):CT G 43 [.string s_] [] [] (fun h:(Option Addr×Nat)×Option Nat=> .tuple #[.agg (GZ r.1 none 0 h.1.1 h.1.2 h.2).toArray,.int .i64 r.2]) (fun h=>[Ch.mp aD true h.2 r.1.rows]) (fun h=>[Im.sl aD none 0 r.1.to.rows,Im.sl aJ h.1.1 h.1.2 r.1.to.begun]):=by
 delta mf at H
 refine Cf Go.Proofs.Tryz.func43 fun K=> ?_
 refine Z1 ?_
 refine Ll fun g1=> ?_
 refine Z1 ?_
 have ⟨r2,h3,H4⟩:=bnd H
 refine Lk [] [] (AD h3) fun g5=> ?_
 refine Z1 ?_
 have ⟨r6,h7,H8⟩:=bnd H4
 refine Lk [0] [] (cW h7) fun ⟨⟩=> ?_
 refine La [] [] (Ac.mkm (ty:=aD) (ag:=true) rfl rfl rfl) fun g9=> ?_
 refine Z0 ?_
 refine Ll fun n=> ?_
 refine Lt 0 ?_
 refine Z1 ?_
 have ⟨a1,p,q⟩:=bnd H8
 refine Lk [2] [] (cW p) fun ⟨⟩=> ?_
 refine Z0 ?_
 have ⟨a2,t,u⟩:=bnd q
 refine Lk [0] [] (tQ t) fun ⟨⟩=> ?_
 refine Z0 ?_
 have ⟨a3,v,x⟩:=bnd u
 refine Lk [0] [] (tQ v) fun ⟨⟩=> ?_
 refine Z0 ?_
 have ⟨a4,y,z⟩:=bnd x
 refine Lk [0] [] (cW y) fun ⟨⟩=> ?_
 refine Z0 ?_
 have ⟨a5,B,C⟩:=bnd z
 refine Lk [0] [] (cW B) fun ⟨⟩=> ?_
 refine Z0 ?_
 have ⟨a6,F,I⟩:=bnd C
 refine Lk [0] [] (rT F) fun ⟨⟩=> ?_
 refine Z0 ?_
 have ⟨a7,J,M⟩:=bnd I
 refine Lk [0] [] (cW J) fun ⟨⟩=> ?_
 refine Z0 ?_
 have ⟨a8,N,O⟩:=bnd M
 refine Lk [0] [] (cW N) fun ⟨⟩=> ?_
 refine Z0 ?_
 have ⟨a9,P,Q⟩:=bnd O
 refine Lk [0] [] (uU P) fun ⟨d,g⟩=> ?_
 refine Z0 ?_
 refine Lt 2 ?_
 refine Z3 ?_
 have ⟨ba,R,S⟩:=bnd Q
 refine Lk [2] [] (cW R) fun ⟨⟩=> ?_
 refine Z0 ?_
 have ⟨b,U,V⟩:=bnd S
 refine Tjh (η:=Option Nat) (fun _=>[]) [2,4,5] (fun h=>(fun i=>[Ch.arr aJ 87 d g b.2.to.begun,Ch.mp aD true i b.2.rows,Ch.box g5 126 [.string b.1.s,.int .i64 b.1.e],Ch.box n 93 (G0 b.2 d g i)]) h) [4] (fun _=>[]) ?_ ?_
 ·refine Yl0 ?_
  refine Tq (η:=Option Nat) (fun a h=>(fun c=>[(6,.int .i64 a.2.2.1),(7,.int .i64 a.2.2.2)]) h) [2,4,5] (fun a h=>(fun c=>[Ch.arr aJ 87 d g a.1.to.begun,Ch.mp aD true c a.1.rows,Ch.box g5 126 [.string a.2.1.s,.int .i64 a.2.1.e],Ch.box n 93 (G0 a.1 d g c)]) h) [4] (fun _ _=>[]) (some g9) [2,2,0,0,0] [] U ?_
  rintro k_ a c bb W X Y
  refine Y2 ?_
  have ⟨Z,aa,ac⟩:=bnd W
  refine Tj0 [(43,.bool Z)] [2,4,5,6,7] [] [2,3,4,0,1] ?_ ?_
  ·refine Z0 ?_
   refine Lw 39 aa (fun j=> ?_) fun j=> ?_
   ·refine Z0 ?_
    have ⟨bc,ad,ae⟩:=bnd j
    refine Lk [2] [] (ly ad) fun ⟨⟩=> ?_
    refine Z0 ?_
    cases ae
    exact Eg0 [0,2,2,0,0] 0
   refine Z0 ?_
   cases j
   exact Eg0 [2,2,2,0,0] 0
  refine Tb ac (fun k=> ?_) fun k=> ?_
  ·refine Z1 ?_
   refine Zl ?_
   refine Z1 ?_
   have ⟨af,ah,ai⟩:=bnd k
   refine Lk [0] [] (cW ah) fun ⟨⟩=> ?_
   refine Y2 ?_
   have ⟨aj,ak,al⟩:=bnd ai
   refine Tj0 [(57,.bool aj)] [2,4,5,7,8] [] [0,1,2,3,4] ?_ ?_
   ·refine Z0 ?_
    refine Lw 51 ak (fun l=> ?_) fun l=> ?_
    ·refine Z0 ?_
     cases l
     exact Eg0 [0,0,0,0,0] 0
    refine Z0 ?_
    cases l
    exact Eg0 [0,0,0,0,0] 0
   have ⟨o,am,an⟩:=bnd al
   refine Tj0 [] [2,4,5,7,8] [Ch.box g5 126 [.string o.s,.int .i64 o.e]] [1,2,3,4] ?_ ?_
   ·refine Tb am (fun m=> ?_) fun m=> ?_
    ·refine Z0 ?_
     have ⟨bd,ao,ap⟩:=bnd m
     refine Lk [0] [] (fA ao) fun ⟨⟩=> ?_
     refine Z0 ?_
     cases ap
     exact Eg0 [0,0,0,0,0] 0
    refine Z0 ?_
    cases m
    exact Eg0 [0,0,0,0,0] 0
   refine Z1 ?_
   refine Td [] [1,1,1] mo ?_
   refine Dq 0 ?_
   refine Db 1 0 ?_
   refine Dq 2 ?_
   refine Dq 3 ?_
   refine Dq 4 ?_
   refine Dq 5 ?_
   refine Db 6 0 ?_
   have ⟨aq,ar,au⟩:=bnd an
   refine Dk [0] [] (qJ ar) fun ⟨av,aw⟩=> ?_
   have ⟨_,ax,ay⟩:=bnd au
   refine Da [1] [0] rfl rfl (Ac.mu (ty:=aD) (ag:=true) af.1 aq.1 (av,aw) ax (.inl rfl) rfl rfl rfl rfl rfl rfl rfl rfl) fun _=> ?_
   refine Dn ?_
   refine Z0 ?_
   cases ay
   exact Eg (_,c) (X _ rfl) [2,2,2,0,0] [] 1
  refine Z0 ?_
  cases k
  have hb:=Y _ rfl
  subst b
  exact Eg c trivial [3,3,0,0,0] [] 0
 rintro i
 refine Y1 ?_
 refine Td [3] [0,0,0,0,0] mo ?_
 refine Db 0 3 ?_
 refine Dq 1 ?_
 have ⟨be,az,a0⟩:=bnd V
 refine D.one rfl rfl rfl (Dp.ab [2] [] [1,1,0,0,0] (Ac.call (tP az) rfl rfl rfl rfl) rfl rfl rfl rfl rfl rfl (fun _=>rfl) ?_)
 rintro ⟨⟩
 refine Dt 4 ?_
 refine Dq 4 ?_
 refine Dn ?_
 refine Z0 ?_
 refine E.jf [Im.sl aD none 0 []] (fun A w _ _ f hf=>by rw [List.mem_singleton.1 hf]; exact Im.gU A w) ?_
 refine E.frz 1 rfl ?_
 cases a0
 exact Eo ((d,g),i) [1] [1,0] (.cell 0 rfl rfl rfl (.tmp rfl .nil))
theorem rJ {p:bT} {a:aM} {r:Bool×bT} (H:fD p a=some r):CT G 44 [.pointer (some ⟨N0,0,none⟩),.agg (iQ a A2 C2 A3 C3).toArray] [Ch.box N0 93 (GZ p A0 C0 A1 C1 M0),Ch.arr aD 71 A0 C0 p.to.rows,Ch.mp aD true M0 p.rows] [Im.sl aJ A1 C1 p.to.begun,Im.sl aD A2 C2 a.rows,Im.sl aJ A3 C3 a.begun] (fun h:(Option Addr×Nat)=> .bool r.1) (fun h=>[Ch.box N0 93 (GZ r.2 h.1 h.2 A1 C1 M0),Ch.mp aD true M0 r.2.rows]) (fun h=>[Im.sl aD h.1 h.2 r.2.to.rows,Im.sl aJ A1 C1 r.2.to.begun]):=by
 delta fD at H
 refine Cf Go.Proofs.Tryz.func44 fun K=> ?_
 refine Z1 ?_
 refine Lx fun g1=> ?_
 refine Z2 ?_
 have ⟨m,C,y⟩:=bnd H
 refine Tj (η:=bT×((Option Addr×Nat))) (fun h=>m = .inl h.1) (fun _=>[]) [0] (fun h=>(fun e=>(fun i j=>[Ch.arr aD 71 i j e.to.rows,Ch.mp aD true M0 e.rows,Ch.box N0 93 (GZ e i j A1 C1 M0)]) h.2.1 h.2.2) h.1) [0] (fun h=>(fun e=>(fun i j=>[Im.sl aJ A1 C1 e.to.begun]) h.2.1 h.2.2) h.1) ?_ ?_
 ·refine Yl0 ?_
  refine Tq (η:=(Option Addr×Nat)) (fun b h=>(fun c d=>[(15,.int .i64 b.2)]) h.1 h.2) [0,3,14] (fun b h=>(fun c d=>[Ch.arr aD 71 c d b.1.to.rows,Ch.mp aD true M0 b.1.rows,Ch.box N0 93 (GZ b.1 c d A1 C1 M0)]) h.1 h.2) [0] (fun b h=>(fun c d=>[Im.sl aJ A1 C1 b.1.to.begun]) h.1 h.2) (A0,C0) [2,2,1,0] [0] C ?_
  rintro k_ b ⟨c,d⟩ F I J z
  refine Y2 ?_
  refine Tb I (fun n=> ?_) fun n=> ?_
  ·refine Z1 ?_
   refine Zl ?_
   refine Z2 ?_
   have ⟨ak,M,N⟩:=bnd n
   refine Lk [] [2,3] (rU M) fun ⟨O,P⟩=> ?_
   refine Z0 ?_
   refine Ll fun al=> ?_
   refine Lt 0 ?_
   refine Z1 ?_
   refine La [2] [] (Ac.ml (ty:=aD) (ag:=true) (vv:=(fun h:(Option Addr×Nat)=>(fun o q=> .agg #[.slice o ((mgd b.1.rows b.2 (aE.mk ([]:List aG) false)).cells).length q,.bool ((mgd b.1.rows b.2 (aE.mk ([]:List aG) false)).wrapped)]) h.1 h.2)) b.2 (aE.mk ([]:List aG) false) (none,0) rfl rfl rfl rfl rfl rfl rfl rfl rfl (fun _ _ f hf=>by rw [List.mem_singleton.1 hf]; exact Im.gU _ _) KA (fun _=>rfl)) ?_
   rintro ⟨o,q⟩
   refine Z0 ?_
   refine Ll fun Q=> ?_
   refine Lt 0 ?_
   refine Y1 ?_
   have ⟨A,R,B⟩:=bnd N
   refine Tj (η:=aE×((Option Addr×Nat))) (fun h=>A = .inl h.1) (fun _=>[]) [0,3,8,14,15] (fun h=>(fun g=>(fun k l=>[Ch.box Q 71 [.slice k g.cells.length l,.bool g.wrapped]]) h.2.1 h.2.2) h.1) [2,4,5,1,3] (fun h=>(fun g=>(fun k l=>[Im.sl aT k l g.cells]) h.2.1 h.2.2) h.1) ?_ ?_
   ·refine Zl ?_
    refine Y2 ?_
    have ⟨S,U,V⟩:=bnd R
    refine Tj0 [(33,.bool S)] [0,3,6,7,8,9,14,15] [] [0,2,4,5,1,3] ?_ ?_
    ·refine Z0 ?_
     refine Lw 35 U (fun s=> ?_) fun s=> ?_
     ·refine Z0 ?_
      refine Lw 38 s (fun t=> ?_) fun t=> ?_
      ·refine Z0 ?_
       have ⟨am,W,X⟩:=bnd t
       refine Lk [] [1,0] (nV W) fun ⟨⟩=> ?_
       refine Z0 ?_
       cases X
       exact Eg0 [0,1,2,2,0,0] 0
      refine Z0 ?_
      cases t
      exact Eg0 [0,1,2,2,0,0] 0
     refine Z0 ?_
     cases s
     exact Eg0 [0,1,2,2,0,0] 0
    have ⟨Y,Z,aa⟩:=bnd V
    refine Tj0 [(33,.bool Y)] [0,3,6,8,9,14,15] [] [0,1,2,3,4,5] ?_ ?_
    ·refine Tb Z (fun u=> ?_) fun u=> ?_
     ·refine Z0 ?_
      cases u
      exact Eg0 [0,0,0,0,0,0] 0
     refine Z0 ?_
     refine Lw 45 u (fun v=> ?_) fun v=> ?_
     ·refine Z0 ?_
      cases v
      exact Eg0 [0,0,0,0,0,0] 0
     refine Z0 ?_
     cases v
     exact Eg0 [0,0,0,0,0,0] 0
    refine Tb aa (fun w=> ?_) fun w=> ?_
    ·refine Z1 ?_
     obtain ⟨an,hz,ab⟩:=dU w
     subst A
     obtain rfl:=(sm B).symm
     refine Z0 ?_
     obtain ⟨ao,hz,ac⟩:=fI ab
     subst F
     have hb:=z _ rfl
     subst m
     obtain rfl:=(sm y).symm
     refine Z0 ?_
     refine E.frz 5 rfl ?_
     cases ac
     exact Eo1 (c,d) [2,3] [0,3]
    refine Z1 ?_
    refine Tb w (fun x=> ?_) fun x=> ?_
    ·refine Z0 ?_
     refine Lt 0 ?_
     refine Z0 ?_
     cases x
     exact Eg (_,(O,P)) rfl [0,0,0,0,0,0] [1] 0
    refine Z0 ?_
    cases x
    exact Eg (_,(o,q)) rfl [0,0,0,0,0,0] [0] 0
   rintro ⟨g,⟨k,l⟩⟩ hy
   subst hy
   refine Td [12] [0,0,0,0,0] mo ?_
   refine Dq 0 ?_
   refine Dq 1 ?_
   refine Dq 2 ?_
   refine Dq 3 ?_
   refine Dq 4 ?_
   refine Db 5 2 ?_
   refine Db 6 0 ?_
   refine Da [] [0] rfl rfl (Ac.bs (ty:=aD) (xs:=[g]) (.cons (k,l) [0] rfl .nil) rfl rfl rfl rfl rfl rfl rfl) fun aq=> ?_
   refine D.frz 0 rfl ?_
   have ⟨_,ad,ae⟩:=bnd B
   refine Da [0] [0] rfl rfl (Ac.ap (ty:=aD) ad rfl rfl rfl rfl rfl rfl rfl) ?_
   rintro ⟨af,ah⟩
   refine Dq 9 ?_
   refine Dq 10 ?_
   refine Dq 11 ?_
   refine Dt 2 ?_
   refine Dn ?_
   refine Z0 ?_
   cases ae
   exact Eg (_,(af,ah)) (J _ rfl) [5,4,0,2] [4] 5
  refine Z0 ?_
  cases n
  have hb:=z _ rfl
  subst m
  exact Eg (_,(c,d)) rfl [0,0,0,0] [0] 1
 rintro ⟨e,⟨i,j⟩⟩ hy
 subst hy
 refine Z1 ?_
 refine L.frz 0 rfl ?_
 have ⟨ar,ai,aj⟩:=bnd y
 refine Lk [] [0,1] (uV ai) fun ⟨⟩=> ?_
 refine Z0 ?_
 cases aj
 exact Eo1 (i,j) [1,0] [0,1]
theorem tR {s_:aM} {r:aM} (H:jC s_=some r):CT G 45 [.agg (iQ s_ A0 C0 A1 C1).toArray] [] [Im.sl aD A0 C0 s_.rows,Im.sl aJ A1 C1 s_.begun] (fun h:(Option Addr×Nat)×(Option Addr×Nat)=> .agg (iQ r h.1.1 h.1.2 h.2.1 h.2.2).toArray) (fun h=>[]) (fun h=>[Im.sl aD h.1.1 h.1.2 r.rows,Im.sl aJ h.2.1 h.2.2 r.begun]):=by
 delta jC at H
 refine Cf Go.Proofs.Tryz.func45 fun K=> ?_
 refine Z1 ?_
 refine Lx fun g1=> ?_
 refine Ll fun g2=> ?_
 refine Z3 ?_
 have ⟨f,j,k⟩:=bnd H
 refine Tjh (η:=(Option Addr×Nat)) (fun h=>(fun a b=>[(3,.slice a f.length b)]) h.1 h.2) [1,2] (fun h=>(fun a b=>[Ch.arr aD 71 a b f]) h.1 h.2) [0,1] (fun _=>[]) ?_ ?_
 ·refine Yl0 ?_
  refine T.iM aD 71 ?_
  refine Tq (η:=(Option Addr×Nat)) (fun c h=>(fun d e=>[(3,.slice d c.1.length e),(9,.int .i64 c.2)]) h.1 h.2) [1,2,7,8] (fun c h=>(fun d e=>[Ch.arr aD 71 d e c.1]) h.1 h.2) [1,2] (fun _ _=>[]) (none,0) [0,0,0] [] j ?_
  rintro k_ c ⟨d,e⟩ N l m n
  refine Y2 ?_
  refine Tb l (fun g=> ?_) fun g=> ?_
  ·refine Z1 ?_
   refine Zl ?_
   refine Z1 ?_
   have ⟨o,i,p⟩:=bnd g
   refine L.addr 0 rfl (cX i) fun O P q=> ?_
   subst q
   refine Ly (Yl.ia i rfl rfl rfl rfl rfl rfl) ?_
   refine L.el 0 rfl (bD i).2 ?_
   rintro ⟨s,t⟩
   refine Lc 0 0 ?_
   refine Ll fun Q=> ?_
   refine Lt 0 ?_
   refine Z0 ?_
   refine Td [] [0,1,1] mo ?_
   refine Dq 0 ?_
   refine Dq 1 ?_
   refine Db 2 0 ?_
   refine Dq 4 ?_
   refine Db 5 0 ?_
   have ⟨u,v,w⟩:=bnd p
   refine Dk [] [1] (jZ s t v) fun ⟨x,y⟩=> ?_
   refine Dq 6 ?_
   refine D.frz 0 rfl ?_
   refine Da [] [0] rfl rfl (Ac.bs (ty:=aD) (xs:=[(aE.mk u o.wrapped)]) (.cons (x,y) [0] rfl .nil) rfl rfl rfl rfl rfl rfl rfl) fun R=> ?_
   refine D.frz 0 rfl ?_
   have ⟨_,z,A⟩:=bnd w
   refine Da [0] [0] rfl rfl (Ac.ap (ty:=aD) z rfl rfl rfl rfl rfl rfl rfl) ?_
   rintro ⟨B,C⟩
   refine Dq 9 ?_
   refine Dn ?_
   refine Z0 ?_
   cases A
   exact Eg (_,(B,C)) (m _ rfl) [3,1,1] [] 4
  refine Z0 ?_
  cases g
  have hb:=n _ rfl
  subst f
  exact Eg (d,e) trivial [0,0,0] [] 0
 rintro ⟨a,b⟩
 refine Z1 ?_
 have ⟨S,F,I⟩:=bnd k
 refine Lk [] [1] (jL A1 C1 F) fun ⟨J,M⟩=> ?_
 refine Z0 ?_
 refine Lt 3 ?_
 refine Z0 ?_
 refine Lt 0 ?_
 refine Z1 ?_
 refine Lt 3 ?_
 refine Z0 ?_
 refine E.frz 3 rfl ?_
 refine E.frz 2 rfl ?_
 cases I
 exact Eo ((a,b),(J,M)) [] [1,0] (.cell 0 rfl rfl rfl .nil)
theorem xf {a:aM} {s_:ByteArray} {r:aM×Int} (H:kK a s_=some r):CT G 12 [.agg (iQ a A0 C0 A1 C1).toArray,.string s_] [] [Im.sl aD A0 C0 a.rows,Im.sl aJ A1 C1 a.begun,Im.sl (Ty.int .u32) (some ⟨0,0,none⟩) 16 eE] (fun h:(Option Addr×Nat)×(Option Addr×Nat)=> .tuple #[.agg (iQ r.1 h.1.1 h.1.2 h.2.1 h.2.2).toArray,.int .i64 r.2]) (fun h=>[]) (fun h=>[Im.sl aD h.1.1 h.1.2 r.1.rows,Im.sl aJ h.2.1 h.2.2 r.1.begun]):=by
 delta kK at H
 refine Cf Go.Proofs.Tryz.func12 fun K=> ?_
 refine Z1 ?_
 refine Lx fun g1=> ?_
 refine Ll fun g2=> ?_
 refine Z2 ?_
 have ⟨r3,h4,H5⟩:=bnd H
 refine Lk [] [0,1] (kS h4) fun ⟨⟩=> ?_
 refine Z0 ?_
 refine Tb H5 (fun H7=> ?_) fun H7=> ?_
 ·refine Z1 ?_
  refine Lt 0 ?_
  refine Z0 ?_
  refine E.jf [Im.sl aD none 0 []] (fun A w _ _ f hf=>by rw [List.mem_singleton.1 hf]; exact Im.gU A w) ?_
  refine E.jf [Im.sl aJ none 0 []] (fun A w _ _ f hf=>by rw [List.mem_singleton.1 hf]; exact Im.gU A w) ?_
  cases H7
  exact Eo ((none,0),(none,0)) [] [1,0] (.cell 0 rfl rfl rfl (.tmp rfl .nil))
 refine Z1 ?_
 have ⟨t,e,g⟩:=bnd H7
 refine Lk [] [] (yT e) fun ⟨⟨u,v⟩,x⟩=> ?_
 refine Z0 ?_
 refine Ll fun y=> ?_
 refine Lt 0 ?_
 refine Z1 ?_
 refine Zl ?_
 refine Z1 ?_
 refine Tb g (fun b=> ?_) fun b=> ?_
 ·refine Z1 ?_
  refine Lt 2 ?_
  refine Z0 ?_
  refine E.jf [Im.sl aD none 0 []] (fun A w _ _ f hf=>by rw [List.mem_singleton.1 hf]; exact Im.gU A w) ?_
  refine E.jf [Im.sl aJ none 0 []] (fun A w _ _ f hf=>by rw [List.mem_singleton.1 hf]; exact Im.gU A w) ?_
  cases b
  exact Eo ((none,0),(none,0)) [] [1,0] (.cell 0 rfl rfl rfl (.tmp rfl .nil))
 refine Y1 ?_
 refine Td [] [0,0,0,0] mo ?_
 refine Dq 0 ?_
 refine Db 1 0 ?_
 refine Db 2 3 ?_
 have ⟨z,i,j⟩:=bnd b
 refine Dk [] [2,3,4] (jn i) fun ⟨⟩=> ?_
 refine Dq 4 ?_
 refine Dq 5 ?_
 refine Dn ?_
 refine Z0 ?_
 refine Tb j (fun c=> ?_) fun c=> ?_
 ·refine Z1 ?_
  refine Lt 2 ?_
  refine Z0 ?_
  refine E.jf [Im.sl aD none 0 []] (fun A w _ _ f hf=>by rw [List.mem_singleton.1 hf]; exact Im.gU A w) ?_
  refine E.jf [Im.sl aJ none 0 []] (fun A w _ _ f hf=>by rw [List.mem_singleton.1 hf]; exact Im.gU A w) ?_
  cases c
  exact Eo ((none,0),(none,0)) [] [1,0] (.cell 0 rfl rfl rfl (.tmp rfl .nil))
 refine Z1 ?_
 refine L.JH 0 71 rfl ?_
 have ⟨B,k,l⟩:=bnd c
 refine Lk [1,0,0] [1,2,3] (rJ k) fun ⟨C,F⟩=> ?_
 refine Z0 ?_
 refine Tb l (fun d=> ?_) fun d=> ?_
 ·refine Z1 ?_
  refine Lt 2 ?_
  refine Z0 ?_
  refine E.jf [Im.sl aD none 0 []] (fun A w _ _ f hf=>by rw [List.mem_singleton.1 hf]; exact Im.gU A w) ?_
  refine E.jf [Im.sl aJ none 0 []] (fun A w _ _ f hf=>by rw [List.mem_singleton.1 hf]; exact Im.gU A w) ?_
  cases d
  exact Eo ((none,0),(none,0)) [] [1,0] (.cell 0 rfl rfl rfl (.tmp rfl .nil))
 refine Z1 ?_
 have ⟨I,m,n⟩:=bnd d
 refine Lk [] [0,1] (tR m) fun ⟨⟨o,p⟩,⟨q,s⟩⟩=> ?_
 refine Lt 2 ?_
 refine Z0 ?_
 cases n
 exact Eo ((o,p),(q,s)) [] [0,1] (.cell 0 rfl rfl rfl (.tmp rfl .nil))
theorem pC {texts:List ByteArray} {out:Int} {r:Bool} (H:iO texts out=some r):CT G 3 [.slice A0 texts.length C0,.int .i64 out] [] [Im.sl Ty.str A0 C0 texts,Im.sl (Ty.int .u32) (some ⟨0,0,none⟩) 16 eE,Im.sl cI (some ⟨1,0,none⟩) 13 cT,Im.sl cI (some ⟨2,0,none⟩) 14 dC,Im.sl dY (some ⟨3,0,none⟩) 8 bW] (fun _:Unit=> .bool r) (fun h=>[]) (fun h=>[]):=by
 delta iO at H
 refine Cf Go.Proofs.Tryz.func3 fun K=> ?_
 refine Z2 ?_
 have ⟨r1,h2,H3⟩:=bnd H
 refine Lk [] [] (Aw h2) fun ⟨g4,g5,⟨a6,c7⟩,⟨a8,c9⟩,⟨cb,cc⟩,au,⟨cd,ce⟩,⟨e0,e1⟩,av,cf,⟨cg,ch⟩⟩=> ?_
 refine Z2 ?_
 refine Ly (Yl.pn rfl rfl rfl rfl rfl rfl) ?_
 refine Z0 ?_
 have ⟨e2,ci,cj⟩:=bnd H3
 refine Lk [0,0,0,0,0,0,0,0,0,0] [] (nR ci) fun ⟨⟨e3,e4⟩,⟨e5,e6⟩,⟨e7,e8⟩⟩=> ?_
 refine Z0 ?_
 refine Tb cj (fun a2=> ?_) fun a2=> ?_
 ·refine Z1 ?_
  cases a2
  exact Eo1 () [] []
 refine Z3 ?_
 refine Ll fun bp=> ?_
 refine Lt 0 ?_
 refine Z2 ?_
 have ⟨a3,ck,bq⟩:=bnd a2
 refine Tj (η:=((List ByteArray)×(List aM)×aM×bK)×((Option Addr×Nat)×(Option Addr×Nat)×(Option Addr×Nat)×(Option Addr×Nat)×(Option Addr×Nat)×(Option Addr×Nat)×(Option Addr×Nat)×(Option Addr×Nat)×Nat×(Option Addr×Nat))) (fun h=>a3 = .inl h.1) (fun h=>(fun c=>(fun Q R S U V W X Y Z aa ab ad ae af ag ah ai aj ak=>[(6,.slice Q c.1.length R),(7,.slice S c.2.1.length U)]) h.2.1.1 h.2.1.2 h.2.2.1.1 h.2.2.1.2 h.2.2.2.1.1 h.2.2.2.1.2 h.2.2.2.2.1.1 h.2.2.2.2.1.2 h.2.2.2.2.2.1.1 h.2.2.2.2.2.1.2 h.2.2.2.2.2.2.1.1 h.2.2.2.2.2.2.1.2 h.2.2.2.2.2.2.2.1.1 h.2.2.2.2.2.2.2.1.2 h.2.2.2.2.2.2.2.2.1.1 h.2.2.2.2.2.2.2.2.1.2 h.2.2.2.2.2.2.2.2.2.1 h.2.2.2.2.2.2.2.2.2.2.1 h.2.2.2.2.2.2.2.2.2.2.2) h.1) [1,8] (fun h=>(fun c=>(fun Q R S U V W X Y Z aa ab ad ae af ag ah ai aj ak=>[Ch.arr Ty.str 9 Q R c.1,Ch.arr nO 28 S U c.2.1,Ch.arr (Ty.slice aJ) 26 Z aa c.2.2.2.book.l,Ch.arr (Ty.int .i64) 3 ab ad c.2.2.2.book.bZ,Ch.arr aJ 87 ae af c.2.2.2.book.begun,Ch.opt (c.2.2.2.parser.state == (3:Int)) (Ty.int .i64) 3 ag ah c.2.2.2.parser.order.bQ,Ch.arr aD 71 aj ak c.2.2.2.bB.g.l,Ch.box bp 28 (iQ c.2.2.1 V W X Y),Ch.box g4 58 (rA c.2.2.2 g5 au av),Ch.box g5 100 [.slice Z c.2.2.2.book.l.length aa,.slice ab c.2.2.2.book.bZ.length ad,.slice ae c.2.2.2.book.begun.length af],Ch.box au 54 (lZ c.2.2.2.parser ag ah),Ch.box av 108 (cH c.2.2.2.bB ai),Ch.box ai 153 [.int .i64 c.2.2.2.bB.g.w,.slice aj c.2.2.2.bB.g.l.length ak]]) h.2.1.1 h.2.1.2 h.2.2.1.1 h.2.2.1.2 h.2.2.2.1.1 h.2.2.2.1.2 h.2.2.2.2.1.1 h.2.2.2.2.1.2 h.2.2.2.2.2.1.1 h.2.2.2.2.2.1.2 h.2.2.2.2.2.2.1.1 h.2.2.2.2.2.2.1.2 h.2.2.2.2.2.2.2.1.1 h.2.2.2.2.2.2.2.1.2 h.2.2.2.2.2.2.2.2.1.1 h.2.2.2.2.2.2.2.2.1.2 h.2.2.2.2.2.2.2.2.2.1 h.2.2.2.2.2.2.2.2.2.2.1 h.2.2.2.2.2.2.2.2.2.2.2) h.1) [] (fun h=>(fun c=>(fun Q R S U V W X Y Z aa ab ad ae af ag ah ai aj ak=>[Im.sl aD V W c.2.2.1.rows,Im.sl aJ X Y c.2.2.1.begun]) h.2.1.1 h.2.1.2 h.2.2.1.1 h.2.2.1.2 h.2.2.2.1.1 h.2.2.2.1.2 h.2.2.2.2.1.1 h.2.2.2.2.1.2 h.2.2.2.2.2.1.1 h.2.2.2.2.2.1.2 h.2.2.2.2.2.2.1.1 h.2.2.2.2.2.2.1.2 h.2.2.2.2.2.2.2.1.1 h.2.2.2.2.2.2.2.1.2 h.2.2.2.2.2.2.2.2.1.1 h.2.2.2.2.2.2.2.2.1.2 h.2.2.2.2.2.2.2.2.2.1 h.2.2.2.2.2.2.2.2.2.2.1 h.2.2.2.2.2.2.2.2.2.2.2) h.1) ?_ ?_
 ·refine Yl0 ?_
  refine T.jf [Im.sl aD none 0 []] (fun A w _ _ f hf=>by rw [List.mem_singleton.1 hf]; exact Im.gU A w) ?_
  refine T.jf [Im.sl aJ none 0 []] (fun A w _ _ f hf=>by rw [List.mem_singleton.1 hf]; exact Im.gU A w) ?_
  refine T.iM Ty.str 9 ?_
  refine T.iM nO 28 ?_
  refine Tq (η:=(Option Addr×Nat)×(Option Addr×Nat)×(Option Addr×Nat)×(Option Addr×Nat)×Nat×(Option Addr×Nat)×(Option Addr×Nat)×(Option Addr×Nat)×(Option Addr×Nat)×(Option Addr×Nat)) (fun b h=>(fun s t u x y z B C F I J e i j k M N O P=>[(6,.slice M b.2.2.1.length N),(7,.slice O b.2.2.2.1.length P),(9,.int .i64 b.2.2.2.2)]) h.1.1 h.1.2 h.2.1.1 h.2.1.2 h.2.2.1.1 h.2.2.1.2 h.2.2.2.1.1 h.2.2.2.1.2 h.2.2.2.2.1 h.2.2.2.2.2.1.1 h.2.2.2.2.2.1.2 h.2.2.2.2.2.2.1.1 h.2.2.2.2.2.2.1.2 h.2.2.2.2.2.2.2.1.1 h.2.2.2.2.2.2.2.1.2 h.2.2.2.2.2.2.2.2.1.1 h.2.2.2.2.2.2.2.2.1.2 h.2.2.2.2.2.2.2.2.2.1 h.2.2.2.2.2.2.2.2.2.2) [0,1,5,8] (fun b h=>(fun s t u x y z B C F I J e i j k M N O P=>[Ch.arr (Ty.slice aJ) 26 s t b.1.book.l,Ch.arr (Ty.int .i64) 3 u x b.1.book.bZ,Ch.arr aJ 87 y z b.1.book.begun,Ch.opt (b.1.parser.state == (3:Int)) (Ty.int .i64) 3 B C b.1.parser.order.bQ,Ch.arr aD 71 I J b.1.bB.g.l,Ch.arr Ty.str 9 M N b.2.2.1,Ch.arr nO 28 O P b.2.2.2.1,Ch.box bp 28 (iQ b.2.1 e i j k),Ch.box g4 58 (rA b.1 g5 au av),Ch.box g5 100 [.slice s b.1.book.l.length t,.slice u b.1.book.bZ.length x,.slice y b.1.book.begun.length z],Ch.box au 54 (lZ b.1.parser B C),Ch.box av 108 (cH b.1.bB F),Ch.box F 153 [.int .i64 b.1.bB.g.w,.slice I b.1.bB.g.l.length J]]) h.1.1 h.1.2 h.2.1.1 h.2.1.2 h.2.2.1.1 h.2.2.1.2 h.2.2.2.1.1 h.2.2.2.1.2 h.2.2.2.2.1 h.2.2.2.2.2.1.1 h.2.2.2.2.2.1.2 h.2.2.2.2.2.2.1.1 h.2.2.2.2.2.2.1.2 h.2.2.2.2.2.2.2.1.1 h.2.2.2.2.2.2.2.1.2 h.2.2.2.2.2.2.2.2.1.1 h.2.2.2.2.2.2.2.2.1.2 h.2.2.2.2.2.2.2.2.2.1 h.2.2.2.2.2.2.2.2.2.2) [] (fun b h=>(fun s t u x y z B C F I J e i j k M N O P=>[Im.sl aD e i b.2.1.rows,Im.sl aJ j k b.2.1.begun]) h.1.1 h.1.2 h.2.1.1 h.2.1.2 h.2.2.1.1 h.2.2.1.2 h.2.2.2.1.1 h.2.2.2.1.2 h.2.2.2.2.1 h.2.2.2.2.2.1.1 h.2.2.2.2.2.1.2 h.2.2.2.2.2.2.1.1 h.2.2.2.2.2.2.1.2 h.2.2.2.2.2.2.2.1.1 h.2.2.2.2.2.2.2.1.2 h.2.2.2.2.2.2.2.2.1.1 h.2.2.2.2.2.2.2.2.1.2 h.2.2.2.2.2.2.2.2.2.1 h.2.2.2.2.2.2.2.2.2.2) ((a6,c7),(a8,c9),(cb,cc),(cd,ce),cf,(cg,ch),(none,0),(none,0),(none,0),(none,0)) [5,5,5,6,8,1,0,0,0,0,0,0,0] [1,0] ck ?_
  rintro k_ b ⟨⟨s,t⟩,⟨u,x⟩,⟨y,z⟩,⟨B,C⟩,F,⟨I,J⟩,⟨e,i⟩,⟨j,k⟩,⟨M,N⟩,⟨O,P⟩⟩ cl cm cn br
  refine Y2 ?_
  have ⟨co,cp,cq⟩:=bnd cm
  refine Tj0 [(35,.bool co)] [0,1,5,6,7,8,9] [] [7,8,9,10,11,12,0,1,2,3,4,5,6] ?_ ?_
  ·refine Z0 ?_
   refine Lw 32 cp (fun a4=> ?_) fun a4=> ?_
   ·refine Z0 ?_
    cases a4
    exact Eg0 [7,7,7,7,7,7,0,0,0,0,0,0,0] 0
   refine Z0 ?_
   cases a4
   exact Eg0 [7,7,7,7,7,7,0,0,0,0,0,0,0] 0
  refine Tb cq (fun a5=> ?_) fun a5=> ?_
  ·refine Z1 ?_
   refine Zl ?_
   refine Z1 ?_
   have ⟨e9,a7,cr⟩:=bnd a5
   refine L.addr 6 rfl (cX a7) fun fa fb ct=> ?_
   subst ct
   refine Ly (Yl.ia a7 rfl rfl rfl rfl rfl rfl) ?_
   refine L.el 6 rfl (bD a7).2 ?_
   rintro _
   refine Lc 0 0 ?_
   have ⟨fc,cu,cv⟩:=bnd cr
   refine Lk [] [] (Ax cu) fun ⟨⟩=> ?_
   refine Z0 ?_
   have ⟨fd,cw,cx⟩:=bnd cv
   refine Lk [1,1,4,4,4,1,3,1,1,1] [8,9,10,11] (uB cw) fun ⟨⟨cy,cz⟩,⟨c0,c1⟩,⟨c2,c3⟩,⟨c4,c5⟩,⟨fe,ff⟩,c6,⟨c8,da⟩⟩=> ?_
   refine Z1 ?_
   have ⟨fg,db,dc⟩:=bnd cx
   refine Lk [0,0,0,0,0,0,0,0,0,0] [] (nR db) fun ⟨⟨dd,de⟩,⟨df,dg⟩,⟨fh,fi⟩⟩=> ?_
   refine Ll fun fj=> ?_
   refine Lt 0 ?_
   refine Z1 ?_
   have ⟨fk,dh,di⟩:=bnd dc
   refine Lk [] [0,1] (mQ dh) fun ⟨⟩=> ?_
   have ⟨fl,dj,dk⟩:=bnd di
   refine Lk [] [] (yR dj) fun ⟨⟨fm,fn⟩,⟨fo,fp⟩⟩=> ?_
   refine Z0 ?_
   refine Ll fun fq=> ?_
   refine Lt 0 ?_
   refine Y2 ?_
   have ⟨dl,dm,dn⟩:=bnd dk
   refine Tj0 [(61,.bool dl)] [0,1,5,6,7,8,9,10] [] [0,1,2,3,7,9,10,12,4,5,6,8,11,13,14] ?_ ?_
   ·refine Z0 ?_
    refine Lw 56 dm (fun a9=> ?_) fun a9=> ?_
    ·refine Z0 ?_
     cases a9
     exact Eg0 [0,0,0,0,3,4,4,5,0,0,0,0,0,0,0] 0
    refine Z0 ?_
    have ⟨fr,dp,dq⟩:=bnd a9
    refine Lk [] [0,1,2,3] (mR dp) fun ⟨⟩=> ?_
    refine Z0 ?_
    cases dq
    exact Eg0 [0,0,0,0,3,4,4,5,0,0,0,0,0,0,0] 0
   refine Tb dn (fun ba=> ?_) fun ba=> ?_
   ·refine Z1 ?_
    obtain ⟨fs,hz,dr⟩:=fI ba
    subst cl
    have hb:=br _ rfl
    subst a3
    obtain rfl:=(sm bq).symm
    refine Z0 ?_
    cases dr
    exact Eo1 () [] []
   refine Y1 ?_
   refine Td [] [0,0,0,0,0,0,0,0,0,0,0,0,0] mo ?_
   refine Dq 0 ?_
   refine Db 1 7 ?_
   refine Db 2 1 ?_
   refine Dq 6 ?_
   refine Db 7 7 ?_
   refine DF.of rfl ?_
   have ⟨ds,dt,du⟩:=bnd ba
   refine DF.add _ (FSp.ac 3 [5,6,2,3,12] (Ac.call (yS dt) rfl rfl rfl rfl) rfl rfl rfl rfl rfl) rfl ?_
   refine DF.add _ (FSp.dep 0 rfl rfl fun ⟨⟩=>FSp.ac 4 [] (Ac.frz (Ac.bs (ty:=Ty.str) (xs:=[ds]) (.cons () [] rfl .nil) rfl rfl rfl rfl rfl rfl rfl)) rfl rfl rfl rfl rfl) rfl ?_
   refine DF.add _ (FSp.ac 8 [5,6] (Ac.frz (Ac.bs (ty:=nO) (xs:=[b.2.1]) (.cons ((e,i),(j,k)) [0,1] rfl .nil) rfl rfl rfl rfl rfl rfl rfl)) rfl rfl rfl rfl rfl) rfl ?_
   refine DF.step 5 rfl rfl rfl rfl rfl ?_
   refine DFp.use 1 rfl rfl rfl ?_
   intro ft
   refine DFp.use 1 rfl rfl rfl ?_
   rintro ⟨⟩
   have ⟨_,dv,dw⟩:=bnd du
   refine DFp.a [0] [0] (Ac.ap (ty:=Ty.str) dv rfl rfl rfl rfl rfl rfl rfl) rfl rfl rfl rfl rfl rfl rfl rfl ?_
   rintro ⟨dx,dy⟩
   refine DF.step 9 rfl rfl rfl rfl rfl ?_
   refine DFp.use 0 rfl rfl rfl ?_
   intro fu
   have ⟨_,dz,d0⟩:=bnd dw
   refine DFp.a [1] [0] (Ac.ap (ty:=nO) dz rfl rfl rfl rfl rfl rfl rfl) rfl rfl rfl rfl rfl rfl rfl rfl ?_
   rintro ⟨d1,d2⟩
   refine DF.step 10 rfl rfl rfl rfl rfl ?_
   refine DFp.a0 [] [] (Ac.q rfl) rfl rfl rfl rfl rfl rfl ?_
   intro _
   refine DF.step 11 rfl rfl rfl rfl rfl ?_
   refine DFp.a0 [] [] (Ac.q rfl) rfl rfl rfl rfl rfl rfl ?_
   intro _
   refine DF.fin rfl rfl rfl rfl rfl ?_
   refine DFe.nil ?_
   refine Z0 ?_
   refine Lt 7 ?_
   refine Z0 ?_
   cases d0
   exact Eg (_,((cy,cz),(c0,c1),(c2,c3),(c4,c5),c6,(c8,da),(dd,de),(df,dg),(dx,dy),(d1,d2))) (cn _ rfl) [8,8,8,8,8,9,8,0,2,2,2,2,2] [4,5] 9
  refine Z0 ?_
  cases a5
  have hb:=br _ rfl
  subst a3
  exact Eg (_,((M,N),(O,P),(e,i),(j,k),(s,t),(u,x),(y,z),(B,C),F,(I,J))) rfl [11,11,6,6,6,6,6,0,0,0,0,0,0] [0,1] 4
 rintro ⟨c,⟨⟨Q,R⟩,⟨S,U⟩,⟨V,W⟩,⟨X,Y⟩,⟨Z,aa⟩,⟨ab,ad⟩,⟨ae,af⟩,⟨ag,ah⟩,ai,⟨aj,ak⟩⟩⟩ hy
 subst hy
 refine Z1 ?_
 refine Ll fun bb=> ?_
 refine Lt 0 ?_
 refine Z2 ?_
 have ⟨aw,d3,bc⟩:=bnd bq
 refine Tj (η:=aM×((Option Addr×Nat)×(Option Addr×Nat))) (fun h=>aw = .inl h.1) (fun _=>[]) [1,6,8,13] (fun h=>(fun al=>(fun ax ay az a1=>[Ch.box bb 28 (iQ al ax ay az a1)]) h.2.1.1 h.2.1.2 h.2.2.1 h.2.2.2) h.1) [8,9,10,11,12,13,1,3,4,5,6,7] (fun h=>(fun al=>(fun ax ay az a1=>[Im.sl aD ax ay al.rows,Im.sl aJ az a1 al.begun]) h.2.1.1 h.2.1.2 h.2.2.1 h.2.2.2) h.1) ?_ ?_
 ·refine Yl0 ?_
  refine T.jf [Im.sl aD none 0 []] (fun A w _ _ f hf=>by rw [List.mem_singleton.1 hf]; exact Im.gU A w) ?_
  refine T.jf [Im.sl aJ none 0 []] (fun A w _ _ f hf=>by rw [List.mem_singleton.1 hf]; exact Im.gU A w) ?_
  refine Tq (η:=(Option Addr×Nat)×(Option Addr×Nat)) (fun d h=>(fun m n o p=>[(76,.int .i64 d.2)]) h.1.1 h.1.2 h.2.1 h.2.2) [1,6,7,8,13,74,75] (fun d h=>(fun m n o p=>[Ch.box bb 28 (iQ d.1 m n o p)]) h.1.1 h.1.2 h.2.1 h.2.2) [8,9,10,11,12,13,1,2,3,4,5,6,7] (fun d h=>(fun m n o p=>[Im.sl aD m n d.1.rows,Im.sl aJ o p d.1.begun]) h.1.1 h.1.2 h.2.1 h.2.2) ((none,0),(none,0)) [0,7,7,7,7,7,7,0,0,0,0,0,0,0] [1,0] d3 ?_
  rintro k_ d ⟨⟨m,n⟩,⟨o,p⟩⟩ bt d4 d5 bd
  refine Y2 ?_
  refine Tb d4 (fun be=> ?_) fun be=> ?_
  ·refine Y1 ?_
   have ⟨bf,d6,bg⟩:=bnd be
   refine Tj (η:=aM×((Option Addr×Nat)×(Option Addr×Nat))) (fun h=>bf = .inl h.1) (fun _=>[]) [1,6,7,8,13,74,75,76] (fun h=>(fun am=>(fun an ao aq ar=>[Ch.box bb 28 (iQ am an ao aq ar)]) h.2.1.1 h.2.1.2 h.2.2.1 h.2.2.2) h.1) [1,2,3,4,5,6,7,8,9,10,11,12,13] (fun h=>(fun am=>(fun an ao aq ar=>[Im.sl aD an ao am.rows,Im.sl aJ aq ar am.begun]) h.2.1.1 h.2.1.2 h.2.2.1 h.2.2.2) h.1) ?_ ?_
   ·refine Zl ?_
    refine Z1 ?_
    have ⟨d7,bh,d8⟩:=bnd d6
    refine L.l8 7 rfl (cX bh) fun fv d9=> ?_
    subst d9
    refine Ly (Yl.ia bh rfl rfl rfl rfl rfl rfl) ?_
    refine Ly (Yl.lo (v:= .string d7) 7 d.2.toNat 0 (bD bh).2 rfl rfl rfl rfl (fun _=>rfl)) ?_
    refine Z2 ?_
    refine Tb d8 (fun bi=> ?_) fun bi=> ?_
    ·refine Z0 ?_
     cases bi
     exact Eg (_,((m,n),(o,p))) rfl [0,0,0,0,0,0,0,0,0,0,0,0,0,0] [0,1] 0
    refine Z1 ?_
    have ⟨fw,ea,eb⟩:=bnd bi
    refine Lk [] [0,1,9] (xf ea) fun ⟨⟨ec,ed⟩,⟨ee,ef⟩⟩=> ?_
    refine Z0 ?_
    refine Ll fun fx=> ?_
    refine Lt 0 ?_
    refine Y2 ?_
    refine Td [] [0,0,0,0,0,0,0,0,0,1,1,1,1,1] mo ?_
    refine Db 0 1 ?_
    refine Dq 1 ?_
    refine Dq 2 ?_
    have ⟨eg,bj,eh⟩:=bnd eb
    refine D.l8 14 rfl (cX bj) fun fy ei=> ?_
    subst ei
    refine Dy 3 (Yl.ia bj rfl rfl rfl rfl rfl rfl) ?_
    refine Da [0] [] rfl rfl (Ac.lo d.2.toNat 0 (v:=(fun h:(Option Addr×Nat)×(Option Addr×Nat)=>(fun bu bv bw bx=> .agg (iQ eg bu bv bw bx).toArray) h.1.1 h.1.2 h.2.1 h.2.2)) (bD bj).2 rfl rfl rfl (fun _=>rfl)) ?_
    rintro ⟨⟨bu,bv⟩,⟨bw,bx⟩⟩
    have ⟨fz,ej,ek⟩:=bnd eh
    refine Dk [] [4,5,0,1] (mR ej) fun ⟨⟩=> ?_
    refine Dq 6 ?_
    refine Dn ?_
    refine Z0 ?_
    refine Tb ek (fun bk=> ?_) fun bk=> ?_
    ·refine Y1 ?_
     have ⟨em,en,eo⟩:=bnd bk
     refine Tj0 [(4,.bool em)] [] [] [0,1,2,3,4,5,6,7,9,10,11,12,13] ?_ ?_
     ·refine Td [] [0,0,0,0,0,0,0,0,0,0,0,0,0,0] mo ?_
      refine Dq 0 ?_
      refine Dq 1 ?_
      refine Dq 2 ?_
      refine D.cs 99 en rfl (fun hc bl=> ?_) (fun hc bl=> ?_)
      ·refine Ds 3 ?_
       refine Ds 4 ?_
       refine Ds 5 ?_
       refine Ds 6 ?_
       refine Ds 7 ?_
       refine Ds 8 ?_
       refine Ds 9 ?_
       refine Ds 10 ?_
       refine Dq 11 ?_
       refine Dq 12 ?_
       refine Dn ?_
       cases bl
       exact Eg0 [0,0,0,0,0,0,0,0,1,1,1,1,1] 0
      refine Db 3 1 ?_
      refine Dq 5 ?_
      refine Dq 6 ?_
      have ⟨bz,bm,ep⟩:=bnd bl
      refine Dy 7 (Yl.ia bm rfl rfl rfl rfl rfl rfl) ?_
      have ⟨f0,b0,eq⟩:=bnd ep
      have ⟨f1,b1,b2⟩:=bnd eq
      refine D.two rfl rfl rfl ?_ ?_
      ·refine Dp.a [] [4,5,13] (Ac.call (jn b0) rfl rfl rfl rfl) rfl rfl rfl rfl rfl rfl ?_
       rintro ⟨⟩
       refine Da [0] [] rfl rfl (Ac.lo d.2.toNat 0 (v:=(fun h:(Option Addr×Nat)×(Option Addr×Nat)=>(fun b3 b4 b5 b6=> .agg (iQ bz b3 b4 b5 b6).toArray) h.1.1 h.1.2 h.2.1 h.2.2)) (bD bm).2 rfl rfl rfl (fun _=>rfl)) ?_
       rintro ⟨⟨b3,b4⟩,⟨b5,b6⟩⟩
       refine Dk [] [0,1,15] (jn b1) fun ⟨⟩=> ?_
       refine Dq 10 ?_
       refine Dq 11 ?_
       refine Dq 12 ?_
       refine Dn ?_
       cases b2
       exact Eg0 [0,0,0,0,0,0,0,0,1,1,1,1,1] 2
      refine Dp.a [0] [] (Ac.lo d.2.toNat 0 (v:=(fun h:(Option Addr×Nat)×(Option Addr×Nat)=>(fun b7 b8 b9 ca=> .agg (iQ bz b7 b8 b9 ca).toArray) h.1.1 h.1.2 h.2.1 h.2.2)) (bD bm).2 rfl rfl rfl (fun _=>rfl)) rfl rfl rfl rfl rfl rfl ?_
      rintro ⟨⟨b7,b8⟩,⟨b9,ca⟩⟩
      refine Dk [] [6,7,15] (jn b0) fun ⟨⟩=> ?_
      refine Dk [] [0,1,15] (jn b1) fun ⟨⟩=> ?_
      refine Dq 10 ?_
      refine Dq 11 ?_
      refine Dq 12 ?_
      refine Dn ?_
      cases b2
      exact Eg0 [0,0,0,0,0,0,0,0,1,1,1,1,1] 2
     refine Z0 ?_
     obtain ⟨f2,hz,er⟩:=dU eo
     subst bf
     obtain rfl:=(sm bg).symm
     refine Z0 ?_
     obtain ⟨f3,hz,es⟩:=fI er
     subst bt
     have hb:=bd _ rfl
     subst aw
     obtain rfl:=(sm bc).symm
     refine Z0 ?_
     cases es
     exact Eo1 () [] []
    refine Z2 ?_
    refine Tb bk (fun bn=> ?_) fun bn=> ?_
    ·refine Z1 ?_
     obtain ⟨f4,hz,et⟩:=dU bn
     subst bf
     obtain rfl:=(sm bg).symm
     refine Z0 ?_
     obtain ⟨f5,hz,eu⟩:=fI et
     subst bt
     have hb:=bd _ rfl
     subst aw
     obtain rfl:=(sm bc).symm
     refine Z0 ?_
     cases eu
     exact Eo1 () [] []
    refine Z0 ?_
    refine Lt 1 ?_
    refine Z0 ?_
    cases bn
    exact Eg (_,((ec,ed),(ee,ef))) rfl [0,1,1,1,1,1,1,1,6,1,1,1,1,1] [2,3] 4
   rintro ⟨am,⟨⟨an,ao⟩,⟨aq,ar⟩⟩⟩ hy
   subst hy
   refine Z0 ?_
   cases bg
   exact Eg (_,((an,ao),(aq,ar))) (d5 _ rfl) [0,0,0,0,0,0,0,0,0,0,0,0,0,0] [0,1] 4
  refine Z0 ?_
  cases be
  have hb:=bd _ rfl
  subst aw
  exact Eg (_,((m,n),(o,p))) rfl [0,0,0,0,0,0,0,0,1,1,1,1,1] [0,1] 4
 rintro ⟨al,⟨⟨ax,ay⟩,⟨az,a1⟩⟩⟩ hy
 subst hy
 refine Y1 ?_
 have ⟨ev,ew,ex⟩:=bnd bc
 refine Tj0 [(4,.bool ev)] [] [] [0,1,2,3,4,5,6,8,9,10,11,12] ?_ ?_
 ·refine Z0 ?_
  have ⟨f6,ey,ez⟩:=bnd ew
  refine Lk [] [0,1,2,3] (mR ey) fun ⟨⟩=> ?_
  refine Z0 ?_
  refine Lw 116 ez (fun bo=> ?_) fun bo=> ?_
  ·refine Z0 ?_
   cases bo
   exact Eg0 [0,0,0,0,0,0,0,1,1,1,1,1] 0
  refine Z0 ?_
  cases bo
  exact Eg0 [0,0,0,0,0,0,0,1,1,1,1,1] 0
 refine Z0 ?_
 cases ex
 exact Eo1 () [] []
end Go.Tw.X
set_option maxHeartbeats 2000000
set_option linter.unusedVariables false
set_option linter.unusedSimpArgs false
set_option maxRecDepth 10000
namespace Go.Tw.X
open Go Go.Tw
theorem Mh:Opn Go.Proofs.Tryz.prog 9 Ty.str (fun s:ByteArray=>s.size≤maxLen):=Opn.str (by kernel_rfl)
theorem LL:Opn Go.Proofs.Tryz.prog 22 (Ty.slice Ty.str) (fun xs:List ByteArray=> ∀ x∈xs,(fun s:ByteArray=>s.size≤maxLen) x):=Opn.slice (by kernel_rfl) Mh (by kernel_rfl) (by decide)
theorem Mi:Opn Go.Proofs.Tryz.prog 3 (Ty.int .i64) (inK .i64):=Opn.int (by kernel_rfl)
end Go.Tw.X

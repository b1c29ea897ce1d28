import Derived.Test.YtcdklfbklcmbkaaGreatDoorWk1
import Derived.Test.YtcdklfbklcmbkaaGreatDoorFw2
set_option maxHeartbeats 2000000
set_option linter.unusedVariables false
set_option linter.unusedSimpArgs false
set_option maxRecDepth 10000
namespace Go.Tw.X
open Go Go.Tw
variable {A0 A1 A2 A3 A4 A5 A6 A7 A8 : Option Addr} {C0 C1 C2 C3 C4 C5 C6 C7 C8 : Nat}
variable {N0 N1 N2 N3 N4 : Nat}
variable {M0 : Option Nat}
theorem pG {s_:aV} {r:Bool} (H:iy s_=some r):CT G 55 [.agg (tf s_ A0 C0 A1 C1).toArray] [] [Im.sl bA A0 C0 s_.rows,Im.sl aP A1 C1 s_.begun] (λ_:Unit=> .bool r) (λh=>[]) (λh=>[]):=by
 delta iy at H
 refine Cf Go.Proofs.Tryz.func55 λK=> ?_
 refine Z1 ?_
 refine Lx λg1=> ?_
 refine Z2 ?_
 have ⟨r2,h3,H4⟩:=bnd H
 refine Lk [] [0,1] (nA h3) λ⟨⟩=> ?_
 refine Z0 ?_
 refine Tb H4 (λH6=> ?_) λH6=> ?_
 ·refine Z1 ?_
  cases H6
  exact Eo1 () [] []
 refine Y2 ?_
 have ⟨ap,aq,ar⟩:=bnd H6
 refine Tj0 [(70,.bool ap)] [1] [] [0] ?_ ?_
 ·refine Z0 ?_
  refine Lw 14 aq (λf=> ?_) λf=> ?_
  ·refine Z0 ?_
   cases f
   exact Eg0 [0] 0
  refine Z0 ?_
  refine Lw 19 f (λg=> ?_) λg=> ?_
  ·refine Z0 ?_
   cases g
   exact Eg0 [0] 0
  refine Z0 ?_
  refine Lw 24 g (λi=> ?_) λi=> ?_
  ·refine Z0 ?_
   cases i
   exact Eg0 [0] 0
  refine Z0 ?_
  refine Lw 29 i (λj=> ?_) λj=> ?_
  ·refine Z0 ?_
   cases j
   exact Eg0 [0] 0
  refine Z0 ?_
  refine Lw 34 j (λm=> ?_) λm=> ?_
  ·refine Z0 ?_
   cases m
   exact Eg0 [0] 0
  refine Z0 ?_
  refine Lw 39 m (λn=> ?_) λn=> ?_
  ·refine Z0 ?_
   cases n
   exact Eg0 [0] 0
  refine Z0 ?_
  refine Lw 44 n (λo=> ?_) λo=> ?_
  ·refine Z0 ?_
   cases o
   exact Eg0 [0] 0
  refine Z0 ?_
  refine Lw 51 o (λp=> ?_) λp=> ?_
  ·refine Z0 ?_
   cases p
   exact Eg0 [0] 0
  refine Z0 ?_
  refine Lw 56 p (λq=> ?_) λq=> ?_
  ·refine Z0 ?_
   cases q
   exact Eg0 [0] 0
  refine Z0 ?_
  refine Lw 63 q (λs=> ?_) λs=> ?_
  ·refine Z0 ?_
   cases s
   exact Eg0 [0] 0
  refine Z0 ?_
  cases s
  exact Eg0 [0] 0
 refine Tb ar (λt=> ?_) λt=> ?_
 ·refine Z1 ?_
  cases t
  exact Eo1 () [] []
 refine Y2 ?_
 have ⟨au,av,aw⟩:=bnd t
 refine Tj0 [(100,.bool au)] [1] [] [0] ?_ ?_
 ·refine Z0 ?_
  refine Lw 75 av (λu=> ?_) λu=> ?_
  ·refine Z0 ?_
   cases u
   exact Eg0 [0] 0
  refine Z0 ?_
  refine Lw 80 u (λv=> ?_) λv=> ?_
  ·refine Z0 ?_
   cases v
   exact Eg0 [0] 0
  refine Z0 ?_
  refine Lw 85 v (λz=> ?_) λz=> ?_
  ·refine Z0 ?_
   cases z
   exact Eg0 [0] 0
  refine Z0 ?_
  refine Lw 90 z (λA=> ?_) λA=> ?_
  ·refine Z0 ?_
   cases A
   exact Eg0 [0] 0
  refine Z0 ?_
  refine Lw 95 A (λB=> ?_) λB=> ?_
  ·refine Z0 ?_
   cases B
   exact Eg0 [0] 0
  refine Z0 ?_
  cases B
  exact Eg0 [0] 0
 refine Tb aw (λC=> ?_) λC=> ?_
 ·refine Z1 ?_
  cases C
  exact Eo1 () [] []
 refine Z2 ?_
 have ⟨F,ax,ai⟩:=bnd C
 refine Tj (η:=Unit×Unit) (λh=>F = .inl h.1) (λ_=>[]) [1] (λ_=>[]) [0] (λ_=>[]) ?_ ?_
 ·refine Yl0 ?_
  refine Tq (η:=Unit) (λaj h=>[(104,.int .i64 aj)]) [1,102,103] (λ_ _=>[]) [0] (λ_ _=>[]) () [0] [] ax ?_
  rintro k_ aj ⟨⟩ ay az a0 ak
  refine Y2 ?_
  refine Tb az (λI=> ?_) λI=> ?_
  ·refine Z1 ?_
   refine Zl ?_
   refine Z1 ?_
   have ⟨bp,J,a1⟩:=bnd I
   refine L.addr 1 rfl (bH J) λbq br a2=> ?_
   subst a2
   refine Ly (Yl.ia J rfl rfl rfl rfl rfl rfl) ?_
   refine L.el 1 rfl (aJ J).2 ?_
   rintro _
   refine Lc 0 0 ?_
   refine Ll λbs=> ?_
   refine Lt 0 ?_
   refine Y1 ?_
   have ⟨a3,a4,a5⟩:=bnd a1
   refine Tj0 [(125,.bool a3)] [1,102,103,104] [] [0,1] ?_ ?_
   ·refine Z0 ?_
    refine Lw 111 a4 (λM=> ?_) λM=> ?_
    ·refine Z0 ?_
     cases M
     exact Eg0 [0,0] 0
    refine Z0 ?_
    refine Lw 116 M (λN=> ?_) λN=> ?_
    ·refine Z0 ?_
     cases N
     exact Eg0 [0,0] 0
    refine Z0 ?_
    refine Lw 121 N (λO=> ?_) λO=> ?_
    ·refine Z0 ?_
     cases O
     exact Eg0 [0,0] 0
    refine Z0 ?_
    cases O
    exact Eg0 [0,0] 0
   refine Tb a5 (λP=> ?_) λP=> ?_
   ·refine Z1 ?_
    obtain ⟨bt,hz,a6⟩:=bQ P
    subst ay
    have hb:=ak _ rfl
    subst F
    obtain rfl:=(sm ai).symm
    refine Z0 ?_
    cases a6
    exact Eo1 () [] []
   refine Z0 ?_
   cases P
   exact Eg (_,()) (a0 _ rfl) [1] [] 1
  refine Z0 ?_
  cases I
  have hb:=ak _ rfl
  subst F
  exact Eg (_,()) rfl [0] [] 0
 rintro ⟨bu,⟨⟩⟩ hy
 subst hy
 refine Z2 ?_
 have ⟨b,a7,Q⟩:=bnd ai
 refine Tj (η:=Unit×Unit) (λh=>b = .inl h.1) (λ_=>[]) [] (λ_=>[]) [0] (λ_=>[]) ?_ ?_
 ·refine Yl0 ?_
  refine Tq (η:=Unit) (λc h=>[(130,.int .i64 c)]) [1,128,129] (λ_ _=>[]) [0] (λ_ _=>[]) () [0] [] a7 ?_
  rintro k_ c ⟨⟩ al a8 a9 R
  refine Y2 ?_
  refine Tb a8 (λS=> ?_) λS=> ?_
  ·refine Z1 ?_
   refine Zl ?_
   refine Z1 ?_
   have ⟨a,U,ba⟩:=bnd S
   refine L.addr 0 rfl (bH U) λd e bb=> ?_
   subst bb
   refine Ly (Yl.ia U rfl rfl rfl rfl rfl rfl) ?_
   refine L.el 0 rfl (aJ U).2 ?_
   rintro ⟨V,W⟩
   refine Lc 0 0 ?_
   refine Ll λbc=> ?_
   refine Lt 0 ?_
   refine Z2 ?_
   refine Tb ba (λX=> ?_) λX=> ?_
   ·refine Z1 ?_
    obtain ⟨bv,hz,bd⟩:=bQ X
    subst al
    have hb:=R _ rfl
    subst b
    obtain rfl:=(sm Q).symm
    refine Z0 ?_
    cases bd
    exact Eo1 () [] []
   refine Z1 ?_
   have ⟨Y,be,am⟩:=bnd X
   refine T.n7 (η:=Unit×Unit) (λh=>Y = .inl h.1) (λh=>(λZ=>[(1,.pointer (some ⟨g1,0,none⟩)),(128,.slice (some ⟨d,e,none⟩) s_.rows.length C0),(129,.int .i64 (s_.rows.length:Int)),(130,.int .i64 c)]) h.1) (λh=>(λZ=>[Ch.box bc 140 [.slice V a.l.length W,.bool a.wrapped],Ch.box g1 30 [.int .i64 s_.k,.int .i64 s_.w,.int .i64 s_.h,.int .i64 s_.x,.int .i64 s_.y,.string s_.title,.slice (some ⟨d,e,none⟩) s_.rows.length C0,.int .i64 s_.len,.int .i64 s_.chain,.slice A1 s_.begun.length C1]]) h.1) (λh=>(λZ=>[Im.cells d (e+c.toNat*2) [.slice V a.l.length W,.bool a.wrapped],Im.sl dO V W a.l,Im.sl bA (some ⟨d,e,none⟩) C0 s_.rows,Im.sl aP A1 C1 s_.begun]) h.1) ?_ ?_
   ·refine Yl0 ?_
    refine Tq (η:=Unit) (λan h=>[(143,.int .i64 an)]) [1,128,129,130,141,142] (λ_ _=>[]) [0,1] (λ_ _=>[]) () [0,0] [] be ?_
    rintro k_ an ⟨⟩ bf bg bh ao
    refine Y2 ?_
    refine Tb bg (λaa=> ?_) λaa=> ?_
    ·refine Z1 ?_
     refine Zl ?_
     refine Z1 ?_
     have ⟨bw,ab,bi⟩:=bnd aa
     refine L.addr 1 rfl (bH ab) λbx bz bj=> ?_
     subst bj
     refine Ly (Yl.ia ab rfl rfl rfl rfl rfl rfl) ?_
     refine L.el 1 rfl (aJ ab).2 ?_
     rintro _
     refine Lc 0 0 ?_
     refine Ll λb0=> ?_
     refine Lt 0 ?_
     refine Y1 ?_
     have ⟨bk,bl,bm⟩:=bnd bi
     refine Tj0 [(174,.bool bk)] [1,128,129,130,141,142,143] [] [0,1,2] ?_ ?_
     ·refine Z0 ?_
      refine Lw 150 bl (λac=> ?_) λac=> ?_
      ·refine Z0 ?_
       cases ac
       exact Eg0 [0,0,0] 0
      refine Z0 ?_
      refine Lw 155 ac (λad=> ?_) λad=> ?_
      ·refine Z0 ?_
       cases ad
       exact Eg0 [0,0,0] 0
      refine Z0 ?_
      refine Lw 160 ad (λae=> ?_) λae=> ?_
      ·refine Z0 ?_
       cases ae
       exact Eg0 [0,0,0] 0
      refine Z0 ?_
      refine Lw 165 ae (λaf=> ?_) λaf=> ?_
      ·refine Z0 ?_
       cases af
       exact Eg0 [0,0,0] 0
      refine Z0 ?_
      refine Lw 170 af (λag=> ?_) λag=> ?_
      ·refine Z0 ?_
       cases ag
       exact Eg0 [0,0,0] 0
      refine Z0 ?_
      cases ag
      exact Eg0 [0,0,0] 0
     refine Tb bm (λah=> ?_) λah=> ?_
     ·refine Z1 ?_
      obtain ⟨b1,hz,bn⟩:=bQ ah
      subst bf
      have hb:=ao _ rfl
      subst Y
      obtain rfl:=(sm am).symm
      refine Z0 ?_
      obtain ⟨b2,hz,bo⟩:=bQ bn
      subst al
      have hb:=R _ rfl
      subst b
      obtain rfl:=(sm Q).symm
      refine Z0 ?_
      cases bo
      exact Eo1 () [] []
     refine Z0 ?_
     cases ah
     exact Eg (_,()) (bh _ rfl) [1,1] [] 1
    refine Z0 ?_
    cases aa
    have hb:=ao _ rfl
    subst Y
    exact Egx (_,()) rfl [0,0] [0,1,2,3]
   rintro ⟨Z,⟨⟩⟩ hy
   subst hy
   refine Z0 ?_
   cases am
   exact Eg (_,()) (a9 _ rfl) [1] [] 2
  refine Z0 ?_
  cases S
  have hb:=R _ rfl
  subst b
  exact Eg (_,()) rfl [0] [] 0
 rintro ⟨b3,⟨⟩⟩ hy
 subst hy
 refine Z1 ?_
 cases Q
 exact Eo1 () [] []
theorem dB {in_:aQ} {r:aQ×Int} (H:aY in_=some r):CT G 56 [.agg #[.string in_.s,.int .i64 in_.e]] [] [] (λ_:Unit=> .tuple #[.agg #[.string r.1.s,.int .i64 r.1.e],.int .i64 r.2]) (λh=>[]) (λh=>[]):=by
 delta aY at H
 refine Cf Go.Proofs.Tryz.func56 λK=> ?_
 refine Z1 ?_
 refine Lx λg1=> ?_
 refine Ll λg2=> ?_
 refine Z2 ?_
 refine Tb H (λH4=> ?_) λH4=> ?_
 ·refine Z1 ?_
  refine Lt 0 ?_
  refine Z0 ?_
  cases H4
  exact Eo () [] [] (.cell 0 rfl rfl rfl (.tmp rfl .nil))
 refine Z3 ?_
 refine Z1 ?_
 have ⟨a,t,b⟩:=bnd H4
 refine Tj (η:=Unit×Unit) (λh=>a = .inl h.1) (λ_=>[]) [2] (λ_=>[]) [0,1] (λ_=>[]) ?_ ?_
 ·refine Yl0 ?_
  refine Tq (η:=Unit) (λc h=>[(4,.int .i64 c.1),(5,.int .i64 c.2.1),(6,.int .i64 c.2.2)]) [1,2] (λ_ _=>[]) [0,1] (λ_ _=>[]) () [0,0] [] t ?_
  rintro k_ c ⟨⟩ i u v d
  refine Z2 ?_
  refine Tb u (λj=> ?_) λj=> ?_
  ·refine Y1 ?_
   have ⟨f,w,g⟩:=bnd j
   refine Tj (η:=(Int×Int)×Unit) (λh=>f = .inl h.1) (λh=>(λk=>[(4,.int .i64 k.1),(5,.int .i64 k.2)]) h.1) [1,2,6] (λ_=>[]) [0,1] (λ_=>[]) ?_ ?_
   ·refine Zl ?_
    refine Z2 ?_
    refine Tb w (λl=> ?_) λl=> ?_
    ·refine Z1 ?_
     refine Lt 0 ?_
     refine Z0 ?_
     obtain ⟨Q,hz,x⟩:=gH l
     subst f
     obtain rfl:=(sm g).symm
     refine Z0 ?_
     obtain ⟨R,hz,y⟩:=bQ x
     subst i
     have hb:=d _ rfl
     subst a
     obtain rfl:=(sm b).symm
     refine Z0 ?_
     cases y
     exact Eo () [] [] (.cell 0 rfl rfl rfl (.tmp rfl .nil))
    refine Z1 ?_
    have ⟨S,z,A⟩:=bnd l
    refine Ly (Yl.si z rfl rfl rfl rfl rfl) ?_
    refine Z3 ?_
    refine Tb A (λm=> ?_) λm=> ?_
    ·refine Y2 ?_
     have ⟨B,C,F⟩:=bnd m
     refine Tj0 [(44,.bool B)] [1,2,4,6] [] [0,1] ?_ ?_
     ·refine Z0 ?_
      refine Lw 37 C (λn=> ?_) λn=> ?_
      ·refine Z0 ?_
       refine Lw 41 n (λo=> ?_) λo=> ?_
       ·refine Z0 ?_
        cases o
        exact Eg0 [0,0] 0
       refine Z0 ?_
       cases o
       exact Eg0 [0,0] 0
      refine Z0 ?_
      cases n
      exact Eg0 [0,0] 0
     refine Tb F (λp=> ?_) λp=> ?_
     ·refine Z1 ?_
      refine Lt 0 ?_
      refine Z0 ?_
      obtain ⟨U,hz,I⟩:=gH p
      subst f
      obtain rfl:=(sm g).symm
      refine Z0 ?_
      obtain ⟨V,hz,J⟩:=bQ I
      subst i
      have hb:=d _ rfl
      subst a
      obtain rfl:=(sm b).symm
      refine Z0 ?_
      cases J
      exact Eo () [] [] (.cell 0 rfl rfl rfl (.tmp rfl .nil))
     refine Z1 ?_
     have ⟨_,M,N⟩:=bnd p
     refine Ly (Yl.sc M rfl rfl rfl rfl rfl rfl) ?_
     refine Z0 ?_
     refine Lt 0 ?_
     refine Z0 ?_
     obtain ⟨W,hz,O⟩:=gH N
     subst f
     obtain rfl:=(sm g).symm
     refine Z0 ?_
     obtain ⟨X,hz,P⟩:=bQ O
     subst i
     have hb:=d _ rfl
     subst a
     obtain rfl:=(sm b).symm
     refine Z0 ?_
     cases P
     exact Eo () [] [] (.cell 0 rfl rfl rfl (.tmp rfl .nil))
    refine Z1 ?_
    refine Tb m (λq=> ?_) λq=> ?_
    ·refine Z0 ?_
     cases q
     exact Eg (_,()) rfl [0,0] [] 0
    refine Z0 ?_
    cases q
    exact Eg (_,()) rfl [0,0] [] 0
   rintro ⟨k,⟨⟩⟩ hy
   subst hy
   refine Z0 ?_
   cases g
   exact Eg (_,()) (v _ rfl) [0,0] [] 0
  refine Z0 ?_
  cases j
  have hb:=d _ rfl
  subst a
  exact Eg (_,()) rfl [0,0] [] 0
 rintro ⟨Y,⟨⟩⟩ hy
 subst hy
 refine Z1 ?_
 refine Lt 0 ?_
 refine Z0 ?_
 cases b
 exact Eo () [] [] (.cell 0 rfl rfl rfl (.tmp rfl .nil))
theorem uO {in_:aQ} {n_:Int} {r:aQ×ByteArray} (H:k8 in_ n_=some r):CT G 98 [.agg #[.string in_.s,.int .i64 in_.e],.int .i64 n_] [] [] (λ_:Unit=> .tuple #[.agg #[.string r.1.s,.int .i64 r.1.e],.string r.2]) (λh=>[]) (λh=>[]):=by
 delta k8 at H
 refine Cf Go.Proofs.Tryz.func98 λK=> ?_
 refine Z1 ?_
 refine Lx λg1=> ?_
 refine Ll λg2=> ?_
 refine Z3 ?_
 refine Tb H (λH4=> ?_) λH4=> ?_
 ·refine Z1 ?_
  refine Lt 0 ?_
  refine Z0 ?_
  cases H4
  exact Eo () [] [] (.cell 0 rfl rfl rfl (.tmp rfl .nil))
 refine Z2 ?_
 refine Tb H4 (λH6=> ?_) λH6=> ?_
 ·refine Z1 ?_
  refine Lt 0 ?_
  refine Z0 ?_
  cases H6
  exact Eo () [] [] (.cell 0 rfl rfl rfl (.tmp rfl .nil))
 refine Y1 ?_
 refine Td [] [1] mo ?_
 refine Dq 0 ?_
 refine Db 1 0 ?_
 refine Dq 2 ?_
 have ⟨_,a,b⟩:=bnd H6
 refine Dy 3 (Yl.sc a rfl rfl rfl rfl rfl rfl) ?_
 refine Dq 4 ?_
 refine Dq 5 ?_
 refine Db 6 0 ?_
 refine Dq 7 ?_
 have ⟨_,c,d⟩:=bnd b
 refine Dy 8 (Yl.sc c rfl rfl rfl rfl rfl rfl) ?_
 refine Da [0] [] rfl rfl (Ac.stb rfl rfl rfl rfl rfl rfl) λ_=> ?_
 refine Dq 10 ?_
 refine Dn ?_
 refine Z0 ?_
 cases d
 exact Eo () [] [] (.cell 1 rfl rfl rfl (.tmp rfl .nil))
theorem pd {in_:aQ} {r:aQ×ByteArray} (H:fM in_=some r):CT G 57 [.agg #[.string in_.s,.int .i64 in_.e]] [] [] (λ_:Unit=> .tuple #[.agg #[.string r.1.s,.int .i64 r.1.e],.string r.2]) (λh=>[]) (λh=>[]):=by
 delta fM at H
 refine Cf Go.Proofs.Tryz.func57 λK=> ?_
 refine Z1 ?_
 refine Lx λg1=> ?_
 refine Ll λg2=> ?_
 refine Z1 ?_
 have ⟨r3,h4,H5⟩:=bnd H
 refine Lk [] [] (dB h4) λ⟨⟩=> ?_
 refine Z0 ?_
 refine Ll λg6=> ?_
 refine Lt 0 ?_
 refine Z1 ?_
 have ⟨r7,h8,H9⟩:=bnd H5
 refine Lk [] [] (uO h8) λ⟨⟩=> ?_
 refine Z0 ?_
 refine Lt 1 ?_
 refine Z0 ?_
 cases H9
 exact Eo () [] [] (.cell 0 rfl rfl rfl (.tmp rfl .nil))
theorem tx {in_:aQ} {r:aQ×(List aN)} (H:iD in_=some r):CT G 58 [.agg #[.string in_.s,.int .i64 in_.e]] [] [] (λh:(Option Addr×Nat)=> .tuple #[.agg #[.string r.1.s,.int .i64 r.1.e],.slice h.1 r.2.length h.2]) (λh=>[Ch.arr aP 193 h.1 h.2 r.2]) (λh=>[]):=by
 delta iD at H
 refine Cf Go.Proofs.Tryz.func58 λK=> ?_
 refine Z1 ?_
 refine Lx λg1=> ?_
 refine Ll λg2=> ?_
 refine Z2 ?_
 have ⟨r3,h4,H5⟩:=bnd H
 refine Lk [] [] (dB h4) λ⟨⟩=> ?_
 refine Z0 ?_
 refine Lt 1 ?_
 refine Y2 ?_
 have ⟨e9,x,y⟩:=bnd H5
 refine Tj0 [(20,.bool e9)] [1,2,4] [] [0,1] ?_ ?_
 ·refine Z0 ?_
  refine Lw 17 x (λj=> ?_) λj=> ?_
  ·refine Z0 ?_
   cases j
   exact Eg0 [0,0] 0
  refine Z0 ?_
  cases j
  exact Eg0 [0,0] 0
 refine Tb y (λk=> ?_) λk=> ?_
 ·refine Z1 ?_
  refine Lt 1 ?_
  refine Z0 ?_
  refine E.gC aP 193 ?_
  cases k
  exact Eo (none,0) [0] [] (.cell 1 rfl rfl rfl (.tmp rfl .nil))
 refine Z1 ?_
 refine La [] [] (Ac.bs (ty:=aP) (xs:=[]) .nil rfl rfl rfl rfl rfl rfl rfl) λz=> ?_
 refine Z2 ?_
 have ⟨i,A,l⟩:=bnd k
 refine Tj (η:=((List aN)×aQ)×((Option Addr×Nat))) (λh=>i = .inl h.1) (λh=>(λb=>(λc d=>[(5,.slice c b.1.length d)]) h.2.1 h.2.2) h.1) [1,2] (λh=>(λb=>(λc d=>[Ch.arr aP 193 c d b.1,Ch.box g1 131 [.string b.2.s,.int .i64 b.2.e]]) h.2.1 h.2.2) h.1) [2] (λ_=>[]) ?_ ?_
 ·refine Yl0 ?_
  refine Tq (η:=(Option Addr×Nat)) (λa h=>(λf g=>[(5,.slice f a.2.1.length g),(6,.int .i64 a.2.2)]) h.1 h.2) [1,2,4] (λa h=>(λf g=>[Ch.arr aP 193 f g a.2.1,Ch.box g1 131 [.string a.1.s,.int .i64 a.1.e]]) h.1 h.2) [2] (λ_ _=>[]) ((some ⟨z,0,none⟩),0) [0,0,0] [] A ?_
  rintro k_ a ⟨f,g⟩ w B C m
  refine Y2 ?_
  have ⟨F,I,J⟩:=bnd B
  refine Tj0 [(30,.bool F)] [1,2,4,5,6] [] [1,2,0] ?_ ?_
  ·refine Z0 ?_
   refine Lw 26 I (λn=> ?_) λn=> ?_
   ·refine Z0 ?_
    cases n
    exact Eg0 [1,1,0] 0
   refine Z0 ?_
   cases n
   exact Eg0 [1,1,0] 0
  refine Tb J (λo=> ?_) λo=> ?_
  ·refine Z1 ?_
   refine Zl ?_
   refine Z3 ?_
   have ⟨M,N,O⟩:=bnd o
   refine Lk [] [] (dB N) λ⟨⟩=> ?_
   refine Z0 ?_
   refine Lt 0 ?_
   refine Y2 ?_
   have ⟨P,Q,R⟩:=bnd O
   refine Tj0 [(44,.bool P)] [1,2,4,5,6,7] [] [0,1,2] ?_ ?_
   ·refine Z0 ?_
    refine Lw 41 Q (λp=> ?_) λp=> ?_
    ·refine Z0 ?_
     cases p
     exact Eg0 [0,0,0] 0
    refine Z0 ?_
    cases p
    exact Eg0 [0,0,0] 0
   refine Tb R (λq=> ?_) λq=> ?_
   ·refine Z1 ?_
    refine Lt 1 ?_
    refine Z0 ?_
    obtain ⟨af,hz,S⟩:=bQ q
    subst w
    have hb:=m _ rfl
    subst i
    obtain rfl:=(sm l).symm
    refine Z0 ?_
    refine E.gC aP 193 ?_
    cases S
    exact Eo (none,0) [0] [] (.cell 1 rfl rfl rfl (.tmp rfl .nil))
   refine Z1 ?_
   have ⟨U,V,W⟩:=bnd q
   refine Lk [] [] (dB V) λ⟨⟩=> ?_
   refine Z0 ?_
   refine Lt 0 ?_
   refine Y2 ?_
   have ⟨X,Y,Z⟩:=bnd W
   refine Tj0 [(57,.bool X)] [1,2,4,5,6,7,8] [] [0,1,2] ?_ ?_
   ·refine Z0 ?_
    refine Lw 54 Y (λt=> ?_) λt=> ?_
    ·refine Z0 ?_
     cases t
     exact Eg0 [0,0,0] 0
    refine Z0 ?_
    cases t
    exact Eg0 [0,0,0] 0
   refine Tb Z (λu=> ?_) λu=> ?_
   ·refine Z1 ?_
    refine Lt 1 ?_
    refine Z0 ?_
    obtain ⟨ag,hz,aa⟩:=bQ u
    subst w
    have hb:=m _ rfl
    subst i
    obtain rfl:=(sm l).symm
    refine Z0 ?_
    refine E.gC aP 193 ?_
    cases aa
    exact Eo (none,0) [0] [] (.cell 1 rfl rfl rfl (.tmp rfl .nil))
   refine Z0 ?_
   refine La [] [] (Ac.bs (ty:=aP) (xs:=[(aN.mk M.2 U.2)]) (.cons () [] rfl .nil) rfl rfl rfl rfl rfl rfl rfl) λah=> ?_
   refine L.frz 0 rfl ?_
   have ⟨_,ab,ac⟩:=bnd u
   refine La [2] [0] (Ac.ap (ty:=aP) ab rfl rfl rfl rfl rfl rfl rfl) ?_
   rintro ⟨ad,ae⟩
   refine Z0 ?_
   cases ac
   exact Eg (_,(ad,ae)) (C _ rfl) [0,0,0] [] 1
  refine Z0 ?_
  cases o
  have hb:=m _ rfl
  subst i
  exact Eg (_,(f,g)) rfl [2,0,0] [] 0
 rintro ⟨b,⟨c,d⟩⟩ hy
 subst hy
 refine Z2 ?_
 refine Tb l (λv=> ?_) λv=> ?_
 ·refine Z1 ?_
  refine Lt 2 ?_
  refine Z0 ?_
  refine E.gC aP 193 ?_
  cases v
  exact Eo (none,0) [0] [] (.cell 1 rfl rfl rfl (.tmp rfl .nil))
 refine Z1 ?_
 refine Lt 2 ?_
 refine Z0 ?_
 cases v
 exact Eo (c,d) [1] [] (.cell 0 rfl rfl rfl (.tmp rfl .nil))
theorem hU {in_:aQ} {most:Int} {r:aQ×Int} (H:cA in_ most=some r):CT G 99 [.agg #[.string in_.s,.int .i64 in_.e],.int .i64 most] [] [] (λ_:Unit=> .tuple #[.agg #[.string r.1.s,.int .i64 r.1.e],.int .i64 r.2]) (λh=>[]) (λh=>[]):=by
 delta cA at H
 refine Cf Go.Proofs.Tryz.func99 λK=> ?_
 refine Z1 ?_
 refine Lx λg1=> ?_
 refine Ll λg2=> ?_
 refine Z1 ?_
 have ⟨r3,h4,H5⟩:=bnd H
 refine Lk [] [] (dB h4) λ⟨⟩=> ?_
 refine Z0 ?_
 refine Ll λg6=> ?_
 refine Lt 0 ?_
 refine Y2 ?_
 have ⟨c,d,f⟩:=bnd H5
 refine Tj0 [(20,.bool c)] [4,6,7] [] [0,1,2] ?_ ?_
 ·refine Z0 ?_
  refine Lw 16 d (λa=> ?_) λa=> ?_
  ·refine Z0 ?_
   cases a
   exact Eg0 [0,0,0] 0
  refine Z0 ?_
  cases a
  exact Eg0 [0,0,0] 0
 refine Tb f (λb=> ?_) λb=> ?_
 ·refine Z1 ?_
  refine Lt 1 ?_
  refine Z0 ?_
  cases b
  exact Eo () [] [] (.cell 0 rfl rfl rfl (.tmp rfl .nil))
 refine Z1 ?_
 refine Lt 1 ?_
 refine Z0 ?_
 cases b
 exact Eo () [] [] (.cell 0 rfl rfl rfl (.tmp rfl .nil))
theorem pO {in_:aQ} {w:Int} {r:aQ×aU} (H:fY in_ w=some r):CT G 59 [.agg #[.string in_.s,.int .i64 in_.e],.int .i64 w] [] [] (λh:(Option Addr×Nat)=> .tuple #[.agg #[.string r.1.s,.int .i64 r.1.e],.agg #[.slice h.1 r.2.l.length h.2,.bool r.2.wrapped]]) (λh=>[]) (λh=>[Im.sl dO h.1 h.2 r.2.l]):=by
 delta fY at H
 refine Cf Go.Proofs.Tryz.func59 λK=> ?_
 refine Z1 ?_
 refine Lx λg1=> ?_
 refine Ll λg2=> ?_
 refine Ll λg3=> ?_
 refine Z2 ?_
 have ⟨r4,h5,H6⟩:=bnd H
 refine Lk [] [] (hU h5) λ⟨⟩=> ?_
 refine Z0 ?_
 refine Lt 2 ?_
 refine Z1 ?_
 refine La [] [] (Ac.bs (ty:=dO) (xs:=[]) .nil rfl rfl rfl rfl rfl rfl rfl) λg7=> ?_
 refine Y1 ?_
 have ⟨i,S,U⟩:=bnd H6
 refine Tjh (η:=(Option Addr×Nat)) (λh=>(λj k=>[(7,.slice j i.1.length k)]) h.1 h.2) [2,4,5,6] (λh=>(λj k=>[Ch.arr dO 195 j k i.1,Ch.box g1 131 [.string i.2.s,.int .i64 i.2.e]]) h.1 h.2) [2,3] (λ_=>[]) ?_ ?_
 ·refine Yl0 ?_
  refine Tq (η:=(Option Addr×Nat)) (λa h=>(λb c=>[(7,.slice b a.2.length c)]) h.1 h.2) [1,2,4,5,6] (λa h=>(λb c=>[Ch.arr dO 195 b c a.2,Ch.box g1 131 [.string a.1.s,.int .i64 a.1.e]]) h.1 h.2) [2,3] (λ_ _=>[]) ((some ⟨g7,0,none⟩),0) [0,0,0,0] [] S ?_
  rintro k_ a ⟨b,c⟩ bb V W X
  refine Y2 ?_
  have ⟨Y,Z,aa⟩:=bnd V
  refine Tj0 [(25,.bool Y)] [1,2,4,5,6,7] [] [1,2,3,0] ?_ ?_
  ·refine Z0 ?_
   refine Lw 21 Z (λq=> ?_) λq=> ?_
   ·refine Z0 ?_
    cases q
    exact Eg0 [1,1,1,0] 0
   refine Z0 ?_
   cases q
   exact Eg0 [1,1,1,0] 0
  refine Tb aa (λt=> ?_) λt=> ?_
  ·refine Zl ?_
   refine Z2 ?_
   refine Ll λab=> ?_
   refine Lt 0 ?_
   refine Z1 ?_
   have ⟨bc,ac,ad⟩:=bnd t
   refine Lk [] [] (hU ac) λ⟨⟩=> ?_
   refine Z0 ?_
   refine Lt 1 ?_
   refine Y2 ?_
   have ⟨ae,af,ag⟩:=bnd ad
   refine Tj0 [(42,.bool ae)] [1,2,4,5,6,7,8,9] [] [0,1,2,3,4] ?_ ?_
   ·refine Z0 ?_
    refine Lw 39 af (λu=> ?_) λu=> ?_
    ·refine Z0 ?_
     cases u
     exact Eg0 [0,0,0,0,0] 0
    refine Z0 ?_
    cases u
    exact Eg0 [0,0,0,0,0] 0
   have ⟨O,ah,ai⟩:=bnd ag
   refine Tj0 [] [1,2,4,5,6,7,8,9] [Ch.box g1 131 [.string O.s,.int .i64 O.e]] [1,2,3,4] ?_ ?_
   ·refine Tb ah (λx=> ?_) λx=> ?_
    ·refine Z0 ?_
     refine Lt 0 ?_
     refine Z0 ?_
     cases x
     exact Eg0 [0,0,0,0,0] 0
    refine Z0 ?_
    cases x
    exact Eg0 [0,0,0,0,0] 0
   refine Z1 ?_
   have ⟨P,aj,ak⟩:=bnd ai
   refine Lk [] [] (hU aj) λ⟨⟩=> ?_
   refine Z0 ?_
   refine Lt 0 ?_
   refine Z0 ?_
   refine Lt 1 ?_
   refine Z1 ?_
   have ⟨Q,al,am⟩:=bnd ak
   refine Lk [] [] (hU al) λ⟨⟩=> ?_
   refine Z0 ?_
   refine Lt 1 ?_
   refine Z0 ?_
   refine Lt 1 ?_
   refine Z1 ?_
   have ⟨R,an,ao⟩:=bnd am
   refine Lk [] [] (hU an) λ⟨⟩=> ?_
   refine Z0 ?_
   refine Lt 1 ?_
   refine Z0 ?_
   refine Lt 1 ?_
   refine Y2 ?_
   have ⟨aq,ar,au⟩:=bnd ao
   refine Tj0 [(79,.bool aq)] [1,2,4,5,6,7,8,9] [] [0,1,2,3,4] ?_ ?_
   ·refine Td [] [0,0,0,0,0] mo ?_
    refine Dq 0 ?_
    refine Db 1 1 ?_
    refine Dq 2 ?_
    refine Dq 3 ?_
    refine D.cs 65 ar rfl (λhc y=> ?_) (λhc y=> ?_)
    ·refine Dq 4 ?_
     refine Dq 5 ?_
     refine Dq 6 ?_
     refine Dq 7 ?_
     refine Dq 8 ?_
     refine D.cs 70 y rfl (λhc z=> ?_) (λhc z=> ?_)
     ·refine Dq 9 ?_
      refine Dq 10 ?_
      refine Dq 11 ?_
      refine Dq 12 ?_
      have ⟨B,C,av⟩:=bnd z
      refine D.iG 4 rfl (bH C) λbd aw=> ?_
      subst aw
      refine Dy 13 (Yl.ia C rfl rfl rfl rfl rfl rfl) ?_
      refine Dy 14 (Yl.lo (v:= .agg #[.int .i64 B.rune,.int .i64 B.aM,.int .i64 B.part]) 4 ((IntKind.i64.wrap ((a.2.length:Int) - 1)).toNat) 0 (aJ C).2 rfl rfl rfl rfl (λ_=>rfl)) ?_
      refine Db 15 0 ?_
      refine Dq 16 ?_
      refine Dq 17 ?_
      refine Dn ?_
      cases av
      exact Eg0 [0,0,0,0,0] 0
     refine Ds 9 ?_
     refine Ds 10 ?_
     refine Ds 11 ?_
     refine Ds 12 ?_
     refine Ds 13 ?_
     refine Ds 14 ?_
     refine Ds 15 ?_
     refine Ds 16 ?_
     refine Dq 17 ?_
     refine Dn ?_
     cases z
     exact Eg0 [0,0,0,0,0] 0
    refine Ds 4 ?_
    refine Ds 5 ?_
    refine Ds 6 ?_
    refine Dq 7 ?_
    refine Dq 8 ?_
    refine Ds 9 ?_
    refine Ds 10 ?_
    refine Ds 11 ?_
    refine Ds 12 ?_
    refine Ds 13 ?_
    refine Ds 14 ?_
    refine Ds 15 ?_
    refine Ds 16 ?_
    refine Dq 17 ?_
    refine Dn ?_
    cases y
    exact Eg0 [0,0,0,0,0] 0
   have ⟨p,ax,ay⟩:=bnd au
   refine Tj0 [] [1,2,4,5,6,7,8,9] [Ch.box g1 131 [.string p.s,.int .i64 p.e]] [0,2,3,4] ?_ ?_
   ·refine Tb ax (λF=> ?_) λF=> ?_
    ·refine Z0 ?_
     refine Lt 1 ?_
     refine Z0 ?_
     cases F
     exact Eg0 [0,0,0,0,0] 0
    refine Z0 ?_
    cases F
    exact Eg0 [1,0,0,0,0] 0
   refine Z1 ?_
   have ⟨I,az,a0⟩:=bnd ay
   refine T.n7 (η:=Unit×((Option Addr×Nat))) (λh=>True) (λh=>(λd g=>[(1,.int .i64 w),(2,.pointer (some ⟨g1,0,none⟩)),(4,.pointer (some ⟨g2,0,none⟩)),(5,.pointer (some ⟨g3,0,none⟩)),(6,.int .i64 r4.2),(7,.slice d I.length g)]) h.2.1 h.2.2) (λh=>(λd g=>[Ch.arr dO 195 d g I,Ch.box g1 131 [.string p.s,.int .i64 p.e],Ch.box ab 195 [.int .i64 P.2,.int .i64 Q.2,.int .i64 R.2],Ch.box g3 140 [.slice none 0 0,.bool false],Ch.box g2 131 [.string (ByteArray.mk #[]),.int .i64 0]]) h.2.1 h.2.2) (λh=>(λd g=>[]) h.2.1 h.2.2) ?_ ?_
   ·refine Yl0 ?_
    refine Tq (η:=(Option Addr×Nat)) (λm h=>(λn o=>[(7,.slice n m.2.length o),(10,.int .i64 m.1)]) h.1 h.2) [1,2,4,5,6,8,9] (λm h=>(λn o=>[Ch.arr dO 195 n o m.2]) h.1 h.2) [0,1,2,3] (λ_ _=>[]) (b,c) [4,0,0,0,0] [] az ?_
    rintro k_ m ⟨n,o⟩ be a1 a2 a3
    refine Y2 ?_
    have ⟨a4,a5,a6⟩:=bnd a1
    refine Tj0 [(88,.bool a4)] [1,2,4,5,6,7,8,9,10] [] [1,2,3,4,0] ?_ ?_
    ·refine Z0 ?_
     refine Lw 84 a5 (λJ=> ?_) λJ=> ?_
     ·refine Z0 ?_
      cases J
      exact Eg0 [1,1,1,1,0] 0
     refine Z0 ?_
     cases J
     exact Eg0 [1,1,1,1,0] 0
    refine Tb a6 (λM=> ?_) λM=> ?_
    ·refine Z1 ?_
     refine Zl ?_
     refine La [] [] (Ac.bs (ty:=dO) (xs:=[(cP.mk P.2 Q.2 R.2)]) (.cons () [] rfl .nil) rfl rfl rfl rfl rfl rfl rfl) λbf=> ?_
     refine L.frz 0 rfl ?_
     have ⟨_,a7,a8⟩:=bnd M
     refine La [4] [0] (Ac.ap (ty:=dO) a7 rfl rfl rfl rfl rfl rfl rfl) ?_
     rintro ⟨a9,ba⟩
     refine Z0 ?_
     cases a8
     exact Eg (_,(a9,ba)) (a2 _ rfl) [0,0,0,0,0] [] 1
    refine Z0 ?_
    cases M
    have hb:=a3 _ rfl
    subst I
    exact Egx ((),(n,o)) trivial [4,0,0,0,0] []
   rintro ⟨_,⟨d,g⟩⟩ _
   refine Z0 ?_
   cases a0
   exact Eg (_,(d,g)) (W _ rfl) [0,0,1,1] [] 0
  refine Z0 ?_
  cases t
  have hb:=X _ rfl
  subst i
  exact Eg (b,c) trivial [3,0,0,0] [] 0
 rintro ⟨j,k⟩
 refine Z2 ?_
 refine Tb U (λN=> ?_) λN=> ?_
 ·refine Z1 ?_
  refine Lt 3 ?_
  refine Lt 3 ?_
  refine Z0 ?_
  refine E.dC [Im.sl dO none 0 []] (λA w _ _ f hf=>by rw [List.mem_singleton.1 hf]; exact Im.bS A w) ?_
  cases N
  exact Eo (none,0) [] [0] (.cell 1 rfl rfl rfl (.cell 0 rfl rfl rfl .nil))
 refine Z1 ?_
 refine Lt 3 ?_
 refine Lt 3 ?_
 refine Z0 ?_
 refine E.frz 2 rfl ?_
 cases N
 exact Eo (j,k) [] [0] (.cell 1 rfl rfl rfl (.cell 0 rfl rfl rfl .nil))
theorem ft {n_:Int} {r:ByteArray} (H:bT n_=some r):CT G 101 [.int .i64 n_] [] [] (λ_:Unit=> .string r) (λh=>[]) (λh=>[]):=by
 delta bT at H
 refine Cf Go.Proofs.Tryz.func101 λK=> ?_
 refine Z3 ?_
 refine La [] [] (Ac.bs (ty:=(Ty.int .u8)) (xs:=[]) .nil rfl rfl rfl rfl rfl rfl rfl) λg1=> ?_
 refine Y1 ?_
 have ⟨b,i,j⟩:=bnd H
 refine Tjh (η:=(Option Addr×Nat)) (λh=>(λe f=>[(0,.int .i64 b.1),(3,.slice e b.2.length f)]) h.1 h.2) [] (λh=>(λe f=>[Ch.arr (Ty.int .u8) 5 e f b.2]) h.1 h.2) [] (λ_=>[]) ?_ ?_
 ·refine Yl0 ?_
  refine Tq (η:=(Option Addr×Nat)) (λa h=>(λc d=>[(0,.int .i64 a.1),(3,.slice c a.2.length d)]) h.1 h.2) [] (λa h=>(λc d=>[Ch.arr (Ty.int .u8) 5 c d a.2]) h.1 h.2) [] (λ_ _=>[]) ((some ⟨g1,0,none⟩),0) [0] [] i ?_
  rintro k_ a ⟨c,d⟩ u k l m
  refine Z2 ?_
  refine Tb k (λg=> ?_) λg=> ?_
  ·refine Zl ?_
   refine Z1 ?_
   refine La [] [] (Ac.bs (ty:=(Ty.int .u8)) (xs:=[(IntKind.u8.wrap (IntKind.i64.wrap (128+(a.1.tmod 128))))]) (.cons () [] rfl .nil) rfl rfl rfl rfl rfl rfl rfl) λv=> ?_
   refine L.frz 0 rfl ?_
   have ⟨_,n,o⟩:=bnd g
   refine La [0] [0] (Ac.ap (ty:=(Ty.int .u8)) n rfl rfl rfl rfl rfl rfl rfl) ?_
   rintro ⟨p,q⟩
   refine Z0 ?_
   cases o
   exact Eg (_,(p,q)) (l _ rfl) [0] [] 1
  refine Z0 ?_
  cases g
  have hb:=m _ rfl
  subst b
  exact Eg (c,d) trivial [0] [] 0
 rintro ⟨e,f⟩
 refine Z1 ?_
 refine La [] [] (Ac.bs (ty:=(Ty.int .u8)) (xs:=[(IntKind.u8.wrap b.1)]) (.cons () [] rfl .nil) rfl rfl rfl rfl rfl rfl rfl) λw=> ?_
 refine L.frz 0 rfl ?_
 have ⟨_,s,t⟩:=bnd j
 refine La [0] [0] (Ac.ap (ty:=(Ty.int .u8)) s rfl rfl rfl rfl rfl rfl rfl) ?_
 rintro ⟨x,y⟩
 refine Ly (Yl.bs 0 rfl rfl rfl rfl rfl rfl rfl rfl rfl) ?_
 refine Z0 ?_
 cases t
 exact Eo1 () [] []
theorem tz {s_:ByteArray} {r:ByteArray} (H:ju s_=some r):CT G 102 [.string s_] [] [] (λ_:Unit=> .string r) (λh=>[]) (λh=>[]):=by
 delta ju at H
 refine Cf Go.Proofs.Tryz.func102 λK=> ?_
 refine Z2 ?_
 have ⟨r1,h2,H3⟩:=bnd H
 refine Lk [] [] (ft h2) λ⟨⟩=> ?_
 refine Z0 ?_
 have ⟨_,h4,H5⟩:=bnd H3
 refine Ly (Yl.sa h4 rfl rfl rfl) ?_
 refine Z0 ?_
 cases H5
 exact Eo1 () [] []
theorem tA {l:List aN} {r:ByteArray} (H:jv l=some r):CT G 103 [.slice A0 l.length C0] [] [Im.sl aP A0 C0 l] (λ_:Unit=> .string r) (λh=>[]) (λh=>[]):=by
 delta jv at H
 refine Cf Go.Proofs.Tryz.func103 λK=> ?_
 refine Z2 ?_
 have ⟨r1,h2,H3⟩:=bnd H
 refine Lk [] [] (ft h2) λ⟨⟩=> ?_
 refine Z2 ?_
 have ⟨d,e,f⟩:=bnd H3
 refine Tj0 [(3,.string d)] [] [] [] ?_ ?_
 ·refine Yl0 ?_
  refine Tq (η:=Unit) (λa h=>[(3,.string a.2),(11,.int .i64 a.1)]) [9,10] (λ_ _=>[]) [] (λ_ _=>[]) () [] [] e ?_
  rintro k_ a ⟨⟩ w g i j
  refine Y2 ?_
  refine Tb g (λb=> ?_) λb=> ?_
  ·refine Z1 ?_
   refine Zl ?_
   refine Z1 ?_
   have ⟨x,c,k⟩:=bnd b
   refine L.addr 0 rfl (bH c) λy z m=> ?_
   subst m
   refine Ly (Yl.ia c rfl rfl rfl rfl rfl rfl) ?_
   refine L.el 0 rfl (aJ c).2 ?_
   rintro _
   refine Lc 0 0 ?_
   refine Ll λA=> ?_
   refine Lt 0 ?_
   refine Z0 ?_
   refine Td [] [0] mo ?_
   refine Dq 0 ?_
   refine Dq 1 ?_
   refine Db 2 0 ?_
   refine Dq 4 ?_
   refine Db 5 0 ?_
   have ⟨B,n,o⟩:=bnd k
   refine Dk [] [] (ft n) λ⟨⟩=> ?_
   have ⟨C,p,q⟩:=bnd o
   refine Dk [] [] (ft p) λ⟨⟩=> ?_
   have ⟨_,s,t⟩:=bnd q
   refine Dy 7 (Yl.sa s rfl rfl rfl) ?_
   have ⟨_,u,v⟩:=bnd t
   refine Dy 8 (Yl.sa u rfl rfl rfl) ?_
   refine Dq 9 ?_
   refine Dn ?_
   refine Z0 ?_
   cases v
   exact Eg (_,()) (i _ rfl) [] [] 1
  refine Z0 ?_
  cases b
  have hb:=j _ rfl
  subst d
  exact Eg0 [] 0
 refine Z1 ?_
 cases f
 exact Eo1 () [] []
theorem pP {r_:aU} {r:ByteArray} (H:gY r_=some r):CT G 104 [.agg #[.slice A0 r_.l.length C0,.bool r_.wrapped]] [] [Im.sl dO A0 C0 r_.l] (λ_:Unit=> .string r) (λh=>[]) (λh=>[]):=by
 delta gY at H
 refine Cf Go.Proofs.Tryz.func104 λK=> ?_
 refine Z1 ?_
 refine Lx λg1=> ?_
 refine Z3 ?_
 have ⟨e5,H6,H7⟩:=bnd H
 refine Tj0 [(3,.string e5)] [1] [] [0] ?_ ?_
 ·refine Tb H6 (λH8=> ?_) λH8=> ?_
  ·refine Z0 ?_
   cases H8
   exact Eg0 [0] 0
  refine Z0 ?_
  cases H8
  exact Eg0 [0] 0
 refine Z3 ?_
 have ⟨f,j,k⟩:=bnd H7
 refine Tj0 [(3,.string f)] [] [] [0] ?_ ?_
 ·refine Yl0 ?_
  refine Tq (η:=Unit) (λa h=>[(3,.string a.2.1),(4,.int .i64 a.2.2),(12,.int .i64 a.1)]) [1,10,11] (λ_ _=>[]) [0] (λ_ _=>[]) () [0] [] j ?_
  rintro k_ a ⟨⟩ V m n o
  refine Y2 ?_
  refine Tb m (λb=> ?_) λb=> ?_
  ·refine Y1 ?_
   have ⟨g,p,q⟩:=bnd b
   refine Tj0 [(3,.string g.1),(4,.int .i64 g.2)] [1,10,11,12] [] [0] ?_ ?_
   ·refine Zl ?_
    refine Z1 ?_
    have ⟨W,c,s⟩:=bnd p
    refine L.addr 0 rfl (bH c) λX Y t=> ?_
    subst t
    refine Ly (Yl.ia c rfl rfl rfl rfl rfl rfl) ?_
    refine L.el 0 rfl (aJ c).2 ?_
    rintro _
    refine Lc 0 0 ?_
    refine Ll λZ=> ?_
    refine Z0 ?_
    refine Lt 0 ?_
    refine Y3 ?_
    have ⟨u,v,w⟩:=bnd s
    refine Tj0 [(34,.bool u)] [1,3,4,6,10,11,12] [] [0,1] ?_ ?_
    ·refine Td [] [0,0] mo ?_
     refine Dq 0 ?_
     refine Dq 1 ?_
     refine Dq 2 ?_
     refine Db 3 1 ?_
     refine Dq 4 ?_
     refine Dq 5 ?_
     refine Dq 6 ?_
     refine D.cs 25 v rfl (λhc d=> ?_) (λhc d=> ?_)
     ·refine Dq 7 ?_
      refine Db 8 1 ?_
      refine Dq 9 ?_
      refine Dq 10 ?_
      have ⟨aa,i,x⟩:=bnd d
      refine Dy 11 (Yl.ia i rfl rfl rfl rfl rfl rfl) ?_
      refine D.el 1 rfl (aJ i).2 ?_
      rintro _
      refine Dy 12 (Yl.ldc 0 0 rfl rfl rfl rfl) ?_
      refine Db 13 0 ?_
      refine Dq 14 ?_
      refine Dq 15 ?_
      refine Dn ?_
      cases x
      exact Eg0 [0,0] 1
     refine Ds 7 ?_
     refine Ds 8 ?_
     refine Ds 9 ?_
     refine Ds 10 ?_
     refine Ds 11 ?_
     refine Ds 12 ?_
     refine Ds 13 ?_
     refine Ds 14 ?_
     refine Dq 15 ?_
     refine Dn ?_
     cases d
     exact Eg0 [0,0] 0
    refine Tb w (λe=> ?_) λe=> ?_
    ·refine Z0 ?_
     cases e
     exact Eg0 [1] 1
    refine Y1 ?_
    refine Td [] [0,0] mo ?_
    refine Dq 0 ?_
    refine Dq 1 ?_
    refine Dq 3 ?_
    refine Db 4 0 ?_
    refine Dq 7 ?_
    refine Db 8 0 ?_
    refine Dq 11 ?_
    refine Db 12 0 ?_
    have ⟨ab,y,z⟩:=bnd e
    refine Dk [] [] (ft y) λ⟨⟩=> ?_
    have ⟨ac,A,B⟩:=bnd z
    refine Dk [] [] (ft A) λ⟨⟩=> ?_
    have ⟨_,C,F⟩:=bnd B
    refine Dy 6 (Yl.sa C rfl rfl rfl) ?_
    have ⟨ad,I,J⟩:=bnd F
    refine Dk [] [] (ft I) λ⟨⟩=> ?_
    have ⟨_,M,N⟩:=bnd J
    refine Dy 10 (Yl.sa M rfl rfl rfl) ?_
    have ⟨ae,O,P⟩:=bnd N
    refine Dk [] [] (ft O) λ⟨⟩=> ?_
    have ⟨_,Q,R⟩:=bnd P
    refine Dy 14 (Yl.sa Q rfl rfl rfl) ?_
    have ⟨_,S,U⟩:=bnd R
    refine Dy 15 (Yl.sa S rfl rfl rfl) ?_
    refine Dq 16 ?_
    refine Dn ?_
    refine Z0 ?_
    cases U
    exact Eg0 [1] 1
   refine Z0 ?_
   cases q
   exact Eg (_,()) (n _ rfl) [0] [] 0
  refine Z0 ?_
  cases b
  have hb:=o _ rfl
  subst f
  exact Eg0 [0] 0
 refine Z1 ?_
 cases k
 exact Eo1 () [] []
theorem oO {s_:aV} {r:ByteArray} (H:gq s_=some r):CT G 62 [.agg (tf s_ A0 C0 A1 C1).toArray] [] [Im.sl bA A0 C0 s_.rows,Im.sl aP A1 C1 s_.begun] (λ_:Unit=> .string r) (λh=>[]) (λh=>[]):=by
 delta gq at H
 refine Cf Go.Proofs.Tryz.func62 λK=> ?_
 refine Z1 ?_
 refine Lx λg1=> ?_
 refine Y2 ?_
 have ⟨m,n,o⟩:=bnd H
 refine Tj0 [(14,.bool m)] [1] [] [0] ?_ ?_
 ·refine Z0 ?_
  have ⟨ar,p,q⟩:=bnd n
  refine Lk [] [0,1] (nA p) λ⟨⟩=> ?_
  refine Z0 ?_
  refine Lw 10 q (λb=> ?_) λb=> ?_
  ·refine Z0 ?_
   cases b
   exact Eg0 [0] 0
  refine Z0 ?_
  have ⟨au,s,t⟩:=bnd b
  refine Lk [] [0,1] (pG s) λ⟨⟩=> ?_
  refine Z0 ?_
  cases t
  exact Eg0 [0] 0
 refine Tb o (λc=> ?_) λc=> ?_
 ·refine Z1 ?_
  cases c
  exact Eo1 () [] []
 refine Z3 ?_
 refine La [] [] (Ac.bs (ty:=(Ty.int .i64)) (xs:=[s_.k,s_.w,s_.h,s_.x,s_.y]) (.cons () [] rfl (.cons () [] rfl (.cons () [] rfl (.cons () [] rfl (.cons () [] rfl .nil))))) rfl rfl rfl rfl rfl rfl rfl) λav=> ?_
 refine Z0 ?_
 have ⟨i,u,z⟩:=bnd c
 refine Tj0 [(3,.string i)] [1] [] [1] ?_ ?_
 ·refine Yl0 ?_
  refine Tq (η:=Unit) (λa h=>[(3,.string a.2),(27,.int .i64 a.1)]) [1,25,26] (λ_ _=>[]) [1,0] (λ_ _=>[]) () [1,0] [] u ?_
  rintro k_ a ⟨⟩ aw A B C
  refine Y2 ?_
  refine Tb A (λd=> ?_) λd=> ?_
  ·refine Z1 ?_
   refine Zl ?_
   refine Z1 ?_
   have ⟨F,j,I⟩:=bnd d
   refine Ly (Yl.ia j rfl rfl rfl rfl rfl rfl) ?_
   refine Ly (Yl.lo (v:= .int .i64 F) 1 a.1.toNat 0 (aJ j).2 rfl rfl rfl rfl (λ_=>rfl)) ?_
   refine Z0 ?_
   have ⟨ax,J,M⟩:=bnd I
   refine Lk [] [] (ft J) λ⟨⟩=> ?_
   have ⟨_,N,O⟩:=bnd M
   refine Ly (Yl.sa N rfl rfl rfl) ?_
   refine Z0 ?_
   cases O
   exact Eg (_,()) (B _ rfl) [0,0] [] 0
  refine Z0 ?_
  cases d
  have hb:=C _ rfl
  subst i
  exact Eg0 [0] 0
 refine Y1 ?_
 refine Td [] [0] mo ?_
 refine Dq 0 ?_
 refine Dq 1 ?_
 refine Db 2 0 ?_
 refine Dq 4 ?_
 refine Db 5 0 ?_
 refine Dq 8 ?_
 refine Db 9 0 ?_
 refine Dq 12 ?_
 refine Db 13 0 ?_
 have ⟨ay,P,Q⟩:=bnd z
 refine Dk [] [] (tz P) λ⟨⟩=> ?_
 have ⟨az,R,S⟩:=bnd Q
 refine Dk [] [] (ft R) λ⟨⟩=> ?_
 have ⟨_,U,V⟩:=bnd S
 refine Dy 7 (Yl.sa U rfl rfl rfl) ?_
 have ⟨a0,W,X⟩:=bnd V
 refine Dk [] [] (ft W) λ⟨⟩=> ?_
 have ⟨_,Y,Z⟩:=bnd X
 refine Dy 11 (Yl.sa Y rfl rfl rfl) ?_
 have ⟨a1,aa,ab⟩:=bnd Z
 refine Dk [] [1] (tA aa) λ⟨⟩=> ?_
 have ⟨_,ac,ad⟩:=bnd ab
 refine Dy 15 (Yl.sa ac rfl rfl rfl) ?_
 have ⟨_,ae,af⟩:=bnd ad
 refine Dy 16 (Yl.sa ae rfl rfl rfl) ?_
 refine Dq 17 ?_
 refine Dn ?_
 refine Z2 ?_
 have ⟨l,ag,ah⟩:=bnd af
 refine Tj0 [(3,.string l)] [] [] [0] ?_ ?_
 ·refine Yl0 ?_
  refine Tq (η:=Unit) (λe h=>[(3,.string e.1),(56,.int .i64 e.2)]) [54,55] (λ_ _=>[]) [0] (λ_ _=>[]) () [0] [] ag ?_
  rintro k_ e ⟨⟩ a2 ai aj ak
  refine Y2 ?_
  refine Tb ai (λf=> ?_) λf=> ?_
  ·refine Z1 ?_
   refine Zl ?_
   refine Z1 ?_
   have ⟨a3,g,al⟩:=bnd f
   refine L.addr 0 rfl (bH g) λa4 a5 am=> ?_
   subst am
   refine Ly (Yl.ia g rfl rfl rfl rfl rfl rfl) ?_
   refine L.el 0 rfl (aJ g).2 ?_
   rintro ⟨a6,a7⟩
   refine Lc 0 0 ?_
   refine Ll λa8=> ?_
   refine Lt 0 ?_
   refine Z0 ?_
   have ⟨a9,an,ao⟩:=bnd al
   refine Lk [] [1] (pP an) λ⟨⟩=> ?_
   have ⟨_,ap,aq⟩:=bnd ao
   refine Ly (Yl.sa ap rfl rfl rfl) ?_
   refine Z0 ?_
   cases aq
   exact Eg (_,()) (aj _ rfl) [1] [] 2
  refine Z0 ?_
  cases f
  have hb:=ak _ rfl
  subst l
  exact Eg0 [0] 0
 refine Z1 ?_
 cases ah
 exact Eo1 () [] []
theorem vY {s_:ByteArray} {r:Int} (H:kF s_=some r):CT G 100 [.string s_] [] [] (λ_:Unit=> .int .i64 r) (λh=>[]) (λh=>[]):=by
 delta kF at H
 refine Cf Go.Proofs.Tryz.func100 λK=> ?_
 refine Z3 ?_
 refine Z1 ?_
 have ⟨f,i,j⟩:=bnd H
 refine Tj0 [(3,.int .i64 f)] [] [] [] ?_ ?_
 ·refine Yl0 ?_
  refine Tq (η:=Unit) (λa h=>[(3,.int .i64 a.1),(4,.int .i64 a.2)]) [0] (λ_ _=>[]) [] (λ_ _=>[]) () [] [] i ?_
  rintro k_ a ⟨⟩ y k l m
  refine Z2 ?_
  refine Tb k (λb=> ?_) λb=> ?_
  ·refine Z1 ?_
   refine Zl ?_
   refine Z1 ?_
   have ⟨z,n,o⟩:=bnd b
   refine Ly (Yl.si n rfl rfl rfl rfl rfl) ?_
   refine Z1 ?_
   have ⟨g,p,q⟩:=bnd o
   refine T.n7 (η:=Unit×Unit) (λh=>True) (λh=>[(0,.string s_),(3,.int .i64 g),(4,.int .i64 a.2)]) (λh=>[]) (λh=>[]) ?_ ?_
   ·refine Yl0 ?_
    refine Tq (η:=Unit) (λc h=>[(3,.int .i64 c.1),(5,.int .i64 c.2)]) [0,4] (λ_ _=>[]) [] (λ_ _=>[]) () [] [] p ?_
    rintro k_ c ⟨⟩ A s t u
    refine Z2 ?_
    refine Tb s (λd=> ?_) λd=> ?_
    ·refine Y1 ?_
     have ⟨v,w,x⟩:=bnd d
     refine Tj0 [(3,.int .i64 v)] [0,4,5] [] [] ?_ ?_
     ·refine Zl ?_
      refine Z1 ?_
      refine Tb w (λe=> ?_) λe=> ?_
      ·refine Z0 ?_
       cases e
       exact Eg0 [] 0
      refine Z0 ?_
      cases e
      exact Eg0 [] 0
     refine Z0 ?_
     cases x
     exact Eg (_,()) (t _ rfl) [] [] 0
    refine Z0 ?_
    cases d
    have hb:=u _ rfl
    subst g
    exact Egx ((),()) trivial [] []
   rintro ⟨_,⟨⟩⟩ _
   refine Z0 ?_
   cases q
   exact Eg (_,()) (l _ rfl) [] [] 0
  refine Z0 ?_
  cases b
  have hb:=m _ rfl
  subst f
  exact Eg0 [] 0
 refine Z1 ?_
 cases j
 exact Eo1 () [] []
theorem uP {s_:aV} {r:Int} (H:jW s_=some r):CT G 60 [.agg (tf s_ A0 C0 A1 C1).toArray] [] [Im.sl bA A0 C0 s_.rows,Im.sl aP A1 C1 s_.begun] (λ_:Unit=> .int .i64 r) (λh=>[]) (λh=>[]):=by
 delta jW at H
 refine Cf Go.Proofs.Tryz.func60 λK=> ?_
 refine Z1 ?_
 refine Lx λg1=> ?_
 refine Z1 ?_
 have ⟨r2,h3,H4⟩:=bnd H
 refine Lk [] [0,1] (oO h3) λ⟨⟩=> ?_
 have ⟨r5,h6,H7⟩:=bnd H4
 refine Lk [] [] (vY h6) λ⟨⟩=> ?_
 refine Z0 ?_
 cases H7
 exact Eo1 () [] []
theorem oP {a:aU} {b:aU} {r:Bool} (H:gu a b=some r):CT G 61 [.agg #[.slice A0 a.l.length C0,.bool a.wrapped],.agg #[.slice A1 b.l.length C1,.bool b.wrapped]] [] [Im.sl dO A0 C0 a.l,Im.sl dO A1 C1 b.l] (λ_:Unit=> .bool r) (λh=>[]) (λh=>[]):=by
 delta gu at H
 refine Cf Go.Proofs.Tryz.func61 λK=> ?_
 refine Z1 ?_
 refine Lx λg1=> ?_
 refine Lx λg2=> ?_
 refine Y2 ?_
 have ⟨e6,H7,H8⟩:=bnd H
 refine Tj0 [(19,.bool e6)] [2,3] [] [0,1] ?_ ?_
 ·refine Z0 ?_
  refine Lw 11 H7 (λH9=> ?_) λH9=> ?_
  ·refine Z0 ?_
   cases H9
   exact Eg0 [0,0] 0
  refine Z0 ?_
  cases H9
  exact Eg0 [0,0] 0
 refine Tb H8 (λc=> ?_) λc=> ?_
 ·refine Z1 ?_
  cases c
  exact Eo1 () [] []
 refine Z2 ?_
 have ⟨d,n,j⟩:=bnd c
 refine Tj (η:=Unit×Unit) (λh=>d = .inl h.1) (λ_=>[]) [] (λ_=>[]) [0,1] (λ_=>[]) ?_ ?_
 ·refine Yl0 ?_
  refine Tq (η:=Unit) (λk h=>[(23,.int .i64 k)]) [2,3,22] (λ_ _=>[]) [0,1] (λ_ _=>[]) () [0,0] [] n ?_
  rintro k_ k ⟨⟩ o p q m
  refine Y2 ?_
  refine Tb p (λe=> ?_) λe=> ?_
  ·refine Z1 ?_
   refine Zl ?_
   refine Y2 ?_
   refine Td [] [0,0] mo ?_
   refine Dq 0 ?_
   refine Db 1 1 ?_
   refine Dq 2 ?_
   have ⟨x,f,s⟩:=bnd e
   refine D.addr 0 rfl (bH f) λy z t=> ?_
   subst t
   refine Dy 3 (Yl.ia f rfl rfl rfl rfl rfl rfl) ?_
   refine D.el 0 rfl (aJ f).2 ?_
   rintro _
   refine Dy 4 (Yl.ldc 0 0 rfl rfl rfl rfl) ?_
   refine Dq 5 ?_
   refine Db 6 0 ?_
   refine Dq 7 ?_
   have ⟨A,g,u⟩:=bnd s
   refine D.addr 2 rfl (bH g) λB C v=> ?_
   subst v
   refine Dy 8 (Yl.ia g rfl rfl rfl rfl rfl rfl) ?_
   refine D.el 2 rfl (aJ g).2 ?_
   rintro _
   refine Dy 9 (Yl.ldc 0 0 rfl rfl rfl rfl) ?_
   refine Dq 10 ?_
   refine Dn ?_
   refine Z0 ?_
   refine Tb u (λi=> ?_) λi=> ?_
   ·refine Z1 ?_
    obtain ⟨F,hz,w⟩:=bQ i
    subst o
    have hb:=m _ rfl
    subst d
    obtain rfl:=(sm j).symm
    refine Z0 ?_
    cases w
    exact Eo1 () [] []
   refine Z0 ?_
   cases i
   exact Eg (_,()) (q _ rfl) [0,0] [] 2
  refine Z0 ?_
  cases e
  have hb:=m _ rfl
  subst d
  exact Eg (_,()) rfl [0,0] [] 0
 rintro ⟨I,⟨⟩⟩ hy
 subst hy
 refine Z1 ?_
 cases j
 exact Eo1 () [] []
theorem ry {a:aV} {s_:ByteArray} {r:aV×Int} (H:iK a s_=some r):CT G 27 [.agg (tf a A0 C0 A1 C1).toArray,.string s_] [] [Im.sl bA A0 C0 a.rows,Im.sl aP A1 C1 a.begun] (λh:(Option Addr×Nat)×(Option Addr×Nat)=> .tuple #[.agg (tf r.1 h.1.1 h.1.2 h.2.1 h.2.2).toArray,.int .i64 r.2]) (λh=>[]) (λh=>[Im.sl bA h.1.1 h.1.2 r.1.rows,Im.sl aP h.2.1 h.2.2 r.1.begun]):=by
 delta iK at H
 refine Cf Go.Proofs.Tryz.func27 λK=> ?_
 refine Z1 ?_
 refine Lx λg1=> ?_
 refine Ll λg2=> ?_
 refine Z1 ?_
 refine Ll λg3=> ?_
 refine Lt 0 ?_
 refine Z2 ?_
 have ⟨r4,h5,H6⟩:=bnd H
 refine Lk [] [0,1] (pG h5) λ⟨⟩=> ?_
 refine Z0 ?_
 refine Tb H6 (λH8=> ?_) λH8=> ?_
 ·refine Z1 ?_
  refine Lt 1 ?_
  refine Z0 ?_
  refine E.dC [Im.sl bA none 0 []] (λA w _ _ f hf=>by rw [List.mem_singleton.1 hf]; exact Im.bS A w) ?_
  refine E.dC [Im.sl aP none 0 []] (λA w _ _ f hf=>by rw [List.mem_singleton.1 hf]; exact Im.bS A w) ?_
  cases H8
  exact Eo ((none,0),(none,0)) [] [1,0] (.cell 0 rfl rfl rfl (.tmp rfl .nil))
 refine Z1 ?_
 refine Ll λB=> ?_
 refine Lt 0 ?_
 refine Z3 ?_
 refine Ll λbd=> ?_
 refine Lt 0 ?_
 refine Z1 ?_
 have ⟨d9,be,bf⟩:=bnd H8
 refine Lk [] [] (dB be) λ⟨⟩=> ?_
 refine Z0 ?_
 refine Lt 1 ?_
 refine Z1 ?_
 have ⟨ea,bg,bh⟩:=bnd bf
 refine Lk [] [] (dB bg) λ⟨⟩=> ?_
 refine Z0 ?_
 refine Lt 0 ?_
 refine Z0 ?_
 refine Lt 1 ?_
 refine Z1 ?_
 have ⟨eb,bi,bj⟩:=bnd bh
 refine Lk [] [] (dB bi) λ⟨⟩=> ?_
 refine Z0 ?_
 refine Lt 1 ?_
 refine Z0 ?_
 refine Lt 1 ?_
 refine Y2 ?_
 have ⟨bk,bl,bm⟩:=bnd bj
 refine Tj0 [(50,.bool bk)] [2,4,6,7,8,10] [] [0,1,2,3,4] ?_ ?_
 ·refine Z0 ?_
  refine Lw 46 bl (λC=> ?_) λC=> ?_
  ·refine Z0 ?_
   cases C
   exact Eg0 [0,0,0,0,0] 0
  refine Z0 ?_
  cases C
  exact Eg0 [0,0,0,0,0] 0
 refine Tb bm (λF=> ?_) λF=> ?_
 ·refine Z1 ?_
  refine Lt 3 ?_
  refine Z0 ?_
  refine E.dC [Im.sl bA none 0 []] (λA w _ _ f hf=>by rw [List.mem_singleton.1 hf]; exact Im.bS A w) ?_
  refine E.dC [Im.sl aP none 0 []] (λA w _ _ f hf=>by rw [List.mem_singleton.1 hf]; exact Im.bS A w) ?_
  cases F
  exact Eo ((none,0),(none,0)) [] [1,0] (.cell 0 rfl rfl rfl (.tmp rfl .nil))
 refine Z1 ?_
 have ⟨ec,bn,bo⟩:=bnd F
 refine Lk [] [] (dB bn) λ⟨⟩=> ?_
 refine Z0 ?_
 refine Lt 1 ?_
 refine Z0 ?_
 refine Lt 1 ?_
 refine Y2 ?_
 have ⟨bp,bq,br⟩:=bnd bo
 refine Tj0 [(65,.bool bp)] [2,4,6,7,8,10] [] [0,1,2,3,4] ?_ ?_
 ·refine Z0 ?_
  refine Lw 61 bq (λI=> ?_) λI=> ?_
  ·refine Z0 ?_
   cases I
   exact Eg0 [0,0,0,0,0] 0
  refine Z0 ?_
  cases I
  exact Eg0 [0,0,0,0,0] 0
 refine Tb br (λJ=> ?_) λJ=> ?_
 ·refine Z1 ?_
  refine Lt 3 ?_
  refine Z0 ?_
  refine E.dC [Im.sl bA none 0 []] (λA w _ _ f hf=>by rw [List.mem_singleton.1 hf]; exact Im.bS A w) ?_
  refine E.dC [Im.sl aP none 0 []] (λA w _ _ f hf=>by rw [List.mem_singleton.1 hf]; exact Im.bS A w) ?_
  cases J
  exact Eo ((none,0),(none,0)) [] [1,0] (.cell 0 rfl rfl rfl (.tmp rfl .nil))
 refine Z1 ?_
 have ⟨ed,bs,bt⟩:=bnd J
 refine Lk [] [] (dB bs) λ⟨⟩=> ?_
 refine Z0 ?_
 refine Lt 1 ?_
 refine Z0 ?_
 refine Lt 1 ?_
 refine Z1 ?_
 have ⟨ee,bu,bv⟩:=bnd bt
 refine Lk [] [] (dB bu) λ⟨⟩=> ?_
 refine Z0 ?_
 refine Lt 1 ?_
 refine Z0 ?_
 refine Lt 1 ?_
 refine Z1 ?_
 have ⟨ef,bw,bx⟩:=bnd bv
 refine Lk [] [] (pd bw) λ⟨⟩=> ?_
 refine Z0 ?_
 refine Lt 1 ?_
 refine Z0 ?_
 refine Lt 1 ?_
 refine Z1 ?_
 have ⟨eg,bz,b0⟩:=bnd bx
 refine Lk [] [] (dB bz) λ⟨⟩=> ?_
 refine Z0 ?_
 refine Lt 1 ?_
 refine Z0 ?_
 refine Lt 1 ?_
 refine Z1 ?_
 have ⟨eh,b1,b2⟩:=bnd b0
 refine Lk [] [] (dB b1) λ⟨⟩=> ?_
 refine Z0 ?_
 refine Lt 1 ?_
 refine Z0 ?_
 refine Lt 1 ?_
 refine Z2 ?_
 have ⟨j,b3,b4⟩:=bnd b2
 refine Tjh (η:=(Option Addr×Nat)×(Option Addr×Nat)) (λ_=>[]) [2,4,6,7,8,10] (λh=>(λM N p q=>[Ch.arr bA 140 M N j.1.rows,Ch.arr aP 193 p q j.1.begun,Ch.box bd 30 (tf j.1 M N p q),Ch.box B 131 [.string j.2.s,.int .i64 j.2.e]]) h.1.1 h.1.2 h.2.1 h.2.2) [2,3,4] (λ_=>[]) ?_ ?_
 ·refine Tb b3 (λO=> ?_) λO=> ?_
  ·refine Z0 ?_
   have ⟨ei,b5,b6⟩:=bnd O
   refine Lk [] [] (tx b5) λ⟨b7,b8⟩=> ?_
   refine Z0 ?_
   refine Lt 2 ?_
   refine Z0 ?_
   refine Lt 2 ?_
   refine Z0 ?_
   refine E.gC bA 140 ?_
   cases b6
   exact Eg ((none,0),(b7,b8)) trivial [0,2,0,0,0,0,0] [] 0
  refine Z0 ?_
  refine E.gC bA 140 ?_
  refine E.gC aP 193 ?_
  cases O
  exact Eg ((none,0),(none,0)) trivial [1,0,0,0,0,0,0] [] 0
 rintro ⟨⟨M,N⟩,⟨p,q⟩⟩
 refine Z1 ?_
 have ⟨ej,b9,ca⟩:=bnd b4
 refine Lk [] [] (dB b9) λ⟨⟩=> ?_
 refine Z0 ?_
 refine Lt 3 ?_
 refine Z2 ?_
 refine Tb ca (λP=> ?_) λP=> ?_
 ·refine Y1 ?_
  refine Td [] [0,0,0,0,0,1] mo ?_
  refine Db 0 4 ?_
  refine Dq 1 ?_
  refine Db 2 0 ?_
  refine Da [0] [] rfl rfl (Ac.stb rfl rfl rfl rfl rfl rfl) λ_=> ?_
  refine Dq 4 ?_
  refine Dn ?_
  refine Z0 ?_
  refine E.dC [Im.sl bA none 0 []] (λA w _ _ f hf=>by rw [List.mem_singleton.1 hf]; exact Im.bS A w) ?_
  refine E.dC [Im.sl aP none 0 []] (λA w _ _ f hf=>by rw [List.mem_singleton.1 hf]; exact Im.bS A w) ?_
  cases P
  exact Eo ((none,0),(none,0)) [] [1,0] (.cell 6 rfl rfl rfl (.tmp rfl .nil))
 refine Z1 ?_
 have ⟨_,cb,cc⟩:=bnd P
 refine La [] [] (Ac.mk (ty:=Ty.bool) false () cb (λ_ _ f hf=>by cases hf) rfl rfl rfl rfl rfl rfl rfl) λcd=> ?_
 refine Z1 ?_
 have ⟨_,ce,cf⟩:=bnd cc
 refine La [] [] (Ac.mk (ty:=bA) (aU.mk ([]:List cP) false) (none,0) ce (λ_ _ f hf=>by rw [List.mem_singleton.1 hf]; exact Im.bS _ _) rfl rfl rfl rfl rfl rfl rfl) λcg=> ?_
 refine Z3 ?_
 have ⟨t,ch,Q⟩:=bnd cf
 refine Tj (η:=((List Bool)×(List aU)×aQ)×((Option Addr×Nat)×(Option Addr×Nat))) (λh=>t = .inl h.1) (λh=>(λi=>(λu x d g=>[(11,.slice u i.1.length x),(12,.slice d i.2.1.length g)]) h.2.1.1 h.2.1.2 h.2.2.1 h.2.2.2) h.1) [2,4,6,7,8,10] (λh=>(λi=>(λu x d g=>[Ch.arr Ty.bool 4 u x i.1,Ch.arr bA 140 d g i.2.1,Ch.box B 131 [.string i.2.2.s,.int .i64 i.2.2.e]]) h.2.1.1 h.2.1.2 h.2.2.1 h.2.2.2) h.1) [5,6,7,8,3,4] (λ_=>[]) ?_ ?_
 ·refine Yl0 ?_
  refine Tq (η:=(Option Addr×Nat)×(Option Addr×Nat)) (λc h=>(λn k o m=>[(11,.slice n c.2.1.length k),(12,.slice o c.2.2.1.length m),(13,.int .i64 c.2.2.2.1),(14,.int .i64 c.2.2.2.2)]) h.1.1 h.1.2 h.2.1 h.2.2) [2,4,6,7,8,9,10] (λc h=>(λn k o m=>[Ch.arr Ty.bool 4 n k c.2.1,Ch.arr bA 140 o m c.2.2.1,Ch.box B 131 [.string c.1.s,.int .i64 c.1.e]]) h.1.1 h.1.2 h.2.1 h.2.2) [5,6,7,8,3,4] (λ_ _=>[]) (((some ⟨cd,0,none⟩),j.1.h.toNat),((some ⟨cg,0,none⟩),j.1.h.toNat)) [1,0,0,2,2,2,2,0,0] [] ch ?_
  rintro k_ c ⟨⟨n,k⟩,⟨o,m⟩⟩ ax ci cj R
  refine Z2 ?_
  refine Tb ci (λS=> ?_) λS=> ?_
  ·refine Z1 ?_
   refine Zl ?_
   refine Z2 ?_
   have ⟨ay,ck,cl⟩:=bnd S
   refine Lk [] [] (dB ck) λ⟨⟩=> ?_
   refine Z0 ?_
   refine Lt 2 ?_
   refine Y2 ?_
   have ⟨cm,cn,co⟩:=bnd cl
   refine Tj0 [(146,.bool cm)] [2,4,6,7,8,9,10,11,12,14,15] [] [0,3,4,5,6,1,2,7,8] ?_ ?_
   ·refine Z0 ?_
    refine Lw 136 cn (λU=> ?_) λU=> ?_
    ·refine Z0 ?_
     refine Lw 140 U (λV=> ?_) λV=> ?_
     ·refine Z0 ?_
      cases V
      exact Eg0 [0,2,2,2,2,0,0,0,0] 0
     refine Z0 ?_
     cases V
     exact Eg0 [0,2,2,2,2,0,0,0,0] 0
    refine Z0 ?_
    cases U
    exact Eg0 [0,2,2,2,2,0,0,0,0] 0
   refine Tb co (λW=> ?_) λW=> ?_
   ·refine Z1 ?_
    refine Lt 3 ?_
    refine Z0 ?_
    obtain ⟨ek,hz,cp⟩:=bQ W
    subst ax
    have hb:=R _ rfl
    subst t
    obtain rfl:=(sm Q).symm
    refine Z0 ?_
    refine E.dC [Im.sl bA none 0 []] (λA w _ _ f hf=>by rw [List.mem_singleton.1 hf]; exact Im.bS A w) ?_
    refine E.dC [Im.sl aP none 0 []] (λA w _ _ f hf=>by rw [List.mem_singleton.1 hf]; exact Im.bS A w) ?_
    cases cp
    exact Eo ((none,0),(none,0)) [] [1,0] (.cell 0 rfl rfl rfl (.tmp rfl .nil))
   refine Z1 ?_
   refine Ll λem=> ?_
   refine Lt 0 ?_
   refine Z1 ?_
   have ⟨az,cq,cr⟩:=bnd W
   refine Lk [] [] (pO cq) λ⟨ct,cu⟩=> ?_
   refine Z0 ?_
   refine Lt 1 ?_
   refine Lt 1 ?_
   refine Z2 ?_
   refine Tb cr (λX=> ?_) λX=> ?_
   ·refine Y1 ?_
    refine Td [] [0,0,0,0,1,1,1,1,1] mo ?_
    refine Db 0 3 ?_
    refine Dq 1 ?_
    refine Db 2 1 ?_
    refine Da [0] [] rfl rfl (Ac.stb rfl rfl rfl rfl rfl rfl) λ_=> ?_
    refine Dq 4 ?_
    refine Dn ?_
    refine Z0 ?_
    obtain ⟨en,hz,cv⟩:=bQ X
    subst ax
    have hb:=R _ rfl
    subst t
    obtain rfl:=(sm Q).symm
    refine Z0 ?_
    refine E.dC [Im.sl bA none 0 []] (λA w _ _ f hf=>by rw [List.mem_singleton.1 hf]; exact Im.bS A w) ?_
    refine E.dC [Im.sl aP none 0 []] (λA w _ _ f hf=>by rw [List.mem_singleton.1 hf]; exact Im.bS A w) ?_
    cases cv
    exact Eo ((none,0),(none,0)) [] [1,0] (.cell 9 rfl rfl rfl (.tmp rfl .nil))
   refine Z2 ?_
   have ⟨eo,Y,cw⟩:=bnd X
   refine L.iG 6 rfl (bH Y) λcx cy=> ?_
   subst cy
   refine Ly (Yl.ia Y rfl rfl rfl rfl rfl rfl) ?_
   refine La [6] [] (Ac.se 0 true (aJ Y).2 rfl rfl rfl rfl rfl rfl (λ_=>⟨(),rfl,[],rfl⟩)) λ_=> ?_
   refine L.sl 11 (k':=(c.2.1.set ay.2.toNat true).length) (List.length_set ..) rfl ?_
   refine Z0 ?_
   have ⟨ep,Z,cz⟩:=bnd cw
   refine L.iG 7 rfl (bH Z) λc0 c1=> ?_
   subst c1
   refine Ly (Yl.ia Z rfl rfl rfl rfl rfl rfl) ?_
   refine La [7] [0] (Ac.se 0 az.2 (aJ Z).2 rfl rfl rfl rfl rfl rfl (λ_=>⟨(ct,cu),rfl,[1],rfl⟩)) λ_=> ?_
   refine L.sl 12 (k':=(c.2.2.1.set ay.2.toNat az.2).length) (List.length_set ..) rfl ?_
   refine Z0 ?_
   cases cz
   exact Eg (_,(((some ⟨cx,0,none⟩),k),((some ⟨c0,0,none⟩),m))) (cj _ rfl) [1,0,1,1,1,1,1,1,1] [] 1
  refine Z0 ?_
  cases S
  have hb:=R _ rfl
  subst t
  exact Eg (_,((n,k),(o,m))) rfl [0,0,0,0,0,0,0,0,0] [] 0
 rintro ⟨i,⟨⟨u,x⟩,⟨d,g⟩⟩⟩ hy
 subst hy
 refine Z2 ?_
 refine Tb Q (λaa=> ?_) λaa=> ?_
 ·refine Z1 ?_
  refine Lt 5 ?_
  refine Z0 ?_
  refine E.dC [Im.sl bA none 0 []] (λA w _ _ f hf=>by rw [List.mem_singleton.1 hf]; exact Im.bS A w) ?_
  refine E.dC [Im.sl aP none 0 []] (λA w _ _ f hf=>by rw [List.mem_singleton.1 hf]; exact Im.bS A w) ?_
  cases aa
  exact Eo ((none,0),(none,0)) [] [1,0] (.cell 0 rfl rfl rfl (.tmp rfl .nil))
 refine Z2 ?_
 have ⟨eq,c2,c3⟩:=bnd aa
 refine Lk [] [0,1] (uP c2) λ⟨⟩=> ?_
 refine Z0 ?_
 refine Tb c3 (λab=> ?_) λab=> ?_
 ·refine Z1 ?_
  refine Lt 5 ?_
  refine Z0 ?_
  refine E.dC [Im.sl bA none 0 []] (λA w _ _ f hf=>by rw [List.mem_singleton.1 hf]; exact Im.bS A w) ?_
  refine E.dC [Im.sl aP none 0 []] (λA w _ _ f hf=>by rw [List.mem_singleton.1 hf]; exact Im.bS A w) ?_
  cases ab
  exact Eo ((none,0),(none,0)) [] [1,0] (.cell 0 rfl rfl rfl (.tmp rfl .nil))
 refine Z2 ?_
 have ⟨ac,c4,a0⟩:=bnd ab
 refine Tj (η:=(List aU)×Unit) (λh=>ac = .inl h.1) (λh=>(λy=>[(12,.slice d y.length g)]) h.1) [4,6,10] (λh=>(λy=>[Ch.arr bA 140 d g y]) h.1) [2,3,4,5,6,7,8] (λ_=>[]) ?_ ?_
 ·refine Yl0 ?_
  refine Tq (η:=Unit) (λb h=>[(12,.slice d b.1.length g),(181,.int .i64 b.2)]) [2,4,6,10,11,180] (λb h=>[Ch.arr bA 140 d g b.1]) [2,3,4,5,6,0,7,8] (λ_ _=>[]) () [1,1,1,1,1,1,0,0,0] [] c4 ?_
  rintro k_ b ⟨⟩ c5 c6 c7 a1
  refine Y2 ?_
  refine Tb c6 (λad=> ?_) λad=> ?_
  ·refine Y1 ?_
   have ⟨a2,c8,a3⟩:=bnd ad
   refine Tj (η:=(List aU)×Unit) (λh=>a2 = .inl h.1) (λh=>(λz=>[(12,.slice d z.length g)]) h.1) [2,4,6,10,11,180,181] (λh=>(λz=>[Ch.arr bA 140 d g z]) h.1) [1,2,3,4,5,6,7,8] (λ_=>[]) ?_ ?_
   ·refine Zl ?_
    refine Y3 ?_
    have ⟨c9,da,db⟩:=bnd c8
    refine Tj0 [(220,.bool c9)] [2,4,6,10,11,12,17,180,181] [] [1,2,3,4,5,0,6,7,8] ?_ ?_
    ·refine Td [] [1,1,1,1,1,1,1,1] mo ?_
     refine Dq 0 ?_
     refine Dq 1 ?_
     have ⟨dc,ae,dd⟩:=bnd da
     refine D.iG 5 rfl (bH ae) λer de=> ?_
     subst de
     refine Dy 2 (Yl.ia ae rfl rfl rfl rfl rfl rfl) ?_
     refine Dy 3 (Yl.lo (v:= .bool dc) 5 b.2.toNat 0 (aJ ae).2 rfl rfl rfl rfl (λ_=>rfl)) ?_
     refine Dq 4 ?_
     refine Dq 5 ?_
     refine D.cs 189 dd rfl (λhc af=> ?_) (λhc af=> ?_)
     ·refine Dq 6 ?_
      refine Dq 7 ?_
      refine Db 8 4 ?_
      refine Dq 9 ?_
      refine Dq 10 ?_
      refine Dq 11 ?_
      refine Dq 12 ?_
      refine D.cs 196 af rfl (λhc ag=> ?_) (λhc ag=> ?_)
      ·refine Ds 13 ?_
       refine Ds 14 ?_
       refine Ds 15 ?_
       refine Ds 16 ?_
       refine Ds 17 ?_
       refine Ds 18 ?_
       refine Ds 19 ?_
       refine Ds 20 ?_
       refine Ds 21 ?_
       refine Ds 22 ?_
       refine Ds 23 ?_
       refine Ds 24 ?_
       refine Ds 25 ?_
       refine Ds 26 ?_
       refine Ds 27 ?_
       refine Ds 28 ?_
       refine Ds 29 ?_
       refine Ds 30 ?_
       refine Ds 31 ?_
       refine Ds 32 ?_
       refine Ds 33 ?_
       refine Ds 34 ?_
       refine Ds 35 ?_
       refine Dq 36 ?_
       refine Dn ?_
       cases ag
       exact Eg0 [0,0,0,0,0,3,0,0,0] 0
      refine Dq 13 ?_
      refine Dq 14 ?_
      have ⟨df,a4,dg⟩:=bnd ag
      refine Dy 15 (Yl.ia a4 rfl rfl rfl rfl rfl rfl) ?_
      refine Dy 16 (Yl.lo (v:= .bool df) 5 b.2.toNat 0 (aJ a4).2 rfl rfl rfl rfl (λ_=>rfl)) ?_
      refine Dq 17 ?_
      refine D.cs 201 dg rfl (λhc ah=> ?_) (λhc ah=> ?_)
      ·refine Dq 18 ?_
       refine Dq 19 ?_
       refine Db 20 4 ?_
       refine Dq 21 ?_
       refine Dq 22 ?_
       refine Dq 23 ?_
       refine Dq 24 ?_
       refine D.cs 208 ah rfl (λhc ai=> ?_) (λhc ai=> ?_)
       ·refine Dq 25 ?_
        refine Dq 26 ?_
        have ⟨a5,aj,dh⟩:=bnd ai
        refine D.iG 8 rfl (bH aj) λes di=> ?_
        subst di
        refine Dy 27 (Yl.ia aj rfl rfl rfl rfl rfl rfl) ?_
        refine Dq 29 ?_
        refine Db 30 4 ?_
        refine Dq 31 ?_
        have ⟨et,ak,dj⟩:=bnd dh
        refine D.addr 0 rfl (bH ak) λeu ev dk=> ?_
        subst dk
        refine Dy 32 (Yl.ia ak rfl rfl rfl rfl rfl rfl) ?_
        refine D.el 0 rfl (aJ ak).2 ?_
        rintro ⟨ew,ex⟩
        refine Dy 33 (Yl.ldc 0 0 rfl rfl rfl rfl) ?_
        refine Da [0] [] rfl rfl (Ac.lo b.2.toNat 0 (v:=(λh:(Option Addr×Nat)=>(λa6 a7=> .agg #[.slice a6 a5.l.length a7,.bool a5.wrapped]) h.1 h.2)) (aJ aj).2 rfl rfl rfl (λ_=>rfl)) ?_
        rintro ⟨a6,a7⟩
        have ⟨ey,dl,dm⟩:=bnd dj
        refine Dk [] [0,2] (oP dl) λ⟨⟩=> ?_
        refine Dq 35 ?_
        refine Dq 36 ?_
        refine Dn ?_
        cases dm
        exact Eg0 [0,0,0,0,0,3,0,0,0] 3
       refine Ds 25 ?_
       refine Ds 26 ?_
       refine Ds 27 ?_
       refine Ds 28 ?_
       refine Ds 29 ?_
       refine Ds 30 ?_
       refine Ds 31 ?_
       refine Ds 32 ?_
       refine Ds 33 ?_
       refine Ds 34 ?_
       refine Dq 35 ?_
       refine Dq 36 ?_
       refine Dn ?_
       cases ai
       exact Eg0 [0,0,0,0,0,3,0,0,0] 0
      refine Ds 18 ?_
      refine Ds 19 ?_
      refine Ds 20 ?_
      refine Ds 21 ?_
      refine Ds 22 ?_
      refine Dq 23 ?_
      refine Dq 24 ?_
      refine Ds 25 ?_
      refine Ds 26 ?_
      refine Ds 27 ?_
      refine Ds 28 ?_
      refine Ds 29 ?_
      refine Ds 30 ?_
      refine Ds 31 ?_
      refine Ds 32 ?_
      refine Ds 33 ?_
      refine Ds 34 ?_
      refine Dq 35 ?_
      refine Dq 36 ?_
      refine Dn ?_
      cases ah
      exact Eg0 [0,0,0,0,0,3,0,0,0] 0
     refine Ds 6 ?_
     refine Ds 7 ?_
     refine Ds 8 ?_
     refine Ds 9 ?_
     refine Ds 10 ?_
     refine Dq 11 ?_
     refine Dq 12 ?_
     refine Dq 13 ?_
     refine Dq 14 ?_
     have ⟨dn,a8,dp⟩:=bnd af
     refine Dy 15 (Yl.ia a8 rfl rfl rfl rfl rfl rfl) ?_
     refine Dy 16 (Yl.lo (v:= .bool dn) 5 b.2.toNat 0 (aJ a8).2 rfl rfl rfl rfl (λ_=>rfl)) ?_
     refine Dq 17 ?_
     refine D.cs 201 dp rfl (λhc al=> ?_) (λhc al=> ?_)
     ·refine Dq 18 ?_
      refine Dq 19 ?_
      refine Db 20 4 ?_
      refine Dq 21 ?_
      refine Dq 22 ?_
      refine Dq 23 ?_
      refine Dq 24 ?_
      refine D.cs 208 al rfl (λhc am=> ?_) (λhc am=> ?_)
      ·refine Dq 25 ?_
       refine Dq 26 ?_
       have ⟨a9,an,dq⟩:=bnd am
       refine D.iG 8 rfl (bH an) λez dr=> ?_
       subst dr
       refine Dy 27 (Yl.ia an rfl rfl rfl rfl rfl rfl) ?_
       refine Dq 29 ?_
       refine Db 30 4 ?_
       refine Dq 31 ?_
       have ⟨e0,ao,ds⟩:=bnd dq
       refine D.addr 0 rfl (bH ao) λe1 e2 dt=> ?_
       subst dt
       refine Dy 32 (Yl.ia ao rfl rfl rfl rfl rfl rfl) ?_
       refine D.el 0 rfl (aJ ao).2 ?_
       rintro ⟨e3,e4⟩
       refine Dy 33 (Yl.ldc 0 0 rfl rfl rfl rfl) ?_
       refine Da [0] [] rfl rfl (Ac.lo b.2.toNat 0 (v:=(λh:(Option Addr×Nat)=>(λba bb=> .agg #[.slice ba a9.l.length bb,.bool a9.wrapped]) h.1 h.2)) (aJ an).2 rfl rfl rfl (λ_=>rfl)) ?_
       rintro ⟨ba,bb⟩
       have ⟨e5,du,dv⟩:=bnd ds
       refine Dk [] [0,2] (oP du) λ⟨⟩=> ?_
       refine Dq 35 ?_
       refine Dq 36 ?_
       refine Dn ?_
       cases dv
       exact Eg0 [0,0,0,0,0,3,0,0,0] 3
      refine Ds 25 ?_
      refine Ds 26 ?_
      refine Ds 27 ?_
      refine Ds 28 ?_
      refine Ds 29 ?_
      refine Ds 30 ?_
      refine Ds 31 ?_
      refine Ds 32 ?_
      refine Ds 33 ?_
      refine Ds 34 ?_
      refine Dq 35 ?_
      refine Dq 36 ?_
      refine Dn ?_
      cases am
      exact Eg0 [0,0,0,0,0,3,0,0,0] 0
     refine Ds 18 ?_
     refine Ds 19 ?_
     refine Ds 20 ?_
     refine Ds 21 ?_
     refine Ds 22 ?_
     refine Dq 23 ?_
     refine Dq 24 ?_
     refine Ds 25 ?_
     refine Ds 26 ?_
     refine Ds 27 ?_
     refine Ds 28 ?_
     refine Ds 29 ?_
     refine Ds 30 ?_
     refine Ds 31 ?_
     refine Ds 32 ?_
     refine Ds 33 ?_
     refine Ds 34 ?_
     refine Dq 35 ?_
     refine Dq 36 ?_
     refine Dn ?_
     cases al
     exact Eg0 [0,0,0,0,0,3,0,0,0] 0
    refine Tb db (λap=> ?_) λap=> ?_
    ·refine Z1 ?_
     refine Lt 3 ?_
     refine Z0 ?_
     obtain ⟨e6,hz,dw⟩:=gH ap
     subst a2
     obtain rfl:=(sm a3).symm
     refine Z0 ?_
     obtain ⟨e7,hz,dx⟩:=bQ dw
     subst c5
     have hb:=a1 _ rfl
     subst ac
     obtain rfl:=(sm a0).symm
     refine Z0 ?_
     refine E.dC [Im.sl bA none 0 []] (λA w _ _ f hf=>by rw [List.mem_singleton.1 hf]; exact Im.bS A w) ?_
     refine E.dC [Im.sl aP none 0 []] (λA w _ _ f hf=>by rw [List.mem_singleton.1 hf]; exact Im.bS A w) ?_
     cases dx
     exact Eo ((none,0),(none,0)) [] [1,0] (.cell 0 rfl rfl rfl (.tmp rfl .nil))
    refine Z1 ?_
    have ⟨dy,aq,dz⟩:=bnd ap
    refine L.iG 6 rfl (bH aq) λe8 d0=> ?_
    subst d0
    refine Ly (Yl.ia aq rfl rfl rfl rfl rfl rfl) ?_
    refine Ly (Yl.lo (v:= .bool dy) 6 b.2.toNat 0 (aJ aq).2 rfl rfl rfl rfl (λ_=>rfl)) ?_
    refine Z0 ?_
    refine Tb dz (λar=> ?_) λar=> ?_
    ·refine Z0 ?_
     have ⟨bc,au,d1⟩:=bnd ar
     refine L.addr 0 rfl (bH au) λe9 fa d2=> ?_
     subst d2
     refine Ly (Yl.ia au rfl rfl rfl rfl rfl rfl) ?_
     refine L.el 0 rfl (aJ au).2 ?_
     rintro ⟨d3,d4⟩
     refine Lc 0 0 ?_
     have ⟨fb,av,d5⟩:=bnd d1
     refine L.iG 5 rfl (bH av) λfc d6=> ?_
     subst d6
     refine Ly (Yl.ia av rfl rfl rfl rfl rfl rfl) ?_
     refine La [5] [1] (Ac.se 0 bc (aJ av).2 rfl rfl rfl rfl rfl rfl (λ_=>⟨(d3,d4),rfl,[1],rfl⟩)) λ_=> ?_
     refine L.sl 12 (k':=(b.1.set b.2.toNat bc).length) (List.length_set ..) rfl ?_
     refine Z0 ?_
     cases d5
     exact Eg (_,()) rfl [0,0,0,0,0,0,0,0,0] [] 2
    refine Z0 ?_
    cases ar
    exact Eg (_,()) rfl [5,0,0,0,0,0,0,0,0] [] 0
   rintro ⟨z,⟨⟩⟩ hy
   subst hy
   refine Z0 ?_
   cases a3
   exact Eg (_,()) (c7 _ rfl) [0,0,0,0,0,0,0,0,0] [] 0
  refine Z0 ?_
  cases ad
  have hb:=a1 _ rfl
  subst ac
  exact Eg (_,()) rfl [0,0,0,0,0,0,1,1] [] 0
 rintro ⟨y,⟨⟩⟩ hy
 subst hy
 refine Z1 ?_
 refine Lt 2 ?_
 refine Z2 ?_
 refine L.frz 1 rfl ?_
 refine L.frz 6 rfl ?_
 have ⟨fd,d7,d8⟩:=bnd a0
 refine Lk [] [1,0] (oO d7) λ⟨⟩=> ?_
 refine Z0 ?_
 refine Tb d8 (λaw=> ?_) λaw=> ?_
 ·refine Z1 ?_
  refine Lt 3 ?_
  refine Z0 ?_
  refine E.dC [Im.sl bA none 0 []] (λA w _ _ f hf=>by rw [List.mem_singleton.1 hf]; exact Im.bS A w) ?_
  refine E.dC [Im.sl aP none 0 []] (λA w _ _ f hf=>by rw [List.mem_singleton.1 hf]; exact Im.bS A w) ?_
  cases aw
  exact Eo ((none,0),(none,0)) [] [1,0] (.cell 0 rfl rfl rfl (.tmp rfl .nil))
 refine Z1 ?_
 refine Lt 3 ?_
 refine Z0 ?_
 cases aw
 exact Eo ((d,g),(p,q)) [] [1,0] (.cell 0 rfl rfl rfl (.tmp rfl .nil))
end Go.Tw.X
namespace Go.Tw.X
open Go Go.Tw
variable {A0 A1 A2 A3 A4 A5 A6 A7 A8 : Option Addr} {C0 C1 C2 C3 C4 C5 C6 C7 C8 : Nat}
variable {N0 N1 N2 N3 N4 : Nat}
variable {M0 : Option Nat}
theorem tB {t_:bU} {g:cL} {r:bU×Int} (H:jw t_ g=some r):CT G 8 [.agg (vL t_ A0 C0 A1 C1 A2 C2 A3 C3).toArray,.agg (xY g A4 C4).toArray] [] [Im.sl bA A0 C0 t_.aO.rows,Im.sl aP A1 C1 t_.aO.begun,Im.sl Ty.bool A2 C2 t_.slot.has,Im.sl Ty.str A3 C3 t_.slot.parts,Im.sl (Ty.int .i64) A4 C4 g.bW] (λh:(Option Addr×Nat)×(Option Addr×Nat)×(Option Addr×Nat)×(Option Addr×Nat)=> .tuple #[.agg (vL r.1 h.1.1 h.1.2 h.2.1.1 h.2.1.2 h.2.2.1.1 h.2.2.1.2 h.2.2.2.1 h.2.2.2.2).toArray,.int .i64 r.2]) (λh=>[]) (λh=>[Im.sl bA h.1.1 h.1.2 r.1.aO.rows,Im.sl aP h.2.1.1 h.2.1.2 r.1.aO.begun,Im.sl Ty.bool h.2.2.1.1 h.2.2.1.2 r.1.slot.has,Im.sl Ty.str h.2.2.2.1 h.2.2.2.2 r.1.slot.parts]):=by
 delta jw at H
 refine Cf Go.Proofs.Tryz.func8 λK=> ?_
 refine Z1 ?_
 refine Lx λg1=> ?_
 refine Lx λg2=> ?_
 refine Ll λg3=> ?_
 refine Z2 ?_
 refine Tb H (λH5=> ?_) λH5=> ?_
 ·refine Z1 ?_
  refine Lt 0 ?_
  refine Z0 ?_
  cases H5
  exact Eo ((A0,C0),(A1,C1),(A2,C2),(A3,C3)) [] [0,1,2,3] (.cell 0 rfl rfl rfl (.tmp rfl .nil))
 refine Z2 ?_
 refine Tb H5 (λH7=> ?_) λH7=> ?_
 ·refine Z1 ?_
  refine Lt 0 ?_
  refine Z0 ?_
  cases H7
  exact Eo ((A0,C0),(A1,C1),(A2,C2),(A3,C3)) [] [0,1,2,3] (.cell 0 rfl rfl rfl (.tmp rfl .nil))
 refine Y2 ?_
 refine Td [] [0,0,0] mo ?_
 refine Dq 0 ?_
 refine Db 1 1 ?_
 have ⟨a9,o,R⟩:=bnd H7
 refine D.addr 4 rfl (bH o) λba bb S=> ?_
 subst S
 refine Dy 2 (Yl.ia o rfl rfl rfl rfl rfl rfl) ?_
 refine D.el 4 rfl (aJ o).2 ?_
 rintro _
 refine Dy 3 (Yl.ldc 0 0 rfl rfl rfl rfl) ?_
 refine Dq 4 ?_
 refine Dq 5 ?_
 refine Db 6 2 ?_
 refine Dq 7 ?_
 refine Dn ?_
 refine Z0 ?_
 refine Tb R (λp=> ?_) λp=> ?_
 ·refine Z1 ?_
  refine Lt 0 ?_
  refine Z0 ?_
  cases p
  exact Eo ((A0,C0),(A1,C1),(A2,C2),(A3,C3)) [] [1,2,3,4] (.cell 0 rfl rfl rfl (.tmp rfl .nil))
 refine Y2 ?_
 have ⟨U,V,W⟩:=bnd p
 refine Tj0 [(45,.bool U)] [2,3,4] [] [0,1,2] ?_ ?_
 ·refine Td [] [0,0,0] mo ?_
  refine Dq 0 ?_
  refine Db 1 1 ?_
  have ⟨bc,C,X⟩:=bnd V
  refine Dy 2 (Yl.ia C rfl rfl rfl rfl rfl rfl) ?_
  refine D.el 5 rfl (aJ C).2 ?_
  rintro _
  refine Dy 3 (Yl.ldc 0 0 rfl rfl rfl rfl) ?_
  refine Dq 4 ?_
  refine Dq 5 ?_
  refine D.cs 36 X rfl (λhc q=> ?_) (λhc q=> ?_)
  ·refine Dq 6 ?_
   refine Db 7 1 ?_
   have ⟨bd,F,Y⟩:=bnd q
   refine Dy 8 (Yl.ia F rfl rfl rfl rfl rfl rfl) ?_
   refine D.el 6 rfl (aJ F).2 ?_
   rintro _
   refine Dy 9 (Yl.ldc 0 0 rfl rfl rfl rfl) ?_
   refine Dq 10 ?_
   refine Dq 11 ?_
   refine Db 12 2 ?_
   refine Dq 13 ?_
   refine Dq 14 ?_
   refine Dn ?_
   cases Y
   exact Eg0 [0,0,0] 2
  refine Ds 6 ?_
  refine Ds 7 ?_
  refine Ds 8 ?_
  refine Ds 9 ?_
  refine Ds 10 ?_
  refine Ds 11 ?_
  refine Ds 12 ?_
  refine Ds 13 ?_
  refine Dq 14 ?_
  refine Dn ?_
  cases q
  exact Eg0 [0,0,0] 1
 refine Tb W (λs=> ?_) λs=> ?_
 ·refine Z1 ?_
  refine Lt 0 ?_
  refine Z0 ?_
  cases s
  exact Eo ((A0,C0),(A1,C1),(A2,C2),(A3,C3)) [] [1,2,3,4] (.cell 0 rfl rfl rfl (.tmp rfl .nil))
 refine Y1 ?_
 have ⟨b,Z,aa⟩:=bnd s
 refine Tjh (η:=Nat×(Option Addr×Nat)×(Option Addr×Nat)) (λh=>(λj c d e i=>[(6,.pointer (some ⟨j,0,none⟩)),(7,.int .i64 b.2)]) h.1 h.2.1.1 h.2.1.2 h.2.2.1 h.2.2.2) [2,3,4] (λh=>(λj c d e i=>[Ch.box j 34 [.int .i64 b.1.key,.slice c b.1.has.length d,.slice e b.1.parts.length i]]) h.1 h.2.1.1 h.2.1.2 h.2.2.1 h.2.2.2) [0,1,2] (λh=>(λj c d e i=>[Im.sl Ty.bool c d b.1.has,Im.sl Ty.str e i b.1.parts]) h.1 h.2.1.1 h.2.1.2 h.2.2.1 h.2.2.2) ?_ ?_
 ·refine Td [21] [0,0,0] mo ?_
  refine Dq 0 ?_
  refine Db 1 2 ?_
  refine Dq 2 ?_
  refine Db 3 1 ?_
  have ⟨be,I,ab⟩:=bnd Z
  refine Dy 4 (Yl.ia I rfl rfl rfl rfl rfl rfl) ?_
  refine D.el 5 rfl (aJ I).2 ?_
  rintro _
  refine Dy 5 (Yl.ldc 0 0 rfl rfl rfl rfl) ?_
  refine Dq 6 ?_
  refine Db 7 1 ?_
  have ⟨bf,J,ac⟩:=bnd ab
  refine Dy 8 (Yl.ia J rfl rfl rfl rfl rfl rfl) ?_
  refine D.el 6 rfl (aJ J).2 ?_
  rintro _
  refine Dy 9 (Yl.ldc 0 0 rfl rfl rfl rfl) ?_
  refine Dq 10 ?_
  refine Db 11 1 ?_
  have ⟨bg,M,ad⟩:=bnd ac
  refine Dy 12 (Yl.ia M rfl rfl rfl rfl rfl rfl) ?_
  refine D.el 7 rfl (aJ M).2 ?_
  rintro _
  refine Dy 13 (Yl.ldc 0 0 rfl rfl rfl rfl) ?_
  refine Dq 14 ?_
  refine Db 15 1 ?_
  have ⟨bh,N,O⟩:=bnd ad
  refine D.two rfl rfl rfl ?_ ?_
  ·refine Dp.a [] [6,7] (Ac.call (pF N) rfl rfl rfl rfl) rfl rfl rfl rfl rfl rfl ?_
   rintro ⟨⟨ae,af⟩,⟨ag,ah⟩⟩
   refine Dq 17 ?_
   refine Dq 18 ?_
   refine Dq 19 ?_
   refine Da [] [] rfl rfl (Ac.alloc rfl rfl) λai=> ?_
   refine Dt 3 ?_
   refine Dq 22 ?_
   refine Dn ?_
   cases O
   exact Eg (ai,(ae,af),(ag,ah)) trivial [0,0,0,0] [0,1] 5
  refine Dp.a [] [] (Ac.alloc rfl rfl) rfl rfl rfl rfl rfl rfl ?_
  intro aj
  refine Dk [] [6,7] (pF N) λ⟨⟨ak,al⟩,⟨am,an⟩⟩=> ?_
  refine Dq 17 ?_
  refine Dq 18 ?_
  refine Dq 19 ?_
  refine Dt 3 ?_
  refine Dq 22 ?_
  refine Dn ?_
  cases O
  exact Eg (aj,(ak,al),(am,an)) trivial [0,0,0,0] [0,1] 5
 rintro ⟨j,⟨c,d⟩,⟨e,i⟩⟩
 refine Z2 ?_
 refine Tb aa (λt=> ?_) λt=> ?_
 ·refine Z1 ?_
  refine Lt 1 ?_
  refine Z0 ?_
  cases t
  exact Eo ((A0,C0),(A1,C1),(A2,C2),(A3,C3)) [] [3,4,5,6] (.cell 0 rfl rfl rfl (.tmp rfl .nil))
 refine Z1 ?_
 have ⟨bi,ao,ap⟩:=bnd t
 refine Lk [] [0,1] (uN ao) λ⟨⟩=> ?_
 refine Z2 ?_
 refine Tb ap (λu=> ?_) λu=> ?_
 ·refine Z1 ?_
  refine Lt 1 ?_
  refine Z0 ?_
  cases u
  exact Eo ((A0,C0),(A1,C1),(c,d),(e,i)) [] [3,4,0,1] (.cell 0 rfl rfl rfl (.tmp rfl .nil))
 refine Z1 ?_
 refine Ll λaq=> ?_
 refine Lt 0 ?_
 refine Z2 ?_
 have ⟨bj,P,ar⟩:=bnd u
 refine Ly (Yl.ia P rfl rfl rfl rfl rfl rfl) ?_
 refine L.el 7 rfl (aJ P).2 ?_
 rintro _
 refine Lc 0 0 ?_
 refine Z0 ?_
 have ⟨v,au,av⟩:=bnd ar
 refine Tjh (η:=(Option Addr×Nat)×(Option Addr×Nat)) (λ_=>[]) [2,3,4,8,10] (λh=>(λk l m n=>[Ch.box aq 30 (tf v k l m n)]) h.1.1 h.1.2 h.2.1 h.2.2) [1,2,3,4] (λh=>(λk l m n=>[Im.sl bA k l v.rows,Im.sl aP m n v.begun]) h.1.1 h.1.2 h.2.1 h.2.2) ?_ ?_
 ·refine Tb au (λx=> ?_) λx=> ?_
  ·refine Z0 ?_
   refine Lt 0 ?_
   refine Z0 ?_
   cases x
   exact Eg ((A0,C0),(A1,C1)) trivial [0,0,0,0,0] [4,5] 0
  refine Z0 ?_
  refine E.dC [Im.sl bA none 0 []] (λA w _ _ f hf=>by rw [List.mem_singleton.1 hf]; exact Im.bS A w) ?_
  refine E.dC [Im.sl aP none 0 []] (λA w _ _ f hf=>by rw [List.mem_singleton.1 hf]; exact Im.bS A w) ?_
  cases x
  exact Eg ((none,0),(none,0)) trivial [0,0,0,0,0] [1,0] 2
 rintro ⟨⟨k,l⟩,⟨m,n⟩⟩
 refine Z1 ?_
 have ⟨bk,aw,ax⟩:=bnd av
 refine Lk [] [0,1] (ry aw) λ⟨⟨ay,az⟩,⟨a0,a1⟩⟩=> ?_
 refine Z0 ?_
 refine Ll λbl=> ?_
 refine Lt 0 ?_
 refine Y2 ?_
 have ⟨a2,a3,a4⟩:=bnd ax
 refine Tj0 [(106,.bool a2)] [2,4,11,12] [] [0,1,2,3,4,5] ?_ ?_
 ·refine Td [] [0,0,0,0,0,0] mo ?_
  refine Dq 0 ?_
  refine Dq 1 ?_
  refine Dq 2 ?_
  refine D.cs 98 a3 rfl (λhc y=> ?_) (λhc y=> ?_)
  ·refine Dq 3 ?_
   refine Db 4 0 ?_
   refine Dq 5 ?_
   refine Db 6 4 ?_
   have ⟨bm,Q,a5⟩:=bnd y
   refine Dy 7 (Yl.ia Q rfl rfl rfl rfl rfl rfl) ?_
   refine D.el 12 rfl (aJ Q).2 ?_
   rintro _
   refine Dy 8 (Yl.ldc 0 0 rfl rfl rfl rfl) ?_
   refine Dq 9 ?_
   refine Dq 10 ?_
   refine Dn ?_
   cases a5
   exact Eg0 [0,0,0,0,0,0] 1
  refine Ds 3 ?_
  refine Ds 4 ?_
  refine Ds 5 ?_
  refine Ds 6 ?_
  refine Ds 7 ?_
  refine Ds 8 ?_
  refine Ds 9 ?_
  refine Dq 10 ?_
  refine Dn ?_
  cases y
  exact Eg0 [0,0,0,0,0,0] 0
 have ⟨a6,a7,a8⟩:=bnd a4
 refine Tj0 [(12,.int .i64 a6)] [2,4,11] [] [0,1,2,3,4,5] ?_ ?_
 ·refine Tb a7 (λz=> ?_) λz=> ?_
  ·refine Z0 ?_
   cases z
   exact Eg0 [0,0,0,0,0,0] 0
  refine Z0 ?_
  cases z
  exact Eg0 [0,0,0,0,0,0] 0
 refine Z2 ?_
 refine Tb a8 (λB=> ?_) λB=> ?_
 ·refine Z1 ?_
  refine Lt 3 ?_
  refine Z0 ?_
  refine E.dC [Im.sl Ty.bool none 0 []] (λA w _ _ f hf=>by rw [List.mem_singleton.1 hf]; exact Im.bS A w) ?_
  refine E.dC [Im.sl Ty.str none 0 []] (λA w _ _ f hf=>by rw [List.mem_singleton.1 hf]; exact Im.bS A w) ?_
  cases B
  exact Eo ((A0,C0),(A1,C1),(none,0),(none,0)) [] [10,11,1,0] (.cell 0 rfl rfl rfl (.tmp rfl .nil))
 refine Z1 ?_
 refine Lt 3 ?_
 refine Z0 ?_
 refine E.dC [Im.sl Ty.bool none 0 []] (λA w _ _ f hf=>by rw [List.mem_singleton.1 hf]; exact Im.bS A w) ?_
 refine E.dC [Im.sl Ty.str none 0 []] (λA w _ _ f hf=>by rw [List.mem_singleton.1 hf]; exact Im.bS A w) ?_
 cases B
 exact Eo ((ay,az),(a0,a1),(none,0),(none,0)) [] [2,3,1,0] (.cell 0 rfl rfl rfl (.tmp rfl .nil))
theorem vZ {r_:aE} {x_:aU} {r:Bool} (H:iV r_ x_=some r):CT G 119 [.agg #[.slice A0 r_.cells.length C0,.bool r_.wrapped],.agg #[.slice A1 x_.l.length C1,.bool x_.wrapped]] [] [Im.sl aS A0 C0 r_.cells,Im.sl dO A1 C1 x_.l] (λ_:Unit=> .bool r) (λh=>[]) (λh=>[]):=by
 delta iV at H
 refine Cf Go.Proofs.Tryz.func119 λK=> ?_
 refine Z1 ?_
 refine Lx λg1=> ?_
 refine Lx λg2=> ?_
 refine Y2 ?_
 have ⟨e6,H7,H8⟩:=bnd H
 refine Tj0 [(20,.bool e6)] [2,3] [] [0,1] ?_ ?_
 ·refine Z0 ?_
  refine Lw 14 H7 (λH9=> ?_) λH9=> ?_
  ·refine Z0 ?_
   cases H9
   exact Eg0 [0,0] 0
  refine Z0 ?_
  cases H9
  exact Eg0 [0,0] 0
 refine Tb H8 (λa=> ?_) λa=> ?_
 ·refine Z1 ?_
  cases a
  exact Eo1 () [] []
 refine Z2 ?_
 have ⟨b,p,j⟩:=bnd a
 refine Tj (η:=Unit×Unit) (λh=>b = .inl h.1) (λ_=>[]) [] (λ_=>[]) [0,1] (λ_=>[]) ?_ ?_
 ·refine Yl0 ?_
  refine Tq (η:=Unit) (λk h=>[(24,.int .i64 k)]) [3,22,23] (λ_ _=>[]) [0,1] (λ_ _=>[]) () [0,0] [] p ?_
  rintro k_ k ⟨⟩ q s t m
  refine Y2 ?_
  refine Tb s (λc=> ?_) λc=> ?_
  ·refine Z1 ?_
   refine Zl ?_
   refine Z1 ?_
   have ⟨I,d,u⟩:=bnd c
   refine L.addr 0 rfl (bH d) λJ M v=> ?_
   subst v
   refine Ly (Yl.ia d rfl rfl rfl rfl rfl rfl) ?_
   refine L.el 0 rfl (aJ d).2 ?_
   rintro _
   refine Lc 0 0 ?_
   refine Ll λN=> ?_
   refine Z0 ?_
   refine Lt 0 ?_
   refine Y1 ?_
   have ⟨w,x,y⟩:=bnd u
   refine Tj0 [(60,.bool w)] [3,22,23,24] [] [0,1,2] ?_ ?_
   ·refine Td [] [0,0,0] mo ?_
    refine Dq 0 ?_
    refine Db 1 0 ?_
    refine Dq 2 ?_
    refine Dq 3 ?_
    refine Db 4 1 ?_
    refine Dq 5 ?_
    have ⟨O,e,z⟩:=bnd x
    refine D.addr 2 rfl (bH e) λP Q A=> ?_
    subst A
    refine Dy 6 (Yl.ia e rfl rfl rfl rfl rfl rfl) ?_
    refine D.el 2 rfl (aJ e).2 ?_
    rintro _
    refine Dq 7 ?_
    refine Dy 8 (Yl.ldc 0 0 rfl rfl rfl rfl) ?_
    refine Dq 9 ?_
    refine Dq 10 ?_
    refine D.cs 39 z rfl (λhc f=> ?_) (λhc f=> ?_)
    ·refine Ds 11 ?_
     refine Ds 12 ?_
     refine Ds 13 ?_
     refine Ds 14 ?_
     refine Ds 15 ?_
     refine Ds 16 ?_
     refine Ds 17 ?_
     refine Ds 18 ?_
     refine Ds 19 ?_
     refine Dq 20 ?_
     refine Dq 21 ?_
     refine Ds 22 ?_
     refine Ds 23 ?_
     refine Ds 24 ?_
     refine Ds 25 ?_
     refine Ds 26 ?_
     refine Ds 27 ?_
     refine Ds 28 ?_
     refine Ds 29 ?_
     refine Ds 30 ?_
     refine Dq 31 ?_
     refine Dn ?_
     cases f
     exact Eg0 [0,0,0] 1
    refine Dq 11 ?_
    refine Db 12 0 ?_
    refine Dq 13 ?_
    refine Db 14 1 ?_
    refine Dq 15 ?_
    have ⟨R,n,B⟩:=bnd f
    refine Dy 16 (Yl.ia n rfl rfl rfl rfl rfl rfl) ?_
    refine D.el 3 rfl (aJ n).2 ?_
    rintro _
    refine Dq 17 ?_
    refine Dy 18 (Yl.ldc 0 1 rfl rfl rfl rfl) ?_
    refine Dq 19 ?_
    refine Dq 20 ?_
    refine Dq 21 ?_
    refine D.cs 50 B rfl (λhc g=> ?_) (λhc g=> ?_)
    ·refine Ds 22 ?_
     refine Ds 23 ?_
     refine Ds 24 ?_
     refine Ds 25 ?_
     refine Ds 26 ?_
     refine Ds 27 ?_
     refine Ds 28 ?_
     refine Ds 29 ?_
     refine Ds 30 ?_
     refine Dq 31 ?_
     refine Dn ?_
     cases g
     exact Eg0 [0,0,0] 2
    refine Dq 22 ?_
    refine Db 23 0 ?_
    refine Dq 24 ?_
    refine Db 25 1 ?_
    refine Dq 26 ?_
    have ⟨S,o,C⟩:=bnd g
    refine Dy 27 (Yl.ia o rfl rfl rfl rfl rfl rfl) ?_
    refine D.el 4 rfl (aJ o).2 ?_
    rintro _
    refine Dq 28 ?_
    refine Dy 29 (Yl.ldc 0 2 rfl rfl rfl rfl) ?_
    refine Dq 30 ?_
    refine Dq 31 ?_
    refine Dn ?_
    cases C
    exact Eg0 [0,0,0] 3
   refine Tb y (λi=> ?_) λi=> ?_
   ·refine Z1 ?_
    obtain ⟨U,hz,F⟩:=bQ i
    subst q
    have hb:=m _ rfl
    subst b
    obtain rfl:=(sm j).symm
    refine Z0 ?_
    cases F
    exact Eo1 () [] []
   refine Z0 ?_
   cases i
   exact Eg (_,()) (t _ rfl) [1,1] [] 1
  refine Z0 ?_
  cases c
  have hb:=m _ rfl
  subst b
  exact Eg (_,()) rfl [0,0] [] 0
 rintro ⟨V,⟨⟩⟩ hy
 subst hy
 refine Z1 ?_
 cases j
 exact Eo1 () [] []
theorem tC {l:List aE} {x_:List aU} {r:Bool} (H:jt l x_=some r):CT G 70 [.slice A0 l.length C0,.slice A1 x_.length C1] [] [Im.sl aD A0 C0 l,Im.sl bA A1 C1 x_] (λ_:Unit=> .bool r) (λh=>[]) (λh=>[]):=by
 delta jt at H
 refine Cf Go.Proofs.Tryz.func70 λK=> ?_
 refine Z3 ?_
 refine Tb H (λH2=> ?_) λH2=> ?_
 ·refine Z1 ?_
  cases H2
  exact Eo1 () [] []
 refine Z2 ?_
 have ⟨a,j,f⟩:=bnd H2
 refine Tj (η:=Unit×Unit) (λh=>a = .inl h.1) (λ_=>[]) [] (λ_=>[]) [] (λ_=>[]) ?_ ?_
 ·refine Yl0 ?_
  refine Tq (η:=Unit) (λg h=>[(13,.int .i64 g)]) [0,1,12] (λ_ _=>[]) [] (λ_ _=>[]) () [] [] j ?_
  rintro k_ g ⟨⟩ k m n i
  refine Y2 ?_
  refine Tb m (λb=> ?_) λb=> ?_
  ·refine Z1 ?_
   refine Zl ?_
   refine Y2 ?_
   refine Td [] [] mo ?_
   refine Dq 0 ?_
   refine Dq 1 ?_
   have ⟨w,c,o⟩:=bnd b
   refine D.addr 0 rfl (bH c) λx y p=> ?_
   subst p
   refine Dy 2 (Yl.ia c rfl rfl rfl rfl rfl rfl) ?_
   refine D.el 0 rfl (aJ c).2 ?_
   rintro ⟨z,A⟩
   refine Dy 3 (Yl.ldc 0 0 rfl rfl rfl rfl) ?_
   refine Dq 4 ?_
   refine Dq 5 ?_
   have ⟨B,d,q⟩:=bnd o
   refine D.addr 3 rfl (bH d) λC F s=> ?_
   subst s
   refine Dy 6 (Yl.ia d rfl rfl rfl rfl rfl rfl) ?_
   refine D.el 3 rfl (aJ d).2 ?_
   rintro ⟨I,J⟩
   refine Dy 7 (Yl.ldc 0 0 rfl rfl rfl rfl) ?_
   have ⟨M,t,u⟩:=bnd q
   refine Dk [] [3,1] (vZ t) λ⟨⟩=> ?_
   refine Dq 9 ?_
   refine Dn ?_
   refine Z0 ?_
   refine Tb u (λe=> ?_) λe=> ?_
   ·refine Z1 ?_
    obtain ⟨N,hz,v⟩:=bQ e
    subst k
    have hb:=i _ rfl
    subst a
    obtain rfl:=(sm f).symm
    refine Z0 ?_
    cases v
    exact Eo1 () [] []
   refine Z0 ?_
   cases e
   exact Eg (_,()) (n _ rfl) [] [] 4
  refine Z0 ?_
  cases b
  have hb:=i _ rfl
  subst a
  exact Eg (_,()) rfl [] [] 0
 rintro ⟨O,⟨⟩⟩ hy
 subst hy
 refine Z1 ?_
 cases f
 exact Eo1 () [] []
theorem qU {l:List aG} {x_:List aN} {r:Bool} (H:iw l x_=some r):CT G 71 [.slice A0 l.length C0,.slice A1 x_.length C1] [] [Im.sl aB A0 C0 l,Im.sl aP A1 C1 x_] (λ_:Unit=> .bool r) (λh=>[]) (λh=>[]):=by
 delta iw at H
 refine Cf Go.Proofs.Tryz.func71 λK=> ?_
 refine Z3 ?_
 refine Tb H (λH2=> ?_) λH2=> ?_
 ·refine Z1 ?_
  cases H2
  exact Eo1 () [] []
 refine Z2 ?_
 have ⟨a,m,g⟩:=bnd H2
 refine Tj (η:=Unit×Unit) (λh=>a = .inl h.1) (λ_=>[]) [] (λ_=>[]) [] (λ_=>[]) ?_ ?_
 ·refine Yl0 ?_
  refine Tq (η:=Unit) (λi h=>[(14,.int .i64 i)]) [1,12,13] (λ_ _=>[]) [] (λ_ _=>[]) () [] [] m ?_
  rintro k_ i ⟨⟩ n o p j
  refine Y2 ?_
  refine Tb o (λb=> ?_) λb=> ?_
  ·refine Z1 ?_
   refine Zl ?_
   refine Z1 ?_
   have ⟨A,c,q⟩:=bnd b
   refine L.addr 0 rfl (bH c) λB C s=> ?_
   subst s
   refine Ly (Yl.ia c rfl rfl rfl rfl rfl rfl) ?_
   refine L.el 0 rfl (aJ c).2 ?_
   rintro _
   refine Lc 0 0 ?_
   refine Ll λF=> ?_
   refine Z0 ?_
   refine Lt 0 ?_
   refine Y1 ?_
   have ⟨t,u,v⟩:=bnd q
   refine Tj0 [(37,.bool t)] [1,12,13,14] [] [0] ?_ ?_
   ·refine Td [] [0] mo ?_
    refine Dq 0 ?_
    refine Db 1 0 ?_
    refine Dq 2 ?_
    refine Dq 3 ?_
    refine Dq 4 ?_
    have ⟨I,d,w⟩:=bnd u
    refine D.addr 2 rfl (bH d) λJ M x=> ?_
    subst x
    refine Dy 5 (Yl.ia d rfl rfl rfl rfl rfl rfl) ?_
    refine D.el 2 rfl (aJ d).2 ?_
    rintro _
    refine Dq 6 ?_
    refine Dy 7 (Yl.ldc 0 0 rfl rfl rfl rfl) ?_
    refine Dq 8 ?_
    refine Dq 9 ?_
    refine D.cs 28 w rfl (λhc e=> ?_) (λhc e=> ?_)
    ·refine Ds 10 ?_
     refine Ds 11 ?_
     refine Ds 12 ?_
     refine Ds 13 ?_
     refine Ds 14 ?_
     refine Ds 15 ?_
     refine Ds 16 ?_
     refine Ds 17 ?_
     refine Dq 18 ?_
     refine Dn ?_
     cases e
     exact Eg0 [0] 1
    refine Dq 10 ?_
    refine Db 11 0 ?_
    refine Dq 12 ?_
    refine Dq 13 ?_
    have ⟨N,k,y⟩:=bnd e
    refine Dy 14 (Yl.ia k rfl rfl rfl rfl rfl rfl) ?_
    refine D.el 3 rfl (aJ k).2 ?_
    rintro _
    refine Dq 15 ?_
    refine Dy 16 (Yl.ldc 0 1 rfl rfl rfl rfl) ?_
    refine Dq 17 ?_
    refine Dq 18 ?_
    refine Dn ?_
    cases y
    exact Eg0 [0] 2
   refine Tb v (λf=> ?_) λf=> ?_
   ·refine Z1 ?_
    obtain ⟨O,hz,z⟩:=bQ f
    subst n
    have hb:=j _ rfl
    subst a
    obtain rfl:=(sm g).symm
    refine Z0 ?_
    cases z
    exact Eo1 () [] []
   refine Z0 ?_
   cases f
   exact Eg (_,()) (p _ rfl) [] [] 1
  refine Z0 ?_
  cases b
  have hb:=j _ rfl
  subst a
  exact Eg (_,()) rfl [] [] 0
 rintro ⟨P,⟨⟩⟩ hy
 subst hy
 refine Z1 ?_
 cases g
 exact Eo1 () [] []
theorem v7 {s_:aC} {x_:aV} {r:Bool} (H:kG s_ x_=some r):CT G 32 [.agg (gO s_ A0 C0 A1 C1).toArray,.agg (tf x_ A2 C2 A3 C3).toArray] [] [Im.sl aD A0 C0 s_.rows,Im.sl aB A1 C1 s_.begun,Im.sl bA A2 C2 x_.rows,Im.sl aP A3 C3 x_.begun] (λ_:Unit=> .bool r) (λh=>[]) (λh=>[]):=by
 delta kG at H
 refine Cf Go.Proofs.Tryz.func32 λK=> ?_
 refine Z1 ?_
 refine Lx λg1=> ?_
 refine Lx λg2=> ?_
 refine Y1 ?_
 have ⟨k,l,m⟩:=bnd H
 refine Tj0 [(4,.bool k)] [] [] [0,1] ?_ ?_
 ·refine Tra ?_
  refine Z0 ?_
  refine Lw 10 l (λa=> ?_) λa=> ?_
  ·refine Z0 ?_
   refine Lw 17 a (λb=> ?_) λb=> ?_
   ·refine Z0 ?_
    refine Lw 24 b (λc=> ?_) λc=> ?_
    ·refine Z0 ?_
     refine Lw 31 c (λd=> ?_) λd=> ?_
     ·refine Z0 ?_
      refine Lw 38 d (λe=> ?_) λe=> ?_
      ·refine Z0 ?_
       refine Lw 45 e (λf=> ?_) λf=> ?_
       ·refine Z0 ?_
        refine Lw 52 f (λg=> ?_) λg=> ?_
        ·refine Z0 ?_
         refine Lw 59 g (λi=> ?_) λi=> ?_
         ·refine Z0 ?_
          have ⟨s,n,o⟩:=bnd i
          refine Lk [] [0,2] (tC n) λ⟨⟩=> ?_
          refine Z0 ?_
          refine Lw 66 o (λj=> ?_) λj=> ?_
          ·refine Z0 ?_
           have ⟨t,p,q⟩:=bnd j
           refine Lk [] [1,3] (qU p) λ⟨⟩=> ?_
           refine Z0 ?_
           cases q
           exact Eg0 [0,0] 0
          refine Z0 ?_
          cases j
          exact Eg0 [0,0] 0
         refine Z0 ?_
         cases i
         exact Eg0 [0,0] 0
        refine Z0 ?_
        cases g
        exact Eg0 [0,0] 0
       refine Z0 ?_
       cases f
       exact Eg0 [0,0] 0
      refine Z0 ?_
      cases e
      exact Eg0 [0,0] 0
     refine Z0 ?_
     cases d
     exact Eg0 [0,0] 0
    refine Z0 ?_
    cases c
    exact Eg0 [0,0] 0
   refine Z0 ?_
   cases b
   exact Eg0 [0,0] 0
  refine Z0 ?_
  cases a
  exact Eg0 [0,0] 0
 refine Z0 ?_
 cases m
 exact Eo1 () [] []
theorem nX {s_:aW} {r:(List Int)} (H:fP s_=some r):CT G 34 [.pointer (some ⟨N0,0,none⟩)] [Ch.box N0 69 (fr s_ M0),Ch.mp Ty.str false M0 s_.parts] [] (λh:(Option Addr×Nat)=> .slice h.1 r.length h.2) (λh=>[Ch.arr (Ty.int .i64) 3 h.1 h.2 r,Ch.box N0 69 (fr s_ M0),Ch.mp Ty.str false M0 s_.parts]) (λh=>[]):=by
 delta fP at H
 refine Cf Go.Proofs.Tryz.func34 λK=> ?_
 refine Z2 ?_
 have ⟨r1,h2,H3⟩:=bnd H
 refine Lk [0,0] [] (kT h2) λ⟨a4,c5⟩=> ?_
 refine Z0 ?_
 cases H3
 exact Eo1 (a4,c5) [0,0,0] []
theorem oQ {a:List Int} {b:List Int} {r:Bool} (H:iC a b=some r):CT G 33 [.slice A0 a.length C0,.slice A1 b.length C1] [] [Im.sl (Ty.int .i64) A0 C0 a,Im.sl (Ty.int .i64) A1 C1 b] (λ_:Unit=> .bool r) (λh=>[]) (λh=>[]):=by
 delta iC at H
 refine Cf Go.Proofs.Tryz.func33 λK=> ?_
 refine Z3 ?_
 refine Tb H (λH2=> ?_) λH2=> ?_
 ·refine Z1 ?_
  cases H2
  exact Eo1 () [] []
 refine Z2 ?_
 have ⟨c,l,i⟩:=bnd H2
 refine Tj (η:=Unit×Unit) (λh=>c = .inl h.1) (λ_=>[]) [] (λ_=>[]) [] (λ_=>[]) ?_ ?_
 ·refine Yl0 ?_
  refine Tq (η:=Unit) (λj h=>[(13,.int .i64 j)]) [0,1,12] (λ_ _=>[]) [] (λ_ _=>[]) () [] [] l ?_
  rintro k_ j ⟨⟩ m n o k
  refine Y2 ?_
  refine Tb n (λd=> ?_) λd=> ?_
  ·refine Z1 ?_
   refine Zl ?_
   refine Y2 ?_
   refine Td [] [] mo ?_
   refine Dq 0 ?_
   refine Dq 1 ?_
   have ⟨v,e,p⟩:=bnd d
   refine D.addr 0 rfl (bH e) λw x q=> ?_
   subst q
   refine Dy 2 (Yl.ia e rfl rfl rfl rfl rfl rfl) ?_
   refine D.el 0 rfl (aJ e).2 ?_
   rintro _
   refine Dy 3 (Yl.ldc 0 0 rfl rfl rfl rfl) ?_
   refine Dq 4 ?_
   refine Dq 5 ?_
   have ⟨y,f,s⟩:=bnd p
   refine D.addr 2 rfl (bH f) λz A t=> ?_
   subst t
   refine Dy 6 (Yl.ia f rfl rfl rfl rfl rfl rfl) ?_
   refine D.el 2 rfl (aJ f).2 ?_
   rintro _
   refine Dy 7 (Yl.ldc 0 0 rfl rfl rfl rfl) ?_
   refine Dq 8 ?_
   refine Dn ?_
   refine Z0 ?_
   refine Tb s (λg=> ?_) λg=> ?_
   ·refine Z1 ?_
    obtain ⟨B,hz,u⟩:=bQ g
    subst m
    have hb:=k _ rfl
    subst c
    obtain rfl:=(sm i).symm
    refine Z0 ?_
    cases u
    exact Eo1 () [] []
   refine Z0 ?_
   cases g
   exact Eg (_,()) (o _ rfl) [] [] 2
  refine Z0 ?_
  cases d
  have hb:=k _ rfl
  subst c
  exact Eg (_,()) rfl [] [] 0
 rintro ⟨C,⟨⟩⟩ hy
 subst hy
 refine Z1 ?_
 cases i
 exact Eo1 () [] []
theorem uQ {t_:bU} {r:cL} (H:jZ t_=some r):CT G 37 [.agg (vL t_ A0 C0 A1 C1 A2 C2 A3 C3).toArray] [] [Im.sl bA A0 C0 t_.aO.rows,Im.sl aP A1 C1 t_.aO.begun,Im.sl Ty.bool A2 C2 t_.slot.has,Im.sl Ty.str A3 C3 t_.slot.parts] (λh:(Option Addr×Nat)=> .agg (xY r h.1 h.2).toArray) (λh=>[]) (λh=>[Im.sl (Ty.int .i64) h.1 h.2 r.bW]):=by
 delta jZ at H
 refine Cf Go.Proofs.Tryz.func37 λK=> ?_
 refine Z1 ?_
 refine Lx λg1=> ?_
 refine Ll λg2=> ?_
 refine Z3 ?_
 have ⟨j,m,n⟩:=bnd H
 refine Tj0 [(3,.string j)] [1,2] [] [0,1] ?_ ?_
 ·refine Yl0 ?_
  refine Tq (η:=Unit) (λb h=>[(3,.string b.1),(4,.int .i64 b.2)]) [1,2] (λ_ _=>[]) [0,1] (λ_ _=>[]) () [0,0] [] m ?_
  rintro k_ b ⟨⟩ R o p q
  refine Z2 ?_
  refine Tb o (λc=> ?_) λc=> ?_
  ·refine Z1 ?_
   refine Zl ?_
   refine Z3 ?_
   have ⟨d,s,t⟩:=bnd c
   refine Tj0 [(5,.int .i64 d)] [1,2,3,4] [] [0,1] ?_ ?_
   ·refine Yl0 ?_
    refine Tq (η:=Unit) (λa h=>[(5,.int .i64 a.1),(6,.int .i64 a.2)]) [1,2,3,4] (λ_ _=>[]) [0,1] (λ_ _=>[]) () [0,0] [] s ?_
    rintro k_ a ⟨⟩ S u w x
    refine Y2 ?_
    have ⟨y,z,A⟩:=bnd u
    refine Tj0 [(26,.bool y)] [1,2,3,4,5,6] [] [0,1] ?_ ?_
    ·refine Z0 ?_
     refine Lw 17 z (λe=> ?_) λe=> ?_
     ·refine Z0 ?_
      cases e
      exact Eg0 [0,0] 0
     refine Z0 ?_
     cases e
     exact Eg0 [0,0] 0
    refine Tb A (λf=> ?_) λf=> ?_
    ·refine Y1 ?_
     have ⟨B,C,F⟩:=bnd f
     refine Tj0 [(5,.int .i64 B)] [1,2,3,4,6] [] [0,1] ?_ ?_
     ·refine Zl ?_
      refine Z1 ?_
      have ⟨U,g,I⟩:=bnd C
      refine L.addr 2 rfl (bH g) λV W J=> ?_
      subst J
      refine Ly (Yl.ia g rfl rfl rfl rfl rfl rfl) ?_
      refine L.el 2 rfl (aJ g).2 ?_
      rintro _
      refine Lc 0 0 ?_
      refine Z0 ?_
      refine Tb I (λi=> ?_) λi=> ?_
      ·refine Z0 ?_
       refine La [] [] (Ac.bs (ty:=(Ty.int .i64)) (xs:=[1,2,4,8,16,32,64,128]) (.cons () [] rfl (.cons () [] rfl (.cons () [] rfl (.cons () [] rfl (.cons () [] rfl (.cons () [] rfl (.cons () [] rfl (.cons () [] rfl .nil)))))))) rfl rfl rfl rfl rfl rfl rfl) λX=> ?_
       refine Z0 ?_
       have ⟨M,l,N⟩:=bnd i
       refine Ly (Yl.ia l rfl rfl rfl rfl rfl rfl) ?_
       refine Ly (Yl.lo (v:= .int .i64 M) 0 a.2.toNat 0 (aJ l).2 rfl rfl rfl rfl (λ_=>rfl)) ?_
       refine Z0 ?_
       cases N
       exact Eg0 [1,1] 1
      refine Z0 ?_
      cases i
      exact Eg0 [0,0] 1
     refine Z0 ?_
     cases F
     exact Eg (_,()) (w _ rfl) [0,0] [] 0
    refine Z0 ?_
    cases f
    have hb:=x _ rfl
    subst d
    exact Eg0 [0,0] 0
   refine Z0 ?_
   refine La [] [] (Ac.bs (ty:=(Ty.int .u8)) (xs:=[(IntKind.u8.wrap d)]) (.cons () [] rfl .nil) rfl rfl rfl rfl rfl rfl rfl) λY=> ?_
   refine Ly (Yl.bs 0 rfl rfl rfl rfl rfl rfl rfl rfl rfl) ?_
   have ⟨_,O,P⟩:=bnd t
   refine Ly (Yl.sa O rfl rfl rfl) ?_
   refine Z0 ?_
   cases P
   exact Eg (_,()) (p _ rfl) [1,1] [] 0
  refine Z0 ?_
  cases c
  have hb:=q _ rfl
  subst j
  exact Eg0 [0,0] 0
 refine Z1 ?_
 refine La [] [] (Ac.bs (ty:=(Ty.int .i64)) (xs:=[t_.aO.k,t_.slot.key]) (.cons () [] rfl (.cons () [] rfl .nil)) rfl rfl rfl rfl rfl rfl rfl) λQ=> ?_
 refine Z0 ?_
 refine Lt 1 ?_
 refine Z0 ?_
 refine E.frz 1 rfl ?_
 cases n
 exact Eo ((some ⟨Q,0,none⟩),2) [] [0] (.cell 0 rfl rfl rfl .nil)
theorem v8 {g:bY} {x_:cL} {r:Bool} (H:lY g x_=some r):CT G 36 [.agg (th g A0 C0).toArray,.agg (xY x_ A1 C1).toArray] [] [Im.sl (Ty.int .i64) A0 C0 g.bW,Im.sl (Ty.int .i64) A1 C1 x_.bW] (λ_:Unit=> .bool r) (λh=>[]) (λh=>[]):=by
 delta lY at H
 refine Cf Go.Proofs.Tryz.func36 λK=> ?_
 refine Z1 ?_
 refine Lx λg1=> ?_
 refine Lx λg2=> ?_
 refine Y1 ?_
 have ⟨d,e,f⟩:=bnd H
 refine Tj0 [(4,.bool d)] [] [] [0,1] ?_ ?_
 ·refine Z0 ?_
  refine Lw 10 e (λa=> ?_) λa=> ?_
  ·refine Z0 ?_
   refine Lw 17 a (λb=> ?_) λb=> ?_
   ·refine Z0 ?_
    have ⟨k,i,j⟩:=bnd b
    refine Lk [] [0,1] (oQ i) λ⟨⟩=> ?_
    refine Z0 ?_
    refine Lw 24 j (λc=> ?_) λc=> ?_
    ·refine Z0 ?_
     cases c
     exact Eg0 [0,0] 0
    refine Z0 ?_
    cases c
    exact Eg0 [0,0] 0
   refine Z0 ?_
   cases b
   exact Eg0 [0,0] 0
  refine Z0 ?_
  cases a
  exact Eg0 [0,0] 0
 refine Z0 ?_
 cases f
 exact Eo1 () [] []
theorem nY {t_:aK} {x_:bU} {r:Bool} (H:iW t_ x_=some r):CT G 10 [.pointer (some ⟨N0,0,none⟩),.agg (vL x_ A2 C2 A3 C3 A4 C4 A5 C5).toArray] [Ch.box N0 71 (km t_ N1 A0 C0 A1 C1),Ch.box N1 69 (fr t_.slot M0),Ch.mp Ty.str false M0 t_.slot.parts] [Im.sl aD A0 C0 t_.aO.rows,Im.sl aB A1 C1 t_.aO.begun,Im.sl bA A2 C2 x_.aO.rows,Im.sl aP A3 C3 x_.aO.begun,Im.sl Ty.bool A4 C4 x_.slot.has,Im.sl Ty.str A5 C5 x_.slot.parts] (λ_:Unit=> .bool r) (λh=>[Ch.box N0 71 (km t_ N1 A0 C0 A1 C1),Ch.box N1 69 (fr t_.slot M0),Ch.mp Ty.str false M0 t_.slot.parts]) (λh=>[]):=by
 delta iW at H
 refine Cf Go.Proofs.Tryz.func10 λK=> ?_
 refine Z1 ?_
 refine Lx λg1=> ?_
 refine Y1 ?_
 have ⟨d,e,f⟩:=bnd H
 refine Tj0 [(4,.bool d)] [] [] [0,1,2,3] ?_ ?_
 ·refine Td [] [0,0,0,0] mo ?_
  refine Dq 0 ?_
  refine Dq 2 ?_
  refine Dq 3 ?_
  refine Db 4 0 ?_
  have ⟨A,g,i⟩:=bnd e
  refine D.one rfl rfl rfl (Dp.ab [1,1,1] [0,1] [3,0,0,0] (Ac.call (mj g) rfl rfl rfl rfl) rfl rfl rfl rfl rfl rfl (λ_=>rfl) ?_)
  rintro ⟨⟩
  refine Dq 5 ?_
  refine Dq 6 ?_
  refine D.cs 11 i rfl (λhc a=> ?_) (λhc a=> ?_)
  ·refine Dq 7 ?_
   refine Dq 9 ?_
   refine Db 10 0 ?_
   have ⟨B,j,k⟩:=bnd a
   refine D.one rfl rfl rfl (Dp.ab [1,1,1] [0,1] [3,0,0,0] (Ac.call (kS j) rfl rfl rfl rfl) rfl rfl rfl rfl rfl rfl (λ_=>rfl) ?_)
   rintro ⟨⟨C,F⟩,⟨I,J⟩⟩
   have ⟨M,l,m⟩:=bnd k
   refine Dk [] [0,1,4,5] (v7 l) λ⟨⟩=> ?_
   refine Dq 12 ?_
   refine Dq 13 ?_
   refine D.cs 18 m rfl (λhc b=> ?_) (λhc b=> ?_)
   ·refine Dq 14 ?_
    refine Dq 15 ?_
    refine Dq 16 ?_
    refine Db 17 1 ?_
    refine Dq 19 ?_
    refine Db 20 0 ?_
    have ⟨N,n,o⟩:=bnd b
    refine D.one rfl rfl rfl (Dp.ab [2,2] [] [3,3,1,1] (Ac.call (nX n) rfl rfl rfl rfl) rfl rfl rfl rfl rfl rfl (λ_=>rfl) ?_)
    rintro ⟨O,P⟩
    have ⟨Q,p,q⟩:=bnd o
    refine Dk [] [6,7] (nz p) λ⟨R,S⟩=> ?_
    have ⟨U,s,t⟩:=bnd q
    refine D.one rfl rfl rfl (Dp.br (Ac.call (oQ s) rfl rfl rfl rfl) (Bw.ch 5 rfl (Bw.ch 4 rfl (Bw.nil))) rfl rfl rfl rfl ?_)
    intro _
    refine Dq 23 ?_
    refine Dq 24 ?_
    refine D.cs 29 t rfl (λhc c=> ?_) (λhc c=> ?_)
    ·refine Dq 25 ?_
     refine Db 27 0 ?_
     have ⟨V,u,v⟩:=bnd c
     refine D.one rfl rfl rfl (Dp.ab [1,1,1] [2,3] [3,0,0,0] (Ac.call (lj u) rfl rfl rfl rfl) rfl rfl rfl rfl rfl rfl (λ_=>rfl) ?_)
     rintro ⟨W,X⟩
     have ⟨Y,w,x⟩:=bnd v
     refine Dk [] [5,6,7,8] (uQ w) λ⟨Z,aa⟩=> ?_
     have ⟨ac,y,z⟩:=bnd x
     refine Dk [] [1,0] (v8 y) λ⟨⟩=> ?_
     refine Dq 30 ?_
     refine Dq 31 ?_
     refine Dn ?_
     cases z
     exact Eg0 [0,0,0,0] 4
    refine Ds 25 ?_
    refine Ds 26 ?_
    refine Ds 27 ?_
    refine Ds 28 ?_
    refine Ds 29 ?_
    refine Dq 30 ?_
    refine Dq 31 ?_
    refine Dn ?_
    cases c
    exact Eg0 [0,0,0,0] 2
   refine Ds 14 ?_
   refine Ds 15 ?_
   refine Ds 16 ?_
   refine Ds 17 ?_
   refine Ds 18 ?_
   refine Ds 19 ?_
   refine Ds 20 ?_
   refine Ds 21 ?_
   refine Ds 22 ?_
   refine Dq 23 ?_
   refine Dq 24 ?_
   refine Ds 25 ?_
   refine Ds 26 ?_
   refine Ds 27 ?_
   refine Ds 28 ?_
   refine Ds 29 ?_
   refine Dq 30 ?_
   refine Dq 31 ?_
   refine Dn ?_
   cases b
   exact Eg0 [0,0,0,0] 2
  refine Ds 7 ?_
  refine Ds 8 ?_
  refine Ds 9 ?_
  refine Ds 10 ?_
  refine Ds 11 ?_
  refine Dq 12 ?_
  refine Dq 13 ?_
  refine Ds 14 ?_
  refine Ds 15 ?_
  refine Ds 16 ?_
  refine Ds 17 ?_
  refine Ds 18 ?_
  refine Ds 19 ?_
  refine Ds 20 ?_
  refine Ds 21 ?_
  refine Ds 22 ?_
  refine Dq 23 ?_
  refine Dq 24 ?_
  refine Ds 25 ?_
  refine Ds 26 ?_
  refine Ds 27 ?_
  refine Ds 28 ?_
  refine Ds 29 ?_
  refine Dq 30 ?_
  refine Dq 31 ?_
  refine Dn ?_
  cases a
  exact Eg0 [0,0,0,0] 0
 refine Z0 ?_
 cases f
 exact Eo1 () [1,1,1] []
theorem nt {t_:aK} {r:aK} (H:gE t_=some r):CT G 11 [.pointer (some ⟨N0,0,none⟩)] [Ch.box N0 71 (km t_ N1 A0 C0 A1 C1),Ch.box N1 69 (fr t_.slot M0),Ch.mp Ty.str false M0 t_.slot.parts] [Im.sl aD A0 C0 t_.aO.rows,Im.sl aB A1 C1 t_.aO.begun] (λh:Nat×Option Nat×(Option Addr×Nat)×(Option Addr×Nat)=> .tuple #[]) (λh=>[Ch.box N0 71 (km r h.1 h.2.2.1.1 h.2.2.1.2 h.2.2.2.1 h.2.2.2.2),Ch.box h.1 69 (fr r.slot h.2.1),Ch.mp Ty.str false h.2.1 r.slot.parts]) (λh=>[Im.sl aD h.2.2.1.1 h.2.2.1.2 r.aO.rows,Im.sl aB h.2.2.2.1 h.2.2.2.2 r.aO.begun]):=by
 delta gE at H
 refine Cf Go.Proofs.Tryz.func11 λK=> ?_
 refine Z0 ?_
 have ⟨r1,h2,H3⟩:=bnd H
 refine Lk [] [] (mL h2) λ⟨g4,g5,v6,⟨a7,c8⟩,⟨a9,a⟩⟩=> ?_
 refine Z0 ?_
 refine Lt 3 ?_
 refine Ln (E.off ?_)
 cases H3
 exact Eo (g5,v6,(a7,c8),(a9,a)) [0,1,1] [0,1] .nil
theorem nZ {l:List cL} {at_:Int} {r:Bool} (H:gU l at_=some r):CT G 3 [.slice A0 l.length C0,.int .i64 at_] [] [Im.sl kh A0 C0 l,Im.sl (Ty.int .u32) (some ⟨0,0,none⟩) 16 cT] (λ_:Unit=> .bool r) (λh=>[]) (λh=>[]):=by
 delta gU at H
 refine Cf Go.Proofs.Tryz.func3 λK=> ?_
 refine Z3 ?_
 have ⟨r1,h2,H3⟩:=bnd H
 refine Lk [] [1] (rq h2) λ⟨⟩=> ?_
 refine Z0 ?_
 refine Tb H3 (λH5=> ?_) λH5=> ?_
 ·refine Z1 ?_
  cases H5
  exact Eo1 () [] []
 refine Z1 ?_
 have ⟨r6,h7,H8⟩:=bnd H5
 refine Lk [] [] (mL h7) λ⟨g9,bo,bp,⟨bq,br⟩,⟨bs,bt⟩⟩=> ?_
 refine Z0 ?_
 refine Ll λaw=> ?_
 refine Z0 ?_
 refine Lt 0 ?_
 refine Z2 ?_
 refine Ly (Yl.pn rfl rfl rfl rfl rfl rfl) ?_
 refine Z0 ?_
 refine T.cond rfl (λh=>nomatch h) (λ_=> ?_)
 refine Z2 ?_
 have ⟨ax,bu,bh⟩:=bnd H8
 refine Tj (η:=(bU×aK)×((Option Addr×Nat)×(Option Addr×Nat)×(Option Addr×Nat)×(Option Addr×Nat)×Nat×Option Nat×(Option Addr×Nat)×(Option Addr×Nat))) (λh=>ax = .inl h.1) (λ_=>[]) [5,6] (λh=>(λb=>(λae af ag ah ai aj ak am an ao ap aq ar au=>[Ch.mp Ty.str false ao b.2.slot.parts,Ch.box aw 36 (vL b.1 ae af ag ah ai aj ak am),Ch.box g9 71 (km b.2 an ap aq ar au),Ch.box an 69 (fr b.2.slot ao)]) h.2.1.1 h.2.1.2 h.2.2.1.1 h.2.2.1.2 h.2.2.2.1.1 h.2.2.2.1.2 h.2.2.2.2.1.1 h.2.2.2.2.1.2 h.2.2.2.2.2.1 h.2.2.2.2.2.2.1 h.2.2.2.2.2.2.2.1.1 h.2.2.2.2.2.2.2.1.2 h.2.2.2.2.2.2.2.2.1 h.2.2.2.2.2.2.2.2.2) h.1) [] (λh=>(λb=>(λae af ag ah ai aj ak am an ao ap aq ar au=>[Im.sl bA ae af b.1.aO.rows,Im.sl aP ag ah b.1.aO.begun,Im.sl Ty.bool ai aj b.1.slot.has,Im.sl Ty.str ak am b.1.slot.parts,Im.sl aD ap aq b.2.aO.rows,Im.sl aB ar au b.2.aO.begun]) h.2.1.1 h.2.1.2 h.2.2.1.1 h.2.2.1.2 h.2.2.2.1.1 h.2.2.2.1.2 h.2.2.2.2.1.1 h.2.2.2.2.1.2 h.2.2.2.2.2.1 h.2.2.2.2.2.2.1 h.2.2.2.2.2.2.2.1.1 h.2.2.2.2.2.2.2.1.2 h.2.2.2.2.2.2.2.2.1 h.2.2.2.2.2.2.2.2.2) h.1) ?_ ?_
 ·refine Yl0 ?_
  refine T.dC [Im.sl bA none 0 []] (λA w _ _ f hf=>by rw [List.mem_singleton.1 hf]; exact Im.bS A w) ?_
  refine T.dC [Im.sl aP none 0 []] (λA w _ _ f hf=>by rw [List.mem_singleton.1 hf]; exact Im.bS A w) ?_
  refine T.dC [Im.sl Ty.bool none 0 []] (λA w _ _ f hf=>by rw [List.mem_singleton.1 hf]; exact Im.bS A w) ?_
  refine T.dC [Im.sl Ty.str none 0 []] (λA w _ _ f hf=>by rw [List.mem_singleton.1 hf]; exact Im.bS A w) ?_
  refine Tq (η:=(Option Addr×Nat)×(Option Addr×Nat)×(Option Addr×Nat)×(Option Addr×Nat)×Nat×Option Nat×(Option Addr×Nat)×(Option Addr×Nat)) (λa h=>(λi j k m n o p q d s t u x y=>[(7,.int .i64 a.2.2)]) h.1.1 h.1.2 h.2.1.1 h.2.1.2 h.2.2.1.1 h.2.2.1.2 h.2.2.2.1.1 h.2.2.2.1.2 h.2.2.2.2.1 h.2.2.2.2.2.1 h.2.2.2.2.2.2.1.1 h.2.2.2.2.2.2.1.2 h.2.2.2.2.2.2.2.1 h.2.2.2.2.2.2.2.2) [0,1,5,6] (λa h=>(λi j k m n o p q d s t u x y=>[Ch.mp Ty.str false s a.2.1.slot.parts,Ch.box aw 36 (vL a.1 i j k m n o p q),Ch.box g9 71 (km a.2.1 d t u x y),Ch.box d 69 (fr a.2.1.slot s)]) h.1.1 h.1.2 h.2.1.1 h.2.1.2 h.2.2.1.1 h.2.2.1.2 h.2.2.2.1.1 h.2.2.2.1.2 h.2.2.2.2.1 h.2.2.2.2.2.1 h.2.2.2.2.2.2.1.1 h.2.2.2.2.2.2.1.2 h.2.2.2.2.2.2.2.1 h.2.2.2.2.2.2.2.2) [] (λa h=>(λi j k m n o p q d s t u x y=>[Im.sl bA i j a.1.aO.rows,Im.sl aP k m a.1.aO.begun,Im.sl Ty.bool n o a.1.slot.has,Im.sl Ty.str p q a.1.slot.parts,Im.sl aD t u a.2.1.aO.rows,Im.sl aB x y a.2.1.aO.begun]) h.1.1 h.1.2 h.2.1.1 h.2.1.2 h.2.2.1.1 h.2.2.1.2 h.2.2.2.1.1 h.2.2.2.1.2 h.2.2.2.2.1 h.2.2.2.2.2.1 h.2.2.2.2.2.2.1.1 h.2.2.2.2.2.2.1.2 h.2.2.2.2.2.2.2.1 h.2.2.2.2.2.2.2.2) ((none,0),(none,0),(none,0),(none,0),bo,bp,(bq,br),(bs,bt)) [3,0,0,0] [3,2,1,0,4,5] bu ?_
  rintro k_ a ⟨⟨i,j⟩,⟨k,m⟩,⟨n,o⟩,⟨p,q⟩,d,s,⟨t,u⟩,⟨x,y⟩⟩ bv bw bz bi
  refine Y2 ?_
  have ⟨b0,b1,b2⟩:=bnd bw
  refine Tj0 [(26,.bool b0)] [0,1,5,6,7] [] [1,2,3,0] ?_ ?_
  ·refine Z0 ?_
   refine Lw 23 b1 (λay=> ?_) λay=> ?_
   ·refine Z0 ?_
    cases ay
    exact Eg0 [1,1,1,0] 0
   refine Z0 ?_
   cases ay
   exact Eg0 [1,1,1,0] 0
  refine Tb b2 (λaz=> ?_) λaz=> ?_
  ·refine Y1 ?_
   have ⟨bj,b3,bk⟩:=bnd az
   refine Tj (η:=(bU×aK)×((Option Addr×Nat)×(Option Addr×Nat)×(Option Addr×Nat)×(Option Addr×Nat)×Nat×Option Nat×(Option Addr×Nat)×(Option Addr×Nat))) (λh=>bj = .inl h.1) (λ_=>[]) [0,1,5,6,7] (λh=>(λc=>(λM N O P Q R S U V W X Y Z aa=>[Ch.mp Ty.str false W c.2.slot.parts,Ch.box aw 36 (vL c.1 M N O P Q R S U),Ch.box g9 71 (km c.2 V X Y Z aa),Ch.box V 69 (fr c.2.slot W)]) h.2.1.1 h.2.1.2 h.2.2.1.1 h.2.2.1.2 h.2.2.2.1.1 h.2.2.2.1.2 h.2.2.2.2.1.1 h.2.2.2.2.1.2 h.2.2.2.2.2.1 h.2.2.2.2.2.2.1 h.2.2.2.2.2.2.2.1.1 h.2.2.2.2.2.2.2.1.2 h.2.2.2.2.2.2.2.2.1 h.2.2.2.2.2.2.2.2.2) h.1) [] (λh=>(λc=>(λM N O P Q R S U V W X Y Z aa=>[Im.sl bA M N c.1.aO.rows,Im.sl aP O P c.1.aO.begun,Im.sl Ty.bool Q R c.1.slot.has,Im.sl Ty.str S U c.1.slot.parts,Im.sl aD X Y c.2.aO.rows,Im.sl aB Z aa c.2.aO.begun]) h.2.1.1 h.2.1.2 h.2.2.1.1 h.2.2.1.2 h.2.2.2.1.1 h.2.2.2.1.2 h.2.2.2.2.1.1 h.2.2.2.2.1.2 h.2.2.2.2.2.1 h.2.2.2.2.2.2.1 h.2.2.2.2.2.2.2.1.1 h.2.2.2.2.2.2.2.1.2 h.2.2.2.2.2.2.2.2.1 h.2.2.2.2.2.2.2.2.2) h.1) ?_ ?_
   ·refine Zl ?_
    refine Z1 ?_
    have ⟨dl,a0,b4⟩:=bnd b3
    refine L.addr 12 rfl (bH a0) λdm dn b5=> ?_
    subst b5
    refine Ly (Yl.ia a0 rfl rfl rfl rfl rfl rfl) ?_
    refine L.el 12 rfl (aJ a0).2 ?_
    rintro ⟨dp,dq⟩
    refine Lc 0 0 ?_
    have ⟨e,b6,b7⟩:=bnd b4
    refine Lk [] [1] (uM b6) λ⟨⟨ab,z⟩,⟨bl,a1⟩⟩=> ?_
    refine Z0 ?_
    refine Ll λbm=> ?_
    refine Ll λb8=> ?_
    refine Lt 1 ?_
    refine Lt 1 ?_
    refine Y2 ?_
    have ⟨b9,ca,cb⟩:=bnd b7
    refine Tj0 [(54,.bool b9)] [0,1,5,6,7,8,9] [] [0,1,4,5,6,2,3,7] ?_ ?_
    ·refine Z0 ?_
     refine Lw 41 ca (λa2=> ?_) λa2=> ?_
     ·refine Z0 ?_
      have ⟨cc,a3,cd⟩:=bnd a2
      refine L.iG 3 rfl (bH a3) λdr ce=> ?_
      subst ce
      refine Ly (Yl.ia a3 rfl rfl rfl rfl rfl rfl) ?_
      refine Ly (Yl.lo (v:= .int .i64 cc) 3 ((4:Int).toNat) 0 (aJ a3).2 rfl rfl rfl rfl (λ_=>rfl)) ?_
      refine Z0 ?_
      refine Lw 48 cd (λa4=> ?_) λa4=> ?_
      ·refine Z0 ?_
       have ⟨cf,bn,cg⟩:=bnd a4
       refine Ly (Yl.ia bn rfl rfl rfl rfl rfl rfl) ?_
       refine Ly (Yl.lo (v:= .int .i64 cf) 3 ((4:Int).toNat) 0 (aJ bn).2 rfl rfl rfl rfl (λ_=>rfl)) ?_
       refine Z0 ?_
       cases cg
       exact Eg0 [0,0,2,2,2,0,0,0] 0
      refine Z0 ?_
      cases a4
      exact Eg0 [0,0,2,2,2,0,0,0] 0
     refine Z0 ?_
     cases a2
     exact Eg0 [0,0,2,2,2,0,0,0] 0
    have ⟨av,ch,ci⟩:=bnd cb
    refine Tj0 [] [0,1,5,6,7,8,9] [Ch.arr (Ty.int .i64) 3 bl a1 av.1.bW,Ch.arr (Ty.int .i64) 3 ab z av.2.bW,Ch.box b8 40 (xY av.1 bl a1),Ch.box bm 39 (th av.2 ab z)] [2,3,4,7] ?_ ?_
    ·refine Tb ch (λa5=> ?_) λa5=> ?_
     ·refine Td [7] [0,0,0,0,0,0,1] mo ?_
      refine Dq 0 ?_
      refine Db 1 0 ?_
      refine Dq 2 ?_
      refine Db 3 1 ?_
      have ⟨ds,a6,cj⟩:=bnd a5
      refine D.iG 7 rfl (bH a6) λck cl=> ?_
      subst cl
      refine Dy 4 (Yl.ia a6 rfl rfl rfl rfl rfl rfl) ?_
      refine Da [0] [] rfl rfl (Ac.se 0 60 (aJ a6).2 rfl rfl rfl rfl rfl rfl (λ_=>⟨(),rfl,[],rfl⟩)) λ_=> ?_
      have ⟨dt,a7,cm⟩:=bnd cj
      refine D.iG 5 rfl (bH a7) λcn co=> ?_
      subst co
      refine Dy 6 (Yl.ia a7 rfl rfl rfl rfl rfl rfl) ?_
      refine D.one rfl rfl rfl (Dp.al [5] [] (Ac.se 0 60 (aJ a7).2 rfl rfl rfl rfl rfl rfl (λ_=>⟨(),rfl,[],rfl⟩)) rfl rfl rfl rfl rfl rfl rfl ?_)
      intro _
      refine Dn ?_
      refine E.bx 1 (cs':=[.int .i64 e.2.kn,.int .i64 e.2.kind,.slice (some ⟨ck,0,none⟩) (e.2.bW.set ((4:Int).toNat) 60).length a1,.string e.2.data]) (by rw [(List.length_set ..)]) rfl ?_
      refine E.bx 2 (cs':=[.int .i64 e.1.kn,.int .i64 e.1.kind,.slice (some ⟨cn,0,none⟩) (e.1.bW.set ((4:Int).toNat) 60).length z,.string e.1.data]) (by rw [(List.length_set ..)]) rfl ?_
      cases cm
      exact Eg0 [7,2,1,0,0,0,0,0] 0
     refine Z0 ?_
     cases a5
     exact Eg0 [6,5,0,0,0,0,0,0] 0
    refine Z1 ?_
    have ⟨du,cp,cq⟩:=bnd ci
    refine Lk [5,5,5] [6,7] (ns cp) λ⟨dv,dw,dx,⟨dy,dz⟩,⟨d0,d1⟩⟩=> ?_
    refine Z1 ?_
    refine Lb 10 ?_
    refine Z0 ?_
    refine L.frz 6 rfl ?_
    have ⟨d2,cr,cs⟩:=bnd cq
    refine Lk [] [5,6,7,8,0] (tB cr) λ⟨⟨ct,cu⟩,⟨cv,cw⟩,⟨cx,cy⟩,⟨cz,c0⟩⟩=> ?_
    refine Z0 ?_
    refine Ll λd3=> ?_
    refine Lt 0 ?_
    refine Y2 ?_
    have ⟨g,c1,c2⟩:=bnd cs
    refine Tjh (η:=Option Nat×(Option Addr×Nat)×(Option Addr×Nat)×(Option Addr×Nat)) (λh=>(λB C F I J ac ad=>[(89,.bool g.1)]) h.1 h.2.1.1 h.2.1.2 h.2.2.1.1 h.2.2.1.2 h.2.2.2.1 h.2.2.2.2) [0,1,5,6,7,11] (λh=>(λB C F I J ac ad=>[Ch.mp Ty.str false B g.2.1.slot.parts,Ch.box g9 71 (km g.2.1 d C F I J),Ch.box d 69 (fr g.2.1.slot B),Ch.box bm 39 (th g.2.2 ac ad)]) h.1 h.2.1.1 h.2.1.2 h.2.2.1.1 h.2.2.1.2 h.2.2.2.1 h.2.2.2.2) [0,1,2,8,10,3] (λh=>(λB C F I J ac ad=>[Im.sl aD C F g.2.1.aO.rows,Im.sl aB I J g.2.1.aO.begun,Im.sl (Ty.int .i64) ac ad g.2.2.bW]) h.1 h.2.1.1 h.2.1.2 h.2.2.1.1 h.2.2.1.2 h.2.2.2.1 h.2.2.2.2) ?_ ?_
    ·refine Z0 ?_
     refine Ly (Yl.pn rfl rfl rfl rfl rfl rfl) ?_
     refine Z0 ?_
     refine L.frz 7 rfl ?_
     have ⟨d4,c3,c4⟩:=bnd c1
     refine Lk [4,4,4] [14,15,0,23] (kR c3) λ⟨a8,⟨a9,ba⟩,⟨bb,bc⟩⟩=> ?_
     refine Z0 ?_
     refine Lw 78 c4 (λbd=> ?_) λbd=> ?_
     ·refine Z0 ?_
      cases bd
      exact Eg (a8,(a9,ba),(bb,bc),(ab,z)) trivial [2,0,0,5,0,0,0,1,1,0] [0,1,2] 3
     refine Z0 ?_
     have ⟨d5,c5,c6⟩:=bnd bd
     refine Lk [4,4,4] [8,9,12,13,14,15] (nY c5) λ⟨⟩=> ?_
     refine Z0 ?_
     refine Lw 84 c6 (λbe=> ?_) λbe=> ?_
     ·refine Z0 ?_
      cases be
      exact Eg (a8,(a9,ba),(bb,bc),(ab,z)) trivial [5,3,3,5,3,0,0,1,1,0] [0,1,2] 3
     refine Z0 ?_
     have ⟨d6,c7,c8⟩:=bnd be
     refine Lk [3,3,3] [0,1,3,4,5,6] (nY c7) λ⟨⟩=> ?_
     refine Z0 ?_
     cases c8
     exact Eg (a8,(a9,ba),(bb,bc),(ab,z)) trivial [2,0,0,5,3,0,0,1,1,0] [0,1,2] 3
    rintro ⟨B,⟨C,F⟩,⟨I,J⟩,⟨ac,ad⟩⟩
    refine Tb c2 (λbf=> ?_) λbf=> ?_
    ·refine Z1 ?_
     obtain ⟨d7,hz,c9⟩:=gH bf
     subst bj
     obtain rfl:=(sm bk).symm
     refine Z0 ?_
     obtain ⟨d8,hz,da⟩:=bQ c9
     subst bv
     have hb:=bi _ rfl
     subst ax
     obtain rfl:=(sm bh).symm
     refine Z0 ?_
     cases da
     exact Eo1 () [] []
    refine Z1 ?_
    refine Lt 8 ?_
    refine Z1 ?_
    refine Tb bf (λbg=> ?_) λbg=> ?_
    ·refine Z1 ?_
     have ⟨d9,db,dc⟩:=bnd bg
     refine Lk [2,2,1] [0,1] (nt db) λ⟨dd,de,⟨df,dg⟩,⟨dh,di⟩⟩=> ?_
     refine Z0 ?_
     refine Lt 3 ?_
     refine Z0 ?_
     refine E.dC [Im.sl bA none 0 []] (λA w _ _ f hf=>by rw [List.mem_singleton.1 hf]; exact Im.bS A w) ?_
     refine E.dC [Im.sl aP none 0 []] (λA w _ _ f hf=>by rw [List.mem_singleton.1 hf]; exact Im.bS A w) ?_
     refine E.dC [Im.sl Ty.bool none 0 []] (λA w _ _ f hf=>by rw [List.mem_singleton.1 hf]; exact Im.bS A w) ?_
     refine E.dC [Im.sl Ty.str none 0 []] (λA w _ _ f hf=>by rw [List.mem_singleton.1 hf]; exact Im.bS A w) ?_
     cases dc
     exact Eg (_,((none,0),(none,0),(none,0),(none,0),dd,de,(df,dg),(dh,di))) rfl [3,0,0,0] [3,2,1,0,4,5] 18
    refine Z0 ?_
    cases bg
    exact Eg (_,((ct,cu),(cv,cw),(cx,cy),(cz,c0),d,B,(C,F),(I,J))) rfl [1,0,0,0] [3,4,5,6,0,1] 12
   rintro ⟨c,⟨⟨M,N⟩,⟨O,P⟩,⟨Q,R⟩,⟨S,U⟩,V,W,⟨X,Y⟩,⟨Z,aa⟩⟩⟩ hy
   subst hy
   refine Z0 ?_
   cases bk
   exact Eg (_,((M,N),(O,P),(Q,R),(S,U),V,W,(X,Y),(Z,aa))) (bz _ rfl) [0,0,0,0] [0,1,2,3,4,5] 12
  refine Z0 ?_
  cases az
  have hb:=bi _ rfl
  subst ax
  exact Eg (_,((i,j),(k,m),(n,o),(p,q),d,s,(t,u),(x,y))) rfl [3,0,0,0] [0,1,2,3,4,5] 10
 rintro ⟨b,⟨⟨ae,af⟩,⟨ag,ah⟩,⟨ai,aj⟩,⟨ak,am⟩,an,ao,⟨ap,aq⟩,⟨ar,au⟩⟩⟩ hy
 subst hy
 refine Z1 ?_
 have ⟨ea,dj,dk⟩:=bnd bh
 refine Lk [2,2,0] [4,5,0,1,2,3] (nY dj) λ⟨⟩=> ?_
 refine Z0 ?_
 cases dk
 exact Eo1 () [] []
end Go.Tw.X
namespace Go.Tw.X
open Go Go.Tw
theorem DU {P:Program} {α β:Type} {t:TypeId} {ty:Ty α} {ty':Ty β} {wf:α->Prop} {wf':β->Prop} (h:Opn P t ty wf) (g:α->β) (gh:ty.Hid->ty'.Hid) (h1: ∀ y hh,ty'.cs (g y) (gh hh)=ty.cs y hh) (h2: ∀ y hh,ty'.im (g y) (gh hh)=ty.im y hh) (h3: ∀ y,wf y->wf' (g y)):Opn P t ty' wf':=Opn.to g gh h h1 h2 h3
theorem BW:Opn Go.Proofs.Tryz.prog 3 (Ty.int .i64) (inK .i64):=Opn.int (by kernel_rfl)
theorem Em:Opn Go.Proofs.Tryz.prog 37 (Ty.slice (Ty.int .i64)) (λxs:List Int=> ∀ x∈xs,(inK .i64) x):=Opn.slice (by kernel_rfl) BW (by kernel_rfl) (by decide)
theorem EV:Opn Go.Proofs.Tryz.prog 9 Ty.str (λs:ByteArray=>s.size<=maxLen):=Opn.str (by kernel_rfl)
theorem En:Opn Go.Proofs.Tryz.prog 40 kh jU:=DU (β:=cL) (ty':=kh) (wf':=jU) (Opn.struct (fs:=[(3,0),(3,1),(37,2),(9,3)]) (by kernel_rfl) (by kernel_rfl) (.cons BW (by kernel_rfl) (.cons BW (by kernel_rfl) (.cons Em (by kernel_rfl) (.cons EV (by kernel_rfl) .nil))))) (λy=>⟨y.1,y.2.1,y.2.2.1,y.2.2.2.1⟩) (λh=>h.2.2.1) (λ_ _=>rfl) (λ_ _=>rfl) (λy h=>h)
theorem Ep:Opn Go.Proofs.Tryz.prog 22 (Ty.slice kh) (λxs:List cL=> ∀ x∈xs,jU x):=Opn.slice (by kernel_rfl) En (by kernel_rfl) (by decide)
end Go.Tw.X

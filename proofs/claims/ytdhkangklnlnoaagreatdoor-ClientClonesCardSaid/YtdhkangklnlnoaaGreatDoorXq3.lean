import Derived.Test.YtdhkangklnlnoaaGreatDoorXq2
set_option linter.unusedVariables false
set_option linter.unusedSimpArgs false
set_option maxHeartbeats 1000000
namespace Go.Tw.X
open Go Go.Tw
theorem yO {σ τ ρ π:Type} {f:σ->Option (σ ⊕ ρ)} {g:τ->Option (τ ⊕ π)} (R:σ->τ->Prop) (m:σ->Nat) (n5:ρ->π->Prop)
  (h: ∀ s t,R s t->(∃ s' t',f s=some (.inl s')/\g t=some (.inl t')/\R s' t'/\m s' < m s)\/(∃ r p,f s=some (.inr r)/\g t=some (.inr p)/\n5 r p)): ∀ s t,R s t -> ∃ r p,iter f s=some r/\iter g t=some p/\n5 r p:=by
 have key: ∀ k s t,m s<=k->R s t -> ∃ r p,iter f s=some r/\iter g t=some p/\n5 r p:=by
  intro k
  induction k with
  | zero =>
   intro s t hk hR
   rcases h s t hR with ⟨s',t',_,_,_,h4⟩ | ⟨r,p,h1,h2,h3⟩
   ·omega
   ·exact ⟨r,p,bC h1,bC h2,h3⟩
  | succ k ih =>
   intro s t hk hR
   rcases h s t hR with ⟨s',t',h1,h2,h3,h4⟩ | ⟨r,p,h1,h2,h3⟩
   ·rw [bY h1,bY h2]
    exact ih s' t' (by omega) h3
   ·exact ⟨r,p,bC h1,bC h2,h3⟩
 exact λs t=>key (m s) s t (Nat.le_refl _)
theorem Hu (s:ByteArray):(!(s.toList == (ByteArray.mk #[]).toList))=decide ((s.size:Int) > 0):=by
 rw [FK]
 by_cases c:s=noS
 ·rw [decide_eq_true c,c]; rfl
 ·rw [decide_eq_false c,decide_eq_true]
  ·rfl
  ·refine Int.natCast_pos.2 (Nat.pos_of_ne_zero λh=>c ?_)
   have h2:s.data.size=0:=h
   obtain ⟨d⟩:=s
   exact congrArg ByteArray.mk (Array.eq_empty_of_size_eq_zero h2)
theorem Cj (g:aV) (y:bM) (y1:y.kind=g.kind) (y2:y.bB=g.bB) (y3:y.data=g.data) (hd:g.data.size<=10000) (hn: ∀ n∈g.bB,0<=n/\n<=4611686018427387904): ∃ first l e,jz g=some (first,l,e)/\kD y=some (first,l.map λx=>x.map tg,e)/\(0<=first/\first<=4611686018427387904)/\l.length<=10000/\(∀ x∈l,x.length<=1024 /\ ∀ g∈x,rok g.rune)/\e≠4:=by
 unfold jz kD
 rw [y1,y2,y3]
 by_cases k1:g.kind=4
 ·rw [show (g.kind != 4)=false by simp [k1],cond_false,cond_false]
  by_cases k2:g.bB.length=2
  ·rw [show ((g.bB.length:Int) != 2)=false by rw [k2]; rfl,cond_false,cond_false,show ly g.data=some ⟨g.data,0⟩ from rfl,aA]
   have i0:idx g.bB 0=some g.bB[0]:=bG g.bB 0 (by omega)
   have i1:idx g.bB 1=some g.bB[1]:=bG g.bB 1 (by omega)
   have r0:=hn _ (List.getElem_mem (show 0 < g.bB.length by omega))
   have hit:=yO (σ:=aK×List (List aN)) (τ:=aX×List (List aO)) (f:=λs136:aK×List (List aN)=>((Option.bind ((Option.bind (kM s136.1) λj=>(bif (decide (j > 0)) then (Option.bind (idx g.bB 1) λo=>some (decide ((s136.2.length:Int) < o))) else some false)):Option Bool) λu=>(bif u then (Option.bind (jr s136.1) λa=>(Option.bind (chk (cW s136.2.length [a.1].length 24)) λ_=>some (.inl (a.2,(s136.2++[a.1]))))) else some (.inr (s136.2,s136.1)))):Option ((aK×List (List aN)) ⊕ ((List (List aN))×aK))))
    (g:=λs120:aX×List (List aO)=>((Option.bind ((bif (!(s120.1.s.toList == (ByteArray.mk #[]).toList)) then (Option.bind (idx g.bB 1) λv=>some (decide ((s120.2.length:Int) < v))) else some false):Option Bool) λw=>(bif w then (Option.bind (iF s120.1) λb=>(Option.bind (chk (cW s120.2.length [b.2].length 24)) λ_=>some (.inl (b.1,(s120.2++[b.2]))))) else some (.inr (s120.2,s120.1)))):Option ((aX×List (List aO)) ⊕ ((List (List aO))×aX))))
    (λs t=>t=(asR s.1,s.2.map λx=>x.map tg)/\VI s.1/\s.2.length+s.1.s.size<=10000/\(∀ x∈s.2,x.length<=1024 /\ ∀ g∈x,rok g.rune)/\s.1.e≠4) (λs=>s.1.s.size)
    (λr p=>p=(r.1.map λx=>x.map tg,asR r.2)/\VI r.2/\r.1.length<=10000/\(∀ x∈r.1,x.length<=1024 /\ ∀ g∈x,rok g.rune)/\r.2.e≠4) (by
    rintro ⟨i,l⟩ t ⟨rfl,h1,h2,h3,h4⟩
    dsimp only at h1 h2 h3 h4 ⊢
    rw [show kM i=some (i.s.size:Int) from rfl,aA,i1,aA,aA,List.length_map,Hu]
    simp only [show (asR i).s=i.s from rfl]
    by_cases c:(i.s.size:Int) > 0/\(l.length:Int) < g.bB[1]
    ·left
     have hlt:=HR h1 (by omega)
     rw [decide_eq_true c.1,cond_true,decide_eq_true c.2,aA,cond_true,aA,cond_true,yk i h1,aA,bP (by simp; omega),aA,wm i h1,aA,bP (by simp; omega),aA]
     refine ⟨_,_,rfl,rfl,⟨by rw [List.map_append]; rfl,sR h1,by simp; omega,λx hx=> ?_,Gm h4⟩,hlt⟩
     rcases List.mem_append.1 hx with hx | hx
     ·exact h3 x hx
     ·rw [List.mem_singleton.1 hx]; exact ⟨Hj h1,(Dv h1).1⟩
    ·right
     have:((bif (decide ((i.s.size:Int) > 0)) then some (decide ((l.length:Int) < g.bB[1])) else some false):Option Bool)=some false:=by
      by_cases d:(i.s.size:Int) > 0
      ·rw [decide_eq_true d,cond_true,decide_eq_false (λe=>c ⟨d,e⟩)]
      ·rw [decide_eq_false d,cond_false]
     rw [this,aA,cond_false,aA,cond_false]
     exact ⟨_,_,rfl,rfl,rfl,h1,by dsimp only; omega,h3,h4⟩) (⟨g.data,0⟩,[]) (⟨g.data,0⟩,[]) ⟨rfl,⟨by dsimp only; omega,.inl rfl⟩,by dsimp only; simp; omega,(λx hx=>by cases hx),(by decide:(0:Int)≠4)⟩
   obtain ⟨⟨l,i⟩,p,e1,e2,rfl,e3,e4,e5,e6⟩:=hit
   refine Exists.imp (λfirst=>Exists.imp λl'=>Exists.imp λe' (h:_/\_/\_)=>⟨(congrArg (λz=>Option.bind z _) e1).trans h.1,(congrArg (λz=>Option.bind z _) e2).trans h.2.1,h.2.2⟩) (?_: ∃ first l' e',_/\_/\_)
   rw [aA,aA]
   dsimp only at e3 e4 e5 e6 ⊢
   replace e6:=EB e6
   rw [wV,aA,AU i e3,aA]
   generalize ku i=E at e6 ⊢
   rw [i1,aA,aA,i0,aA,aA,List.length_map]
   by_cases d:E=0
   ·subst d
    rw [show ((0:Int) == 0)=true from rfl,cond_true,aA,show ((0:Int) != 0)=false from rfl,cond_false]
    cases ((l.length:Int) != g.bB[1]) with
    | true=>exact ⟨0,[],1,rfl,rfl,by decide,Nat.zero_le _,(λx hx=>by cases hx),by decide⟩
    | false=>exact ⟨_,_,_,rfl,rfl,r0,e4,e5,by decide⟩
   ·rw [show (E == 0)=false by simpa using d,cond_false,aA,cond_false,aA,show (E != 0)=true by simpa using d,cond_true,cond_true]
    exact ⟨0,[],E,rfl,rfl,by decide,Nat.zero_le _,(λx hx=>by cases hx),e6⟩
  ·rw [show ((g.bB.length:Int) != 2)=true by simp; omega,cond_true,cond_true]
   exact ⟨0,[],1,rfl,rfl,by decide,Nat.zero_le _,(λx hx=>by cases hx),by decide⟩
 ·rw [show (g.kind != 4)=true by simpa using k1,cond_true,cond_true]
  exact ⟨0,[],5,rfl,rfl,by decide,Nat.zero_le _,(λx hx=>by cases hx),by decide⟩
structure KX (k N:Int) (q:Nat) (c:aF) (x:aL):Prop where
 cc:c.config.cache=k
 ep:0<=c.aU/\c.aU<=4294967296
 tk:TK 4611686018427387904 c.aM
 ln:CX k N c.lines x.l
 ft:FX k c.bF x.f
 tp:TP c.aM x.t q
 m:x.most=k
 ev:x.every=c.config.every
 fe:x.f.every=x.every
 ad:x.addr=c.config.addr
 e:x.aU=c.aU
 d:x.due=c.due
theorem KX.more {k N M:Int} {q r:Nat} {c:aF} {x:aL} (h:KX k N q c x) (hm:N<=M) (hr:q<=r):KX k M r c x:=⟨h.cc,h.ep,h.tk,h.ln.more hm,h.ft,h.tp.more hr,h.m,h.ev,h.fe,h.ad,h.e,h.d⟩
theorem Hv (a b d:Int): ∃ c x,jC ⟨a,b,d⟩=some c/\mJ ⟨a,b,d⟩=some x/\KX (imax 1 (cD a 65536)) 0 0 c x:=by
 have hk:=Ce (a:=a)
 have hb:imax 1 (cD (imax 1 (cD b 1048576)) 1048576)=imax 1 (cD b 1048576):=by
  unfold imax cD
  (repeat' split) <;> omega
 obtain ⟨l,l1,l2⟩:=Hl (imax 1 (cD a 65536))
 obtain ⟨f,f1,f2,f3⟩:=Hr (imax 1 (cD a 65536)) (imax 1 (cD b 1048576))
 rw [hk.2.2] at l2 f3
 rw [hb] at f3
 unfold jC mJ
 rw [show dJ a 1 65536=some (imax 1 (cD a 65536)) from rfl,aA,show dJ b 1 1048576=some (imax 1 (cD b 1048576)) from rfl,aA,show dJ d 0 4294967296=some (imax 0 (cD d 4294967296)) from rfl,aA,show mE=some ⟨⟨0,0,none,0⟩,jM⟩ from rfl,aA,l1,aA,f1,aA]
 refine ⟨_,_,rfl,rfl,rfl,⟨Int.le_refl _,?_⟩,EG,l2,f3,ED,rfl,rfl,rfl,rfl,rfl,rfl⟩
 show (0:Int)<=_
 omega
theorem F4 {k N:Int} {q:Nat} {c:aF} {x:aL} (h:KX k N q c x) (hk:0<=k) {e:Int} (he:0<=e/\e<=4294967296): ∃ c',eO c e=some c'/\KX k N q c' (aL.mk x.most x.every x.addr e x.due (dK.mk (bL.mk 0 0 0 0 0 (ByteArray.mk #[]) ([]:List bK) 0 0 ([]:List aO)) (cN.mk 0 ([]:List Bool) ([]:List ByteArray))) (bX.mk x.most ([]:List dP)) (bS.mk x.most x.every 0 ([]:List aD))):=by
 obtain ⟨l,l1,l2⟩:=EH hk h.ln
 obtain ⟨f,f1,f2⟩:=EN hk h.ft
 unfold eO
 rw [show iX c.aM=some ⟨⟨0,0,none,0⟩,jM⟩ from rfl,aA,l1,aA,f1,aA,h.m]
 rw [h.fe] at f2
 exact ⟨_,rfl,h.cc,he,EG,l2,f2,ED.more (Nat.zero_le _),rfl,h.ev,rfl,h.ad,rfl,h.d⟩
theorem F5 {k N:Int} {q:Nat} {c:aF} {x:aL} (h:KX k N q c x) (hk:0<=k/\k<=65536) (hN:0<=N/\N<=900000000) {g:aV} {y:bM} (y1:y.kind=g.kind) (y2:y.bB=g.bB) (y3:y.data=g.data) (hd:g.data.size<=10000) (hn: ∀ n∈g.bB,0<=n/\n<=4611686018427387904): ∃ e c' x',fM c g=some (e,c')/\(Option.bind (kD y) λu=>(Option.bind (iter (σ:=aL×Int) (ρ:=aL) (λo=>(bif (decide (o.2 < (u.2.1.length:Int))) then (Option.bind ((Option.bind (idx u.2.1 o.2) λB=>(Option.bind (kq o.1.f (IntKind.i64.wrap (u.1+o.2))) λA=>(bif A.2 then (Option.bind (kp o.1.l (IntKind.i64.wrap (u.1+o.2)) B) λC=>some (aL.mk o.1.most o.1.every o.1.addr o.1.aU o.1.due o.1.t C.1 A.1)) else some o.1))):Option aL) λD=>some (.inl (D,(IntKind.i64.wrap (o.2+1))))) else some (.inr o.1))) (x,0)) λG=>some (G,u.2.2)))=some (x',e)/\KX k (N+10000) q c' x'/\x'.aU=x.aU/\e≠4/\c'.aM=c.aM/\c'.aU=c.aU:=by
 obtain ⟨first,l,e,r1,r2,r3,r4,r5,r6⟩:=Cj g y y1 y2 y3 hd hn
 unfold fM
 rw [r1,r2,aA,aA]
 dsimp only
 have hit:=yO (σ:=aR×bE×Int) (τ:=aL×Int) (f:=λs165:aR×bE×Int=>((bif (decide (s165.2.2 < (l.length:Int))) then (Option.bind ((Option.bind (idx l s165.2.2) λH=>(Option.bind (eZ s165.2.1 (IntKind.i64.wrap (first+s165.2.2))) λE=>(bif E.1 then (Option.bind (gN s165.1 (IntKind.i64.wrap (first+s165.2.2)) H) λI=>some (I.2.2,E.2)) else some (s165.1,E.2)))):Option (aR×bE)) λF=>some (.inl (F.1,F.2,(IntKind.i64.wrap (s165.2.2+1))))) else some (.inr (s165.1,s165.2.1))):Option ((aR×bE×Int) ⊕ (aR×bE))))
  (g:=λo:aL×Int=>((bif (decide (o.2 < ((l.map λx=>x.map tg).length:Int))) then (Option.bind ((Option.bind (idx (l.map λx=>x.map tg) o.2) λB=>(Option.bind (kq o.1.f (IntKind.i64.wrap (first+o.2))) λA=>(bif A.2 then (Option.bind (kp o.1.l (IntKind.i64.wrap (first+o.2)) B) λC=>some (aL.mk o.1.most o.1.every o.1.addr o.1.aU o.1.due o.1.t C.1 A.1)) else some o.1))):Option aL) λD=>some (.inl (D,(IntKind.i64.wrap (o.2+1))))) else some (.inr o.1)):Option ((aL×Int) ⊕ aL)))
  (λs t=> ∃ n:Nat,s.2.2=n/\t.2=n/\n<=l.length/\CX k (N+n) s.1 t.1.l/\FX k s.2.1 t.1.f/\t.1.f.every=x.f.every/\t.1=⟨x.most,x.every,x.addr,x.aU,x.due,x.t,t.1.l,t.1.f⟩) (λs=>l.length - s.2.2.toNat)
  (λr p=>CX k (N+10000) r.1 p.l/\FX k r.2 p.f/\p.f.every=x.f.every/\p=⟨x.most,x.every,x.addr,x.aU,x.due,x.t,p.l,p.f⟩) (by
  rintro ⟨a,f,i⟩ ⟨z,j⟩ ⟨n,h1,h1',h2,h3,h4,h5,h6⟩
  dsimp only at h1 h1' h3 h4 h5 h6 ⊢
  subst h1 h1'
  rw [List.length_map]
  by_cases d:n < l.length
  ·left
   obtain ⟨b,f',y',g1,g1',g2,g3,g4,g5⟩:=Hs (by omega) h4 (i:=first+n) (by omega) (by omega)
   rw [decide_eq_true (by omega),cond_true,cond_true,bG l n d,bG _ n (by rw [List.length_map]; exact d),aA,aA,List.getElem_map,w64 (x:=first+(n:Int)) (by omega) (by omega),g1,g1',aA,aA]
   dsimp only
   cases b with
   | true =>
    have hln:=r5 _ (List.getElem_mem d)
    obtain ⟨v,w,a',x',p1,p1',p2⟩:=Hm h3 (by omega) (by omega) (g3 rfl) (l:=l[n]) (by omega) hln.2
    rw [cond_true,p1,aA,cond_true,p1',aA,aA,aA,w64 (by omega) (by omega)]
    refine ⟨_,_,rfl,rfl,⟨n+1,rfl,rfl,d,p2.more (by omega),g2,g5.trans h5,?_⟩,by dsimp only; omega⟩
    dsimp only
    rw [h6]
   | false =>
    rw [cond_false,aA,cond_false,aA,w64 (by omega) (by omega)]
    obtain rfl:=g4 rfl
    exact ⟨_,_,rfl,rfl,⟨n+1,rfl,rfl,d,h3.more (by omega),g2,h5,h6⟩,by dsimp only; omega⟩
  ·right
   rw [decide_eq_false (by omega),cond_false,cond_false]
   exact ⟨_,_,rfl,rfl,h3.more (by omega),h4,h5,h6⟩) (c.lines,c.bF,0) (x,0) ⟨0,rfl,rfl,Nat.zero_le _,h.ln.more (by omega),h.ft,rfl,rfl⟩
 obtain ⟨⟨a,f⟩,p,e1,e2,e3,e4,e5,e6⟩:=hit
 refine ⟨e,_,p,(congrArg (λz=>Option.bind z _) e1).trans rfl,(congrArg (λz=>Option.bind z _) e2).trans rfl,?_,by rw [e6],r6,rfl,rfl⟩
 exact ⟨h.cc,h.ep,h.tk,e3,e4,by rw [e6]; exact h.tp,by rw [e6]; exact h.m,by rw [e6]; exact h.ev,by rw [e5,h.fe,e6],by rw [e6]; exact h.ad,by rw [e6]; exact h.e,by rw [e6]; exact h.d⟩
theorem F6 {k N:Int} {q:Nat} {c:aF} {x:aL} (h:KX k N q c x) (hk:0<=k/\k<=65536) (hN:0<=N/\N<=900000000) (hq:q<=10600) (now:Int) {s:ByteArray} (hs:s.size<=400): ∃ e c' x',dV c now s=some (e,c')/\lI x s=some (x',e)/\KX k (N+10000) (q+400) c' x'/\x.aU<=x'.aU/\(e=4->x'=x)/\(c'.aU=c.aU->c.aM.aJ.k<=c'.aM.aJ.k):=by
 unfold dV lI
 rw [sT (by omega),aA,D5 (by omega),aA]
 dsimp only
 by_cases p0:(kL s).2=0
 ·obtain ⟨r1,r2,r3,r4⟩:=EF p0
  obtain ⟨q1,q2,q3,q4⟩:=Cd r1
  have hdat:(kL s).1.data.size<=400:=by rw [r4]; exact Nat.le_trans (qgD r2 r3) hs
  rw [show ((kL s).2 != 0)=false by simp [p0],cond_false,cond_false]
  generalize (kL s).1=g at q1 q2 q3 q4 hdat ⊢
  rw [show (oD g).kind=g.kind from rfl,show (oD g).aU=g.aU from rfl,h.e]
  by_cases c1:g.kind=1\/g.kind=4
  ·have hb:((bif (g.kind != 1) then some (g.kind != 4) else some false):Option Bool)=some false:=by
    rcases c1 with c1 | c1 <;> rw [c1] <;> rfl
   rw [hb,aA,cond_false,aA,cond_false]
   by_cases c2:g.aU < c.aU
   ·rw [decide_eq_true c2,cond_true,cond_true]
    exact ⟨8,_,_,rfl,rfl,h.more (by omega) (by omega),Int.le_of_eq h.e.symm,λ_=>rfl,λ_=>Int.le_refl _⟩
   ·rw [decide_eq_false c2,cond_false,cond_false]
    obtain ⟨d,z,d1,z1,d2,d3,d4⟩: ∃ d z,((bif (decide (g.aU > c.aU)) then (Option.bind (eO c g.aU) λa=>some (.inl a)) else some (.inl c)):Option (aF ⊕ (Int×aF)))=some (.inl d)/\((bif (decide (g.aU > c.aU)) then some (aL.mk x.most x.every x.addr g.aU x.due (dK.mk (bL.mk 0 0 0 0 0 (ByteArray.mk #[]) ([]:List bK) 0 0 ([]:List aO)) (cN.mk 0 ([]:List Bool) ([]:List ByteArray))) (bX.mk x.most ([]:List dP)) (bS.mk x.most x.every 0 ([]:List aD))) else some x):Option aL)=some z/\KX k N q d z/\x.aU<=z.aU/\(d.aU=c.aU->d=c):=by
     by_cases c3:g.aU > c.aU
     ·obtain ⟨d,e1,e2⟩:=F4 h hk.1 (e:=g.aU) (by omega)
      rw [decide_eq_true c3,cond_true,e1,aA,cond_true]
      exact ⟨d,_,rfl,rfl,e2,by dsimp only; rw [h.e]; omega,λhh=>by have:=e2.e; dsimp only at this; omega⟩
     ·rw [decide_eq_false c3,cond_false,cond_false]
      exact ⟨c,x,rfl,rfl,h,Int.le_refl _,λ_=>rfl⟩
    rw [d1,aA,z1,aA]
    dsimp only
    by_cases c4:g.kind=4
    ·obtain ⟨e,d',z',e1,e1',e2,e3,e4,e5,e6⟩:=F5 d2 hk hN (g:=g) (y:=oD g) rfl rfl rfl (by omega) q4
     rw [show (g.kind == 4)=true by simpa using c4,cond_true,show (g.kind == 1)=false by rw [c4]; rfl,cond_false,e1,aA,e1']
     exact ⟨_,_,_,rfl,rfl,e2.more (Int.le_refl _) (by omega),by rw [e3,<- h.e]; exact d3,λh=>absurd h e4,λhh=>by dsimp only at hh ⊢; rw [e5,d4 (e6.symm.trans hh)]; exact Int.le_refl _⟩
    ·have c5:g.kind=1:=by omega
     obtain ⟨e,t',x',e1,e1',e3,e4,e5⟩:=EE 400 (by decide) (g:=g) (y:=oD g) d2.tp hq rfl rfl rfl hdat
     rw [show (g.kind == 4)=false by simpa using c4,cond_false,show (g.kind == 1)=true by rw [c5]; rfl,cond_true,e1,aA,e1',aA]
     exact ⟨_,_,_,rfl,rfl,⟨d2.cc,d2.ep,e4 _ d2.tk q4,d2.ln.more (by omega),d2.ft,e3,d2.m,d2.ev,d2.fe,d2.ad,d2.e,d2.d⟩,(by rw [<- h.e]; exact d3),(λh=>absurd h e5.1),λhh=>by rw [<- d4 hh]; exact e5.2⟩
  ·have hb:((bif (g.kind != 1) then some (g.kind != 4) else some false):Option Bool)=some true:=by
    rw [show (g.kind != 1)=true by simp; omega,cond_true,show (g.kind != 4)=true by simp; omega]
   rw [hb,aA,cond_true,aA,cond_true]
   exact ⟨5,_,_,rfl,rfl,h.more (by omega) (by omega),Int.le_of_eq h.e.symm,λ_=>rfl,λ_=>Int.le_refl _⟩
 ·rw [show ((kL s).2 != 0)=true by simpa using p0,cond_true,cond_true]
  exact ⟨_,_,_,rfl,rfl,h.more (by omega) (by omega),Int.le_refl _,λ_=>rfl,λ_=>Int.le_refl _⟩
def gpE (e:Int) (g:aV):ByteArray:=uT ⟨imax 1 e,g.kind,g.bB,g.data⟩
theorem yP (e:Int) (l:List aV) (hl:l.length<=1000) (h: ∀ g∈l,g.bB.length<=1000/\g.data.size<=1000):iter (σ:=Int×(List ByteArray)) (ρ:=(List ByteArray)) (λa=>(bif (decide (a.1 < (l.length:Int))) then (Option.bind (idx l a.1) λb=>(Option.bind (eC (aV.mk (imax 1 e) b.kind b.bB b.data)) λc=>(Option.bind (chk (cW a.2.length [c].length 16)) λ_=>some (.inl ((IntKind.i64.wrap (a.1+1)),(a.2++[c])))))) else some (.inr a.2))) (0,[])=some (l.map (gpE e)):=by
 refine nk (λn:Nat=>((n:Int),(l.take n).map (gpE e))) l.length _ (λn hn=> ?_) ?_
 ·dsimp only
  have hg:=h _ (List.getElem_mem hn)
  rw [decide_eq_true (by omega),cond_true,bG l n hn,aA,uX (by dsimp only; omega) (by dsimp only; omega),aA,bP (by simp; omega),aA,w64 (by omega) (by omega),List.take_succ_eq_append_getElem hn,List.map_append]
  rfl
 ·dsimp only
  rw [decide_eq_false (by omega),cond_false,List.take_of_length_le (Nat.le_refl _)]
def ftS (R:List aB):List Int:=R.flatMap λx=>[x.from_,x.to]
theorem ud: ∀ l:List aB,(ftS l).length=2*l.length
 | []=>rfl
 | y::l=>by
  have:=ud l
  unfold ftS at this ⊢
  simp only [List.flatMap_cons,List.length_append,this,List.length_cons,List.length_nil]
  omega
theorem F7 (R:List aB) (hR:R.length<=1000):iter (σ:=Int×(List Int)) (ρ:=(List Int)) (λa=>(bif (decide (a.1 < (R.length:Int))) then (Option.bind (idx R a.1) λb=>(Option.bind (chk (cW a.2.length [b.from_,b.to].length 8)) λ_=>some (.inl ((IntKind.i64.wrap (a.1+1)),(a.2++[b.from_,b.to]))))) else some (.inr a.2))) (0,[])=some (ftS R):=by
 refine nk (λn:Nat=>((n:Int),ftS (R.take n))) R.length _ (λn hn=> ?_) ?_
 ·dsimp only
  have:=ud (R.take n)
  rw [List.length_take] at this
  rw [decide_eq_true (by omega),cond_true,bG R n hn,aA,bP (by simp only [List.length_cons,List.length_nil]; omega),aA,w64 (by omega) (by omega),List.take_succ_eq_append_getElem hn]
  unfold ftS
  rw [List.flatMap_append]
  rfl
 ·dsimp only
  rw [decide_eq_false (by omega),cond_false,List.take_of_length_le (Nat.le_refl _)]
theorem EO (e:Int) (R:List aD) (hR:R.length<=1000):iter (σ:=bM×Int) (ρ:=bM) (λa=>(bif (decide (a.2 < (R.length:Int))) then (Option.bind (idx R a.2) λb=>(Option.bind (chk (cW a.1.bB.length [b.from_,b.to].length 8)) λ_=>some (.inl ((bM.mk a.1.aU a.1.kind (a.1.bB++[b.from_,b.to]) a.1.data),(IntKind.i64.wrap (a.2+1)))))) else some (.inr a.1))) ((bM.mk (imax 1 e) 3 ([]:List Int) (ByteArray.mk #[])),0)=some ⟨imax 1 e,3,ftS (rsp R),noS⟩:=by
 refine nk (λn:Nat=>(bM.mk (imax 1 e) 3 (ftS (rsp (R.take n))) noS,(n:Int))) R.length _ (λn hn=> ?_) ?_
 ·dsimp only
  have:=ud (rsp (R.take n))
  simp only [rsp,List.length_map,List.length_take] at this
  rw [decide_eq_true (by omega),cond_true,bG R n hn,aA,bP (by simp only [rsp,List.length_cons,List.length_nil]; omega),aA,w64 (by omega) (by omega),List.take_succ_eq_append_getElem hn]
  unfold ftS rsp
  rw [List.map_append,List.flatMap_append]
  rfl
 ·dsimp only
  rw [decide_eq_false (by omega),cond_false,List.take_of_length_le (Nat.le_refl _)]
theorem F8 {k N:Int} {q:Nat} {c:aF} {x:aL} (h:KX k N q c x) (hk:k<=65536) (now:Int): ∃ L c' x',dU c now=some (L,c')/\lJ x now=some (x',L)/\KX k N q c' x'/\L.length<=2:=by
 obtain ⟨l,hs⟩:=h.tp.sr
 obtain ⟨a,a1,a2⟩:=Hk h.tp h.tk
 have a3:=Ai hs
 rw [a1] at a3
 injection a3 with a3
 have a4:=FW x.t (by rw [hs.hl]; have:=hs.le; omega)
 rw [Ew hs.has,h.tp.hv,hs.key,show (fP c.aM.aJ).k=c.aM.aJ.k from rfl] at a4
 have a5:ju x.t=some (oD a):=by rw [a4,a3]; rfl
 have hpk: ∀ g:aV,g.bB.length<=1000->g.data.size<=1000->gH ⟨imax 1 c.aU,g.kind,g.bB,g.data⟩=some (gpE c.aU g):=λg h1 h2=>B4 (g:=⟨imax 1 c.aU,g.kind,g.bB,g.data⟩) (by dsimp only; omega) (by dsimp only; omega)
 have han:=a2.n
 have had:=a2.d
 obtain ⟨G,d,z,e1,f1,g1,g2,d1,d2,d3,z1,z2⟩: ∃ G d z,((bif (decide (now>=c.due)) then (Option.bind (dS (bA.mk c.aM.slot c.aM.aJ)) λo=>(Option.bind (chk (cW ([]:List aV).length [o].length 56)) λ_=>some ((([]:List aV)++[o]),(aF.mk c.config c.aU (IntKind.i64.wrap (now+c.config.every)) (bA.mk c.aM.slot c.aM.aJ) c.lines c.bF)))) else some ([],(aF.mk c.config c.aU c.due (bA.mk c.aM.slot c.aM.aJ) c.lines c.bF))):Option ((List aV)×aF))=some (G,d)/\((bif (decide (now>=c.due)) then (Option.bind (ju x.t) λi=>(Option.bind (gH (bM.mk (imax 1 c.aU) i.kind i.bB i.data)) λj=>(Option.bind (chk (cW ([]:List ByteArray).length [j].length 16)) λ_=>some ((([]:List ByteArray)++[j]),(aL.mk x.most x.every x.addr c.aU (IntKind.i64.wrap (now+x.every)) x.t x.l x.f))))) else some (([]:List ByteArray),⟨x.most,x.every,x.addr,c.aU,c.due,x.t,x.l,x.f⟩)):Option ((List ByteArray)×aL))=some (G.map (gpE c.aU),z)/\G.length<=1/\(∀ g∈G,g.bB.length<=1000/\g.data.size<=1000)/\d.config=c.config/\d.aU=c.aU/\z.due=d.due/\z=⟨x.most,x.every,x.addr,c.aU,z.due,x.t,x.l,x.f⟩/\True:=by
  by_cases b:now>=c.due
  ·rw [decide_eq_true b,cond_true,show bA.mk c.aM.slot c.aM.aJ=c.aM from rfl,a1,aA,bP (by simp),aA,cond_true,a5,aA]
   have:=hpk a (by omega) (by omega)
   rw [show gH (bM.mk (imax 1 c.aU) (oD a).kind (oD a).bB (oD a).data)=some (gpE c.aU a) from this,aA,bP (by simp),aA]
   exact ⟨_,_,_,rfl,rfl,Nat.le_refl _,λg hg=>(by rw [List.mem_singleton.1 hg]; omega),rfl,rfl,by rw [h.ev],rfl,trivial⟩
  ·rw [decide_eq_false b,cond_false,cond_false]
   exact ⟨_,_,_,rfl,rfl,Nat.zero_le _,λg hg=>(by cases hg),rfl,rfl,rfl,rfl,trivial⟩
 obtain ⟨R,f,y',R',r1,r2,r3,r4,r5,r6,r7⟩:=Ht (by omega) h.ft now c.aM.aJ.len
 have hRR:R'.length=R.length:=by rw [<- r4]; exact (List.length_map _).symm
 have hx:x=⟨x.most,x.every,x.addr,c.aU,c.due,x.t,x.l,x.f⟩:=by
  rw [<- h.e,<- h.d]
 unfold dU lJ
 rw [e1,aA,show cQ (bA.mk c.aM.slot c.aM.aJ)=some c.aM.aJ by unfold cQ; rw [nu _ h.tp.sw]; rfl,aA,r1,aA,F7 R (by omega),aA,h.d,h.e]
 rw [show ((bif (decide (now>=c.due)) then (Option.bind (ju x.t) λi=>(Option.bind (gH (bM.mk (imax 1 c.aU) i.kind i.bB i.data)) λj=>(Option.bind (chk (cW ([]:List ByteArray).length [j].length 16)) λ_=>some ((([]:List ByteArray)++[j]),(aL.mk x.most x.every x.addr c.aU (IntKind.i64.wrap (now+x.every)) x.t x.l x.f))))) else some (([]:List ByteArray),x)):Option ((List ByteArray)×aL))=some (G.map (gpE c.aU),z) by rw [<- f1]; congr 3,aA]
 dsimp only
 rw [show z.f=x.f by rw [z1],show z.t=x.t by rw [z1],h.tp.hv,show (fP c.aM.aJ).len=c.aM.aJ.len from rfl,r2,aA]
 dsimp only
 rw [EO c.aU R' (by omega),r4,hRR]
 have hfl:=ud R
 have hz:KX k N q ⟨⟨d.config.cache,d.config.every,d.config.addr⟩,d.aU,d.due,⟨c.aM.slot,c.aM.aJ⟩,c.lines,f⟩ ⟨z.most,z.every,z.addr,z.aU,z.due,x.t,z.l,y'⟩:=by
  refine ⟨?_,?_,h.tk,?_,r3,h.tp,?_,?_,?_,?_,?_,d3⟩
  ·show d.config.cache=k; rw [d1]; exact h.cc
  ·show 0<=d.aU/\d.aU<=_; rw [d2]; exact h.ep
  ·show CX k N c.lines z.l; rw [z1]; exact h.ln
  ·show z.most=k; rw [z1]; exact h.m
  ·show z.every=d.config.every; rw [z1,d1]; exact h.ev
  ·show y'.every=z.every; rw [z1]; exact r7.trans h.fe
  ·show z.addr=d.config.addr; rw [z1,d1]; exact h.ad
  ·show z.aU=d.aU; rw [z1,d2]
 by_cases b:R.length=0
 ·rw [decide_eq_false (by omega),cond_false,aA,decide_eq_false (by omega),cond_false,aA,d2,yP c.aU G (by omega) g2,aA]
  rw [d2] at hz
  exact ⟨_,_,_,rfl,rfl,hz,by rw [List.length_map]; omega⟩
 ·have hask:=hpk ⟨0,3,ftS R,noS⟩ (by dsimp only; omega) (Nat.zero_le _)
  dsimp only at hask
  rw [decide_eq_true (by omega),cond_true,bP (by simp; omega),aA,aA,decide_eq_true (by omega),cond_true,aA,hask,aA,bP (by simp; omega),aA,aA,d2,yP c.aU _ (by simp; omega) (λg hg=> ?_),aA,List.map_append]
  ·rw [d2] at hz
   exact ⟨_,_,_,rfl,rfl,hz,by simp; omega⟩
  ·rcases List.mem_append.1 hg with hg | hg
   ·exact g2 g hg
   ·rw [List.mem_singleton.1 hg]
    exact ⟨by dsimp only; omega,Nat.zero_le _⟩
theorem Bt: ∀ (l s:List aB) {lo:Int},NF lo s->(∀ y∈l,lo < y.from_/\y.from_ < y.to)->NF lo (gY s l) /\ ∀ n,inP (gY s l) n↔inP s n\/inP l n
 | [],s,lo,h,_=>⟨h,λn=>⟨.inl,λh=>h.elim id λh=>absurd h iJ⟩⟩
 | x::l,s,lo,h,hl=>by
  have hx:=hl x List.mem_cons_self
  have e:gY s (x::l)=gY (iq s x) l:=by
   show gY (if x.to<=x.from_ then s else iq s x) l=_
   rw [if_neg (by omega)]
  obtain ⟨h1,h2⟩:=Bt l (iq s x) (rB s h hx.1 hx.2) λy hy=>hl y (List.mem_cons_of_mem _ hy)
  rw [e]
  refine ⟨h1,λn=> ?_⟩
  rw [h2,rC s h hx.2,eI,or_assoc]
noncomputable abbrev rgF (T:Int):aL×Int->Option ((aL×Int) ⊕ aL):=λa=>(bif (decide (a.2 < T)) then (Option.bind (ll a.1.l a.2) λb=>some (.inl ((aL.mk a.1.most a.1.every a.1.addr a.1.aU a.1.due a.1.t b.1 a.1.f),(IntKind.i64.wrap (a.2+1))))) else some (.inr a.1))
theorem xx {k N T:Int} {c:aR} {x:aL} (h:CX k N c x.l) (hk:k<=100000) (hN:N<=900000000) (hT:T<=1152921504606846976): ∀ (j:Nat) (i:Int),0<=i->i+j<=T->(∀ n,i<=n->n < i+j->iv c.l n=false)->iter (rgF T) (x,i)=iter (rgF T) (x,i+j)
 | 0,i,_,_,_=>by rw [show i+((0:Nat):Int)=i by omega]
 | j+1,i,h0,h1,h2=>by
  have e:rgF T (x,i)=some (.inl (x,i+1)):=by
   obtain ⟨l,b,c',L,x',g1,g2,g3,g4,g5,g6,g7⟩:=EJ h hk (by omega) i
   rw [h2 i (Int.le_refl _) (by omega)] at g6
   obtain ⟨_,e2⟩:=g4 g6
   unfold rgF
   dsimp only
   rw [decide_eq_true (by omega),cond_true,g2,aA,w64 (by omega) (by omega),e2]
  rw [bY e,xx h hk hN hT j (i+1) (by omega) (by omega) λn a b=>h2 n (by omega) (by omega)]
  congr 2
  omega
theorem Bu {k T:Int} (hk:k<=65536) (hT:T<=1152921504606846976) (Z:aL): ∀ (j:Nat) (N i:Int) (a:aR) (x:bX),CX k N a x->N+j<=900000000->0<=i->i+j<=T -> ∃ a' x',iter (σ:=aR×Int) (ρ:=aR) (λc=>(bif (decide (c.2 < i+j)) then (Option.bind (eY c.1 c.2) λd=>some (.inl (d.2.2,(IntKind.i64.wrap (c.2+1))))) else some (.inr c.1))) (a,i)=some a'/\iter (rgF T) (⟨Z.most,Z.every,Z.addr,Z.aU,Z.due,Z.t,x,Z.f⟩,i)=iter (rgF T) (⟨Z.most,Z.every,Z.addr,Z.aU,Z.due,Z.t,x',Z.f⟩,i+j)/\CX k (N+j) a' x' /\ ∀ n,iv a'.l n=iv a.l n
 | 0,N,i,a,x,h,hN,h0,h1=>by
  refine ⟨a,x,bC ?_,by rw [show i+((0:Nat):Int)=i by omega],by rw [show N+((0:Nat):Int)=N by omega]; exact h,λn=>rfl⟩
  dsimp only
  rw [decide_eq_false (by omega)]
  rfl
 | j+1,N,i,a,x,h,hN,h0,h1=>by
  obtain ⟨l,b,c',L,x',g1,g2,g3,g4,g5,g6,g7⟩:=EJ h (by omega) (by omega) i
  obtain ⟨a2,x2,p1,p2,p3,p4⟩:=Bu hk hT Z j (N+1) (i+1) c' x' g3 (by omega) (by omega) (by omega)
  have e1:i+((j+1:Nat):Int)=i+1+(j:Int):=by omega
  have e2:N+((j+1:Nat):Int)=N+1+(j:Int):=by omega
  rw [e1,e2]
  refine ⟨a2,x2,?_,?_,p3,λn=>(p4 n).trans (g7 n)⟩
  ·rw [<- p1]
   refine bY ?_
   dsimp only
   rw [decide_eq_true (by omega),cond_true,g1,aA,w64 (by omega) (by omega)]
  ·rw [<- p2]
   refine bY ?_
   unfold rgF
   dsimp only
   rw [decide_eq_true (by omega),cond_true,g2,aA,w64 (by omega) (by omega)]
theorem u9: ∀ {l:List aB} {lo:Int},NF lo l -> ∀ (n:Nat) (hn:n < l.length),(∀ m (hm:m < l.length),m < n->l[m].to < l[n].from_)/\lo < l[n].from_/\l[n].from_ < l[n].to
 | x::l,lo,h,0,hn=>⟨λm _ hm=>by omega,h.1,h.2.1⟩
 | x::l,lo,h,n+1,hn=>by
  obtain ⟨h1,h2,h3⟩:=u9 h.2.2 n (by simpa using hn)
  have a1:=h.1
  have a2:=h.2.1
  refine ⟨λm hm hmn=> ?_,by show lo < (l[n]'(by simpa using hn)).from_; omega,h3⟩
  cases m with
  | zero=>exact h2
  | succ m=>exact h1 m (by simpa using hm) (by omega)
theorem F9 {k N:Int} {q:Nat} {c:aF} {x:aL} (h:KX k N q c x) (hk:1<=k/\k<=65536) (hN:0<=N/\N<=800000000) (from_ to:Int): ∃ n c' x',dW c from_ to=some (n,c')/\lK x from_ to=some (x',n)/\KX k (N+100000) q c' x':=by
 unfold dW lK
 obtain ⟨L,r,l1,l2,l3,l4,l5,l6⟩:=yN h.ln (by omega)
 have hc:=l5.cnt
 have hb: ∀ y∈L,vt y:=l5.b
 obtain ⟨m1,m2⟩:=Bq L [] hb (λy hy=>by cases hy)
 obtain ⟨m3,m4⟩:=Bt L [] (lo:= -1) trivial λy hy=>by obtain ⟨a,b,_⟩:=hb y hy; omega
 have hml:=sU L []
 have hW:WS k (gY [] L):=⟨m1,by have:=l5.l; have:eK ([]:List aB)=0:=rfl; omega⟩
 have a1:=fQ from_ 1152921504606846976
 have a2:=gC 0 (cD from_ 1152921504606846976)
 have a3:=fQ to 1152921504606846976
 have a4:=gC 0 (cD to 1152921504606846976)
 rw [show dJ from_ 0 1152921504606846976=some (imax 0 (cD from_ 1152921504606846976)) from rfl,aA,show dJ to 0 1152921504606846976=some (imax 0 (cD to 1152921504606846976)) from rfl,aA,l1,aA,l2,aA,pX [] L (by simp; omega) (λx hx=>by have:=hb x hx; obtain ⟨a,b,d⟩:=this; refine ⟨?_,?_,?_,?_⟩ <;> omega),aA,uZ _ _ (by simp at hml; omega),aA,h.cc,h.m]
 generalize imax 0 (cD from_ 1152921504606846976)=F at a1 a2 ⊢
 generalize imax 0 (cD to 1152921504606846976)=T0 at a3 a4 ⊢
 have a5:=fQ T0 (F+k)
 rw [w64 (x:=F+k) (by omega) (by omega)]
 generalize hT:cD T0 (F+k)=T at a5 ⊢
 rw [uc (i:=F) (j:=T) (by omega) (by omega) (by omega) (by omega)]
 obtain ⟨i1,i2⟩:=Ea (x:=⟨F,T⟩) hW
 obtain ⟨i3,i4⟩:=Ek m3 ⟨F,T⟩
 have hil:=ua (gY [] L) ⟨F,T⟩
 have i5: ∀ n,inP (inL (gY [] L) ⟨F,T⟩) n↔iv c.lines.l n=true/\F<=n/\n < T:=λn=>by
  rw [i4,m4,<- l6]
  exact ⟨λ⟨h1,h2⟩=>⟨h1.elim (λh=>absurd h iJ) id,h2⟩,λ⟨h1,h2⟩=>⟨.inr h1,h2⟩⟩
 generalize inL (gY [] L) ⟨F,T⟩=R at i1 i2 i3 i5 hil ⊢
 have hR: ∀ y∈R,vt y:=λy hy=>(i1 y hy).1
 have hRl:eK R<=k:=by have:=hW.l; omega
 have hRn:R.length<=100000:=by simp at hml; omega
 have hTb:T<=1152921504606846976:=by omega
 have hk6:k<=100000:=by omega
 -- behind the first n spans both are alike,and nothing is between
 have key: ∀ n,n<=R.length -> ∃ a x' i,(∀ j,n+j=R.length->iter (σ:=aR×Int) (ρ:=aR) (λo=>(bif (decide (o.2 < (R.length:Int))) then (Option.bind (idx R o.2) λs=>(Option.bind (iter (σ:=aR×Int) (ρ:=aR) (λp=>(bif (decide (p.2 < s.to)) then (Option.bind (eY p.1 p.2) λA=>some (.inl (A.2.2,(IntKind.i64.wrap (p.2+1))))) else some (.inr p.1))) (o.1,s.from_)) λB=>some (.inl (B,(IntKind.i64.wrap (o.2+1)))))) else some (.inr o.1))) (c.lines,0)=iter (σ:=aR×Int) (ρ:=aR) (λo=>(bif (decide (o.2 < (R.length:Int))) then (Option.bind (idx R o.2) λs=>(Option.bind (iter (σ:=aR×Int) (ρ:=aR) (λp=>(bif (decide (p.2 < s.to)) then (Option.bind (eY p.1 p.2) λA=>some (.inl (A.2.2,(IntKind.i64.wrap (p.2+1))))) else some (.inr p.1))) (o.1,s.from_)) λB=>some (.inl (B,(IntKind.i64.wrap (o.2+1)))))) else some (.inr o.1))) (a,(n:Int)))/\iter (rgF T) (x,F)=iter (rgF T) (⟨x.most,x.every,x.addr,x.aU,x.due,x.t,x',x.f⟩,i)/\CX k (N+eK (R.take n)) a x'/\(∀ m,iv a.l m=iv c.lines.l m)/\F<=i/\(i<=T\/i=F)/\(∀ m (hm:m < R.length),m < n->R[m].to<=i)/\(∀ m (hm:m < R.length),n<=m->i<=R[m].from_):=by
  intro n
  induction n with
  | zero =>
   intro _
   refine ⟨c.lines,x.l,F,λj _=>rfl,rfl,h.ln.more (by show N<=N+0; omega),λm=>rfl,Int.le_refl _,.inr rfl,λm _ hm=>by omega,λm hm _=> ?_⟩
   obtain ⟨_,_,b3⟩:=u9 i3 m hm
   exact ((i5 R[m].from_).1 ⟨R[m],List.getElem_mem hm,Int.le_refl _,b3⟩).2.1
  | succ n ih =>
   intro hn
   obtain ⟨a,x',i,p1,p2,p3,p4,p5,p6,p7,p8⟩:=ih (by omega)
   obtain ⟨b1,b2,b3⟩:=u9 i3 n (by omega)
   have hok:=hR _ (List.getElem_mem (show n < R.length by omega))
   have hT2:R[n].to<=T:=by
    have:=((i5 (R[n].to - 1)).1 ⟨R[n],List.getElem_mem (by omega),by omega,by omega⟩).2.2
    omega
   have hle:=p8 n (by omega) (Nat.le_refl _)
   have ht:eK (R.take (n+1))=eK (R.take n)+(R[n].to - R[n].from_):=by
    rw [List.take_succ_eq_append_getElem (by omega),lP]
    show _+(R[n].to - R[n].from_+0)=_
    omega
   have e':=lP (R.take (n+1)) (R.drop (n+1))
   rw [List.take_append_drop] at e'
   have q1:=qd (R.drop (n+1)) λy hy=>hR y (List.mem_of_mem_drop hy)
   have q2:=qd (R.take n) λy hy=>hR y (List.mem_of_mem_take hy)
   have hg:R[n].from_=i+((R[n].from_ - i).toNat:Int):=by omega
   generalize (R[n].from_ - i).toNat=g at hg
   have hd:R[n].to=R[n].from_+((R[n].to - R[n].from_).toNat:Int):=by omega
   generalize (R[n].to - R[n].from_).toNat=d at hd
   have hgT:i+(g:Int)<=T:=by omega
   have hi0:0<=i:=by omega
   have hsk:=xx (T:=T) (x:=⟨x.most,x.every,x.addr,x.aU,x.due,x.t,x',x.f⟩) p3 hk6 (by omega) hTb g i hi0 hgT λm h1 h2=>by
    rw [p4]
    cases hm:iv c.lines.l m with
    | false=>rfl
    | true =>
     exfalso
     have hm2:F<=m/\m < T:=⟨by omega,by omega⟩
     obtain ⟨y,hy,y1,y2⟩:=(i5 m).2 ⟨hm,hm2⟩
     obtain ⟨w,hw,rfl⟩:=List.mem_iff_getElem.1 hy
     by_cases cc:w < n
     ·have:=p7 w hw cc; omega
     ·by_cases c2:w=n
      ·subst c2; omega
      ·obtain ⟨u1,_,_⟩:=u9 i3 w hw
       have:=u1 n (by omega) (by omega)
       omega
   obtain ⟨a',x2,s1,s2,s3,s4⟩:=Bu (T:=T) hk.2 hTb x d (N+eK (R.take n)) R[n].from_ a x' p3 (by omega) (by omega) (by omega)
   rw [<- hd] at s1 s2
   refine ⟨a',x2,R[n].to,λj hj=> ?_,?_,s3.more (by omega),λm=>(s4 m).trans (p4 m),by omega,.inl hT2,λm hm hmn=> ?_,λm hm hmn=> ?_⟩
   ·rw [p1 (j+1) (by omega)]
    refine bY ?_
    dsimp only
    rw [decide_eq_true (by omega),cond_true,bG R n (by omega),aA,s1,aA,w64 (by omega) (by omega)]
    rfl
   ·rw [p2,hsk,<- hg,s2]
   ·by_cases c2:m=n
    ·subst c2; exact Int.le_refl _
    ·have:=b1 m hm (by omega); omega
   ·obtain ⟨u1,_,_⟩:=u9 i3 m hm
    have:=u1 n (by omega) (by omega)
    omega
 obtain ⟨a,x',i,p1,p2,p3,p4,p5,p6,p7,p8⟩:=key R.length (Nat.le_refl _)
 rw [List.take_of_length_le (Nat.le_refl _)] at p3
 have hq:=qd R hR
 have hend:iter (rgF T) (x,F)=some ⟨x.most,x.every,x.addr,x.aU,x.due,x.t,x',x.f⟩:=by
  rw [p2]
  by_cases c2:i<=T
  ·have hg:T=i+((T - i).toNat:Int):=by omega
   generalize (T - i).toNat=g at hg
   rw [xx (T:=T) (x:=⟨x.most,x.every,x.addr,x.aU,x.due,x.t,x',x.f⟩) p3 hk6 (by omega) hTb g i (by omega) (by omega) λm h1 h2=>by
    rw [p4]
    cases hm:iv c.lines.l m with
    | false=>rfl
    | true =>
     exfalso
     obtain ⟨y,hy,y1,y2⟩:=(i5 m).2 ⟨hm,by omega,by omega⟩
     obtain ⟨w,hw,rfl⟩:=List.mem_iff_getElem.1 hy
     have:=p7 w hw hw
     omega]
   refine bC ?_
   unfold rgF
   dsimp only
   rw [decide_eq_false (by omega)]
   rfl
  ·refine bC ?_
   unfold rgF
   dsimp only
   rw [decide_eq_false (by omega)]
   rfl
 have hw:=F3 hk.1 (by omega) h.ft (x:=⟨F,T⟩) (x':=⟨F,T⟩) rfl l3 (by omega) λz hz=>by obtain ⟨u,v,_⟩:=hb z hz; omega
 obtain ⟨n,f',y',w1,w2,w3,w4,w5⟩:=hw
 refine ⟨n,⟨c.config,c.aU,c.due,c.aM,a,f'⟩,⟨x.most,x.every,x.addr,x.aU,x.due,x.t,x',y'⟩,(congrArg (λz=>Option.bind z _) ((p1 0 (by omega)).trans (bC (r:=a) (by dsimp only; rw [decide_eq_false (by omega)]; rfl)))).trans ?_,(congrArg (λz=>Option.bind z _) hend).trans ?_,?_⟩
 ·rw [aA,w1]
  rfl
 ·rw [aA]
  dsimp only
  rw [w2,aA,w3]
  rfl
 ·exact ⟨h.cc,h.ep,h.tk,p3.more (by omega),w4,h.tp,h.m,h.ev,w5.trans h.fe,h.ad,h.e,h.d⟩
theorem EP (l:List ByteArray) (hl:l.length<=1000):kS l l=some true:=by
 unfold kS
 rw [show ((l.length:Int) != (l.length:Int))=false by simp,cond_false]
 refine dX (λn:Nat=>(n:Int)) l.length (.inl ()) rfl (λn hn=> ?_) ?_ rfl
 ·rw [decide_eq_true (by omega),cond_true,bG l n hn,aA,aA,beq_self_eq_true,Bool.not_true,cond_false,w64 (by omega) (by omega)]
  rfl
 ·rw [decide_eq_false (by omega),cond_false]
theorem wE {l:List aB} {x:List aD} (h:rsp x=l) (hl:l.length<=1000000):kA l x=some true:=by
 have hx:x.length=l.length:=by rw [<- h]; exact (List.length_map _).symm
 unfold kA
 rw [show ((l.length:Int) != (x.length:Int))=false by simp [hx],cond_false]
 refine dX (λn:Nat=>(n:Int)) x.length (.inl ()) rfl (λn hn=> ?_) ?_ rfl
 ·have e:l[n]'(by omega)=sp x[n]:=by subst h; exact List.getElem_map ..
  rw [decide_eq_true (by omega),cond_true,bG l n (by omega),aA,bG x n hn,aA,e,show (sp x[n]).from_=x[n].from_ from rfl,show (sp x[n]).to=x[n].to from rfl,beq_self_eq_true,beq_self_eq_true,w64 (by omega) (by omega)]
  rfl
 ·rw [decide_eq_false (by omega),cond_false]
section
variable {k N : Int} {q : Nat} {c : aF} {x : aL}
theorem Ga (h:KX k N q c x):gL c=some c.aM.aJ:=by
 unfold gL cQ
 rw [nu _ h.tp.sw]
 rfl
theorem Bv (h:KX k N q c x) (hk:k<=65536) (i:Int): ∃ l b,fO c i=some (l,b)/\lH x i=some (l.map tg,b)/\(∀ g∈l,rok g.rune)/\l.length<=1000000/\(i < 0->b=false):=by
 unfold fO lH
 rw [show cQ c.aM=some c.aM.aJ by unfold cQ; rw [nu _ h.tp.sw]; rfl,aA,h.tp.hv,show (fP c.aM.aJ).len=c.aM.aJ.len from rfl]
 by_cases d:i>=c.aM.aJ.len
 ·rw [decide_eq_true d,cond_true,cond_true]
  exact ⟨[],false,rfl,rfl,λg hg=>(by cases hg),Nat.zero_le _,λ_=>rfl⟩
 ·rw [decide_eq_false d,cond_false,cond_false]
  obtain ⟨l,b,e1,e2,e3,e4⟩:=Bs h.ln (by omega) i
  rw [e1,aA,e2,aA]
  refine ⟨l,b,rfl,rfl,e3,e4,λhi=> ?_⟩
  obtain ⟨m,M,m1,hp,hs,hx,hgs,m2,_,m3,hlen0⟩:=h.ln.cm
  rw [rP hx (by omega),rO hp m2.nd] at e2
  cases hm:mgl i m with
  | none=>rw [hm] at e2; simp only [Option.some.injEq,Prod.mk.injEq] at e2; exact e2.2.symm
  | some y=>have:=(m2.r _ (kX hm)).1; dsimp only at this; omega
theorem Gn (h:KX k N q c x) (hk:k<=65536):ma c x=some true:=by
 obtain ⟨L,r,l1,l2,l3,l4,l5,l6⟩:=yN h.ln (by omega)
 have hc:=l5.cnt
 have hf:=h.ft.fs.w.cnt
 have hln:=h.ln.len
 unfold ma
 rw [show fB c=some c.aU from rfl,aA,h.e,bne_self_eq_false,cond_false,show fN c=some c.config.addr from rfl,aA,h.ad,bne_self_eq_false,cond_false,Ga h,aA,h.tp.hv,Fp _ _ h.tp.sw h.tp.sw,decide_eq_true rfl,aA,Bool.not_true,cond_false,show gD c=some L by unfold gD; rw [l1]; rfl,aA,l2,aA,wE l3 (by omega),aA,Bool.not_true,cond_false,show fZ c=some c.bF.want.l by unfold fZ; rw [Ae (by omega) h.ft.fs]; rfl,aA,wE h.ft.r (by omega),aA,Bool.not_true,aA,cond_false]
 refine dX (λn:Nat=>(n:Int)) x.l.l.length (.inl ()) rfl (λn hn=> ?_) ?_ ?_
 ·obtain ⟨l,b,e1,e2,e3,e4,_⟩:=Bv h hk x.l.l[n].i
  rw [decide_eq_true (by omega),cond_true,bG x.l.l n hn,aA,e1,aA,e2,aA]
  dsimp only
  rw [beq_self_eq_true,Bool.not_true,cond_false,uK l l e4 e3,decide_eq_true rfl,aA,Bool.not_true,aA,cond_false,w64 (by omega) (by omega)]
  rfl
 ·rw [decide_eq_false (by omega),cond_false]
 ·obtain ⟨l,b,e1,e2,e3,e4,e5⟩:=Bv h hk (-1)
  obtain rfl:=e5 (by decide)
  dsimp only
  rw [e1,aA]
  rfl
theorem Gb (h:KX k N q c x) (addr:Int): ∃ c' x',iD c addr=some c'/\nj x addr=some x'/\KX k N q c' x'/\c'=⟨⟨c.config.cache,c.config.every,imax 0 (cD addr 4294967296)⟩,c.aU,c.due,c.aM,c.lines,c.bF⟩/\x'=⟨x.most,x.every,imax 0 (cD addr 4294967296),x.aU,x.due,x.t,x.l,x.f⟩ :=
 ⟨_,_,rfl,rfl,⟨h.cc,h.ep,h.tk,h.ln,h.ft,h.tp,h.m,h.ev,h.fe,rfl,h.e,h.d⟩,rfl,rfl⟩
theorem Gp (h:KX k N q c x) (hk:1<=k/\k<=65536) (hN:0<=N/\N<=800000000) (hq:q<=10600) (a:jh) (now:Int): ∃ c' x',mb c x a now=some (x',true,c')/\KX k (N+100000) (q+400) c' x':=by
 unfold mb
 by_cases k0:a.kind=0
 ·rw [show (a.kind == 0)=true by simpa using k0,cond_true]
  have hc:lj a.text 400=some (DB a.text 400):=DD a.text 400
  obtain ⟨e,c',x',e1,e2,e3,_⟩:=F6 h (by omega) (by omega) hq now (BW a.text 400)
  rw [hc,aA,e2,aA,e1,aA]
  dsimp only
  rw [beq_self_eq_true]
  exact ⟨c',x',rfl,e3.more (by omega) (by omega)⟩
 ·rw [show (a.kind == 0)=false by simpa using k0,cond_false]
  by_cases k1:a.kind=1
  ·rw [show (a.kind == 1)=true by simpa using k1,cond_true]
   obtain ⟨L,c',x',e1,e2,e3,e4⟩:=F8 h (by omega) now
   rw [e2,aA,e1,aA]
   dsimp only
   rw [EP L (by omega),aA]
   exact ⟨c',x',rfl,e3.more (by omega) (by omega)⟩
  ·rw [show (a.kind == 1)=false by simpa using k1,cond_false]
   by_cases k2:a.kind=2
   ·rw [show (a.kind == 2)=true by simpa using k2,cond_true]
    obtain ⟨n,c',x',e1,e2,e3⟩:=F9 h hk hN a.from_ a.to
    rw [e2,aA,e1,aA]
    dsimp only
    rw [beq_self_eq_true]
    exact ⟨c',x',rfl,e3.more (by omega) (by omega)⟩
   ·rw [show (a.kind == 2)=false by simpa using k2,cond_false]
    obtain ⟨c',x',e1,e2,e3,_⟩:=Gb h a.from_
    rw [e1,aA,e2,aA]
    exact ⟨c',x',rfl,e3.more (by omega) (by omega)⟩
theorem ER (h:KX k N q c x) (hk:k<=65536):gE c=some c:=by
 have hf:=h.ft.fs.w.cnt
 unfold gE iY
 rw [show jB c.aM.slot=some c.aM.slot from rfl,aA,nu _ h.tp.sw,aA,aA,show iU c.lines=some c.lines from rfl,aA]
 have:gV c.bF=some c.bF:=by
  unfold gV kb eT
  rw [bP (by simp; omega),aA]
  rfl
 rw [this]
 rfl
end
theorem rQ {acts more:List jh} (a0: ∀ x∈acts,nD x) (a1: ∀ x∈more,nD x):iI acts more=some true:=by
 unfold iI
 rw [Ak,aA,Bool.not_true,cond_false]
 obtain ⟨s,x,s1,s2,s3⟩:=Hv 4 2 5
 rw [show imax 1 (cD 4 65536)=4 from rfl] at s3
 rw [s1,aA,s2,aA]
 refine pj (λs:aL×aF×Int×Int=> ∃ n:Nat,s.2.2.1=n/\n<=15/\KX 4 (n*100000) (n*400) s.2.1 s.1) (λs=>15 - s.2.2.1.toNat) (λr=> ∃ now x c,r = .inl (now,x,c)/\KX 4 1500000 6000 c x) ⟨0,rfl,by decide,s3.more (by decide) (by decide)⟩ ?_ ?_
 ·rintro ⟨x,s,i,now⟩ ⟨n,h1,h2,h3⟩
  dsimp only at h1 h3 ⊢
  subst h1
  by_cases c:(n:Int) < (acts.length:Int)/\(n:Int) < 15
  ·left
   rw [Bj c,aA,cond_true,bG acts n (by omega),aA,aA]
   obtain ⟨s',x',e1,e2⟩:=Gp h3 (by decide) (by omega) (by omega) acts[n] (IntKind.i64.wrap (now+(Go.bits .and .i64 acts[n].later 7)))
   rw [e1,aA]
   dsimp only
   rw [Bool.not_true,cond_false,w64 (x:=(n:Int)+1) (by omega) (by omega)]
   exact ⟨_,rfl,⟨n+1,rfl,by omega,e2.more (by omega) (by omega)⟩,by dsimp only; omega⟩
  ·right
   rw [Bk c,aA,cond_false]
   exact ⟨_,rfl,_,_,_,rfl,h3.more (by omega) (by omega)⟩
 ·rintro r ⟨now,x,s,rfl,h3⟩
  dsimp only
  rw [ER h3 (by decide),aA,aA]
  refine pj (λs:aF×aL×Int×Int=> ∃ n:Nat,s.2.2.1=n/\n<=12/\KX 4 (1500000+n*100000) (6000+n*400) s.1 s.2.1) (λs=>12 - s.2.2.1.toNat) (λr=> ∃ c x,r = .inl (c,x)/\KX 4 9000000 20000 c x) ⟨0,rfl,by decide,h3⟩ ?_ ?_
  ·rintro ⟨s,x,i,now⟩ ⟨n,h1,h2,h3⟩
   dsimp only at h1 h3 ⊢
   subst h1
   by_cases c:(n:Int) < (more.length:Int)/\(n:Int) < 12
   ·left
    rw [Bj c,aA,cond_true,bG more n (by omega),aA,aA]
    obtain ⟨s',x',e1,e2⟩:=Gp h3 (by decide) (by omega) (by omega) more[n] (IntKind.i64.wrap (now+(Go.bits .and .i64 more[n].later 7)))
    rw [e1,aA]
    dsimp only
    rw [Bool.not_true,cond_false,w64 (x:=(n:Int)+1) (by omega) (by omega)]
    exact ⟨_,rfl,⟨n+1,rfl,by omega,e2.more (by omega) (by omega)⟩,by dsimp only; omega⟩
   ·right
    rw [Bk c,aA,cond_false]
    exact ⟨_,rfl,_,_,rfl,h3.more (by omega) (by omega)⟩
  ·rintro r ⟨s2,x2,rfl,h4⟩
   dsimp only
   rw [Gn h3 (by decide),aA,cond_true,Gn h4 (by decide)]
   rfl
end Go.Tw.X

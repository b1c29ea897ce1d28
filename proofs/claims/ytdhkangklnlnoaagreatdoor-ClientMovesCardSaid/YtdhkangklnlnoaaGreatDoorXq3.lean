import Derived.Test.YtdhkangklnlnoaaGreatDoorXq2
set_option linter.unusedVariables false
set_option linter.unusedSimpArgs false
set_option maxHeartbeats 1000000
namespace Go.Tw.X
open Go Go.Tw
theorem Fb {α ρ:Type} (l:List α) (p:α->Bool) (y:Nat->ρ) (n:ρ) {f:Int->Option (Int ⊕ ρ)} (h: ∀ i (hi:i < l.length),f (i:Int)=if p l[i]=true then some (.inr (y i)) else some (.inl ((i+1:Nat):Int))) (he:f (l.length:Int)=some (.inr n)):(l.any p=true /\ ∃ j,iter f 0=some (y j))\/(l.any p=false/\iter f 0=some n):=by
 have key: ∀ k i,i+k=l.length->((l.drop i).any p=true /\ ∃ j,iter f (i:Int)=some (y j))\/((l.drop i).any p=false/\iter f (i:Int)=some n):=by
  intro k
  induction k with
  | zero =>
   intro i hi
   obtain rfl:i=l.length:=by omega
   exact .inr ⟨by rw [List.drop_length]; rfl,bD he⟩
  | succ k ih =>
   intro i hi
   have hlt:i < l.length:=by omega
   have h1:=h i hlt
   rw [List.drop_eq_getElem_cons hlt,List.any_cons]
   by_cases c:p l[i]=true
   ·rw [if_pos c] at h1
    exact .inl ⟨by rw [c,Bool.true_or],i,bD h1⟩
   ·rw [if_neg c] at h1
    rw [bY h1,Bool.eq_false_iff.2 c,Bool.false_or]
    exact ih (i+1) (by omega)
 exact key l.length 0 (by omega)
theorem Fc (l:List aD) (i:Int):hsR l i=(rsp l).any λx=>decide (i>=x.from_) && decide (i < x.to):=by
 unfold hsR rsp
 rw [List.any_map]
 rfl
theorem Fe (s:List aB) (i:Int) (hs:s.length<=1000000):gm ⟨s⟩ i=some (s.any λx=>decide (i>=x.from_) && decide (i < x.to)):=by
 have key: ∃ j:Int,cA s i=some j/\decide (j>=0)=(s.any λx=>decide (i>=x.from_) && decide (i < x.to)):=by
  unfold cA
  have h1: ∀ x:aB,cV x i=some (decide (i>=x.from_) && decide (i < x.to)):=λx=>by
   unfold cV
   cases decide (i>=x.from_) <;> cases decide (i < x.to) <;> rfl
  have hh:=Fb (ρ:=Unit ⊕ Int) (f:=λs52:Int=>((bif (decide (s52 < (s.length:Int))) then (Option.bind (idx s s52) λa=>(Option.bind (cV a i) λb=>(bif b then (fH (some s52)) else some (.inl (IntKind.i64.wrap (s52+1)))))) else some (.inr (.inl ()))):Option (Int ⊕ (Unit ⊕ Int)))) s (λx=>decide (i>=x.from_) && decide (i < x.to)) (λj=> .inr (j:Int)) (.inl ()) (λj hj=>by
   rw [decide_eq_true (by omega),cond_true,bK s j hj,aA,h1,aA,w64 (by omega) (by omega)]
   cases (decide (i>=s[j].from_) && decide (i < s[j].to)) <;> rfl) (by
   rw [decide_eq_false (by omega)]
   rfl)
  rcases hh with ⟨e1,j,e2⟩ | ⟨e1,e2⟩
  ·refine ⟨(j:Int),(congrArg (λz=>Option.bind z _) e2).trans rfl,?_⟩
   rw [e1]
   exact decide_eq_true (by omega)
  ·exact ⟨-1,(congrArg (λz=>Option.bind z _) e2).trans rfl,by rw [e1]; rfl⟩
 obtain ⟨j,h1,h2⟩:=key
 unfold gm cL
 dsimp only
 rw [h1,aA,<- h2]
 rfl
structure FX (k:Int) (f:bE) (y:bR):Prop where
 fs:FS k f
 m:y.most=k
 e:y.every=f.every
 d:y.due=f.due
 r:rsp y.l=f.want.l
 n:NF (-1) f.want.l
theorem FX.len {k:Int} {f:bE} {y:bR} (h:FX k f y):y.l.length=f.want.l.length/\(y.l.length:Int)<=k:=by
 have h1:=congrArg List.length h.r
 have h2:=h.fs.w.cnt
 simp only [rsp,List.length_map] at h1
 exact ⟨h1,by omega⟩
theorem Gy (most every:Int): ∃ f,kB most every=some f/\mV most every=some ⟨imax 1 (cB most 65536),imax 1 (cB every 1048576),0,[]⟩/\FX (imax 1 (cB most 65536)) f ⟨imax 1 (cB most 65536),imax 1 (cB every 1048576),0,[]⟩:=by
 obtain ⟨f,h1,h2⟩:=ER (most:=most) (every:=every)
 refine ⟨f,h1,rfl,?_⟩
 have e:kB most every=some ⟨imax 1 (cB most 65536),imax 1 (cB every 1048576),0,⟨[]⟩⟩:=rfl
 rw [h1] at e
 injection e with e
 subst e
 exact ⟨h2,rfl,rfl,rfl,rfl,trivial⟩
theorem DR {k:Int} (hk:0<=k) {f:bE} {y:bR} (h:FX k f y): ∃ f',dB f=some f'/\FX k f' ⟨k,y.every,0,[]⟩:=by
 obtain ⟨f',h1,h2⟩:=Bg hk h.fs
 refine ⟨f',h1,?_⟩
 unfold dB at h1
 injection h1 with h1
 subst h1
 exact ⟨h2,rfl,h.e,rfl,rfl,trivial⟩
theorem Gz {k:Int} (hk:k<=100000) {f:bE} {y:bR} (h:FX k f y) {i:Int} (h0:0<=i) (h1:i<=4611686018427487904): ∃ b f' y',fg f i=some (b,f')/\jI y i=some (y',b)/\FX k f' y'/\(b=true->0<=i/\i < 1152921504606846976)/\(b=false->y'=y)/\y'.every=y.every:=by
 obtain ⟨b,f',e1,e2,e3⟩:=ET hk h.fs h0 h1
 have hc:=h.fs.w.cnt
 obtain ⟨hl,_⟩:=h.len
 have hb:b=hsR y.l i/\f'=⟨f.most,f.every,f.due,⟨oh f.want.l (fy ⟨i,i+if i < 1152921504606846976 then 1 else 0⟩)⟩⟩:=by
  unfold fg at e1
  have q1:lH (decide (i < 1152921504606846976))=some (if i < 1152921504606846976 then 1 else 0):=by
   by_cases c:i < 1152921504606846976
   ·rw [decide_eq_true c,if_pos c]; rfl
   ·rw [decide_eq_false c,if_neg c]; rfl
  rw [show f.want=⟨f.want.l⟩ from rfl,Fe _ _ (by omega),aA,q1,aA,w64 (by split <;> omega) (by split <;> omega),qG hk f.want.l _ h.fs.w (by simp) (λx hx=>by rw [List.mem_singleton.1 hx]; dsimp only; split <;> omega),aA] at e1
  injection e1 with e1
  injection e1 with e4 e5
  exact ⟨by rw [Fc,h.r]; exact e4.symm,e5.symm⟩
 obtain ⟨hb1,hb2⟩:=hb
 unfold jI
 rw [wk y.l i (by omega),aA,<- hb1]
 cases b with
 | false =>
  rw [Bool.not_false,cond_true]
  refine ⟨false,f',y,e1,rfl,⟨e2,h.m,?_,?_,?_,?_⟩,λh=>(by cases h),λ_=>rfl,rfl⟩
  ·rw [hb2]; exact h.e
  ·rw [hb2]; exact h.d
  all_goals
   have hsame:oh f.want.l (fy ⟨i,i+if i < 1152921504606846976 then 1 else 0⟩)=f.want.l:=by
    obtain ⟨a1,a2⟩:=qM h.n (fy ⟨i,i+if i < 1152921504606846976 then 1 else 0⟩)
    refine wc a1 h.n λn=>(a2 n).trans ⟨λh=>h.1,λhn=>⟨hn,λhq=> ?_⟩⟩
    by_cases c:i < 1152921504606846976
    ·rw [if_pos c,s6 h0 (by omega) (by omega) (by omega)] at hq
     dsimp only at hq
     obtain rfl:n=i:=by omega
     rw [<- h.r,<- qH,<- hb1] at hn
     cases hn
    ·rw [if_neg c,Int.add_zero] at hq
     have:(fy ⟨i,i⟩).from_=(fy ⟨i,i⟩).to:=rfl
     omega
   rw [hb2]
  ·exact h.r.trans hsame.symm
  ·rw [hsame]; exact h.n
 | true =>
  obtain ⟨g1,g2⟩:=e3 rfl
  rw [Bool.not_true,cond_false,w64 (by omega) (by omega)]
  obtain ⟨r,r1,r2⟩:=An (l:=y.l) (lo:= -1) (by rw [h.r]; exact h.n) (by omega) ⟨i,i+1⟩
  rw [r1,aA]
  rw [if_pos g2] at hb2
  have hn:=(qM h.n (fy ⟨i,i+1⟩)).1
  refine ⟨true,f',_,e1,rfl,⟨e2,h.m,by rw [hb2]; exact h.e,by rw [hb2]; exact h.d,?_,by rw [hb2]; exact hn⟩,λ_=>⟨g1,g2⟩,λh=>(by cases h),rfl⟩
  rw [hb2]
  dsimp only
  rw [r2,h.r]
  rfl
theorem GA {k:Int} (hk:k<=100000) {f:bE} {y:bR} (h:FX k f y) (now len:Int): ∃ L f' y' R,eG f now len=some (L,f')/\iM y now len=some (y',R)/\FX k f' y'/\rsp R=L/\L.length<=8/\(∀ z∈L,0<=z.from_/\z.from_ < z.to/\z.to<=1152921504606846976)/\y'.every=y.every:=by
 obtain ⟨L,f',e1,e2,e3,e4⟩:=EU hk h.fs now len
 have hc:=h.fs.w.cnt
 obtain ⟨hl,_⟩:=h.len
 obtain ⟨r,r1,r2⟩:=EP (l:=y.l) (lo:= -1) (by rw [h.r]; exact h.n) (by omega) ⟨0,len⟩
 have hL:=sY f.want.l (fy ⟨0,len⟩)
 rw [h.r] at r2
 have e5:=e1
 unfold eG at e5
 unfold iM
 rw [show f.want=⟨f.want.l⟩ from rfl,ub f.want.l _ (by omega),aA] at e5
 rw [r1,aA]
 change rsp r=inL f.want.l (fy ⟨0,len⟩) at r2
 rw [<- r2] at e5 hL
 have hlr:(rsp r).length=r.length:=List.length_map _
 rw [hlr] at e5 hL
 rw [h.d,h.e]
 have hd: ∃ d:Bool,((bif ((r.length:Int) == 0) then some true else some (decide (now < f.due))):Option Bool)=some d:=by
  cases ((r.length:Int) == 0) <;> exact ⟨_,rfl⟩
 obtain ⟨d,hd⟩:=hd
 rw [hd,aA] at e5
 rw [hd,aA]
 cases d with
 | true =>
  rw [cond_true] at e5 ⊢
  injection e5 with e5
  injection e5 with e6 e7
  subst e6 e7
  exact ⟨[],f,y,[],e1,rfl,h,rfl,e3,e4,h.e⟩
 | false =>
  rw [cond_false] at e5 ⊢
  have i1:=fD (r.length:Int) 8
  rw [cX (by omega) (by omega) (by omega),aA] at e5
  injection e5 with e5
  injection e5 with e6 e7
  have hR: ∃ R,((bif (decide ((r.length:Int) > 8)) then (Option.bind (chk (eN 0 8 r.length)) λ_=>some (cut r 0 8)) else some r):Option (List aD))=some R/\rsp R=L:=by
   by_cases c:(r.length:Int) > 8
   ·rw [decide_eq_true c,cond_true,cX (by omega) (by omega) (by omega),aA]
    refine ⟨_,rfl,?_⟩
    rw [<- e6,show cB (r.length:Int) 8=8 by omega]
    show (cut r 0 8).map sp=cut (r.map sp) 0 8
    unfold cut
    rw [List.map_drop,List.map_take]
   ·rw [decide_eq_false c,cond_false]
    refine ⟨_,rfl,?_⟩
    rw [<- e6,show cB (r.length:Int) 8=(r.length:Int) by omega]
    unfold cut
    rw [List.take_of_length_le (by omega)]
    rfl
  obtain ⟨R,hR1,hR2⟩:=hR
  rw [hR1,aA]
  subst e7
  exact ⟨L,_,_,R,e1,rfl,⟨e2,h.m,rfl,rfl,h.r,h.n⟩,hR2,e3,e4,rfl⟩
theorem uj: ∀ (l:List aB) {s:List aB} {lo:Int},NF lo s->NF lo (mZ s l)
 | [],_,_,h=>h
 | x::l,s,lo,h=>uj l (qM h x).1
theorem Bn {k:Int} (l:List aD) (h:WS k (rsp l)) (hk:k<=1000000):ji l=some (eM (rsp l)):=by
 unfold ji
 have hlen:=h.len
 have hl:=h.l
 have hp:=DP h
 have hll:(rsp l).length=l.length:=List.length_map _
 refine eJ (λn:Nat=>(eM ((rsp l).take n),(n:Int))) l.length (eM (rsp l)) rfl (λn hn=> ?_) ?_ rfl
 ·dsimp only
  have hb:=h.b _ (List.getElem_mem (show n < (rsp l).length by omega))
  have h1:=hp n
  have h2:=hp (n+1)
  have e:(rsp l)[n]'(by omega)=sp l[n]:=List.getElem_map ..
  rw [e] at hb
  rw [List.take_succ_eq_append_getElem (by omega),kZ,e] at h2 ⊢
  have e2:eM [sp l[n]]=l[n].to - l[n].from_:=by show (sp l[n]).to - (sp l[n]).from_+0=_; simp [sp]
  rw [e2] at h2 ⊢
  change 0<=l[n].from_/\l[n].from_ < l[n].to/\l[n].to<=_ at hb
  rw [decide_eq_true (by omega),cond_true,bK l n hn,aA,w64 (x:=l[n].to - l[n].from_) (by omega) (by omega),w64 (x:=(n:Int)+1) (by omega) (by omega),w64 (by omega) (by omega)]
  rfl
 ·dsimp only
  rw [decide_eq_false (by omega),cond_false,List.take_of_length_le (by omega)]
theorem Ff {k:Int} (hk0:1<=k) (hk:k<=100000) {f:bE} {y:bR} (h:FX k f y) {x:aB} {x':aD} (hx:sp x'=x) {l:List aB} {l':List aD} (hll:rsp l'=l) (hl:l.length<=800000) (hb: ∀ z∈l,0<=z.to): ∃ n f' y',eO f x l=some (n,f')/\kQ y x' l'=some y'/\ji y'.l=some n/\FX k f' y'/\y'.every=y.every:=by
 obtain ⟨n,f',e1,e2⟩:=Dr hk0 hk h.fs x (l:=l) (by omega) hb
 have e5:=e1
 unfold eO at e5
 unfold kQ
 have hm:=h.fs.m
 have hlen:l'.length=l.length:=by rw [<- hll]; exact (List.length_map _).symm
 subst hx
 rw [show fJ (sp x').from_ 0 1152921504606846976=some (imax 0 (cB x'.from_ 1152921504606846976)) from rfl,aA,show fJ (sp x').to 0 1152921504606846976=some (imax 0 (cB x'.to 1152921504606846976)) from rfl,aA,show dB f=some ⟨f.most,f.every,0,⟨[]⟩⟩ from rfl,aA] at e5
 dsimp only at e5
 rw [h.m]
 rw [hm] at e5
 have a1:=fD x'.from_ 1152921504606846976
 have a2:=fQ 0 (cB x'.from_ 1152921504606846976)
 have a3:=fD x'.to 1152921504606846976
 have a4:=fQ 0 (cB x'.to 1152921504606846976)
 generalize imax 0 (cB x'.from_ 1152921504606846976)=a at a1 a2 e5 ⊢
 generalize imax 0 (cB x'.to 1152921504606846976)=b at a3 a4 e5 ⊢
 have a5:=fD b (a+k)
 rw [w64 (x:=a+k) (by omega) (by omega)] at e5 ⊢
 rw [oW [] _ (by simp) (λy hy=>by rw [List.mem_singleton.1 hy]; refine ⟨?_,?_,?_,?_⟩ <;> (dsimp only; omega)),aA] at e5
 obtain ⟨r,r1,r2⟩:=Am (l:=[]) (lo:= -1) trivial (by simp) ⟨a,cB b (a+k)⟩
 have hfit:fy (sp ⟨a,cB b (a+k)⟩)=⟨a,cB b (a+k)⟩:=show fy (⟨a,cB b (a+k)⟩:aB)=_ from s6 (by omega) (by omega) (by omega) (by omega)
 have r3:rsp r=gu [] [⟨a,cB b (a+k)⟩]:=by
  rw [r2,hfit]
  rfl
 rw [r1,aA]
 have hw:WS k (gu [] [⟨a,cB b (a+k)⟩])/\NF (-1) (gu [] [⟨a,cB b (a+k)⟩]):=by
  show WS k (if _ then _ else _)/\NF (-1) (if _ then _ else _)
  split
  ·exact ⟨WS.nil (by omega),trivial⟩
  ·rename_i c
   dsimp only at c
   refine ⟨⟨λy hy=> ?_,?_⟩,?_⟩
   ·rw [List.mem_singleton.1 (show y∈[_] from hy)]; dsimp only; omega
   ·show cB b (a+k) - a+0<=k; omega
   ·exact ⟨by dsimp only; omega,by dsimp only; omega,trivial⟩
 rw [<- r3] at hw e5
 obtain ⟨hw1,hw2⟩:=hw
 have hw3: ∀ n,WS k (mZ (rsp r) ((l.take n).map fy)):=λn=>hw1.Dd λy hy=>by
  obtain ⟨z,hz,rfl⟩:=List.mem_map.1 hy
  exact sX (hb z (List.mem_of_mem_take hz))
 have hfin:=hw3 l.length
 rw [List.take_of_length_le (Nat.le_refl _)] at hfin
 rw [qG hk (rsp r) l hw1 (by omega) hb,aA,wj hfin (by omega),aA] at e5
 injection e5 with e5
 injection e5 with e6 e7
 have key: ∀ n,n<=l'.length -> ∃ q:List aD,rsp q=mZ (rsp r) ((l.take n).map fy) /\ ∀ j,n+j=l'.length->iter (σ:=bR×Int) (ρ:=bR) (λd=>(bif (decide (d.2 < (l'.length:Int))) then (Option.bind (idx l' d.2) λg=>(Option.bind (iL d.1.l g) λi=>some (.inl ((bR.mk d.1.most d.1.every d.1.due i),(IntKind.i64.wrap (d.2+1)))))) else some (.inr d.1))) ((bR.mk k y.every 0 r),0)=iter (σ:=bR×Int) (ρ:=bR) (λd=>(bif (decide (d.2 < (l'.length:Int))) then (Option.bind (idx l' d.2) λg=>(Option.bind (iL d.1.l g) λi=>some (.inl ((bR.mk d.1.most d.1.every d.1.due i),(IntKind.i64.wrap (d.2+1)))))) else some (.inr d.1))) ((bR.mk k y.every 0 q),(n:Int)):=by
  intro n
  induction n with
  | zero=>intro _; exact ⟨r,rfl,λj _=>rfl⟩
  | succ n ih =>
   intro hn
   obtain ⟨q,q1,q2⟩:=ih (by omega)
   have hq:NF (-1) (rsp q):=by rw [q1]; exact uj _ hw2
   have hq2:=(hw3 n).cnt
   rw [<- q1] at hq2
   have hq3:(rsp q).length=q.length:=List.length_map _
   obtain ⟨q',p1,p2⟩:=An hq (by omega) l'[n]
   have e:l[n]'(by omega)=sp l'[n]:=by subst hll; exact List.getElem_map ..
   refine ⟨q',?_,λj hj=> ?_⟩
   ·rw [p2,q1,List.take_succ_eq_append_getElem (by omega),List.map_append,e]
    show _=List.foldl _ _ _
    rw [List.foldl_append]
    rfl
   ·rw [q2 (j+1) (by omega)]
    refine bY ?_
    dsimp only
    rw [decide_eq_true (by omega),cond_true,bK l' n (by omega),aA,p1,aA,w64 (by omega) (by omega)]
    rfl
 obtain ⟨q,q1,q2⟩:=key l'.length (Nat.le_refl _)
 rw [hlen,List.take_of_length_le (Nat.le_refl _)] at q1
 rw [q2 0 (by omega),bD (r:=(bR.mk k y.every 0 q)) (by dsimp only; rw [decide_eq_false (by omega)]; rfl),aA]
 subst e7
 refine ⟨n,_,_,e1,rfl,?_,⟨e2,rfl,h.e,rfl,q1,uj _ hw2⟩,rfl⟩
 dsimp only
 rw [Bn q (by rw [q1]; exact hfin) (by omega),q1,e6]
theorem xU {σ τ ρ π:Type} {f:σ->Option (σ ⊕ ρ)} {g:τ->Option (τ ⊕ π)} (R:σ->τ->Prop) (m:σ->Nat) (nh:ρ->π->Prop)
  (h: ∀ s t,R s t->(∃ s' t',f s=some (.inl s')/\g t=some (.inl t')/\R s' t'/\m s' < m s)\/(∃ r p,f s=some (.inr r)/\g t=some (.inr p)/\nh r p)): ∀ s t,R s t -> ∃ r p,iter f s=some r/\iter g t=some p/\nh r p:=by
 have key: ∀ k s t,m s<=k->R s t -> ∃ r p,iter f s=some r/\iter g t=some p/\nh r p:=by
  intro k
  induction k with
  | zero =>
   intro s t hk hR
   rcases h s t hR with ⟨s',t',_,_,_,h4⟩ | ⟨r,p,h1,h2,h3⟩
   ·omega
   ·exact ⟨r,p,bD h1,bD h2,h3⟩
  | succ k ih =>
   intro s t hk hR
   rcases h s t hR with ⟨s',t',h1,h2,h3,h4⟩ | ⟨r,p,h1,h2,h3⟩
   ·rw [bY h1,bY h2]
    exact ih s' t' (by omega) h3
   ·exact ⟨r,p,bD h1,bD h2,h3⟩
 exact λs t=>key (m s) s t (Nat.le_refl _)
theorem GC (s:ByteArray):(!(s.toList == (ByteArray.mk #[]).toList))=decide ((s.size:Int) > 0):=by
 rw [EX]
 by_cases c:s=noS
 ·rw [decide_eq_true c,c]; rfl
 ·rw [decide_eq_false c,decide_eq_true]
  ·rfl
  ·refine Int.natCast_pos.2 (Nat.pos_of_ne_zero λh=>c ?_)
   have h2:s.data.size=0:=h
   obtain ⟨d⟩:=s
   exact congrArg ByteArray.mk (Array.eq_empty_of_size_eq_zero h2)
theorem Bo (g:aV) (y:bA) (y1:y.kind=g.kind) (y2:y.aX=g.aX) (y3:y.data=g.data) (hd:g.data.size<=10000) (hn: ∀ n∈g.aX,0<=n/\n<=4611686018427387904): ∃ first l e,iQ g=some (first,l,e)/\jU y=some (first,l.map λx=>x.map tg,e)/\(0<=first/\first<=4611686018427387904)/\l.length<=10000/\(∀ x∈l,x.length<=1024 /\ ∀ g∈x,rok g.rune)/\e≠4:=by
 unfold iQ jU
 rw [y1,y2,y3]
 by_cases k1:g.kind=4
 ·rw [show (g.kind != 4)=false by simp [k1],cond_false,cond_false]
  by_cases k2:g.aX.length=2
  ·rw [show ((g.aX.length:Int) != 2)=false by rw [k2]; rfl,cond_false,cond_false,show kI g.data=some ⟨g.data,0⟩ from rfl,aA]
   have i0:idx g.aX 0=some g.aX[0]:=bK g.aX 0 (by omega)
   have i1:idx g.aX 1=some g.aX[1]:=bK g.aX 1 (by omega)
   have r0:=hn _ (List.getElem_mem (show 0 < g.aX.length by omega))
   have hit:=xU (σ:=aG×List (List aM)) (τ:=aW×List (List aQ)) (f:=λs136:aG×List (List aM)=>((Option.bind ((Option.bind (kd s136.1) λj=>(bif (decide (j > 0)) then (Option.bind (idx g.aX 1) λo=>some (decide ((s136.2.length:Int) < o))) else some false)):Option Bool) λu=>(bif u then (Option.bind (iK s136.1) λa=>(Option.bind (chk (cQ s136.2.length [a.1].length 24)) λ_=>some (.inl (a.2,(s136.2++[a.1]))))) else some (.inr (s136.2,s136.1)))):Option ((aG×List (List aM)) ⊕ ((List (List aM))×aG))))
    (g:=λs120:aW×List (List aQ)=>((Option.bind ((bif (!(s120.1.s.toList == (ByteArray.mk #[]).toList)) then (Option.bind (idx g.aX 1) λv=>some (decide ((s120.2.length:Int) < v))) else some false):Option Bool) λw=>(bif w then (Option.bind (gS s120.1) λb=>(Option.bind (chk (cQ s120.2.length [b.2].length 24)) λ_=>some (.inl (b.1,(s120.2++[b.2]))))) else some (.inr (s120.2,s120.1)))):Option ((aW×List (List aQ)) ⊕ ((List (List aQ))×aW))))
    (λs t=>t=(asR s.1,s.2.map λx=>x.map tg)/\VI s.1/\s.2.length+s.1.s.size<=10000/\(∀ x∈s.2,x.length<=1024 /\ ∀ g∈x,rok g.rune)/\s.1.e≠4) (λs=>s.1.s.size)
    (λr p=>p=(r.1.map λx=>x.map tg,asR r.2)/\VI r.2/\r.1.length<=10000/\(∀ x∈r.1,x.length<=1024 /\ ∀ g∈x,rok g.rune)/\r.2.e≠4) (by
    rintro ⟨i,l⟩ t ⟨rfl,h1,h2,h3,h4⟩
    dsimp only at h1 h2 h3 h4 ⊢
    rw [show kd i=some (i.s.size:Int) from rfl,aA,i1,aA,aA,List.length_map,GC]
    simp only [show (asR i).s=i.s from rfl]
    by_cases c:(i.s.size:Int) > 0/\(l.length:Int) < g.aX[1]
    ·left
     have hlt:=G0 h1 (by omega)
     rw [decide_eq_true c.1,cond_true,decide_eq_true c.2,aA,cond_true,aA,cond_true,xu i h1,aA,bQ (by simp; omega),aA,u7 i h1,aA,bQ (by simp; omega),aA]
     refine ⟨_,_,rfl,rfl,⟨by rw [List.map_append]; rfl,rG h1,by simp; omega,λx hx=> ?_,Fw h4⟩,hlt⟩
     rcases List.mem_append.1 hx with hx | hx
     ·exact h3 x hx
     ·rw [List.mem_singleton.1 hx]; exact ⟨Gq h1,(Cm h1).1⟩
    ·right
     have:((bif (decide ((i.s.size:Int) > 0)) then some (decide ((l.length:Int) < g.aX[1])) else some false):Option Bool)=some false:=by
      by_cases d:(i.s.size:Int) > 0
      ·rw [decide_eq_true d,cond_true,decide_eq_false (λe=>c ⟨d,e⟩)]
      ·rw [decide_eq_false d,cond_false]
     rw [this,aA,cond_false,aA,cond_false]
     exact ⟨_,_,rfl,rfl,rfl,h1,by dsimp only; omega,h3,h4⟩) (⟨g.data,0⟩,[]) (⟨g.data,0⟩,[]) ⟨rfl,⟨by dsimp only; omega,.inl rfl⟩,by dsimp only; simp; omega,(λx hx=>by cases hx),(by decide:(0:Int)≠4)⟩
   obtain ⟨⟨l,i⟩,p,e1,e2,rfl,e3,e4,e5,e6⟩:=hit
   refine Exists.imp (λfirst=>Exists.imp λl'=>Exists.imp λe' (h:_/\_/\_)=>⟨(congrArg (λz=>Option.bind z _) e1).trans h.1,(congrArg (λz=>Option.bind z _) e2).trans h.2.1,h.2.2⟩) (?_: ∃ first l' e',_/\_/\_)
   rw [aA,aA]
   dsimp only at e3 e4 e5 e6 ⊢
   replace e6:=DG e6
   rw [vP,aA,z7 i e3,aA]
   generalize jL i=E at e6 ⊢
   rw [i1,aA,aA,i0,aA,aA,List.length_map]
   by_cases d:E=0
   ·subst d
    rw [show ((0:Int) == 0)=true from rfl,cond_true,aA,show ((0:Int) != 0)=false from rfl,cond_false]
    cases ((l.length:Int) != g.aX[1]) with
    | true=>exact ⟨0,[],1,rfl,rfl,by decide,Nat.zero_le _,(λx hx=>by cases hx),by decide⟩
    | false=>exact ⟨_,_,_,rfl,rfl,r0,e4,e5,by decide⟩
   ·rw [show (E == 0)=false by simpa using d,cond_false,aA,cond_false,aA,show (E != 0)=true by simpa using d,cond_true,cond_true]
    exact ⟨0,[],E,rfl,rfl,by decide,Nat.zero_le _,(λx hx=>by cases hx),e6⟩
  ·rw [show ((g.aX.length:Int) != 2)=true by simp; omega,cond_true,cond_true]
   exact ⟨0,[],1,rfl,rfl,by decide,Nat.zero_le _,(λx hx=>by cases hx),by decide⟩
 ·rw [show (g.kind != 4)=true by simpa using k1,cond_true,cond_true]
  exact ⟨0,[],5,rfl,rfl,by decide,Nat.zero_le _,(λx hx=>by cases hx),by decide⟩
structure KX (k N:Int) (q:Nat) (c:aH) (x:aL):Prop where
 cc:c.config.cache=k
 ep:0<=c.aT/\c.aT<=4294967296
 tk:TK 4611686018427387904 c.aS
 ln:CX k N c.lines x.l
 ft:FX k c.bS x.f
 tp:TP c.aS x.t q
 m:x.most=k
 ev:x.every=c.config.every
 fe:x.f.every=x.every
 ad:x.addr=c.config.addr
 e:x.aT=c.aT
 d:x.due=c.due
theorem KX.more {k N M:Int} {q r:Nat} {c:aH} {x:aL} (h:KX k N q c x) (hm:N<=M) (hr:q<=r):KX k M r c x:=⟨h.cc,h.ep,h.tk,h.ln.more hm,h.ft,h.tp.more hr,h.m,h.ev,h.fe,h.ad,h.e,h.d⟩
theorem GD (a b d:Int): ∃ c x,iT ⟨a,b,d⟩=some c/\lN ⟨a,b,d⟩=some x/\KX (imax 1 (cB a 65536)) 0 0 c x:=by
 have hk:=Bl (a:=a)
 have hb:imax 1 (cB (imax 1 (cB b 1048576)) 1048576)=imax 1 (cB b 1048576):=by
  unfold imax cB
  (repeat' split) <;> omega
 obtain ⟨l,l1,l2⟩:=Gs (imax 1 (cB a 65536))
 obtain ⟨f,f1,f2,f3⟩:=Gy (imax 1 (cB a 65536)) (imax 1 (cB b 1048576))
 rw [hk.2.2] at l2 f3
 rw [hb] at f3
 unfold iT lN
 rw [show dK a 1 65536=some (imax 1 (cB a 65536)) from rfl,aA,show dK b 1 1048576=some (imax 1 (cB b 1048576)) from rfl,aA,show dK d 0 4294967296=some (imax 0 (cB d 4294967296)) from rfl,aA,show lJ=some ⟨⟨0,0,none,0⟩,jc⟩ from rfl,aA,l1,aA,f1,aA]
 refine ⟨_,_,rfl,rfl,rfl,⟨Int.le_refl _,?_⟩,DL,l2,f3,DI,rfl,rfl,rfl,rfl,rfl,rfl⟩
 show (0:Int)<=_
 omega
theorem Fg {k N:Int} {q:Nat} {c:aH} {x:aL} (h:KX k N q c x) (hk:0<=k) {e:Int} (he:0<=e/\e<=4294967296): ∃ c',eP c e=some c'/\KX k N q c' (aL.mk x.most x.every x.addr e x.due (dL.mk (bJ.mk 0 0 0 0 0 (ByteArray.mk #[]) ([]:List bN) 0 0 ([]:List aQ)) (cM.mk 0 ([]:List Bool) ([]:List ByteArray))) (bX.mk x.most ([]:List dP)) (bR.mk x.most x.every 0 ([]:List aD))):=by
 obtain ⟨l,l1,l2⟩:=DM hk h.ln
 obtain ⟨f,f1,f2⟩:=DR hk h.ft
 unfold eP
 rw [show ir c.aS=some ⟨⟨0,0,none,0⟩,jc⟩ from rfl,aA,l1,aA,f1,aA,h.m]
 rw [h.fe] at f2
 exact ⟨_,rfl,h.cc,he,DL,l2,f2,DI.more (Nat.zero_le _),rfl,h.ev,rfl,h.ad,rfl,h.d⟩
theorem Fh {k N:Int} {q:Nat} {c:aH} {x:aL} (h:KX k N q c x) (hk:0<=k/\k<=65536) (hN:0<=N/\N<=900000000) {g:aV} {y:bA} (y1:y.kind=g.kind) (y2:y.aX=g.aX) (y3:y.data=g.data) (hd:g.data.size<=10000) (hn: ∀ n∈g.aX,0<=n/\n<=4611686018427387904): ∃ e c' x',fB c g=some (e,c')/\(Option.bind (jU y) λu=>(Option.bind (iter (σ:=aL×Int) (ρ:=aL) (λo=>(bif (decide (o.2 < (u.2.1.length:Int))) then (Option.bind ((Option.bind (idx u.2.1 o.2) λB=>(Option.bind (jI o.1.f (IntKind.i64.wrap (u.1+o.2))) λA=>(bif A.2 then (Option.bind (jH o.1.l (IntKind.i64.wrap (u.1+o.2)) B) λC=>some (aL.mk o.1.most o.1.every o.1.addr o.1.aT o.1.due o.1.t C.1 A.1)) else some o.1))):Option aL) λD=>some (.inl (D,(IntKind.i64.wrap (o.2+1))))) else some (.inr o.1))) (x,0)) λG=>some (G,u.2.2)))=some (x',e)/\KX k (N+10000) q c' x'/\x'.aT=x.aT/\e≠4/\c'.aS=c.aS/\c'.aT=c.aT:=by
 obtain ⟨first,l,e,r1,r2,r3,r4,r5,r6⟩:=Bo g y y1 y2 y3 hd hn
 unfold fB
 rw [r1,r2,aA,aA]
 dsimp only
 have hit:=xU (σ:=aP×bE×Int) (τ:=aL×Int) (f:=λs165:aP×bE×Int=>((bif (decide (s165.2.2 < (l.length:Int))) then (Option.bind ((Option.bind (idx l s165.2.2) λH=>(Option.bind (fg s165.2.1 (IntKind.i64.wrap (first+s165.2.2))) λE=>(bif E.1 then (Option.bind (gb s165.1 (IntKind.i64.wrap (first+s165.2.2)) H) λI=>some (I.2.2,E.2)) else some (s165.1,E.2)))):Option (aP×bE)) λF=>some (.inl (F.1,F.2,(IntKind.i64.wrap (s165.2.2+1))))) else some (.inr (s165.1,s165.2.1))):Option ((aP×bE×Int) ⊕ (aP×bE))))
  (g:=λo:aL×Int=>((bif (decide (o.2 < ((l.map λx=>x.map tg).length:Int))) then (Option.bind ((Option.bind (idx (l.map λx=>x.map tg) o.2) λB=>(Option.bind (jI o.1.f (IntKind.i64.wrap (first+o.2))) λA=>(bif A.2 then (Option.bind (jH o.1.l (IntKind.i64.wrap (first+o.2)) B) λC=>some (aL.mk o.1.most o.1.every o.1.addr o.1.aT o.1.due o.1.t C.1 A.1)) else some o.1))):Option aL) λD=>some (.inl (D,(IntKind.i64.wrap (o.2+1))))) else some (.inr o.1)):Option ((aL×Int) ⊕ aL)))
  (λs t=> ∃ n:Nat,s.2.2=n/\t.2=n/\n<=l.length/\CX k (N+n) s.1 t.1.l/\FX k s.2.1 t.1.f/\t.1.f.every=x.f.every/\t.1=⟨x.most,x.every,x.addr,x.aT,x.due,x.t,t.1.l,t.1.f⟩) (λs=>l.length - s.2.2.toNat)
  (λr p=>CX k (N+10000) r.1 p.l/\FX k r.2 p.f/\p.f.every=x.f.every/\p=⟨x.most,x.every,x.addr,x.aT,x.due,x.t,p.l,p.f⟩) (by
  rintro ⟨a,f,i⟩ ⟨z,j⟩ ⟨n,h1,h1',h2,h3,h4,h5,h6⟩
  dsimp only at h1 h1' h3 h4 h5 h6 ⊢
  subst h1 h1'
  rw [List.length_map]
  by_cases d:n < l.length
  ·left
   obtain ⟨b,f',y',g1,g1',g2,g3,g4,g5⟩:=Gz (by omega) h4 (i:=first+n) (by omega) (by omega)
   rw [decide_eq_true (by omega),cond_true,cond_true,bK l n d,bK _ n (by rw [List.length_map]; exact d),aA,aA,List.getElem_map,w64 (x:=first+(n:Int)) (by omega) (by omega),g1,g1',aA,aA]
   dsimp only
   cases b with
   | true =>
    have hln:=r5 _ (List.getElem_mem d)
    obtain ⟨v,w,a',x',p1,p1',p2⟩:=Gt h3 (by omega) (by omega) (g3 rfl) (l:=l[n]) (by omega) hln.2
    rw [cond_true,p1,aA,cond_true,p1',aA,aA,aA,w64 (by omega) (by omega)]
    refine ⟨_,_,rfl,rfl,⟨n+1,rfl,rfl,d,p2.more (by omega),g2,g5.trans h5,?_⟩,by dsimp only; omega⟩
    dsimp only
    rw [h6]
   | false =>
    rw [cond_false,aA,cond_false,aA,w64 (by omega) (by omega)]
    obtain rfl:=g4 rfl
    exact ⟨_,_,rfl,rfl,⟨n+1,rfl,rfl,d,h3.more (by omega),g2,h5,h6⟩,by dsimp only; omega⟩
  ·right
   rw [decide_eq_false (by omega),cond_false,cond_false]
   exact ⟨_,_,rfl,rfl,h3.more (by omega),h4,h5,h6⟩) (c.lines,c.bS,0) (x,0) ⟨0,rfl,rfl,Nat.zero_le _,h.ln.more (by omega),h.ft,rfl,rfl⟩
 obtain ⟨⟨a,f⟩,p,e1,e2,e3,e4,e5,e6⟩:=hit
 refine ⟨e,_,p,(congrArg (λz=>Option.bind z _) e1).trans rfl,(congrArg (λz=>Option.bind z _) e2).trans rfl,?_,by rw [e6],r6,rfl,rfl⟩
 exact ⟨h.cc,h.ep,h.tk,e3,e4,by rw [e6]; exact h.tp,by rw [e6]; exact h.m,by rw [e6]; exact h.ev,by rw [e5,h.fe,e6],by rw [e6]; exact h.ad,by rw [e6]; exact h.e,by rw [e6]; exact h.d⟩
theorem Fi {k N:Int} {q:Nat} {c:aH} {x:aL} (h:KX k N q c x) (hk:0<=k/\k<=65536) (hN:0<=N/\N<=900000000) (hq:q<=10600) (now:Int) {s:ByteArray} (hs:s.size<=400): ∃ e c' x',dT c now s=some (e,c')/\kR x s=some (x',e)/\KX k (N+10000) (q+400) c' x'/\x.aT<=x'.aT/\(e=4->x'=x)/\(c'.aT=c.aT->c.aS.aK.k<=c'.aS.aK.k):=by
 unfold dT kR
 rw [rH (by omega),aA,CY (by omega),aA]
 dsimp only
 by_cases p0:(kc s).2=0
 ·obtain ⟨r1,r2,r3,r4⟩:=DK p0
  obtain ⟨q1,q2,q3,q4⟩:=Bk r1
  have hdat:(kc s).1.data.size<=400:=by rw [r4]; exact Nat.le_trans (qgD r2 r3) hs
  rw [show ((kc s).2 != 0)=false by simp [p0],cond_false,cond_false]
  generalize (kc s).1=g at q1 q2 q3 q4 hdat ⊢
  rw [show (nL g).kind=g.kind from rfl,show (nL g).aT=g.aT from rfl,h.e]
  by_cases c1:g.kind=1\/g.kind=4
  ·have hb:((bif (g.kind != 1) then some (g.kind != 4) else some false):Option Bool)=some false:=by
    rcases c1 with c1 | c1 <;> rw [c1] <;> rfl
   rw [hb,aA,cond_false,aA,cond_false]
   by_cases c2:g.aT < c.aT
   ·rw [decide_eq_true c2,cond_true,cond_true]
    exact ⟨8,_,_,rfl,rfl,h.more (by omega) (by omega),Int.le_of_eq h.e.symm,λ_=>rfl,λ_=>Int.le_refl _⟩
   ·rw [decide_eq_false c2,cond_false,cond_false]
    obtain ⟨d,z,d1,z1,d2,d3,d4⟩: ∃ d z,((bif (decide (g.aT > c.aT)) then (Option.bind (eP c g.aT) λa=>some (.inl a)) else some (.inl c)):Option (aH ⊕ (Int×aH)))=some (.inl d)/\((bif (decide (g.aT > c.aT)) then some (aL.mk x.most x.every x.addr g.aT x.due (dL.mk (bJ.mk 0 0 0 0 0 (ByteArray.mk #[]) ([]:List bN) 0 0 ([]:List aQ)) (cM.mk 0 ([]:List Bool) ([]:List ByteArray))) (bX.mk x.most ([]:List dP)) (bR.mk x.most x.every 0 ([]:List aD))) else some x):Option aL)=some z/\KX k N q d z/\x.aT<=z.aT/\(d.aT=c.aT->d=c):=by
     by_cases c3:g.aT > c.aT
     ·obtain ⟨d,e1,e2⟩:=Fg h hk.1 (e:=g.aT) (by omega)
      rw [decide_eq_true c3,cond_true,e1,aA,cond_true]
      exact ⟨d,_,rfl,rfl,e2,by dsimp only; rw [h.e]; omega,λhh=>by have:=e2.e; dsimp only at this; omega⟩
     ·rw [decide_eq_false c3,cond_false,cond_false]
      exact ⟨c,x,rfl,rfl,h,Int.le_refl _,λ_=>rfl⟩
    rw [d1,aA,z1,aA]
    dsimp only
    by_cases c4:g.kind=4
    ·obtain ⟨e,d',z',e1,e1',e2,e3,e4,e5,e6⟩:=Fh d2 hk hN (g:=g) (y:=nL g) rfl rfl rfl (by omega) q4
     rw [show (g.kind == 4)=true by simpa using c4,cond_true,show (g.kind == 1)=false by rw [c4]; rfl,cond_false,e1,aA,e1']
     exact ⟨_,_,_,rfl,rfl,e2.more (Int.le_refl _) (by omega),by rw [e3,<- h.e]; exact d3,λh=>absurd h e4,λhh=>by dsimp only at hh ⊢; rw [e5,d4 (e6.symm.trans hh)]; exact Int.le_refl _⟩
    ·have c5:g.kind=1:=by omega
     obtain ⟨e,t',x',e1,e1',e3,e4,e5⟩:=DJ 400 (by decide) (g:=g) (y:=nL g) d2.tp hq rfl rfl rfl hdat
     rw [show (g.kind == 4)=false by simpa using c4,cond_false,show (g.kind == 1)=true by rw [c5]; rfl,cond_true,e1,aA,e1',aA]
     exact ⟨_,_,_,rfl,rfl,⟨d2.cc,d2.ep,e4 _ d2.tk q4,d2.ln.more (by omega),d2.ft,e3,d2.m,d2.ev,d2.fe,d2.ad,d2.e,d2.d⟩,(by rw [<- h.e]; exact d3),(λh=>absurd h e5.1),λhh=>by rw [<- d4 hh]; exact e5.2⟩
  ·have hb:((bif (g.kind != 1) then some (g.kind != 4) else some false):Option Bool)=some true:=by
    rw [show (g.kind != 1)=true by simp; omega,cond_true,show (g.kind != 4)=true by simp; omega]
   rw [hb,aA,cond_true,aA,cond_true]
   exact ⟨5,_,_,rfl,rfl,h.more (by omega) (by omega),Int.le_of_eq h.e.symm,λ_=>rfl,λ_=>Int.le_refl _⟩
 ·rw [show ((kc s).2 != 0)=true by simpa using p0,cond_true,cond_true]
  exact ⟨_,_,_,rfl,rfl,h.more (by omega) (by omega),Int.le_refl _,λ_=>rfl,λ_=>Int.le_refl _⟩
def gpE (e:Int) (g:aV):ByteArray:=tV ⟨imax 1 e,g.kind,g.aX,g.data⟩
theorem xV (e:Int) (l:List aV) (hl:l.length<=1000) (h: ∀ g∈l,g.aX.length<=1000/\g.data.size<=1000):iter (σ:=Int×(List ByteArray)) (ρ:=(List ByteArray)) (λa=>(bif (decide (a.1 < (l.length:Int))) then (Option.bind (idx l a.1) λb=>(Option.bind (dZ (aV.mk (imax 1 e) b.kind b.aX b.data)) λc=>(Option.bind (chk (cQ a.2.length [c].length 16)) λ_=>some (.inl ((IntKind.i64.wrap (a.1+1)),(a.2++[c])))))) else some (.inr a.2))) (0,[])=some (l.map (gpE e)):=by
 refine mi (λn:Nat=>((n:Int),(l.take n).map (gpE e))) l.length _ (λn hn=> ?_) ?_
 ·dsimp only
  have hg:=h _ (List.getElem_mem hn)
  rw [decide_eq_true (by omega),cond_true,bK l n hn,aA,tZ (by dsimp only; omega) (by dsimp only; omega),aA,bQ (by simp; omega),aA,w64 (by omega) (by omega),List.take_succ_eq_append_getElem hn,List.map_append]
  rfl
 ·dsimp only
  rw [decide_eq_false (by omega),cond_false,List.take_of_length_le (Nat.le_refl _)]
def ftS (R:List aB):List Int:=R.flatMap λx=>[x.from_,x.to]
theorem s7: ∀ l:List aB,(ftS l).length=2*l.length
 | []=>rfl
 | y::l=>by
  have:=s7 l
  unfold ftS at this ⊢
  simp only [List.flatMap_cons,List.length_append,this,List.length_cons,List.length_nil]
  omega
theorem Fj (R:List aB) (hR:R.length<=1000):iter (σ:=Int×(List Int)) (ρ:=(List Int)) (λa=>(bif (decide (a.1 < (R.length:Int))) then (Option.bind (idx R a.1) λb=>(Option.bind (chk (cQ a.2.length [b.from_,b.to].length 8)) λ_=>some (.inl ((IntKind.i64.wrap (a.1+1)),(a.2++[b.from_,b.to]))))) else some (.inr a.2))) (0,[])=some (ftS R):=by
 refine mi (λn:Nat=>((n:Int),ftS (R.take n))) R.length _ (λn hn=> ?_) ?_
 ·dsimp only
  have:=s7 (R.take n)
  rw [List.length_take] at this
  rw [decide_eq_true (by omega),cond_true,bK R n hn,aA,bQ (by simp only [List.length_cons,List.length_nil]; omega),aA,w64 (by omega) (by omega),List.take_succ_eq_append_getElem hn]
  unfold ftS
  rw [List.flatMap_append]
  rfl
 ·dsimp only
  rw [decide_eq_false (by omega),cond_false,List.take_of_length_le (Nat.le_refl _)]
theorem DS (e:Int) (R:List aD) (hR:R.length<=1000):iter (σ:=bA×Int) (ρ:=bA) (λa=>(bif (decide (a.2 < (R.length:Int))) then (Option.bind (idx R a.2) λb=>(Option.bind (chk (cQ a.1.aX.length [b.from_,b.to].length 8)) λ_=>some (.inl ((bA.mk a.1.aT a.1.kind (a.1.aX++[b.from_,b.to]) a.1.data),(IntKind.i64.wrap (a.2+1)))))) else some (.inr a.1))) ((bA.mk (imax 1 e) 3 ([]:List Int) (ByteArray.mk #[])),0)=some ⟨imax 1 e,3,ftS (rsp R),noS⟩:=by
 refine mi (λn:Nat=>(bA.mk (imax 1 e) 3 (ftS (rsp (R.take n))) noS,(n:Int))) R.length _ (λn hn=> ?_) ?_
 ·dsimp only
  have:=s7 (rsp (R.take n))
  simp only [rsp,List.length_map,List.length_take] at this
  rw [decide_eq_true (by omega),cond_true,bK R n hn,aA,bQ (by simp only [rsp,List.length_cons,List.length_nil]; omega),aA,w64 (by omega) (by omega),List.take_succ_eq_append_getElem hn]
  unfold ftS rsp
  rw [List.map_append,List.flatMap_append]
  rfl
 ·dsimp only
  rw [decide_eq_false (by omega),cond_false,List.take_of_length_le (Nat.le_refl _)]
theorem wz {k N:Int} {q:Nat} {c:aH} {x:aL} (h:KX k N q c x) (hk:k<=65536) (now:Int): ∃ L c' x',cU c now=some (L,c')/\gW x now=some (x',L)/\KX k N q c' x'/\L.length<=2:=by
 obtain ⟨l,hs⟩:=h.tp.sr
 obtain ⟨a,a1,a2⟩:=Gr h.tp h.tk
 have a3:=y9 hs
 rw [a1] at a3
 injection a3 with a3
 have a4:=E7 x.t (by rw [hs.hl]; have:=hs.le; omega)
 rw [DA hs.has,h.tp.hv,hs.key,show (fN c.aS.aK).k=c.aS.aK.k from rfl] at a4
 have a5:gV x.t=some (nL a):=by rw [a4,a3]; rfl
 have hpk: ∀ g:aV,g.aX.length<=1000->g.data.size<=1000->eI ⟨imax 1 c.aT,g.kind,g.aX,g.data⟩=some (gpE c.aT g):=λg h1 h2=>Bb (g:=⟨imax 1 c.aT,g.kind,g.aX,g.data⟩) (by dsimp only; omega) (by dsimp only; omega)
 have han:=a2.n
 have had:=a2.d
 obtain ⟨G,d,z,e1,f1,g1,g2,d1,d2,d3,z1,z2⟩: ∃ G d z,((bif (decide (now>=c.due)) then (Option.bind (dR (aZ.mk c.aS.slot c.aS.aK)) λo=>(Option.bind (chk (cQ ([]:List aV).length [o].length 56)) λ_=>some ((([]:List aV)++[o]),(aH.mk c.config c.aT (IntKind.i64.wrap (now+c.config.every)) (aZ.mk c.aS.slot c.aS.aK) c.lines c.bS)))) else some ([],(aH.mk c.config c.aT c.due (aZ.mk c.aS.slot c.aS.aK) c.lines c.bS))):Option ((List aV)×aH))=some (G,d)/\((bif (decide (now>=c.due)) then (Option.bind (gV x.t) λi=>(Option.bind (eI (bA.mk (imax 1 c.aT) i.kind i.aX i.data)) λj=>(Option.bind (chk (cQ ([]:List ByteArray).length [j].length 16)) λ_=>some ((([]:List ByteArray)++[j]),(aL.mk x.most x.every x.addr c.aT (IntKind.i64.wrap (now+x.every)) x.t x.l x.f))))) else some (([]:List ByteArray),⟨x.most,x.every,x.addr,c.aT,c.due,x.t,x.l,x.f⟩)):Option ((List ByteArray)×aL))=some (G.map (gpE c.aT),z)/\G.length<=1/\(∀ g∈G,g.aX.length<=1000/\g.data.size<=1000)/\d.config=c.config/\d.aT=c.aT/\z.due=d.due/\z=⟨x.most,x.every,x.addr,c.aT,z.due,x.t,x.l,x.f⟩/\True:=by
  by_cases b:now>=c.due
  ·rw [decide_eq_true b,cond_true,show aZ.mk c.aS.slot c.aS.aK=c.aS from rfl,a1,aA,bQ (by simp),aA,cond_true,a5,aA]
   have:=hpk a (by omega) (by omega)
   rw [show eI (bA.mk (imax 1 c.aT) (nL a).kind (nL a).aX (nL a).data)=some (gpE c.aT a) from this,aA,bQ (by simp),aA]
   exact ⟨_,_,_,rfl,rfl,Nat.le_refl _,λg hg=>(by rw [List.mem_singleton.1 hg]; omega),rfl,rfl,by rw [h.ev],rfl,trivial⟩
  ·rw [decide_eq_false b,cond_false,cond_false]
   exact ⟨_,_,_,rfl,rfl,Nat.zero_le _,λg hg=>(by cases hg),rfl,rfl,rfl,rfl,trivial⟩
 obtain ⟨R,f,y',R',r1,r2,r3,r4,r5,r6,r7⟩:=GA (by omega) h.ft now c.aS.aK.len
 have hRR:R'.length=R.length:=by rw [<- r4]; exact (List.length_map _).symm
 have hx:x=⟨x.most,x.every,x.addr,c.aT,c.due,x.t,x.l,x.f⟩:=by
  rw [<- h.e,<- h.d]
 unfold cU gW
 rw [e1,aA,show dW (aZ.mk c.aS.slot c.aS.aK)=some c.aS.aK by unfold dW; rw [nI _ h.tp.sw]; rfl,aA,r1,aA,Fj R (by omega),aA,h.d,h.e]
 rw [show ((bif (decide (now>=c.due)) then (Option.bind (gV x.t) λi=>(Option.bind (eI (bA.mk (imax 1 c.aT) i.kind i.aX i.data)) λj=>(Option.bind (chk (cQ ([]:List ByteArray).length [j].length 16)) λ_=>some ((([]:List ByteArray)++[j]),(aL.mk x.most x.every x.addr c.aT (IntKind.i64.wrap (now+x.every)) x.t x.l x.f))))) else some (([]:List ByteArray),x)):Option ((List ByteArray)×aL))=some (G.map (gpE c.aT),z) by rw [<- f1]; congr 3,aA]
 dsimp only
 rw [show z.f=x.f by rw [z1],show z.t=x.t by rw [z1],h.tp.hv,show (fN c.aS.aK).len=c.aS.aK.len from rfl,r2,aA]
 dsimp only
 rw [DS c.aT R' (by omega),r4,hRR]
 have hfl:=s7 R
 have hz:KX k N q ⟨⟨d.config.cache,d.config.every,d.config.addr⟩,d.aT,d.due,⟨c.aS.slot,c.aS.aK⟩,c.lines,f⟩ ⟨z.most,z.every,z.addr,z.aT,z.due,x.t,z.l,y'⟩:=by
  refine ⟨?_,?_,h.tk,?_,r3,h.tp,?_,?_,?_,?_,?_,d3⟩
  ·show d.config.cache=k; rw [d1]; exact h.cc
  ·show 0<=d.aT/\d.aT<=_; rw [d2]; exact h.ep
  ·show CX k N c.lines z.l; rw [z1]; exact h.ln
  ·show z.most=k; rw [z1]; exact h.m
  ·show z.every=d.config.every; rw [z1,d1]; exact h.ev
  ·show y'.every=z.every; rw [z1]; exact r7.trans h.fe
  ·show z.addr=d.config.addr; rw [z1,d1]; exact h.ad
  ·show z.aT=d.aT; rw [z1,d2]
 by_cases b:R.length=0
 ·rw [decide_eq_false (by omega),cond_false,aA,decide_eq_false (by omega),cond_false,aA,d2,xV c.aT G (by omega) g2,aA]
  rw [d2] at hz
  exact ⟨_,_,_,rfl,rfl,hz,by rw [List.length_map]; omega⟩
 ·have hask:=hpk ⟨0,3,ftS R,noS⟩ (by dsimp only; omega) (Nat.zero_le _)
  dsimp only at hask
  rw [decide_eq_true (by omega),cond_true,bQ (by simp; omega),aA,aA,decide_eq_true (by omega),cond_true,aA,hask,aA,bQ (by simp; omega),aA,aA,d2,xV c.aT _ (by simp; omega) (λg hg=> ?_),aA,List.map_append]
  ·rw [d2] at hz
   exact ⟨_,_,_,rfl,rfl,hz,by simp; omega⟩
  ·rcases List.mem_append.1 hg with hg | hg
   ·exact g2 g hg
   ·rw [List.mem_singleton.1 hg]
    exact ⟨by dsimp only; omega,Nat.zero_le _⟩
theorem Av: ∀ (l s:List aB) {lo:Int},NF lo s->(∀ y∈l,lo < y.from_/\y.from_ < y.to)->NF lo (gu s l) /\ ∀ n,inP (gu s l) n↔inP s n\/inP l n
 | [],s,lo,h,_=>⟨h,λn=>⟨.inl,λh=>h.elim id λh=>absurd h gX⟩⟩
 | x::l,s,lo,h,hl=>by
  have hx:=hl x List.mem_cons_self
  have e:gu s (x::l)=gu (gI s x) l:=by
   show gu (if x.to<=x.from_ then s else gI s x) l=_
   rw [if_neg (by omega)]
  obtain ⟨h1,h2⟩:=Av l (gI s x) (qE s h hx.1 hx.2) λy hy=>hl y (List.mem_cons_of_mem _ hy)
  rw [e]
  refine ⟨h1,λn=> ?_⟩
  rw [h2,qF s h hx.2,eK,or_assoc]
noncomputable abbrev rgF (T:Int):aL×Int->Option ((aL×Int) ⊕ aL):=λa=>(bif (decide (a.2 < T)) then (Option.bind (kE a.1.l a.2) λb=>some (.inl ((aL.mk a.1.most a.1.every a.1.addr a.1.aT a.1.due a.1.t b.1 a.1.f),(IntKind.i64.wrap (a.2+1))))) else some (.inr a.1))
theorem wA {k N T:Int} {c:aP} {x:aL} (h:CX k N c x.l) (hk:k<=100000) (hN:N<=900000000) (hT:T<=1152921504606846976): ∀ (j:Nat) (i:Int),0<=i->i+j<=T->(∀ n,i<=n->n < i+j->gL c.l n=false)->iter (rgF T) (x,i)=iter (rgF T) (x,i+j)
 | 0,i,_,_,_=>by rw [show i+((0:Nat):Int)=i by omega]
 | j+1,i,h0,h1,h2=>by
  have e:rgF T (x,i)=some (.inl (x,i+1)):=by
   obtain ⟨l,b,c',L,x',g1,g2,g3,g4,g5,g6,g7⟩:=DN h hk (by omega) i
   rw [h2 i (Int.le_refl _) (by omega)] at g6
   obtain ⟨_,e2⟩:=g4 g6
   unfold rgF
   dsimp only
   rw [decide_eq_true (by omega),cond_true,g2,aA,w64 (by omega) (by omega),e2]
  rw [bY e,wA h hk hN hT j (i+1) (by omega) (by omega) λn a b=>h2 n (by omega) (by omega)]
  congr 2
  omega
theorem Aw {k T:Int} (hk:k<=65536) (hT:T<=1152921504606846976) (Z:aL): ∀ (j:Nat) (N i:Int) (a:aP) (x:bX),CX k N a x->N+j<=900000000->0<=i->i+j<=T -> ∃ a' x',iter (σ:=aP×Int) (ρ:=aP) (λc=>(bif (decide (c.2 < i+j)) then (Option.bind (ff c.1 c.2) λd=>some (.inl (d.2.2,(IntKind.i64.wrap (c.2+1))))) else some (.inr c.1))) (a,i)=some a'/\iter (rgF T) (⟨Z.most,Z.every,Z.addr,Z.aT,Z.due,Z.t,x,Z.f⟩,i)=iter (rgF T) (⟨Z.most,Z.every,Z.addr,Z.aT,Z.due,Z.t,x',Z.f⟩,i+j)/\CX k (N+j) a' x' /\ ∀ n,gL a'.l n=gL a.l n
 | 0,N,i,a,x,h,hN,h0,h1=>by
  refine ⟨a,x,bD ?_,by rw [show i+((0:Nat):Int)=i by omega],by rw [show N+((0:Nat):Int)=N by omega]; exact h,λn=>rfl⟩
  dsimp only
  rw [decide_eq_false (by omega)]
  rfl
 | j+1,N,i,a,x,h,hN,h0,h1=>by
  obtain ⟨l,b,c',L,x',g1,g2,g3,g4,g5,g6,g7⟩:=DN h (by omega) (by omega) i
  obtain ⟨a2,x2,p1,p2,p3,p4⟩:=Aw hk hT Z j (N+1) (i+1) c' x' g3 (by omega) (by omega) (by omega)
  have e1:i+((j+1:Nat):Int)=i+1+(j:Int):=by omega
  have e2:N+((j+1:Nat):Int)=N+1+(j:Int):=by omega
  rw [e1,e2]
  refine ⟨a2,x2,?_,?_,p3,λn=>(p4 n).trans (g7 n)⟩
  ·rw [<- p1]
   refine bY ?_
   dsimp only
   rw [decide_eq_true (by omega),cond_true,g1,aA,w64 (by omega) (by omega)]
  ·rw [<- p2]
   refine bY ?_
   unfold rgF
   dsimp only
   rw [decide_eq_true (by omega),cond_true,g2,aA,w64 (by omega) (by omega)]
theorem uk: ∀ {l:List aB} {lo:Int},NF lo l -> ∀ (n:Nat) (hn:n < l.length),(∀ m (hm:m < l.length),m < n->l[m].to < l[n].from_)/\lo < l[n].from_/\l[n].from_ < l[n].to
 | x::l,lo,h,0,hn=>⟨λm _ hm=>by omega,h.1,h.2.1⟩
 | x::l,lo,h,n+1,hn=>by
  obtain ⟨h1,h2,h3⟩:=uk h.2.2 n (by simpa using hn)
  have a1:=h.1
  have a2:=h.2.1
  refine ⟨λm hm hmn=> ?_,by show lo < (l[n]'(by simpa using hn)).from_; omega,h3⟩
  cases m with
  | zero=>exact h2
  | succ m=>exact h1 m (by simpa using hm) (by omega)
theorem Fk {k N:Int} {q:Nat} {c:aH} {x:aL} (h:KX k N q c x) (hk:1<=k/\k<=65536) (hN:0<=N/\N<=800000000) (from_ to:Int): ∃ n c' x',dV c from_ to=some (n,c')/\kS x from_ to=some (x',n)/\KX k (N+100000) q c' x':=by
 unfold dV kS
 obtain ⟨L,r,l1,l2,l3,l4,l5,l6⟩:=DO h.ln (by omega)
 have hc:=l5.cnt
 have hb: ∀ y∈L,uE y:=l5.b
 obtain ⟨m1,m2⟩:=At L [] hb (λy hy=>by cases hy)
 obtain ⟨m3,m4⟩:=Av L [] (lo:= -1) trivial λy hy=>by obtain ⟨a,b,_⟩:=hb y hy; omega
 have hml:=rI L []
 have hW:WS k (gu [] L):=⟨m1,by have:=l5.l; have:eM ([]:List aB)=0:=rfl; omega⟩
 have a1:=fD from_ 1152921504606846976
 have a2:=fQ 0 (cB from_ 1152921504606846976)
 have a3:=fD to 1152921504606846976
 have a4:=fQ 0 (cB to 1152921504606846976)
 rw [show dK from_ 0 1152921504606846976=some (imax 0 (cB from_ 1152921504606846976)) from rfl,aA,show dK to 0 1152921504606846976=some (imax 0 (cB to 1152921504606846976)) from rfl,aA,l1,aA,l2,aA,oW [] L (by simp; omega) (λx hx=>by have:=hb x hx; obtain ⟨a,b,d⟩:=this; refine ⟨?_,?_,?_,?_⟩ <;> omega),aA,ub _ _ (by simp at hml; omega),aA,h.cc,h.m]
 generalize imax 0 (cB from_ 1152921504606846976)=F at a1 a2 ⊢
 generalize imax 0 (cB to 1152921504606846976)=T0 at a3 a4 ⊢
 have a5:=fD T0 (F+k)
 rw [w64 (x:=F+k) (by omega) (by omega)]
 generalize hT:cB T0 (F+k)=T at a5 ⊢
 rw [s6 (i:=F) (j:=T) (by omega) (by omega) (by omega) (by omega)]
 obtain ⟨i1,i2⟩:=De (x:=⟨F,T⟩) hW
 obtain ⟨i3,i4⟩:=Dm m3 ⟨F,T⟩
 have hil:=sY (gu [] L) ⟨F,T⟩
 have i5: ∀ n,inP (inL (gu [] L) ⟨F,T⟩) n↔gL c.lines.l n=true/\F<=n/\n < T:=λn=>by
  rw [i4,m4,<- l6]
  exact ⟨λ⟨h1,h2⟩=>⟨h1.elim (λh=>absurd h gX) id,h2⟩,λ⟨h1,h2⟩=>⟨.inr h1,h2⟩⟩
 generalize inL (gu [] L) ⟨F,T⟩=R at i1 i2 i3 i5 hil ⊢
 have hR: ∀ y∈R,uE y:=λy hy=>(i1 y hy).1
 have hRl:eM R<=k:=by have:=hW.l; omega
 have hRn:R.length<=100000:=by simp at hml; omega
 have hTb:T<=1152921504606846976:=by omega
 have hk6:k<=100000:=by omega
 -- behind the first n spans both are alike,and nothing is between
 have key: ∀ n,n<=R.length -> ∃ a x' i,(∀ j,n+j=R.length->iter (σ:=aP×Int) (ρ:=aP) (λo=>(bif (decide (o.2 < (R.length:Int))) then (Option.bind (idx R o.2) λs=>(Option.bind (iter (σ:=aP×Int) (ρ:=aP) (λp=>(bif (decide (p.2 < s.to)) then (Option.bind (ff p.1 p.2) λA=>some (.inl (A.2.2,(IntKind.i64.wrap (p.2+1))))) else some (.inr p.1))) (o.1,s.from_)) λB=>some (.inl (B,(IntKind.i64.wrap (o.2+1)))))) else some (.inr o.1))) (c.lines,0)=iter (σ:=aP×Int) (ρ:=aP) (λo=>(bif (decide (o.2 < (R.length:Int))) then (Option.bind (idx R o.2) λs=>(Option.bind (iter (σ:=aP×Int) (ρ:=aP) (λp=>(bif (decide (p.2 < s.to)) then (Option.bind (ff p.1 p.2) λA=>some (.inl (A.2.2,(IntKind.i64.wrap (p.2+1))))) else some (.inr p.1))) (o.1,s.from_)) λB=>some (.inl (B,(IntKind.i64.wrap (o.2+1)))))) else some (.inr o.1))) (a,(n:Int)))/\iter (rgF T) (x,F)=iter (rgF T) (⟨x.most,x.every,x.addr,x.aT,x.due,x.t,x',x.f⟩,i)/\CX k (N+eM (R.take n)) a x'/\(∀ m,gL a.l m=gL c.lines.l m)/\F<=i/\(i<=T\/i=F)/\(∀ m (hm:m < R.length),m < n->R[m].to<=i)/\(∀ m (hm:m < R.length),n<=m->i<=R[m].from_):=by
  intro n
  induction n with
  | zero =>
   intro _
   refine ⟨c.lines,x.l,F,λj _=>rfl,rfl,h.ln.more (by show N<=N+0; omega),λm=>rfl,Int.le_refl _,.inr rfl,λm _ hm=>by omega,λm hm _=> ?_⟩
   obtain ⟨_,_,b3⟩:=uk i3 m hm
   exact ((i5 R[m].from_).1 ⟨R[m],List.getElem_mem hm,Int.le_refl _,b3⟩).2.1
  | succ n ih =>
   intro hn
   obtain ⟨a,x',i,p1,p2,p3,p4,p5,p6,p7,p8⟩:=ih (by omega)
   obtain ⟨b1,b2,b3⟩:=uk i3 n (by omega)
   have hok:=hR _ (List.getElem_mem (show n < R.length by omega))
   have hT2:R[n].to<=T:=by
    have:=((i5 (R[n].to - 1)).1 ⟨R[n],List.getElem_mem (by omega),by omega,by omega⟩).2.2
    omega
   have hle:=p8 n (by omega) (Nat.le_refl _)
   have ht:eM (R.take (n+1))=eM (R.take n)+(R[n].to - R[n].from_):=by
    rw [List.take_succ_eq_append_getElem (by omega),kZ]
    show _+(R[n].to - R[n].from_+0)=_
    omega
   have e':=kZ (R.take (n+1)) (R.drop (n+1))
   rw [List.take_append_drop] at e'
   have q1:=o2 (R.drop (n+1)) λy hy=>hR y (List.mem_of_mem_drop hy)
   have q2:=o2 (R.take n) λy hy=>hR y (List.mem_of_mem_take hy)
   have hg:R[n].from_=i+((R[n].from_ - i).toNat:Int):=by omega
   generalize (R[n].from_ - i).toNat=g at hg
   have hd:R[n].to=R[n].from_+((R[n].to - R[n].from_).toNat:Int):=by omega
   generalize (R[n].to - R[n].from_).toNat=d at hd
   have hgT:i+(g:Int)<=T:=by omega
   have hi0:0<=i:=by omega
   have hsk:=wA (T:=T) (x:=⟨x.most,x.every,x.addr,x.aT,x.due,x.t,x',x.f⟩) p3 hk6 (by omega) hTb g i hi0 hgT λm h1 h2=>by
    rw [p4]
    cases hm:gL c.lines.l m with
    | false=>rfl
    | true =>
     exfalso
     have hm2:F<=m/\m < T:=⟨by omega,by omega⟩
     obtain ⟨y,hy,y1,y2⟩:=(i5 m).2 ⟨hm,hm2⟩
     obtain ⟨w,hw,rfl⟩:=List.mem_iff_getElem.1 hy
     by_cases cc:w < n
     ·have:=p7 w hw cc; omega
     ·by_cases c2:w=n
      ·subst c2; omega
      ·obtain ⟨u1,_,_⟩:=uk i3 w hw
       have:=u1 n (by omega) (by omega)
       omega
   obtain ⟨a',x2,s1,s2,s3,s4⟩:=Aw (T:=T) hk.2 hTb x d (N+eM (R.take n)) R[n].from_ a x' p3 (by omega) (by omega) (by omega)
   rw [<- hd] at s1 s2
   refine ⟨a',x2,R[n].to,λj hj=> ?_,?_,s3.more (by omega),λm=>(s4 m).trans (p4 m),by omega,.inl hT2,λm hm hmn=> ?_,λm hm hmn=> ?_⟩
   ·rw [p1 (j+1) (by omega)]
    refine bY ?_
    dsimp only
    rw [decide_eq_true (by omega),cond_true,bK R n (by omega),aA,s1,aA,w64 (by omega) (by omega)]
    rfl
   ·rw [p2,hsk,<- hg,s2]
   ·by_cases c2:m=n
    ·subst c2; exact Int.le_refl _
    ·have:=b1 m hm (by omega); omega
   ·obtain ⟨u1,_,_⟩:=uk i3 m hm
    have:=u1 n (by omega) (by omega)
    omega
 obtain ⟨a,x',i,p1,p2,p3,p4,p5,p6,p7,p8⟩:=key R.length (Nat.le_refl _)
 rw [List.take_of_length_le (Nat.le_refl _)] at p3
 have hq:=o2 R hR
 have hend:iter (rgF T) (x,F)=some ⟨x.most,x.every,x.addr,x.aT,x.due,x.t,x',x.f⟩:=by
  rw [p2]
  by_cases c2:i<=T
  ·have hg:T=i+((T - i).toNat:Int):=by omega
   generalize (T - i).toNat=g at hg
   rw [wA (T:=T) (x:=⟨x.most,x.every,x.addr,x.aT,x.due,x.t,x',x.f⟩) p3 hk6 (by omega) hTb g i (by omega) (by omega) λm h1 h2=>by
    rw [p4]
    cases hm:gL c.lines.l m with
    | false=>rfl
    | true =>
     exfalso
     obtain ⟨y,hy,y1,y2⟩:=(i5 m).2 ⟨hm,by omega,by omega⟩
     obtain ⟨w,hw,rfl⟩:=List.mem_iff_getElem.1 hy
     have:=p7 w hw hw
     omega]
   refine bD ?_
   unfold rgF
   dsimp only
   rw [decide_eq_false (by omega)]
   rfl
  ·refine bD ?_
   unfold rgF
   dsimp only
   rw [decide_eq_false (by omega)]
   rfl
 have hw:=Ff hk.1 (by omega) h.ft (x:=⟨F,T⟩) (x':=⟨F,T⟩) rfl l3 (by omega) λz hz=>by obtain ⟨u,v,_⟩:=hb z hz; omega
 obtain ⟨n,f',y',w1,w2,w3,w4,w5⟩:=hw
 refine ⟨n,⟨c.config,c.aT,c.due,c.aS,a,f'⟩,⟨x.most,x.every,x.addr,x.aT,x.due,x.t,x',y'⟩,(congrArg (λz=>Option.bind z _) ((p1 0 (by omega)).trans (bD (r:=a) (by dsimp only; rw [decide_eq_false (by omega)]; rfl)))).trans ?_,(congrArg (λz=>Option.bind z _) hend).trans ?_,?_⟩
 ·rw [aA,w1]
  rfl
 ·rw [aA]
  dsimp only
  rw [w2,aA,w3]
  rfl
 ·exact ⟨h.cc,h.ep,h.tk,p3.more (by omega),w4,h.tp,h.m,h.ev,w5.trans h.fe,h.ad,h.e,h.d⟩
theorem xW (l:List ByteArray) (hl:l.length<=1000):jj l l=some true:=by
 unfold jj
 rw [show ((l.length:Int) != (l.length:Int))=false by simp,cond_false]
 refine eJ (λn:Nat=>(n:Int)) l.length (.inl ()) rfl (λn hn=> ?_) ?_ rfl
 ·rw [decide_eq_true (by omega),cond_true,bK l n hn,aA,aA,beq_self_eq_true,Bool.not_true,cond_false,w64 (by omega) (by omega)]
  rfl
 ·rw [decide_eq_false (by omega),cond_false]
section
variable {k N : Int} {q : Nat} {c : aH} {x : aL}
theorem Ax (h:KX k N q c x):fC c=some c.aS.aK:=by
 unfold fC dW
 rw [nI _ h.tp.sw]
 rfl
theorem Ay (h:KX k N q c x) (addr:Int): ∃ c' x',fX c addr=some c'/\mg x addr=some x'/\KX k N q c' x'/\c'=⟨⟨c.config.cache,c.config.every,imax 0 (cB addr 4294967296)⟩,c.aT,c.due,c.aS,c.lines,c.bS⟩/\x'=⟨x.most,x.every,imax 0 (cB addr 4294967296),x.aT,x.due,x.t,x.l,x.f⟩ :=
 ⟨_,_,rfl,rfl,⟨h.cc,h.ep,h.tk,h.ln,h.ft,h.tp,h.m,h.ev,h.fe,rfl,h.e,h.d⟩,rfl,rfl⟩
theorem G4 (h:KX k N q c x) (hk:1<=k/\k<=65536) (hN:0<=N/\N<=800000000) (hq:q<=10600) (a:jJ) (now:Int): ∃ c' x',mH c x a now=some (x',true,c')/\KX k (N+100000) (q+400) c' x':=by
 unfold mH
 by_cases k0:a.kind=0
 ·rw [show (a.kind == 0)=true by simpa using k0,cond_true]
  have hc:kC a.text 400=some (Cr a.text 400):=Cs a.text 400
  obtain ⟨e,c',x',e1,e2,e3,_⟩:=Fi h (by omega) (by omega) hq now (AY a.text 400)
  rw [hc,aA,e2,aA,e1,aA]
  dsimp only
  rw [beq_self_eq_true]
  exact ⟨c',x',rfl,e3.more (by omega) (by omega)⟩
 ·rw [show (a.kind == 0)=false by simpa using k0,cond_false]
  by_cases k1:a.kind=1
  ·rw [show (a.kind == 1)=true by simpa using k1,cond_true]
   obtain ⟨L,c',x',e1,e2,e3,e4⟩:=wz h (by omega) now
   rw [e2,aA,e1,aA]
   dsimp only
   rw [xW L (by omega),aA]
   exact ⟨c',x',rfl,e3.more (by omega) (by omega)⟩
  ·rw [show (a.kind == 1)=false by simpa using k1,cond_false]
   by_cases k2:a.kind=2
   ·rw [show (a.kind == 2)=true by simpa using k2,cond_true]
    obtain ⟨n,c',x',e1,e2,e3⟩:=Fk h hk hN a.from_ a.to
    rw [e2,aA,e1,aA]
    dsimp only
    rw [beq_self_eq_true]
    exact ⟨c',x',rfl,e3.more (by omega) (by omega)⟩
   ·rw [show (a.kind == 2)=false by simpa using k2,cond_false]
    obtain ⟨c',x',e1,e2,e3,_⟩:=Ay h a.from_
    rw [e1,aA,e2,aA]
    exact ⟨c',x',rfl,e3.more (by omega) (by omega)⟩
theorem DT (h:KX k N q c x) (hk:k<=65536):fR c=some c:=by
 have hf:=h.ft.fs.w.cnt
 unfold fR iu
 rw [show iS c.aS.slot=some c.aS.slot from rfl,aA,nI _ h.tp.sw,aA,aA,show ik c.lines=some c.lines from rfl,aA]
 have:gp c.bS=some c.bS:=by
  unfold gp ju eV
  rw [bQ (by simp; omega),aA]
  rfl
 rw [this]
 rfl
end
theorem zc (x:aL) (b now:Int):gW ⟨x.most,x.every,b,x.aT,x.due,x.t,x.l,x.f⟩ now=(gW x now).map λp=>(⟨p.1.most,p.1.every,b,p.1.aT,p.1.due,p.1.t,p.1.l,p.1.f⟩,p.2):=by
 have key: ∀ (o:List ByteArray) (z:aL),z.f=x.f->z.t=x.t->(Option.bind (iM x.f now x.t.aK.len) λe=>(Option.bind ((bif (decide ((e.2.length:Int) > 0)) then (Option.bind (iter (σ:=bA×Int) (ρ:=bA) (λc=>(bif (decide (c.2 < (e.2.length:Int))) then (Option.bind (idx e.2 c.2) λd=>(Option.bind (chk (cQ c.1.aX.length [d.from_,d.to].length 8)) λ_=>some (.inl ((bA.mk c.1.aT c.1.kind (c.1.aX++[d.from_,d.to]) c.1.data),(IntKind.i64.wrap (c.2+1)))))) else some (.inr c.1))) ((bA.mk (imax 1 x.aT) 3 ([]:List Int) (ByteArray.mk #[])),0)) λh=>(Option.bind (eI h) λg=>(Option.bind (chk (cQ o.length [g].length 16)) λ_=>some (o++[g])))) else some o):Option (List ByteArray)) λi=>some ((aL.mk z.most z.every b z.aT z.due z.t z.l e.1),i)))=(Option.bind (iM x.f now x.t.aK.len) λe=>(Option.bind ((bif (decide ((e.2.length:Int) > 0)) then (Option.bind (iter (σ:=bA×Int) (ρ:=bA) (λc=>(bif (decide (c.2 < (e.2.length:Int))) then (Option.bind (idx e.2 c.2) λd=>(Option.bind (chk (cQ c.1.aX.length [d.from_,d.to].length 8)) λ_=>some (.inl ((bA.mk c.1.aT c.1.kind (c.1.aX++[d.from_,d.to]) c.1.data),(IntKind.i64.wrap (c.2+1)))))) else some (.inr c.1))) ((bA.mk (imax 1 x.aT) 3 ([]:List Int) (ByteArray.mk #[])),0)) λh=>(Option.bind (eI h) λg=>(Option.bind (chk (cQ o.length [g].length 16)) λ_=>some (o++[g])))) else some o):Option (List ByteArray)) λi=>some ((aL.mk z.most z.every z.addr z.aT z.due z.t z.l e.1),i))).map λp=>(⟨p.1.most,p.1.every,b,p.1.aT,p.1.due,p.1.t,p.1.l,p.1.f⟩,p.2):=by
  intro o z hf ht
  cases iM x.f now x.t.aK.len with
  | none=>rfl
  | some r =>
   rw [aA,aA]
   generalize ((bif (decide ((r.2.length:Int) > 0)) then (Option.bind (iter (σ:=bA×Int) (ρ:=bA) (λc=>(bif (decide (c.2 < (r.2.length:Int))) then (Option.bind (idx r.2 c.2) λd=>(Option.bind (chk (cQ c.1.aX.length [d.from_,d.to].length 8)) λ_=>some (.inl ((bA.mk c.1.aT c.1.kind (c.1.aX++[d.from_,d.to]) c.1.data),(IntKind.i64.wrap (c.2+1)))))) else some (.inr c.1))) ((bA.mk (imax 1 x.aT) 3 ([]:List Int) (ByteArray.mk #[])),0)) λh=>(Option.bind (eI h) λg=>(Option.bind (chk (cQ o.length [g].length 16)) λ_=>some (o++[g])))) else some o):Option (List ByteArray))=w
   cases w <;> rfl
 unfold gW
 dsimp only
 cases decide (now>=x.due) with
 | false =>
  rw [cond_false,cond_false,aA,aA]
  exact key [] x rfl rfl
 | true =>
  rw [cond_true,cond_true]
  cases gV x.t with
  | none=>rfl
  | some a =>
   rw [aA,aA]
   cases eI (bA.mk (imax 1 x.aT) a.kind a.aX a.data) with
   | none=>rfl
   | some p =>
    rw [aA,aA]
    cases chk (cQ ([]:List ByteArray).length [p].length 16) with
    | none=>rfl
    | some u =>
     rw [aA,aA]
     exact key ([]++[p]) ⟨x.most,x.every,x.addr,x.aT,IntKind.i64.wrap (now+x.every),x.t,x.l,x.f⟩ rfl rfl
theorem rR {acts:List jJ} {addr:Int} (a0: ∀ x∈acts,n4 x) (a1:inK .i64 addr):iv acts addr=some true:=by
 unfold iv
 rw [zb,aA,Bool.not_true,cond_false]
 obtain ⟨s,x,s1,s2,s3⟩:=GD 5 2 3
 rw [show imax 1 (cB 5 65536)=5 from rfl] at s3
 rw [s1,aA,s2,aA]
 refine qi (λs:aL×aH×Int×Int=> ∃ n:Nat,s.2.2.2=n/\n<=15/\KX 5 (n*100000) (n*400) s.2.1 s.1) (λs=>15 - s.2.2.2.toNat) (λr=> ∃ now x c,r=(now,x,c)/\KX 5 1500000 6000 c x) ⟨0,rfl,by decide,s3.more (by decide) (by decide)⟩ ?_ ?_
 ·rintro ⟨x,s,now,i⟩ ⟨n,h1,h2,h3⟩
  dsimp only at h1 h3 ⊢
  subst h1
  by_cases c:(n:Int) < (acts.length:Int)/\(n:Int) < 15
  ·left
   rw [EV c,aA,cond_true,bK acts n (by omega),aA,aA]
   obtain ⟨s',x',e1,e2⟩:=G4 h3 (by decide) (by omega) (by omega) acts[n] (IntKind.i64.wrap (now+(Go.bits .and .i64 acts[n].later 7)))
   rw [e1,aA]
   dsimp only
   rw [w64 (x:=(n:Int)+1) (by omega) (by omega)]
   exact ⟨_,rfl,⟨n+1,rfl,by omega,e2.more (by omega) (by omega)⟩,by dsimp only; omega⟩
  ·right
   rw [EW c,aA,cond_false]
   exact ⟨_,rfl,_,_,_,rfl,h3.more (by omega) (by omega)⟩
 ·rintro r ⟨now,x,s,rfl,h3⟩
  dsimp only
  obtain ⟨s',x',e1,e2,e3,e4,e5⟩:=Ay h3 addr
  obtain ⟨L,u,v,p1,p2,p3,p4⟩:=wz h3 (by decide) (IntKind.i64.wrap (now+9))
  obtain ⟨L',u',v',q1,q2,q3,q4⟩:=wz e3 (by decide) (IntKind.i64.wrap (now+9))
  have hL:L'=L:=by
   rw [e5,zc,p2] at q2
   simp only [Option.map_some,Option.some.injEq,Prod.mk.injEq] at q2
   exact q2.2.symm
  subst hL
  have ha:s'.config.addr=imax 0 (cB addr 4294967296):=by rw [e4]
  have hep:s'.aT=s.aT:=by rw [e4]
  have htk:s'.aS=s.aS:=by rw [e4]
  rw [DT h3 (by decide),aA,e1,aA,show dU s'=some s'.config.addr from rfl,aA,ha,beq_self_eq_true,cond_true,show dU s=some s.config.addr from rfl,aA,<- h3.ad,beq_self_eq_true,cond_true,Ax e3,aA,Ax h3,aA,htk,Co _ _ h3.tp.sw,decide_eq_true rfl,aA,cond_true,show dN s'=some s'.aT from rfl,aA,show dN s=some s.aT from rfl,aA,hep,beq_self_eq_true,cond_true,q1,aA,p1,aA]
  dsimp only
  rw [xW _ (by omega),aA]
  rfl
end Go.Tw.X

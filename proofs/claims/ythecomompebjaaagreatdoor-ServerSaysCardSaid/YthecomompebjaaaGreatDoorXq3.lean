import Derived.Test.YthecomompebjaaaGreatDoorXq1
import Derived.Test.YthecomompebjaaaGreatDoorXq2
import Derived.Test.YthecomompebjaaaGreatDoorXp1
import Derived.Test.YthecomompebjaaaGreatDoorFw2
set_option linter.unusedVariables false
set_option linter.unusedSimpArgs false
set_option maxHeartbeats 1000000
namespace Go.Tw.X
open Go Go.Tw
structure GB (g:aV):Prop where
 k:g.kind=1\/g.kind=4
 n:g.aW.length<=5
 r: ∀ x∈g.aW,0<=x/\x<=4611686018427387904
 d:g.data.size<=8000
theorem GB.check {g:aV} (h:GB g) {e:Int} (e1:1<=e) (e2:e<=4294967296):kA ⟨e,g.kind,g.aW,g.data⟩=0:=by
 have hr:ly ⟨e,g.kind,g.aW,g.data⟩=true:=by
  unfold ly
  simp only [Bool.and_eq_true,decide_eq_true_eq,List.all_eq_true]
  have hk:=h.k
  have hn:=h.n
  exact ⟨⟨e1,e2⟩,by omega,by omega,λx hx=>decide_eq_true (h.r x hx)⟩
 have hs:(iC ⟨e,g.kind,g.aW,g.data⟩).size<=8192:=by
  unfold iC
  rw [sf,gq]
  have h1:=pM [e,g.kind,(g.aW.length:Int)]
  have h2:=pM g.aW
  have h3:=dJ (g.data.size:Int)
  have hn:=h.n
  have hd:=h.d
  unfold pL
  simp only [List.length_append,bG]
  simp only [List.length_cons,List.length_nil] at h1
  omega
 unfold kA
 rw [hr,if_neg (by simp),if_neg (by omega)]
theorem Ks (s:ByteArray) (n i:Nat):(rz s n i).size<=n:=by
 unfold rz
 rw [<- bG,gZ,List.length_drop,List.length_take]
 omega
structure MNB (N:Nat) (s:aI):Prop where
 n1:1<=s.next
 nN:s.next<=N+1
 cu:0<=s.current.k/\s.current.k<=4000000000
 ac:0<=s.aM.k/\s.aM.k<=4000000000
 kp: ∀ x∈s.kept,0<=x.k/\x.k<=4000000000
 mi:0<=s.message.id/\s.message.id<=N
 my:0<=s.message.key/\s.message.key<=4000000000
 mb:0<=s.message.base/\s.message.base<=4000000000
 mp: ∀ p∈s.message.parts,p.size<=8000
theorem nz4:0<=(0:Int)/\(0:Int)<=4000000000:=by decide
theorem Kt (c:bW):MNB 0 (nuS c):=⟨(by show (1:Int)<=1; decide),(by show (1:Int)<=((0:Nat):Int)+1; decide),nz4,nz4,λx hx=>(by cases hx),(by show (0:Int)<=0/\(0:Int)<=((0:Nat):Int); decide),nz4,nz4,λp hp=>(by cases hp)⟩
theorem MNB.more {N:Nat} {s:aI} (h:MNB N s):MNB (N+1) s:=⟨h.n1,by have:=h.nN; omega,h.cu,h.ac,h.kp,⟨h.mi.1,by have:=h.mi.2; omega⟩,h.my,h.mb,h.mp⟩
theorem Is {N:Nat} {s:aI} (h:MNB N s) (hN:N<=1000000) (now:Int):MNB (N+1) (lB s now):=by
 unfold lB
 split
 ·have hn:=h.nN
  have hn1:=h.n1
  unfold ym Km
  refine ⟨?_,?_,h.cu,h.ac,λx hx=> ?_,⟨by dsimp only; omega,by dsimp only; omega⟩,h.cu,h.ac,λp hp=> ?_⟩
  ·dsimp only
   rw [w64 (by omega) (by omega)]
   omega
  ·dsimp only
   rw [w64 (by omega) (by omega)]
   omega
  ·have hx2:x∈rB s:=List.mem_of_mem_drop hx
   unfold rB at hx2
   split at hx2
   ·exact h.kp x hx2
   ·rcases List.mem_append.1 hx2 with q | q
    ·exact h.kp x q
    ·rw [List.mem_singleton.1 q]; exact h.cu
  ·unfold wc at hp
   obtain ⟨i,_,rfl⟩:=List.mem_map.1 hp
   have:=Ks (nT s.aM s.current) (ptN s.config.part) i
   have h2:ptN s.config.part<=8000:=by unfold ptN; omega
   omega
 ·exact h.more
theorem Iu {N:Nat} {s:aI} (h:MNB N s) (hS:SNI s) (hN:N<=2000000): ∀ g∈rA s.message,GB g:=by
 intro g hg
 unfold rA at hg
 obtain ⟨x,hx,rfl⟩:=List.mem_map.1 hg
 unfold y3 uC at hx
 obtain ⟨i,hi,hxi⟩:=List.mem_filterMap.1 hx
 have hi:=List.mem_range.1 hi
 unfold Eu at hxi
 split at hxi
 ·cases hxi
 ·cases hxi
  have hpl:=hS.pl
  refine ⟨.inl rfl,Nat.le_refl _,λy hy=> ?_,?_⟩
  ·have h1:=h.mi
   have h2:=h.my
   have h3:=h.mb
   simp only [gr,List.mem_cons,List.not_mem_nil,or_false] at hy
   rcases hy with rfl | rfl | rfl | rfl | rfl <;> omega
  ·show ((s.message.parts[i]?).getD noS).size<=8000
   rw [List.getElem?_eq_getElem hi]
   exact h.mp _ (List.getElem_mem hi)
theorem MA {N:Nat} {s:aI} (h:MNB N s) (d:Int):MNB N (FC s d):=⟨h.n1,h.nN,h.cu,h.ac,h.kp,h.mi,h.my,h.mb,h.mp⟩
theorem Ku {N:Nat} {s:aI} (h:MNB N s) (hS:SNI s) (hN:N<=1000000) (now:Int):MNB (N+1) (nI s now).2 /\ ∀ g∈(nI s now).1,GB g:=by
 have hb:=Is h hN now
 have hbS:=rC now hS
 unfold nI
 split
 ·exact ⟨⟨h.n1,by have:=h.nN; show s.next<=_; omega,h.cu,h.ac,h.kp,(by show 0<=(0:Int)/\(0:Int)<=((N+1:Nat):Int); omega),nz4,nz4,λp hp=>(by cases hp)⟩,λg hg=>(by cases hg)⟩
 ·split
  ·exact ⟨hb,λg hg=>(by cases hg)⟩
  ·exact ⟨MA hb _,Iu hb hbS (by omega)⟩
theorem FL {N:Nat} {s:aI} (h:MNB N s) (id:Int) (d:ByteArray):MNB N (iP s id d):=by
 unfold iP
 split
 ·exact ⟨h.n1,h.nN,h.cu,h.ac,h.kp,h.mi,h.my,h.mb,h.mp⟩
 ·exact h
theorem MB {N:Nat} {s:aI} (h:MNB N s) (k id:Int) (d:ByteArray):MNB N (FG s k id d).2:=by
 have hm:=FL h id d
 unfold FG
 split
 ·exact hm
 ·split
  ·rename_i hlt
   refine ⟨h.n1,h.nN,h.cu,?_,λx hx=>h.kp x (List.mem_of_mem_drop hx),hm.mi,hm.my,hm.mb,hm.mp⟩
   show 0<=(s.kept[fk k s.kept]?.getD mC).k/\_
   rw [List.getElem?_eq_getElem hlt]
   exact h.kp _ (List.getElem_mem hlt)
  ·exact ⟨h.n1,h.nN,h.cu,nz4,h.kp,hm.mi,hm.my,hm.mb,hm.mp⟩
theorem EB {N:Nat} {s:aI} (h:MNB N s) {x:aL} (hx:0<=x.k/\x.k<=4000000000):MNB N (vT s x).2:=by
 unfold vT
 split
 ·exact h
 ·exact ⟨h.n1,h.nN,hx,h.ac,h.kp,h.mi,h.my,h.mb,h.mp⟩
structure BO (b:bZ):Prop where
 f:0<=b.first/\b.first<=4611686018427387904
 c:0<=b.count/\b.count<=4611686018427387904
 d:b.data.size<=5200
 z:b.count=0->b.data.size=0
theorem CH {L:List (List aJ)} (hL:LB L) (hs: ∀ l∈L,(lnS l).size<=5200) (to:Int): ∀ (k:Nat) (i:Int) (b:bZ),BO b->(0 < b.count->b.count<=i)->(∀ e∈(inB L to k i b).1,BO e)/\BO (inB L to k i b).2
 | 0,i,b,h,hc=>⟨λe he=>(by cases he),h⟩
 | k+1,i,b,h,hc=>by
  by_cases hst:i < to/\0<=i/\i < L.length
  ·obtain ⟨j,rfl⟩: ∃ j:Nat,i=(j:Int):=⟨i.toNat,by omega⟩
   have hj:j < L.length:=by omega
   have hn:=hL.n
   have hsz:=hs _ (List.getElem_mem hj)
   have hge:L[((j:Int)).toNat]?.getD []=L[j]:=by rw [Int.toNat_natCast,List.getElem?_eq_getElem hj]; rfl
   rw [inB,if_pos hst,hge]
   dsimp only
   have hb:=h.c
   by_cases hfu:full b (lnS L[j])=true
   ·rw [if_pos hfu]
    obtain ⟨q1,q2⟩:=CH hL hs to k ((j:Int)+1) ⟨(j:Int),1,lnS L[j]⟩ ⟨⟨by dsimp only; omega,by dsimp only; omega⟩,⟨by dsimp only; omega,by dsimp only; omega⟩,hsz,λe=>by cases e⟩ (λ_=>by dsimp only; omega)
    refine ⟨λe he=> ?_,q2⟩
    rcases List.mem_cons.1 he with rfl | he
    ·exact h
    ·exact q1 e he
   ·rw [if_neg hfu]
    have hf2:full b (lnS L[j])=false:=by simpa using hfu
    have hnf: ¬ (b.count > 0/\(b.data.size:Int)+((lnS L[j]).size:Int) > 4000):=by unfold full at hf2; exact of_decide_eq_false hf2
    refine CH hL hs to k ((j:Int)+1) ⟨b.first,b.count+1,b.data++lnS L[j]⟩ ⟨h.f,⟨by dsimp only; omega,?_⟩,?_,λe=>by dsimp only at e; omega⟩ (λ_=> ?_)
    ·dsimp only
     by_cases q:0 < b.count
     ·have:=hc q; omega
     ·omega
    ·dsimp only
     rw [ByteArray.size_append]
     by_cases q:b.count > 0
     ·omega
     ·have:=h.z (by omega); omega
    ·dsimp only
     by_cases q:0 < b.count
     ·have:=hc q; omega
     ·omega
  ·rw [AI hst]
   exact ⟨λe he=>(by cases he),h⟩
theorem MC {L:List (List aJ)} (hL:LB L) (hs: ∀ l∈L,(lnS l).size<=5200) (e:Int) (l:List dK) (hl: ∀ x∈l,0<=x.from_/\x.from_<=4611686018427387904):(Fb e L l).length<=16 /\ ∀ g∈Fb e L l,GB g:=by
 refine ⟨by unfold Fb; rw [List.length_take]; omega,λg hg=> ?_⟩
 obtain ⟨b,hb,rfl⟩:=List.mem_map.1 (List.mem_of_mem_take hg)
 obtain ⟨x,hx,hbx⟩:=List.mem_flatMap.1 hb
 obtain ⟨q1,q2⟩:=CH hL hs x.to (L.length+1) x.from_ ⟨x.from_,0,noS⟩ ⟨hl x hx,⟨by dsimp only; omega,by dsimp only; omega⟩,Nat.zero_le _,λ_=>rfl⟩ (λh=>by cases h)
 have hB:BO b:=by
  unfold xC at hbx
  dsimp only at hbx
  rcases List.mem_append.1 hbx with h | h
  ·exact q1 b h
  ·split at h
   ·rw [List.mem_singleton.1 h]; exact q2
   ·cases h
 have hd:=hB.d
 refine ⟨.inr rfl,by show 2<=5; decide,λy hy=> ?_,by show b.data.size<=8000; omega⟩
 simp only [oM,List.mem_cons,List.not_mem_nil,or_false] at hy
 rcases hy with rfl | rfl
 ·exact hB.f
 ·exact hB.c
theorem NN {N:Nat} {m:bO} {z:Zt} (h:MQ N m z) (hN:N<=90):m.book.l=z.1/\LB z.1 /\ ∀ l∈z.1,(lnS l).size<=5200:=by
 obtain ⟨W,x,hW,hx⟩:=h.ex
 have hz:=hx.zi
 refine ⟨by rw [hx.bk]; rfl,⟨by have:=hz.n; omega,λl hl=>⟨(hz.ls l hl).1,(hz.ls l hl).2⟩⟩,λl hl=> ?_⟩
 unfold lnS
 rw [gq]
 unfold lO
 have h1:=EA l (h.g.zg.l l hl)
 have h2:=dJ (l.length:Int)
 have h3:=(hz.ls l hl).1
 rw [List.length_append]
 omega
def E3 (i:cI):Prop:=i.e=0\/i.e=1\/i.e=2
theorem KY: ∀ (k i acc:Nat) (l:List Int) (e:Int),rdp k i acc l = .inl e->e=1\/e=2
 | 0,_,_,_,e,h=>by unfold rdp at h; cases h; exact .inl rfl
 | _+1,_,_,[],e,h=>by unfold rdp at h; cases h; exact .inr rfl
 | k+1,i,acc,b::r,e,h=>by
  unfold rdp at h
  split at h
  ·split at h
   ·cases h; exact .inl rfl
   ·cases h
  ·exact KY k _ _ r e h
theorem Bq {i:cI} (h:E3 i):E3 (rdS i).2:=by
 unfold rdS
 split
 ·cases hr:rdp 9 0 0 (sbs i.s) with
  | inl e =>
   rcases KY _ _ _ _ _ hr with rfl | rfl
   ·exact .inr (.inl rfl)
   ·exact .inr (.inr rfl)
  | inr v=>exact .inl rfl
 ·exact h
theorem Iv: ∀ (k:Nat) {i:cI} (l:List Int),E3 i->E3 (rdN k i l).2
 | 0,_,_,h=>h
 | k+1,_,_,h=>Iv k _ (Bq h)
theorem MD {i:cI} (h:E3 i):E3 (v7 i).2:=by
 have h2:=Bq h
 unfold v7 Ce
 split
 ·exact h2
 ·split
  ·exact .inr (.inr rfl)
  ·exact .inl rfl
theorem CI (s:ByteArray):(lz s).2≠8:=by
 unfold lz
 split
 ·decide
 ·split
  ·decide
  ·split
   ·show yh (qgT s).2≠8
    have h0:E3 (⟨oa s,0⟩:cI):= .inl rfl
    have h3:E3 (qgC s).2:=Bq (Bq (Bq h0))
    have h4:E3 (qgI s):=by
     unfold qgI
     split
     ·exact .inr (.inl rfl)
     ·exact h3
    have h6:E3 (qgT s).2:=MD (Iv _ [] h4)
    unfold yh
    split
    ·decide
    ·rcases h6 with h | h | h <;> rw [h] <;> decide
   ·split
    ·show kA (qgR s)≠8
     unfold kA
     split
     ·decide
     ·split <;> decide
    ·show (0:Int)≠8
     decide
theorem Iw {s:ByteArray} (h:(lz s).2=0):ly (lz s).1=true/\s.size<=8192/\4<=s.size/\(lz s).1=qgR s:=by
 unfold lz at h ⊢
 split at h
 ·cases h
 ·rename_i h1
  rw [if_neg h1]
  split at h
  ·cases h
  ·rename_i h2
   rw [if_neg h2]
   have h4:4<=s.size:=by
    cases ho:ui s with
    | false=>exact absurd ho h2
    | true=>unfold ui at ho; exact (of_decide_eq_true ho).1
   split at h
   ·rename_i h3
    exact absurd h h3
   ·rename_i h3
    rw [if_neg h3]
    split at h
    ·rename_i h5
     exact absurd h h5
    ·rename_i h5
     rw [if_neg h5]
     exact ⟨(wC (Classical.not_not.1 h5)).1,by omega,h4,rfl⟩
theorem FM {g:aV} (h:ly g=true):(1<=g.bH/\g.bH<=4294967296)/\(1<=g.kind/\g.kind<=4)/\g.aW.length<=64 /\ ∀ n∈g.aW,0<=n/\n<=4611686018427387904:=by
 unfold ly at h
 simp only [Bool.and_eq_true,decide_eq_true_eq,List.all_eq_true] at h
 exact ⟨h.1,h.2.1,h.2.2.1,λn hn=>of_decide_eq_true (h.2.2.2 n hn)⟩
def qp (e:Int) (g:aV):Int:=if g.kind≠2/\g.kind≠3 then 5 else if g.bH < e then 8 else if g.bH > e then 6 else if (g.kind=2/\g.aW.length≠2)\/sZ g.aW=false then 1 else 0
theorem tJ (s:bD) (g:aV) (hn:g.aW.length<=1000000):gY s g=some (qp s.bH g):=by
 unfold gY qp
 rw [AL _ hn,aA]
 have hk:((bif (g.kind != 2) then some (g.kind != 3) else some false):Option Bool)=some (decide (g.kind≠2/\g.kind≠3)):=by
  by_cases a:g.kind=2
  ·simp [a]
  ·by_cases b:g.kind=3
   ·simp [b]
   ·rw [show (g.kind != 2)=true by simpa using a,cond_true]; simp [a,b]
 rw [hk,aA]
 by_cases a:g.kind≠2/\g.kind≠3
 ·rw [decide_eq_true a,cond_true,if_pos a]
 ·rw [decide_eq_false a,cond_false,if_neg a]
  by_cases b:g.bH < s.bH
  ·rw [decide_eq_true b,cond_true,if_pos b]
  ·rw [decide_eq_false b,cond_false,if_neg b]
   by_cases c:g.bH > s.bH
   ·rw [decide_eq_true c,cond_true,if_pos c]
   ·rw [decide_eq_false c,cond_false,if_neg c]
    have hp:(if sZ g.aW=true then (prL g.aW,true) else (([]:List dK),false)).2=sZ g.aW:=by cases sZ g.aW <;> rfl
    rw [hp]
    have hd:((bif (g.kind == 2) then some ((g.aW.length:Int) != 2) else some false):Option Bool)=some (decide (g.kind=2/\g.aW.length≠2)):=by
     by_cases d:g.kind=2
     ·rw [show (g.kind == 2)=true by simpa using d,cond_true]
      by_cases e:g.aW.length=2
      ·simp [e]
      ·rw [show ((g.aW.length:Int) != 2)=true by simp; omega]; simp [d,e]
     ·rw [show (g.kind == 2)=false by simpa using d,cond_false]; simp [d]
    rw [hd,aA]
    by_cases d:g.kind=2/\g.aW.length≠2
    ·rw [decide_eq_true d,cond_true,aA,cond_true,if_pos (.inl d)]
    ·rw [decide_eq_false d,cond_false,aA]
     cases sZ g.aW with
     | true=>rw [Bool.not_true,cond_false,if_neg (by simp [d])]
     | false=>rw [Bool.not_false,cond_true,if_pos (.inr rfl)]
def OB (e:Int) (o:fH):Prop:=(0<=o.to/\o.to<=4294967296) /\ ∃ g,kA g=0/\g.bH=e/\(g.kind=1\/g.kind=4)/\o.data=iC g
theorem CJ {s:bD} (he:1<=s.bH/\s.bH<=4294967296) {to:Int} (ht:0<=to/\to<=4294967296) {l:List aV} (hl:l.length<=1000000) (h: ∀ g∈l,GB g): ∃ L,eX s to l=some L/\L.length<=1000000 /\ ∀ o∈L,OB s.bH o:=by
 refine ⟨_,Co s to l hl λg hg=>⟨by have:=(h g hg).n; omega,by have:=(h g hg).d; omega⟩,by rw [List.length_map]; exact hl,λo ho=> ?_⟩
 obtain ⟨g,hg,rfl⟩:=List.mem_map.1 ho
 have hc:=(h g hg).check he.1 he.2
 refine ⟨ht,⟨s.bH,g.kind,g.aW,g.data⟩,hc,rfl,(h g hg).k,?_⟩
 show um _=_
 unfold um
 rw [if_pos hc]
structure SV (N:Nat) (s:bD):Prop where
 e:1<=s.bH/\s.bH<=4294967296
 t:0<=s.to/\s.to<=4294967296
 m: ∃ n z,n<=N/\MQ n s.model z
 si:SNI s.aP
 b:MNB N s.aP
theorem CK (n lo hi:Int) (h:lo<=hi): ∃ x,gE n lo hi=some x/\lo<=x/\x<=hi:=by
 refine ⟨_,rfl,?_,?_⟩ <;> unfold imax dF <;> split <;> split <;> omega
theorem ME {c:ic} (hw:c.w<=10) (hh:c.h<=6): ∃ s,jY c=some s/\SV 0 s:=by
 unfold jY
 obtain ⟨e,e1,e2⟩:=CK c.bH 1 4294967296 (by decide)
 obtain ⟨t,t1,t2⟩:=CK c.to 0 4294967296 (by decide)
 have hm:=Ir (w:=c.w) (h:=c.h) hw hh
 obtain ⟨s1,s2,s3,s4,s5⟩:=zR hm (by decide)
 have hk:0<=(sOf (tI c.w c.h) ([],[])).k/\(sOf (tI c.w c.h) ([],[])).k<=4000000000:=by omega
 rw [e1,aA,t1,aA,Ek,aA,xU,aA,s1,aA]
 dsimp only
 rw [uD _ _ s2.g.sw,aA]
 exact ⟨_,rfl,⟨e2,t2,⟨0,_,Nat.le_refl _,hm⟩,wI (CF _) s2.ct,EB (Kt _) hk⟩⟩
theorem NO {N:Nat} {s:bD} (h:SV N s) (hN:N<=80) {e:cU} (ht:e.text.size<=60) (hw:e.w<=10\/1000 < e.w) (hh:e.h<=6\/1000 < e.h): ∃ f s',hK s ⟨e.kind,e.text,e.w,e.h⟩=some (f,s')/\SV (N+1) s'/\s'.bH=s.bH:=by
 obtain ⟨n,z,hn,hm⟩:=h.m
 obtain ⟨f,m',z',d1,d2,d3,d4,d5⟩:=NM hm (by omega) ht hw hh
 obtain ⟨s1,s2,s3,s4,s5⟩:=zR d2 (by omega)
 unfold hK
 rw [d1,aA]
 dsimp only
 rw [s1,aA]
 dsimp only
 rw [uD _ _ s2.g.sw,aA]
 exact ⟨f,_,rfl,⟨h.e,h.t,⟨n+1,z',by omega,d2⟩,wI h.si s2.ct,EB h.b.more (x:=sOf m' z') (by omega)⟩,rfl⟩
theorem Kv {N:Nat} {s:bD} (h:SV N s) (hN:N<=80) (now:Int): ∃ L s',dY s now=some (L,s')/\SV (N+1) s'/\s'.bH=s.bH/\L.length<=1000000 /\ ∀ o∈L,OB s.bH o:=by
 obtain ⟨b1,b2⟩:=Ku h.b h.si (by omega) now
 have hS:=Ew now h.si
 unfold dY
 rw [y6 s.aP now h.si,aA]
 have hl:(nI s.aP now).1.length<=1000000:=by
  have hbS:=(rC now h.si).pl
  unfold nI
  split
  ·simp
  ·split
   ·simp
   ·rw [FJ]
    have:=y4 (lB s.aP now).message (lB s.aP now).message.parts.length
    show (uC _ _).length<=_
    omega
 obtain ⟨L,o1,o2⟩:=CJ (s:=⟨s.bH,s.to,s.model,(nI s.aP now).2⟩) h.e h.t hl b2
 rw [o1,aA]
 obtain ⟨n,z,hn,hm⟩:=h.m
 exact ⟨L,_,rfl,⟨h.e,h.t,⟨n,z,by omega,hm⟩,hS,b1⟩,rfl,o2⟩
theorem EC (g:aV) (i:Nat) (h:g.aW.length<=1000000) (hi:i<=100): ∃ v,gP g (i:Int)=some v:=by
 unfold gP
 rw [wB,aA,w64 (by omega) (by omega)]
 by_cases c:0<=(i:Int)/\(i:Int)<=(g.aW.length:Int) - 1
 ·rw [decide_eq_true c,Bool.not_true,cond_false,dC _ i (by omega),aA]
  exact ⟨_,rfl⟩
 ·rw [decide_eq_false c,Bool.not_false,cond_true]
  exact ⟨_,rfl⟩
theorem Kw {N:Nat} {s:bD} (h:SV N s) (hN:N<=80) (now from_:Int) {d:ByteArray} (hd:d.size<=100000): ∃ L e s',cW s now from_ d=some (L,e,s')/\SV N s'/\s'.bH=s.bH/\L.length<=1000000 /\ ∀ o∈L,OB s.bH o:=by
 unfold cW
 obtain ⟨t,t1,t2⟩:=CK from_ 0 4294967296 (by decide)
 rw [t1,aA,vi hd,aA]
 have h8:=CI d
 by_cases p0:(lz d).2=0
 ·obtain ⟨r1,r2,r3,r4⟩:=Iw p0
  obtain ⟨q1,q2,q3,q4⟩:=FM r1
  have hdat:(lz d).1.data.size<=8192:=by rw [r4]; exact G1 r2 r3
  rw [show ((lz d).2 == 0)=true by simpa using p0,cond_true,tJ _ _ (by omega),aA,aA]
  generalize hg:(lz d).1=g at q1 q2 q3 q4 hdat ⊢
  by_cases c8:qp s.bH g=8
  ·rw [show (qp s.bH g == 8)=true by simpa using c8,cond_true]
   obtain ⟨L,o1,o2⟩:=CJ (s:=s) h.e t2 (l:=[⟨0,4,[0,0],ByteArray.mk #[]⟩]) (by decide) (λg hg=>by
    rw [List.mem_singleton.1 hg]
    exact ⟨.inr rfl,by decide,λx hx=>by simp at hx; omega,Nat.zero_le _⟩)
   rw [o1,aA]
   exact ⟨L,_,s,rfl,h,rfl,o2⟩
  ·rw [show (qp s.bH g == 8)=false by simpa using c8,cond_false]
   by_cases c0:qp s.bH g=0
   ·rw [c0,show ((0:Int) != 0)=false from rfl,cond_false]
    obtain ⟨n,z,hn,hm⟩:=h.m
    by_cases k2:g.kind=2
    ·obtain ⟨a,a1⟩:=EC g 0 (by omega) (by decide)
     obtain ⟨b,b1⟩:=EC g 1 (by omega) (by decide)
     rw [show (g.kind == 2)=true by simpa using k2,cond_true,show (0:Int)=((0:Nat):Int) from rfl,a1,aA,show (1:Int)=((1:Nat):Int) from rfl,b1,aA,Ey _ _ _ _ h.si (by omega),aA]
     exact ⟨[],_,_,rfl,⟨h.e,t2,⟨n,z,hn,hm⟩,Mx _ _ _ h.si,MB h.b _ _ _⟩,rfl,by decide,λo ho=>(by cases ho)⟩
    ·rw [show (g.kind == 2)=false by simpa using k2,cond_false,AL _ (by omega),aA]
     have hp:(if sZ g.aW=true then (prL g.aW,true) else (([]:List dK),false)).1.length<=64 /\ ∀ x∈(if sZ g.aW=true then (prL g.aW,true) else (([]:List dK),false)).1,0<=x.from_/\x.from_<=4611686018427387904:=by
      split
      ·exact ⟨by have:=zF g.aW; dsimp only; omega,λx hx=>q4 _ (DS hx).1⟩
      ·exact ⟨Nat.zero_le _,λx hx=>(by cases hx)⟩
     generalize (if sZ g.aW=true then (prL g.aW,true) else (([]:List dK),false)).1=l at hp ⊢
     obtain ⟨b1,b2,b3⟩:=NN hm (by omega)
     rw [Fc b2 s.model.book b1 s.bH l (by omega) (λx hx=>(hp.2 x hx).2),aA]
     obtain ⟨w1,w2⟩:=MC b2 b3 s.bH l hp.2
     obtain ⟨L,o1,o2⟩:=CJ (s:=⟨s.bH,t,s.model,s.aP⟩) h.e t2 (l:=Fb s.bH z.1 l) (by omega) w2
     rw [o1,aA]
     exact ⟨L,_,_,rfl,⟨h.e,t2,⟨n,z,hn,hm⟩,h.si,h.b⟩,rfl,o2⟩
   ·rw [show (qp s.bH g != 0)=true by simpa using c0,cond_true]
    exact ⟨[],_,s,rfl,h,rfl,by decide,λo ho=>(by cases ho)⟩
 ·rw [show ((lz d).2 == 0)=false by simpa using p0,cond_false,aA,show ((lz d).2 == 8)=false by simpa using h8,cond_false,show ((lz d).2 != 0)=true by simpa using p0,cond_true]
  exact ⟨[],_,s,rfl,h,rfl,by decide,λo ho=>(by cases ho)⟩
def qq:aL:=⟨1,3,1,0,0,noS,[⟨[blk 0,blk 0,blk 0],false⟩],0,0,[]⟩
theorem Kx:sOf (tI 3 1) ([],[])=qq:=rfl
theorem Ky:Jy mC qq=[0,1,3,1,0,0,0,0,0,0,1,0,0,3,32,0,0]:=by
 have e0:dM 0=[0]:=nf (n:=0) (by omega)
 have e1:dM 1=[1]:=nf (n:=1) (by omega)
 have e3:dM 3=[3]:=nf (n:=3) (by omega)
 have e32:dM 32=[32]:=nf (n:=32) (by omega)
 have hz:(noS.size:Int)=0:=rfl
 have hs:sbs noS=[]:=rfl
 have hr:pK [blk 0,blk 0,blk 0]=[(3,blk 0)]:=rfl
 have hp:nS mC=noS:=by unfold nS; rw [if_pos (.inl (E5.2 rfl))]
 have hsum:tC noS=0:=by
  unfold tC
  rw [hs]
  decide
 have hc:chg mC.rows qq.rows=[0]:=rfl
 have hg:(qq.rows[0]?).getD Gt=⟨[blk 0,blk 0,blk 0],false⟩:=rfl
 unfold Jy sW
 rw [hp,hsum,hc]
 unfold pch lO
 simp only [List.flatMap_cons,List.flatMap_nil,List.append_nil,hg]
 unfold qq
 dsimp only
 unfold mm
 simp only [List.flatMap_cons,List.flatMap_nil,hr,hz,hs,e0,e1,e3,List.append_nil,List.length_nil]
 unfold oz blk
 simp only [List.flatMap_cons,List.flatMap_nil,e0,e32,List.append_nil]
 have e1':dM ((1:Nat):Int)=[1]:=nf (n:=1) (by omega)
 have e0':dM ((0:Nat):Int)=[0]:=nf (n:=0) (by omega)
 have e3':dM ((3:Nat):Int)=[3]:=nf (n:=3) (by omega)
 simp [e0,e0',e1,e1',e3,e3']
theorem Br:(nT mC qq).size<=100:=by
 unfold nT
 split
 ·decide
 ·rw [Ky,gq]
  decide
def oN (e k:Int):aV:=⟨e,2,[k,0],ByteArray.mk #[]⟩
theorem FN {e k:Int} (h:1<=e/\e<=100) (hk:0<=k/\k<=100):kA (oN e k)=0:=by
 have hr:ly (oN e k)=true:=by
  unfold ly oN
  simp only [Bool.and_eq_true,decide_eq_true_eq,List.all_eq_true]
  refine ⟨by omega,by decide,(show 2<=64 by decide),λx hx=>decide_eq_true ?_⟩
  simp only [List.mem_cons,List.not_mem_nil,or_false] at hx
  rcases hx with rfl | rfl <;> omega
 have hs:(iC (oN e k)).size<=8192:=by
  unfold iC
  rw [sf,gq]
  have:=Ay (g:=oN e k) (show 2<=64 by decide)
  have h0:(oN e k).data.size=0:=rfl
  omega
 unfold kA
 rw [hr,if_neg (by simp),if_neg (by omega)]
theorem Bs {e k:Int} (h:1<=e/\e<=100) (hk:0<=k/\k<=100):ga (oN e k)=some (iC (oN e k))/\jK (iC (oN e k))=some (oN e k,0):=by
 have hc:=FN h hk
 have hs:=(wC hc).2
 constructor
 ·rw [Az (g:=oN e k) (show 2<=1000000 by decide) (Nat.zero_le _),um,if_pos hc]
 ·rw [vi (by omega),vP hc]
theorem CL:lZ=some true:=by
 unfold lZ
 have hm:=Ir (w:=3) (h:=1) (by decide) (by decide)
 obtain ⟨s1,s2,s3,s4,s5⟩:=zR hm (by decide)
 rw [Kx] at s1 s2 s3 s4
 obtain ⟨f1,f2,f3⟩:=CG (c:=⟨100,1,2⟩) s2 s3 (now:=0)
 have hnew:jY (ic.mk 2 3 1 7 (bW.mk 100 1 2))=some ⟨2,7,tI 3 1,setCur (nuS ⟨100,1,2⟩) qq⟩:=by
  unfold jY
  rw [show gE 2 1 4294967296=some 2 from rfl,aA,show gE 7 0 4294967296=some 7 from rfl,aA]
  dsimp only
  rw [Ek,aA,xU,aA,s1,aA]
  dsimp only
  rw [f1,aA]
 have hp:ptN (nuS ⟨100,1,2⟩).config.part=100:=by decide
 rw [hp,Kr _ 100 (by decide) Br] at f3
 have hSI:SNI (setCur (nuS ⟨100,1,2⟩) qq):=by
  have:=wI (CF ⟨100,1,2⟩) s2.ct
  have h2:=f1
  rw [uD _ _ s2.g.sw] at h2
  rw [Option.some.inj h2] at this
  exact this
 have hst:nI (setCur (nuS ⟨100,1,2⟩) qq) 0=(_,FC (ym (setCur (nuS ⟨100,1,2⟩) qq) 0) (IntKind.i64.wrap (0+(setCur (nuS ⟨100,1,2⟩) qq).config.every))):=xV 0 (by decide) (by decide)
 have hsS:=Ew 0 hSI
 generalize hq:nI (setCur (nuS ⟨100,1,2⟩) qq) 0=q at f2 f3 hst hsS
 have hq2:q.2=FC (ym (setCur (nuS ⟨100,1,2⟩) qq) 0) (IntKind.i64.wrap (0+(setCur (nuS ⟨100,1,2⟩) qq).config.every)):=by rw [hst]
 have hstep:dY ⟨2,7,tI 3 1,setCur (nuS ⟨100,1,2⟩) qq⟩ 0=some ([⟨7,um ⟨2,1,[1,qq.k,0,0,1],nT mC qq⟩⟩],⟨2,7,tI 3 1,q.2⟩):=by
  unfold dY
  rw [f2,aA,f3,Co _ _ _ (by decide) (λg hg=>by
   obtain ⟨i,_,rfl⟩:=List.mem_map.1 hg
   refine ⟨by show 5<=_; decide,?_⟩
   have:=Br
   show (([nT mC qq][i]?).getD noS).size<=_
   cases i with
   | zero=>show (nT mC qq).size<=_; omega
   | succ i=>exact Nat.zero_le _),aA]
  rfl
 obtain ⟨k1,k2⟩:=Bs (e:=1) (k:=0) (by decide) (by decide)
 obtain ⟨k3,k4⟩:=Bs (e:=2) (k:=1) (by decide) (by decide)
 have hh1:cW ⟨2,7,tI 3 1,q.2⟩ 0 9 (iC (oN 1 0))=some ([⟨9,um ⟨2,4,[0,0],ByteArray.mk #[]⟩⟩],8,⟨2,7,tI 3 1,q.2⟩):=by
  unfold cW
  rw [show gE 9 0 4294967296=some 9 from rfl,aA,k2,aA,show ((0:Int) == 0)=true from rfl,cond_true,tJ _ (oN 1 0) (show 2<=1000000 by decide),aA,aA]
  dsimp only
  rw [show qp 2 (oN 1 0)=8 by decide,show ((8:Int) == 8)=true from rfl,cond_true,Co _ _ _ (by decide) (λg hg=>by rw [List.mem_singleton.1 hg]; exact ⟨by show 2<=_; decide,Nat.zero_le _⟩),aA]
  rfl
 have hh2: ∃ S:aI,cW ⟨2,7,tI 3 1,q.2⟩ 0 9 (iC (oN 2 1))=some ([],0,⟨2,9,tI 3 1,S⟩)/\S.aM.k=1:=by
  unfold cW
  rw [show gE 9 0 4294967296=some 9 from rfl,aA,k4,aA,show ((0:Int) == 0)=true from rfl,cond_true,tJ _ (oN 2 1) (show 2<=1000000 by decide),aA,aA]
  dsimp only
  rw [show qp 2 (oN 2 1)=0 by decide,show ((0:Int) == 8)=false from rfl,cond_false,show ((0:Int) != 0)=false from rfl,cond_false,show ((oN 2 1).kind == 2)=true from rfl,cond_true,show gP (oN 2 1) 0=some 1 from rfl,aA,show gP (oN 2 1) 1=some 0 from rfl,aA,Ey _ _ _ _ hsS (Nat.zero_le _),aA]
  refine ⟨_,rfl,?_⟩
  rw [hq2]
  rfl
 obtain ⟨S,hh2,hS⟩:=hh2
 rw [hnew,aA,hstep,aA,show (aV.mk 1 2 [0,0] (ByteArray.mk #[]))=oN 1 0 from rfl,k1,aA]
 dsimp only
 rw [hh1,aA,show (aV.mk 2 2 [1,0] (ByteArray.mk #[]))=oN 2 1 from rfl,k3,aA]
 dsimp only
 rw [hh2,aA]
 dsimp only
 rw [show jz ⟨2,9,tI 3 1,S⟩=some S.aM.k from rfl,hS]
 rfl
theorem Kz {e:Int} {o:fH} (h:OB e o): ∃ g,jK o.data=some (g,0)/\g.bH=e/\(g.kind=1\/g.kind=4):=by
 obtain ⟨_,g,h1,h2,h3,h4⟩:=h
 refine ⟨g,?_,h2,h3⟩
 rw [h4,vi (by have:=(wC h1).2; omega),vP h1]
theorem we {c:gp} {kT:List nF} (a0:pc c) (a1: ∀ x∈kT,qh x):kI c kT=some true:=by
 unfold kI
 rw [CL,aA,Bool.not_true,cond_false,show oS c=some ((ic.mk c.bH (imax (-1) (dF c.w 10)) (imax (-1) (dF c.h 5)) c.to (bW.mk c.aP.part c.aP.every c.aP.most)),(gp.mk c.bH (imax (-1) (dF c.w 10)) (imax (-1) (dF c.h 5)) c.to c.aP)) from rfl,aA]
 have hw:imax (-1) (dF c.w 10)<=10:=by unfold imax dF; split <;> split <;> omega
 have hh:imax (-1) (dF c.h 5)<=6:=by unfold imax dF; split <;> split <;> omega
 obtain ⟨s,e1,e2⟩:=ME (c:=⟨c.bH,imax (-1) (dF c.w 10),imax (-1) (dF c.h 5),c.to,⟨c.aP.part,c.aP.every,c.aP.most⟩⟩) hw hh
 rw [e1,aA]
 refine rh (λs:bD×Int×Int=> ∃ n:Nat,s.2.2=n/\n<=20/\SV n s.1) (λs=>20 - s.2.2.toNat) (λr=> ∃ s,r = .inl s) ⟨0,rfl,by decide,e2⟩ ?_ ?_
 ·rintro ⟨s,now,i⟩ ⟨n,h1,h2,h3⟩
  dsimp only at h1 h2 h3 ⊢
  subst h1
  by_cases c:(n:Int) < (kT.length:Int)/\(n:Int) < 20
  ·left
   rw [Kj c,aA,cond_true,dC kT n (by omega),aA]
   -- what the call is
   obtain ⟨L,s',q1,q2,q3,q5,q4⟩: ∃ L s',((bif (kT[n].kind == 0) then (Option.bind (mz kT[n].event) λj=>(Option.bind (hK s (ju.mk j.kind j.text j.w j.h)) λp=>some ([],p.2))) else (bif (kT[n].kind == 1) then (Option.bind (dY s (IntKind.i64.wrap (now+(Go.bits .and .i64 kT[n].later 7)))) λk=>some (k.1,k.2)) else (Option.bind (jf kT[n].text 300) λq=>(Option.bind (cW s (IntKind.i64.wrap (now+(Go.bits .and .i64 kT[n].later 7))) kT[n].from_ q) λl=>some (l.1,l.2.2))))):Option ((List fH)×bD))=some (L,s')/\SV (n+1) s'/\s'.bH=s.bH/\L.length<=1000000 /\ ∀ o∈L,OB s.bH o:=by
    by_cases k0:kT[n].kind=0
    ·rw [show (kT[n].kind == 0)=true by simpa using k0,cond_true]
     obtain ⟨r,er,hr⟩:=Mz kT[n].event
     obtain ⟨f,s',d1,d2,d3⟩:=NO h3 (by omega) hr.1 hr.2.1 hr.2.2
     rw [er,aA,d1,aA]
     exact ⟨[],s',rfl,d2,d3,by decide,λo ho=>by cases ho⟩
    ·rw [show (kT[n].kind == 0)=false by simpa using k0,cond_false]
     by_cases k1:kT[n].kind=1
     ·rw [show (kT[n].kind == 1)=true by simpa using k1,cond_true]
      obtain ⟨L,s',d1,d2,d3,d4⟩:=Kv h3 (by omega) (IntKind.i64.wrap (now+(Go.bits .and .i64 kT[n].later 7)))
      rw [d1,aA]
      exact ⟨L,s',rfl,d2,d3,d4⟩
     ·rw [show (kT[n].kind == 1)=false by simpa using k1,cond_false]
      have hc:jf kT[n].text 300=some (Js kT[n].text 300):=GQ kT[n].text 300
      obtain ⟨r,er,hr⟩:=D4 kT[n].text (n:=300) (by decide)
      rw [hc] at er
      cases er
      obtain ⟨L,e,s',d1,d2,d3,d4⟩:=Kw h3 (by omega) (IntKind.i64.wrap (now+(Go.bits .and .i64 kT[n].later 7))) kT[n].from_ (d:=Js kT[n].text 300) (by omega)
      rw [hc,aA,d1,aA]
      exact ⟨L,s',rfl,⟨d2.e,d2.t,(by obtain ⟨a,z,b1,b2⟩:=d2.m; exact ⟨a,z,by omega,b2⟩),d2.si,d2.b.more⟩,d3,d4⟩
   rw [q1,aA]
   dsimp only
   refine ⟨_,fw (λi:Nat=>(i:Int)) L.length (.inl ()) rfl (λi hi=> ?_) ?_ rfl,⟨n+1,by dsimp only; rw [w64 (by omega) (by omega)]; omega,by omega,q2⟩,by dsimp only; rw [w64 (by omega) (by omega)]; omega⟩
   ·have ho:=q4 _ (List.getElem_mem hi)
    obtain ⟨g,g1,g2,g3⟩:=Kz ho
    rw [decide_eq_true (by omega),cond_true,dC L i hi,aA,g1,aA]
    dsimp only
    rw [show ((0:Int) != 0)=false from rfl,cond_false,show jA s'=some s'.bH from rfl,aA,q3,g2,Mq,cond_false]
    have ht:((bif (decide (L[i].to < 0)) then some true else some (decide (L[i].to > 4294967296))):Option Bool)=some false:=by
     rw [decide_eq_false (by have:=ho.1.1; omega),cond_false,decide_eq_false (by have:=ho.1.2; omega)]
    rcases g3 with g3 | g3
    ·rw [g3,Mq,cond_false,ht,aA,cond_false,w64 (by omega) (by omega)]
     rfl
    ·rw [g3,show ((4:Int) != 1)=true from rfl,cond_true,Mq,cond_false,ht,aA,cond_false,w64 (by omega) (by omega)]
     rfl
   ·rw [decide_eq_false (by omega),cond_false]
  ·right
   rw [Kk c,aA,cond_false]
   exact ⟨_,rfl,s,rfl⟩
 ·rintro r ⟨s,rfl⟩
  rfl
end Go.Tw.X

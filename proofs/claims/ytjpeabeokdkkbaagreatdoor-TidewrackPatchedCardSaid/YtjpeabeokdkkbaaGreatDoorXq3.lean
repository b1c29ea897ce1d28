import Derived.Test.YtjpeabeokdkkbaaGreatDoorXq2
import Derived.Test.YtjpeabeokdkkbaaGreatDoorXq1
import Derived.Test.YtjpeabeokdkkbaaGreatDoorXp1
set_option linter.unusedVariables false
set_option linter.unusedSimpArgs false
set_option maxHeartbeats 1000000
namespace Go.Tw.X
open Go Go.Tw
structure SG (s:aM):Prop where
 sw:SW s
 pk:(s.rows.flatMap eT).length≤12000
 may:mN s=true
theorem C9:SG mA:=⟨FC,IP,GW⟩
theorem packed {s:aM} (g:SG s) (he:fV s=false):jg s=fR (kj s):=by
 unfold jg
 rw [g.may,he,if_neg (by simp)]
theorem yK {s:aM} (g:SG s) (he:fV s=false):lq (jg s)=some (s,0):=by
 have hsz:=wB g.sw g.pk
 obtain ⟨q1,q2⟩:=zw he g.may
 rw [packed g he] at hsz ⊢
 rw [DM _ (by omega) (by rw [q2]; exact g.sw),q1]
theorem Dc {s:aM} (g:SG s) (he:fV s=false):n7 s=false:=by
 unfold n7
 rw [he,g.may]
 rfl
theorem IQ {a b:aM} (ga:SG a) (gb:SG b):lr a b=some (lA a b):=diff_eq a b ga.sw gb.sw ga.pk gb.pk
theorem GX {a b c:aM} (ga:SG a) (gb:SG b) (hb:fV b=false) (gc:SG c):kK c (lA a b)=some (oe c (lA a b)):=by
 have h1:=BA a b gb.sw gb.pk
 have h2:=(xR a b gb.sw ga.may (Dc gb hb)).1
 refine GV c _ gc.sw gc.pk (by omega) ?_
 rw [h2]
 exact gb.sw.tl
theorem uS {a b:aM} (ga:SG a) (gb:SG b) (hb:fV b=false):oe a (lA a b)=(b,0):=(xR a b gb.sw ga.may (Dc gb hb)).2
theorem Av {a b c:aM} (ga:SG a) (gb:SG b) (hb:fV b=false) (gc:SG c) (hs:nW (jg c)≠nW (jg a)):(oe c (lA a b)).2=7:=by
 have h:=uS ga gb hb
 unfold oe at h ⊢
 rw [if_neg (by rw [ga.may]; simp)] at h
 rw [if_neg (by rw [gc.may]; simp)]
 by_cases he:pj (zR (lA a b)).2≠0
 ·rw [if_pos he] at h
  exact absurd (congrArg Prod.snd h) he
 ·rw [if_neg he] at h ⊢
  by_cases hz:(zA (lA a b)).1≠((nW (jg a):Nat):Int)
  ·rw [if_pos hz] at h
   exact absurd (congrArg Prod.snd h) (show ¬ (7:Int)=0 by decide)
  ·have hz':(zA (lA a b)).1=((nW (jg a):Nat):Int):=Classical.not_not.1 hz
   rw [if_pos (by rw [hz']; omega)]
structure MB (N:Nat) (m:bK) (z:Zt):Prop where
 ex: ∃ x,MX 7 (1000000*N) N z m x
 g:MG m z
 h:HN 3 m.bB
 k:m.k=N
theorem GY:MB 0 (GA 7 3) ([],[]):=by
 have h0:=Ks 7 3
 rw [show szN 7=7 by decide] at h0
 exact ⟨⟨_,h0⟩,Ku 7 3,⟨by decide,by decide,by decide⟩,rfl⟩
theorem LI {N:Nat} {m:bK} {z:Zt} (h:MB N m z) (hN:N≤40) {t:ByteArray} (ht:t.size≤100): ∃ m' z',ja m ⟨0,t,0,0⟩=some (0,m')∧MB (N+1) m' z':=by
 obtain ⟨x,hx⟩:=h.ex
 have e:=Bv hx (by omega) (by omega) (t:=t) (by omega) 0 0
 have h1:=Gz hx (t:=t) (by omega)
 have hk:=h.k
 exact ⟨_,_,e,⟨⟨_,h1.mono (by omega) (Nat.le_refl _)⟩,GF hx h.g t _ _,Al (W:=7) _ (y:=(m.bB,z)) h.h,by dsimp only; omega⟩⟩
theorem Dd {N:Nat} {m:bK} {z:Zt} (h:MB N m z) (hN:N≤40):fU m=some (sOf m z,m)∧SG (sOf m z)∧fV (sOf m z)=false:=by
 obtain ⟨x,hx⟩:=h.ex
 refine ⟨GG hx (by omega) (by omega),⟨Kv hx h.g,?_,IG hx h.g (by omega) (by omega)⟩,?_⟩
 ·have e:=xC 7 m.bB.g.l fun r hr=>Nat.le_of_eq (hx.si.gi.rs r hr).1
  rw [h.h.e] at e
  show (m.bB.g.l.flatMap eT).length≤12000
  omega
 ·unfold fV
  rw [show (sOf m z).k=m.k+1 from rfl,h.k,dQ (by omega)]
  rfl
structure PA (n:Nat) (m:bK) (last:aM) (l:List ByteArray) (bs:List aM):Prop where
 m_: ∃ z,MB n m z
 ll:l.length=n
 bl:bs.length=n
 bg: ∀ b∈bs,SG b
 lg:SG last
 st: ∀ i (hi:i < n),∃ s,(bs++[last])[i+1]?=some s∧SG s∧fV s=false∧l[i]?=some (lA ((bs++[last])[i]?.getD mA) s)
 z0:(bs++[last])[0]?=some mA
theorem PA.next {n:Nat} {m m':bK} {z':Zt} {last s:aM} {l:List ByteArray} {bs:List aM} (h:PA n m last l bs) (hm:MB (n+1) m' z') (hs:SG s) (he:fV s=false) :
  PA (n+1) m' s (l++[lA last s]) (bs++[last]):=by
 refine ⟨⟨z',hm⟩,by simp [h.ll],by simp [h.bl],fun b hb=> ?_,hs,fun i hi=> ?_,?_⟩
 ·rcases List.mem_append.1 hb with hb | hb
  ·exact h.bg b hb
  ·rw [List.mem_singleton.1 hb]; exact h.lg
 ·by_cases c:i < n
  ·obtain ⟨s',e1,e2,e3,e4⟩:=h.st i c
   have hb:(bs++[last]).length=n+1:=by simp [h.bl]
   refine ⟨s',?_,e2,e3,?_⟩
   ·rw [List.getElem?_append_left (by omega)]; exact e1
   ·rw [List.getElem?_append_left (by rw [h.ll]; exact c),e4,List.getElem?_append_left (l₁:=bs++[last]) (l₂:=[s]) (by omega)]
  ·have hi':i=n:=by omega
   subst hi'
   have hb:(bs++[last]).length=i+1:=by simp [h.bl]
   refine ⟨s,?_,hs,he,?_⟩
   ·rw [List.getElem?_append_right (by omega),hb,Nat.sub_self]; rfl
   ·rw [List.getElem?_append_right (by rw [h.ll]; exact Nat.le_refl _),h.ll,Nat.sub_self,List.getElem?_append_left (l₁:=bs++[last]) (l₂:=[s]) (by omega),List.getElem?_append_right (by rw [h.bl]; exact Nat.le_refl _),h.bl,Nat.sub_self]
    rfl
 ·rw [List.getElem?_append_left (by simp)]; exact h.z0
theorem yL {a b:aM} (ga:SG a):gj a b=some (decide (a=b)):=Fw a b ga.sw
theorem pN {texts:List ByteArray} {out:Int} (a0: ∀ x∈texts,x.size≤maxLen) (a1:inK .i64 out):iO texts out=some true:=by
 unfold iO
 obtain ⟨e0,g0,n0⟩:=Dd GY (by decide)
 rw [IC,aA,e0,aA]
 dsimp only
 rw [show (sOf (GA 7 3) ([],[])).k=1 from rfl,Me,cond_false]
 refine nH (fun s:bK×aM×List ByteArray×List aM×Int=> ∃ n:Nat,s.2.2.2.2=n∧n≤8∧PA n s.1 s.2.1 s.2.2.1 s.2.2.2.1) (fun s=>8 - s.2.2.2.2.toNat)
  (fun r=> ∃ n m last l bs,r = .inl (l,bs,last,m)∧n≤8∧PA n m last l bs) ⟨0,rfl,by decide,⟨⟨([],[]),GY⟩,rfl,rfl,fun _ hb=>absurd hb List.not_mem_nil,C9,fun i hi=>absurd hi (Nat.not_lt_zero i),rfl⟩⟩ ?_ ?_
 ·rintro ⟨m,last,l,bs,i⟩ ⟨n,h1,h2,h3⟩
  dsimp only at h1 h2 h3 ⊢
  subst h1
  by_cases c:(n:Int) < (texts.length:Int)∧(n:Int) < 8
  ·left
   obtain ⟨t,et,ht⟩:=Ij texts[n] (n:=60) (by decide)
   obtain ⟨z,hz⟩:=h3.m_
   obtain ⟨m',z',e1,hm'⟩:=LI hz (by omega) (t:=t) (by omega)
   obtain ⟨e2,g2,n2⟩:=Dd hm' (by omega)
   rw [IH c,aA,cond_true,dO texts n (by omega),aA,et,aA,e1,aA]
   dsimp only
   rw [e2,aA]
   dsimp only
   rw [yq _ g2.sw (by have:=g2.pk; omega),aA,yK g2 n2,aA]
   dsimp only
   rw [show ((0:Int) != 0)=false from rfl,cond_false,yL g2,aA,decide_eq_true rfl,aA,Bool.not_true,cond_false,IQ h3.lg g2,aA,bR (by rw [h3.ll]; simp; omega),aA,bR (by rw [h3.bl]; simp; omega),aA,w64 (by omega) (by omega)]
   exact ⟨_,rfl,⟨n+1,by dsimp only; omega,by omega,h3.next hm' g2 n2⟩,by dsimp only; omega⟩
  ·right
   rw [II c,aA,cond_false]
   exact ⟨_,rfl,n,m,last,l,bs,rfl,h2,h3⟩
 ·rintro r ⟨n,m,last,l,bs,rfl,h2,h3⟩
  dsimp only
  have hbl:(bs++[last]).length=n+1:=by simp [h3.bl]
  have hlast:(bs++[last])[n]?=some last:=by rw [List.getElem?_append_right (by rw [h3.bl]; exact Nat.le_refl _),h3.bl,Nat.sub_self]; rfl
  refine nH (fun s:aM×Int=> ∃ i:Nat,s.2=i∧i≤n∧SG s.1∧((bs++[last])[i]?=some s.1∨(i:Int)=out+1)) (fun s=>n - s.2.toNat)
   (fun r=>r = .inr true ∨ ∃ s,r = .inl s∧SG s∧(s=last∨(n:Int)=out+1)) ⟨0,rfl,Nat.zero_le _,C9,.inl h3.z0⟩ ?_ ?_
  ·rintro ⟨s,i⟩ ⟨j,k1,k2,k3,k4⟩
   dsimp only at k1 k2 k3 k4 ⊢
   subst k1
   by_cases c:j < n
   ·obtain ⟨s',e1,e2,e3,e4⟩:=h3.st j c
    have hjl:j < l.length:=by rw [h3.ll]; exact c
    have hjb:j < bs.length:=by rw [h3.bl]; exact c
    have hl:l[j]=lA ((bs++[last])[j]?.getD mA) s':=Option.some.inj (by rw [← List.getElem?_eq_getElem hjl]; exact e4)
    have hb:(bs++[last])[j]?=some bs[j]:=by rw [List.getElem?_append_left hjb,List.getElem?_eq_getElem hjb]
    have gb:SG bs[j]:=h3.bg _ (List.getElem_mem hjb)
    rw [hb,Option.getD_some] at hl
    rw [decide_eq_true (by omega),cond_true,dO l j hjl,aA]
    by_cases ho:(j:Int)=out
    ·left
     rw [k8 ho,cond_true,aA]
     dsimp only
     rw [w64 (by omega) (by omega)]
     exact ⟨_,rfl,⟨j+1,by dsimp only; omega,by omega,k3,.inr (by omega)⟩,by dsimp only; omega⟩
    ·rw [dQ ho,cond_false,hl,GX gb e2 e3 k3,aA,dO bs j hjb,aA,yL k3,aA]
     by_cases hs:s=bs[j]
     ·left
      have ha:=uS gb e2 e3
      subst hs
      rw [decide_eq_true rfl,Bool.not_true,cond_false,ha]
      dsimp only
      rw [show ((0:Int) != 0)=false from rfl,cond_false,aA]
      dsimp only
      rw [w64 (by omega) (by omega)]
      exact ⟨_,rfl,⟨j+1,by dsimp only; omega,by omega,e2,.inl e1⟩,by dsimp only; omega⟩
     ·right
      rw [decide_eq_false hs,Bool.not_false,cond_true]
      have hq:((bif ((oe s (lA bs[j] s')).2 == 7) then some true else (Option.bind (some bs[j]) fun a=>(Option.bind (eZ s) fun b=>(Option.bind (eZ a) fun d=>some (b == d))))):Option Bool)=some true:=by
       by_cases hS:nW (jg s)=nW (jg bs[j])
       ·cases hc:((oe s (lA bs[j] s')).2 == 7) with
        | true=>rfl
        | false =>
         rw [cond_false,aA,vh _ k3.sw k3.pk,aA,vh _ gb.sw gb.pk,aA,hS,beq_self_eq_true]
       ·rw [Av gb e2 e3 k3 hS]
        rfl
      rw [hq,aA]
      exact ⟨_,rfl,.inl rfl⟩
   ·right
    have hj:j=n:=by omega
    subst hj
    rw [h3.ll,decide_eq_false (by omega),cond_false]
    refine ⟨_,rfl,.inr ⟨s,rfl,k3,?_⟩⟩
    rcases k4 with k4 | k4
    ·left
     rw [hlast] at k4
     exact (Option.some.inj k4).symm
    ·exact .inr k4
  ·rintro r (rfl | ⟨s,rfl,k1,k2⟩)
   ·rfl
   ·dsimp only
    rw [yL k1,aA]
    rcases k2 with rfl | k2
    ·rw [decide_eq_true rfl,cond_true,aA]
    ·rw [h3.ll,w64 (by omega) (by omega),k8 (by omega)]
     cases decide (s=last) <;> rfl
end Go.Tw.X

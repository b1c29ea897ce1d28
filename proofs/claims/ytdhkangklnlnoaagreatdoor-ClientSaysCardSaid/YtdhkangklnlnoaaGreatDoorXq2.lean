import Derived.Test.YtdhkangklnlnoaaGreatDoorXq1
import Derived.Test.YtdhkangklnlnoaaGreatDoorXp1
import Derived.Test.YtdhkangklnlnoaaGreatDoorFw2
set_option linter.unusedVariables false
set_option linter.unusedSimpArgs false
set_option maxHeartbeats 1000000
namespace Go.Tw.X
open Go Go.Tw
theorem x8 (n:Int) (h0:0<=n) (h1:n<=1000001):dY n=some []:=by
 unfold dY
 have hn:decide (n < 0)=false:=decide_eq_false (by omega)
 have z:IntKind.i64.wrap (0 - 0)=0:=by decide
 rw [hn,cond_false,z,w64 (by omega) (by omega),Int.sub_zero]
 by_cases hp:n > 0
 ·have:decide (n > 0)=true:=decide_eq_true hp
  rw [this,cond_true,v8 hp (by omega) (by omega),aA,dG (by omega) (by omega) (by omega),aA]
  rfl
 ·have:decide (n > 0)=false:=decide_eq_false hp
  rw [this,cond_false]
  rfl
theorem x9 (a:List aB) (x:aB) (c:List aB) (h:a.length+c.length<=1000000):cT [a,[x],c]=some (a++x::c):=by
 unfold cT
 rw [bS (s':=(1,(a.length:Int))),bS (s':=(2,(a.length:Int)+1)),bS (s':=(3,(a.length:Int)+1+c.length)),bB (r:=(a.length:Int)+1+c.length),aA,x8 _ (by omega) (by omega),aA,bS (s':=(1,a)),bS (s':=(2,a++[x])),bS (s':=(3,a++[x]++c)),bB (r:=a++[x]++c),aA,List.append_assoc]
 ·rfl
 ·rfl
 ·show (Option.bind (chk (dK (a++[x]).length c.length 16)) _)=_
  rw [bO (by simp; omega),aA]
  rfl
 ·show (Option.bind (chk (dK a.length 1 16)) _)=_
  rw [bO (by omega),aA]
  rfl
 ·show (Option.bind (chk (dK 0 a.length 16)) _)=_
  rw [bO (by omega),aA]
  rfl
 ·rfl
 ·show ((bif (decide ((IntKind.i64.wrap ((a.length:Int)+1+(c.length:Int))) < 0)) then none else some (.inl ((3:Int),(IntKind.i64.wrap ((a.length:Int)+1+(c.length:Int)))))):Option ((Int×Int) ⊕ Int))=_
  rw [w64 (by omega) (by omega),decide_eq_false (by omega),cond_false]
 ·show ((bif (decide ((IntKind.i64.wrap ((a.length:Int)+1)) < 0)) then none else some (.inl ((2:Int),(IntKind.i64.wrap ((a.length:Int)+1))))):Option ((Int×Int) ⊕ Int))=_
  rw [w64 (by omega) (by omega),decide_eq_false (by omega),cond_false]
 ·show ((bif (decide ((IntKind.i64.wrap (0+(a.length:Int))) < 0)) then none else some (.inl ((1:Int),(IntKind.i64.wrap (0+(a.length:Int)))))):Option ((Int×Int) ⊕ Int))=_
  rw [w64 (by omega) (by omega),decide_eq_false (by omega),cond_false,Int.zero_add]
def gw:List aB->aB->List aB
 | [],x=>[x]
 | y::l,x=>if y.to < x.from_ then y::gw l x else if y.from_ > x.to then x::y::l else gw l ⟨cA x.from_ y.from_,imax x.to y.to⟩
theorem mm: ∀ (l:List aB) (x:aB),(gw l x).length<=l.length+1
 | [],x=>by simp [gw]
 | y::l,x=>by
  unfold gw
  split
  ·have:=mm l x; simp; omega
  ·split
   ·simp
   ·have:=mm l ⟨cA x.from_ y.from_,imax x.to y.to⟩; simp; omega
def spB (x:aB):Prop:= -1152921504606846976<=x.from_/\x.from_<=1152921504606846976 /\ -1152921504606846976<=x.to/\x.to<=1152921504606846976
theorem AZ {x:aB} (h:spB x):dP x=some x:=by
 obtain ⟨a,b,c,d⟩:=h
 unfold dP imax cA
 cases x
 dsimp only at a b c d ⊢
 congr 2 <;> (repeat' split) <;> omega
def hG (s:List aB) (l:List aB):List aB:=l.foldl (λs x=>if x.to<=x.from_ then s else gw s x) s
theorem oH: ∀ (l s:List aB),(hG s l).length<=s.length+l.length
 | [],s=>Nat.le_refl _
 | x::l,s=>by
  have h:=oH l (if x.to<=x.from_ then s else gw s x)
  have h2:(if x.to<=x.from_ then s else gw s x).length<=s.length+1:=by split; omega; exact mm s x
  show (hG _ l).length<=_
  simp
  omega
theorem nX (s:List aB) (l:List aB) (hs:s.length+l.length<=1000000) (hl: ∀ x∈l,spB x):eP ⟨s⟩ l=some ⟨hG s l⟩:=by
 unfold eP
 refine fc (λn:Nat=>((⟨hG s (l.take n)⟩:bL),(n:Int))) l.length ⟨hG s l⟩ rfl (λn hn=> ?_) ?_ rfl
 ·dsimp only
  have hx:=hl _ (List.getElem_mem hn)
  have ht:hG s (l.take (n+1))=(if l[n].to<=l[n].from_ then hG s (l.take n) else gw (hG s (l.take n)) l[n]):=by
   unfold hG
   rw [List.take_succ_eq_append_getElem hn,List.foldl_append]
   rfl
  have hlen:=oH (l.take n) s
  rw [List.length_take] at hlen
  rw [decide_eq_true (by omega),cond_true,bQ l n hn,aA,AZ hx,aA,show cQ l[n]=some (decide (l[n].to<=l[n].from_)) from rfl,aA]
  generalize hG s (l.take n)=S at ht hlen ⊢
  by_cases c:l[n].to<=l[n].from_
  ·rw [decide_eq_true c,cond_true,aA,w64 (by omega) (by omega),ht,if_pos c]
   rfl
  ·rw [decide_eq_false c,cond_false,ht,if_neg c]
   have hg:(Option.bind (iter (σ:=aB×Int×(List aB)) (ρ:=((List aB)×aB) ⊕ bL) (λa=>(bif (decide (a.2.1 < (S.length:Int))) then (Option.bind ((Option.bind (idx S a.2.1) λb=>(bif (decide (b.to < a.1.from_)) then (Option.bind (chk (dK a.2.2.length [b].length 16)) λ_=>some (.inl ((a.2.2++[b]),a.1))) else (bif (decide (b.from_ > a.1.to)) then (Option.bind (chk (fg a.2.1 (S.length:Int) S.length)) λ_=>(Option.bind (cT ([a.2.2,[a.1],(cut S a.2.1 (S.length:Int))])) λd=>(kz (eT (some (bL.mk d)))))) else some (.inl (a.2.2,(aB.mk (cA a.1.from_ b.from_) (imax a.1.to b.to))))))):Option (((List aB)×aB) ⊕ ((aB×Int×(List aB)) ⊕ (((List aB)×aB) ⊕ bL)))) λ | .inl e14292=>some (.inl (e14292.2,(IntKind.i64.wrap (a.2.1+1)),e14292.1)) | .inr w=>some w) else some (.inr (.inl (a.2.2,a.1))))) (l[n],0,[])) λ | .inl e14097=>(Option.bind (chk (dK e14097.1.length [e14097.2].length 16)) λ_=>some (bL.mk (e14097.1++[e14097.2]))) | .inr w=>some w)=some ⟨gw S l[n]⟩:=by
    refine pU (λs:aB×Int×List aB=> ∃ k:Nat,s.2.1=k/\k<=S.length/\s.2.2.length<=k/\s.2.2++gw (S.drop k) s.1=gw S l[n]) (λs=>S.length - s.2.1.toNat) (λr=>(∃ o y,r = .inl (o,y)/\o++[y]=gw S l[n]/\o.length<=S.length)\/r = .inr ⟨gw S l[n]⟩) ⟨0,rfl,Nat.zero_le _,Nat.le_refl _,rfl⟩ ?_ ?_
    ·rintro ⟨x,i,o⟩ ⟨k,h1,h2,h3,h4⟩
     dsimp only at h1 h2 h3 h4 ⊢
     subst h1
     by_cases hk:k < S.length
     ·have hd:S.drop k=S[k]::S.drop (k+1):=List.drop_eq_getElem_cons hk
      rw [hd,gw] at h4
      rw [decide_eq_true (by omega),cond_true,bQ S k hk,aA]
      by_cases c1:S[k].to < x.from_
      ·left
       rw [if_pos c1] at h4
       rw [decide_eq_true c1,cond_true,bO (by simp; omega),aA,aA]
       dsimp only
       rw [w64 (by omega) (by omega)]
       exact ⟨_,rfl,⟨k+1,by simp,hk,by simp; omega,by simpa using h4⟩,by dsimp only; omega⟩
      ·rw [if_neg c1] at h4
       rw [decide_eq_false c1,cond_false]
       by_cases c2:S[k].from_ > x.to
       ·right
        rw [if_pos c2] at h4
        rw [decide_eq_true c2,cond_true,dG (by omega) (by omega) (by omega),aA,x9 _ _ _ (by rw [nD]; simp; omega),aA,nD,List.take_of_length_le (Nat.le_refl _),hd,h4]
        exact ⟨_,rfl,.inr rfl⟩
       ·left
        rw [if_neg c2] at h4
        rw [decide_eq_false c2,cond_false,aA]
        dsimp only
        rw [w64 (by omega) (by omega)]
        exact ⟨_,rfl,⟨k+1,by simp,hk,by dsimp only; omega,h4⟩,by dsimp only; omega⟩
     ·right
      rw [decide_eq_false (by omega),cond_false]
      refine ⟨_,rfl,.inl ⟨o,x,rfl,?_,by omega⟩⟩
      rw [List.drop_eq_nil_of_le (by omega)] at h4
      exact h4
    ·rintro r (⟨o,y,rfl,h1,h2⟩ | rfl)
     ·dsimp only
      rw [bO (by simp; omega),aA,h1]
     ·rfl
   refine Eq.trans (congrArg (λz=>Option.bind z _) hg) ?_
   rw [aA,w64 (by omega) (by omega)]
   rfl
 ·dsimp only
  rw [decide_eq_false (by omega),cond_false,List.take_of_length_le (Nat.le_refl _)]
theorem je (a b:Int):cA a b<=a/\cA a b<=b/\(cA a b=a\/cA a b=b):=by unfold cA; split <;> omega
theorem iP (a b:Int):a<=imax a b/\b<=imax a b/\(imax a b=a\/imax a b=b):=by unfold imax; split <;> omega
def NF:Int->List aB->Prop
 | _,[]=>True
 | lo,x::l=>lo < x.from_/\x.from_ < x.to/\NF x.to l
def inP (l:List aB) (n:Int):Prop:= ∃ x∈l,x.from_<=n/\n < x.to
theorem dM {x:aB} {l:List aB} {n:Int}:inP (x::l) n↔(x.from_<=n/\n < x.to)\/inP l n:=by simp [inP]
theorem lT {n:Int}: ¬ inP [] n:=by simp [inP]
theorem NF.mono: ∀ {l:List aB} {a b:Int},NF b l->a<=b->NF a l
 | [],_,_,_,_=>trivial
 | x::l,a,b,h,hab=>⟨by have:=h.1; omega,h.2⟩
theorem NF.gt: ∀ {l:List aB} {a n:Int},NF a l->inP l n->a < n
 | [],_,_,_,hn=>absurd hn lT
 | x::l,a,n,h,hn=>by
  have h1:=h.1
  have h2:=h.2.1
  rcases dM.1 hn with h3 | h3
  ·omega
  ·have:=h.2.2.gt h3
   omega
theorem rX: ∀ (l:List aB) {lo:Int} {x:aB},NF lo l->lo < x.from_->x.from_ < x.to->NF lo (gw l x)
 | [],lo,x,h,h1,h2=>⟨h1,h2,trivial⟩
 | y::l,lo,x,h,h1,h2=>by
  have a1:=h.1
  have a2:=h.2.1
  rw [gw]
  split
  ·exact ⟨h.1,h.2.1,rX l h.2.2 (by omega) h2⟩
  ·split
   ·exact ⟨h1,h2,by omega,h.2.1,h.2.2⟩
   ·have:=je x.from_ y.from_
    have:=iP x.to y.to
    exact rX l (h.2.2.mono (by omega)) (by dsimp only; omega) (by dsimp only; omega)
theorem rY: ∀ (l:List aB) {lo:Int} {x:aB} {n:Int},NF lo l->x.from_ < x.to->(inP (gw l x) n↔inP l n\/(x.from_<=n/\n < x.to))
 | [],lo,x,n,h,h2=>by simp [gw,inP]
 | y::l,lo,x,n,h,h2=>by
  have a1:=h.1
  have a2:=h.2.1
  rw [gw]
  split
  ·rw [dM,dM,rY l h.2.2 h2,or_assoc]
  ·split
   ·rw [dM,dM]
    exact Or.comm
   ·have e1:=je x.from_ y.from_
    have e2:=iP x.to y.to
    rw [rY l h.2.2 (by dsimp only; omega),dM]
    dsimp only
    constructor
    ·rintro (h3 | h3)
     ·exact .inl (.inr h3)
     ·by_cases c:y.from_<=n/\n < y.to
      ·exact .inl (.inl c)
      ·exact .inr (by omega)
    ·rintro ((h3 | h3) | h3)
     ·exact .inr (by omega)
     ·exact .inl h3
     ·exact .inr (by omega)
theorem ya: ∀ {l l':List aB} {a b:Int},NF a l->NF b l'->(∀ n,inP l n↔inP l' n)->l=l'
 | [],[],_,_,_,_,_=>rfl
 | [],y::l',_,_,_,h',h=>absurd ((h y.from_).2 (dM.2 (.inl ⟨Int.le_refl _,h'.2.1⟩))) lT
 | x::l,[],_,_,h1,_,h=>absurd ((h x.from_).1 (dM.2 (.inl ⟨Int.le_refl _,h1.2.1⟩))) lT
 | x::l,y::l',a,b,h1,h',h=>by
  have p1:=h1.2.1
  have p2:=h'.2.1
  -- begins
  have b1: ∀ n,inP (x::l) n->x.from_<=n:=λn hn=>by
   rcases dM.1 hn with c | c
   ·exact c.1
   ·have:=h1.2.2.gt c; omega
  have b2: ∀ n,inP (y::l') n->y.from_<=n:=λn hn=>by
   rcases dM.1 hn with c | c
   ·exact c.1
   ·have:=h'.2.2.gt c; omega
  have e1:x.from_=y.from_:=by
   have:=b2 _ ((h x.from_).1 (dM.2 (.inl ⟨Int.le_refl _,p1⟩)))
   have:=b1 _ ((h y.from_).2 (dM.2 (.inl ⟨Int.le_refl _,p2⟩)))
   omega
  -- ends
  have n1: ¬ inP (x::l) x.to:=λhn=>by
   rcases dM.1 hn with c | c
   ·omega
   ·have:=h1.2.2.gt c; omega
  have n2: ¬ inP (y::l') y.to:=λhn=>by
   rcases dM.1 hn with c | c
   ·omega
   ·have:=h'.2.2.gt c; omega
  have e2:x.to=y.to:=by
   rcases Int.lt_trichotomy x.to y.to with c | c | c
   ·exact absurd ((h x.to).2 (dM.2 (.inl (by omega)))) n1
   ·exact c
   ·exact absurd ((h y.to).1 (dM.2 (.inl (by omega)))) n2
  have e3:x=y:=by cases x; cases y; simp_all
  subst e3
  rw [ya h1.2.2 h'.2.2 λn=> ?_]
  constructor
  ·intro hn
   rcases dM.1 ((h n).1 (dM.2 (.inr hn))) with c | c
   ·have:=h1.2.2.gt hn; omega
   ·exact c
  ·intro hn
   rcases dM.1 ((h n).2 (dM.2 (.inr hn))) with c | c
   ·have:=h'.2.2.gt hn; omega
   ·exact c
def dB:List aB->Int
 | []=>0
 | x::l=>x.to - x.from_+dB l
theorem oI: ∀ (l:List aB) {lo:Int} {x:aB},NF lo l->x.from_ < x.to->(∀ n,x.from_<=n->n < x.to -> ¬ inP l n)->dB (gw l x)=dB l+(x.to - x.from_)
 | [],lo,x,h,h2,h3=>by simp [gw,dB]
 | y::l,lo,x,h,h2,h3=>by
  have a1:=h.1
  have a2:=h.2.1
  have hl: ∀ n,x.from_<=n->n < x.to -> ¬ inP l n:=λn b1 b2 b3=>h3 n b1 b2 (dM.2 (.inr b3))
  rw [gw]
  split
  ·simp only [dB]
   rw [oI l h.2.2 h2 hl]
   omega
  ·split
   ·simp only [dB]
    omega
   ·have e1:=je x.from_ y.from_
    have e2:=iP x.to y.to
    have d1:y.to<=x.from_\/x.to<=y.from_:=by
     by_cases c:x.from_<=y.from_
     ·by_cases c2:y.from_ < x.to
      ·exact absurd (dM.2 (.inl ⟨Int.le_refl _,a2⟩)) (h3 y.from_ c c2)
      ·exact .inr (by omega)
     ·by_cases c2:x.from_ < y.to
      ·exact absurd (dM.2 (.inl ⟨by omega,c2⟩)) (h3 x.from_ (Int.le_refl _) h2)
      ·exact .inl (by omega)
    rw [oI l h.2.2 (by dsimp only; omega) (λn b1 b2 b3=> ?_)]
    ·show _=y.to - y.from_+dB l+_
     dsimp only; omega
    ·dsimp only at b1 b2
     have:=h.2.2.gt b3
     exact hl n (by omega) (by omega) b3
theorem rZ: ∀ (l:List aB) {x:aB},x.from_<=x.to->(∀ y∈l,y.from_<=y.to)->dB (gw l x)<=dB l+(x.to - x.from_)/\(∀ y∈gw l x,y.from_<=y.to)
 | [],x,h,_=>⟨by simp [gw,dB],λy hy=>by rw [List.mem_singleton.1 hy]; exact h⟩
 | y::l,x,h,hl=>by
  have a:=hl y List.mem_cons_self
  have hl': ∀ y∈l,y.from_<=y.to:=λz hz=>hl z (List.mem_cons_of_mem _ hz)
  rw [gw]
  split
  ·obtain ⟨h1,h2⟩:=rZ l h hl'
   refine ⟨by simp only [dB]; omega,λz hz=> ?_⟩
   rcases List.mem_cons.1 hz with rfl | hz
   ·exact a
   ·exact h2 z hz
  ·split
   ·refine ⟨by simp only [dB]; omega,λz hz=> ?_⟩
    rcases List.mem_cons.1 hz with rfl | hz
    ·exact h
    ·exact hl z hz
   ·have e1:=je x.from_ y.from_
    have e2:=iP x.to y.to
    obtain ⟨h1,h2⟩:=rZ l (x:=⟨cA x.from_ y.from_,imax x.to y.to⟩) (by dsimp only; omega) hl'
    refine ⟨?_,h2⟩
    show _<=y.to - y.from_+dB l+_
    dsimp only at h1
    omega
def ji (s:List aB) (R:List Int):List aB:=R.foldl (λs i=>gw s ⟨i,i+1⟩) s
theorem nY: ∀ (R:List Int) (s:List aB),NF (-1) s->R.Nodup->(∀ i∈R,0<=i /\ ¬ inP s i)->NF (-1) (ji s R)/\(∀ n,inP (ji s R) n↔inP s n\/n∈R)/\dB (ji s R)=dB s+R.length
 | [],s,h,_,_=>⟨h,λn=>by simp [ji],by simp [ji]⟩
 | i::R,s,h,hn,hi=>by
  have h0:=hi i List.mem_cons_self
  have hn':=List.nodup_cons.1 hn
  have h1:NF (-1) (gw s ⟨i,i+1⟩):=rX s h (by dsimp only; omega) (by dsimp only; omega)
  have h2: ∀ n,inP (gw s ⟨i,i+1⟩) n↔inP s n\/n=i:=λn=>by
   rw [rY s h (by dsimp only; omega)]
   dsimp only
   constructor
   ·rintro (a | a)
    ·exact .inl a
    ·exact .inr (by omega)
   ·rintro (a | a)
    ·exact .inl a
    ·exact .inr (by omega)
  have h3:dB (gw s ⟨i,i+1⟩)=dB s+1:=by
   rw [oI s h (by dsimp only; omega) (λn a b c=>h0.2 (by dsimp only at a b; rw [show i=n by omega]; exact c))]
   dsimp only
   omega
  obtain ⟨q1,q2,q3⟩:=nY R _ h1 hn'.2 (λj hj=>⟨(hi j (List.mem_cons_of_mem _ hj)).1,λa=>by
   rcases (h2 j).1 a with a | a
   ·exact (hi j (List.mem_cons_of_mem _ hj)).2 a
   ·exact hn'.1 (a ▸ hj)⟩)
  refine ⟨q1,λn=> ?_,?_⟩
  ·show inP (ji (gw s ⟨i,i+1⟩) R) n↔_
   rw [q2,h2,or_assoc,List.mem_cons]
  ·show dB (ji (gw s ⟨i,i+1⟩) R)=_
   rw [q3,h3,List.length_cons]
   omega
theorem rk: ∀ (R:List Int) (s:List aB),(ji s R).length<=s.length+R.length
 | [],s=>Nat.le_refl _
 | i::R,s=>by
  have h:=rk R (gw s ⟨i,i+1⟩)
  have h2:=mm s ⟨i,i+1⟩
  show (ji (gw s ⟨i,i+1⟩) R).length<=_
  rw [List.length_cons]
  omega
theorem uC {R R':List Int} (hp:R'.Perm R) (hn:R.Nodup) (h0: ∀ i∈R,0<=i):ji [] R'=ji [] R:=by
 obtain ⟨a1,a2,_⟩:=nY R [] trivial hn (λi hi=>⟨h0 i hi,lT⟩)
 obtain ⟨b1,b2,_⟩:=nY R' [] trivial (hp.nodup_iff.2 hn) (λi hi=>⟨h0 i (hp.mem_iff.1 hi),lT⟩)
 refine ya b1 a1 λn=> ?_
 rw [a2,b2,hp.mem_iff]
theorem z6 (A:bL->Option (bL ⊕ bL)) (hA: ∀ s,A s=some (.inr s)) (B:Int×CacheEntry->bL->Option (bL ⊕ bL)) (hB: ∀ e s,B e s=Option.bind (eP s [(aB.mk e.1 (IntKind.i64.wrap (e.1+1)))]) λs2=>some (.inl s2)): ∀ (R:List (Int×CacheEntry)) (s:List aB),s.length+R.length<=900000->(∀ e∈R,0<=e.1/\e.1 < 1152921504606846976)->kl A B R ⟨s⟩=some ⟨ji s (R.map Prod.fst)⟩
 | [],s,_,_=>by
  unfold kl
  rw [hA]
  rfl
 | e::R,s,h,hr=>by
  have h0:=hr e List.mem_cons_self
  have hl:=mm s ⟨e.1,e.1+1⟩
  rw [List.length_cons] at h
  unfold kl
  rw [hB,w64 (by omega) (by omega),nX s _ (by simp; omega) (λx hx=>by rw [List.mem_singleton.1 hx]; refine ⟨?_,?_,?_,?_⟩ <;> (dsimp only; omega)),aA,aA]
  have ha:hG s [⟨e.1,e.1+1⟩]=gw s ⟨e.1,e.1+1⟩:=by
   show (if _ then _ else _)=_
   rw [if_neg (by dsimp only; omega)]
  rw [ha]
  exact z6 A hA B hB R _ (by omega) (λe he=>hr e (List.mem_cons_of_mem _ he))
theorem rm {c:aJ} {m:List (Int×CacheEntry)} (hm:c.l=some m) (hl:m.length<=900000) (hk:(m.map Prod.fst).Nodup) (hr: ∀ e∈m,0<=e.1/\e.1 < 1152921504606846976):dF c=some (ji [] (m.map Prod.fst)):=by
 unfold dF
 have hk':=rk (m.map Prod.fst) []
 rw [List.length_map] at hk'
 have h0: ∀ i∈m.map Prod.fst,0<=i:=λi hi=>by
  obtain ⟨e,he,rfl⟩:=List.mem_map.1 hi
  exact (hr e he).1
 rw [hm,show chk (some m:Mp CacheEntry).isSome=some () from rfl,aA,Option.getD_some,rF (r:=⟨ji [] (m.map Prod.fst)⟩) λR hR=> ?_,aA]
 ·show Option.bind (Option.bind (chk (dK 0 (ji [] (m.map Prod.fst)).length 16)) _) _=_
  rw [bO (by simp at hk'; omega)]
  rfl
 ·rw [z6 _ (λ_=>rfl) _ (λ_ _=>rfl) R [] (by rw [hR.length_eq]; simpa using hl) (λe he=>hr e (hR.mem_iff.1 he)),uC (hR.map Prod.fst) hk h0]
def neS (p:aB):Bool:=decide (p.from_ < p.to)
def sb (x y:aB):List aB:=[⟨y.from_,cA y.to x.from_⟩,⟨imax y.from_ x.to,y.to⟩]
def oJ (x y:aB):List aB:=(sb x y).filter neS
theorem tA {α:Type} (f:α->List α) (h: ∀ y,(f y).length<=2): ∀ l:List α,(l.flatMap f).length<=2*l.length
 | []=>by simp
 | y::l=>by
  have h1:=h y
  have h2:=tA f h l
  simp only [List.flatMap_cons,List.length_append,List.length_cons]
  omega
theorem yb (x y:aB):(oJ x y).length<=2:=List.length_filter_le neS (sb x y)
theorem uD (l:List aB) (x:aB) (hl:l.length<=400000):fL (λa b=>(Option.bind (chk (dK a.length [b].length 16)) λ_=>some ((a++[b]),true))) ([]:(List aB)) l x=some (l.flatMap (oJ x)):=by
 unfold fL
 refine fc (λn:Nat=>((n:Int),(l.take n).flatMap (oJ x))) l.length (.inl (l.flatMap (oJ x))) rfl (λn hn=> ?_) ?_ rfl
 ·dsimp only
  have hlen:=tA (oJ x) (yb x) (l.take n)
  rw [List.length_take] at hlen
  rw [decide_eq_true (by omega),cond_true,bQ l n hn,aA,List.take_succ_eq_append_getElem hn,List.flatMap_append]
  generalize (l.take n).flatMap (oJ x)=o at hlen ⊢
  refine fc (λj:Nat=>((j:Int),o++((sb x l[n]).take j).filter neS)) 2 (.inl (o++oJ x l[n])) (by simp) (λj hj=> ?_) ?_ ?_
  ·dsimp only
   have hf:=List.length_filter_le neS ((sb x l[n]).take j)
   rw [List.length_take] at hf
   have h2:(sb x l[n]).length=2:=rfl
   rw [show ([(aB.mk l[n].from_ (cA l[n].to x.from_)),(aB.mk (imax l[n].from_ x.to) l[n].to)]:List aB)=sb x l[n] from rfl,decide_eq_true (by omega),cond_true,bQ _ j (by omega),aA,List.take_succ_eq_append_getElem (by omega),List.filter_append]
   generalize (sb x l[n])[j]=p
   rw [show cQ p=some (decide (p.to<=p.from_)) from rfl,aA]
   by_cases c:p.to<=p.from_
   ·rw [decide_eq_true c,Bool.not_true,cond_false,aA,cond_false,w64 (by omega) (by omega)]
    have:[p].filter neS=[]:=by simp [neS]; omega
    rw [this,List.append_nil]
    rfl
   ·rw [decide_eq_false c,Bool.not_false,cond_true,bO (by simp; omega),aA,aA,aA,Bool.not_true,cond_false,w64 (by omega) (by omega)]
    have:[p].filter neS=[p]:=by simp [neS]; omega
    rw [this,List.append_assoc]
    rfl
  ·dsimp only
   rw [show ([(aB.mk l[n].from_ (cA l[n].to x.from_)),(aB.mk (imax l[n].from_ x.to) l[n].to)]:List aB)=sb x l[n] from rfl]
   rfl
  ·show some _=some _
   rw [w64 (by omega) (by omega)]
   simp
 ·dsimp only
  rw [decide_eq_false (by omega),cond_false,List.take_of_length_le (Nat.le_refl _)]
def rn (l:List aB) (x:aB):List aB:=if x.to<=x.from_ then l else l.flatMap (oJ x)
def mq (s l:List aB):List aB:=l.foldl rn s
structure WS (k:Int) (s:List aB):Prop where
 b: ∀ y∈s,0<=y.from_/\y.from_ < y.to/\y.to<=1152921504606846976
 l:dB s<=k
theorem iq: ∀ a b:List aB,dB (a++b)=dB a+dB b
 | [],b=>by simp [dB]
 | x::a,b=>by simp only [List.cons_append,dB,iq a b]; omega
theorem WS.len {k:Int} {s:List aB} (h:WS k s):(s.length:Int)<=dB s:=by
 have: ∀ s:List aB,(∀ y∈s,0<=y.from_/\y.from_ < y.to/\y.to<=1152921504606846976)->(s.length:Int)<=dB s:=by
  intro s
  induction s with
  | nil=>intro _; simp [dB]
  | cons y s ih =>
   intro h
   have:=ih λz hz=>h z (List.mem_cons_of_mem _ hz)
   have:=h y List.mem_cons_self
   simp only [List.length_cons,dB]
   omega
 exact this s h.b
theorem za {x y:aB} (hx:x.from_<=x.to) (hy:0<=y.from_/\y.from_ < y.to/\y.to<=1152921504606846976) (h0:0<=x.to):(∀ z∈oJ x y,0<=z.from_/\z.from_ < z.to/\z.to<=1152921504606846976)/\dB (oJ x y)<=y.to - y.from_:=by
 have e1:=je y.to x.from_
 have e2:=iP y.from_ x.to
 unfold oJ sb
 simp only [List.filter_cons,List.filter_nil,neS,decide_eq_true_eq]
 split <;> split <;> (constructor <;> simp only [dB,List.forall_mem_cons,List.not_mem_nil,false_implies,implies_true,and_true] <;> omega)
theorem WS.cut {k:Int} {s:List aB} (h:WS k s) {x:aB} (h0:0<=x.to):WS k (rn s x):=by
 unfold rn
 split
 ·exact h
 ·have hx:x.from_<=x.to:=by omega
  have key: ∀ s:List aB,(∀ y∈s,0<=y.from_/\y.from_ < y.to/\y.to<=1152921504606846976)->(∀ z∈s.flatMap (oJ x),0<=z.from_/\z.from_ < z.to/\z.to<=1152921504606846976)/\dB (s.flatMap (oJ x))<=dB s:=by
   intro s
   induction s with
   | nil=>intro _; simp [dB]
   | cons y s ih =>
    intro h
    obtain ⟨a1,a2⟩:=ih λz hz=>h z (List.mem_cons_of_mem _ hz)
    obtain ⟨b1,b2⟩:=za hx (h y List.mem_cons_self) h0
    simp only [List.flatMap_cons,iq,dB]
    refine ⟨λz hz=> ?_,by omega⟩
    rcases List.mem_append.1 hz with hz | hz
    ·exact b1 z hz
    ·exact a1 z hz
  obtain ⟨a1,a2⟩:=key s h.b
  exact ⟨a1,by have:=h.l; omega⟩
theorem WS.zb {k:Int}: ∀ {l s:List aB},WS k s->(∀ x∈l,0<=x.to)->WS k (mq s l)
 | [],_,h,_=>h
 | x::l,s,h,hl=>WS.zb (l:=l) (h.cut (hl x List.mem_cons_self)) λz hz=>hl z (List.mem_cons_of_mem _ hz)
def iA (x:aB):aB:=⟨imax (-1152921504606846976) (cA x.from_ 1152921504606846976),imax (-1152921504606846976) (cA x.to 1152921504606846976)⟩
theorem sd {x:aB} (h:0<=x.to):0<=(iA x).to:=by
 have:=je x.to 1152921504606846976
 have:=iP (-1152921504606846976) (cA x.to 1152921504606846976)
 show 0<=imax _ _
 omega
theorem sg {k:Int} (hk:k<=100000) (s:List aB) (l:List aB) (hs:WS k s) (hl:l.length<=1000000) (hb: ∀ x∈l,0<=x.to):fI ⟨s⟩ l=some ⟨mq s (l.map iA)⟩:=by
 unfold fI
 refine fc (λn:Nat=>((⟨mq s ((l.take n).map iA)⟩:bL),(n:Int))) l.length ⟨mq s (l.map iA)⟩ rfl (λn hn=> ?_) ?_ rfl
 ·dsimp only
  have hx:=hb _ (List.getElem_mem hn)
  have hw:WS k (mq s ((l.take n).map iA)):=hs.zb λx hx=>by
   obtain ⟨y,hy,rfl⟩:=List.mem_map.1 hx
   exact sd (hb y (List.mem_of_mem_take hy))
  have ht:mq s ((l.take (n+1)).map iA)=rn (mq s ((l.take n).map iA)) (iA l[n]):=by
   unfold mq
   rw [List.take_succ_eq_append_getElem hn,List.map_append,List.foldl_append]
   rfl
  rw [decide_eq_true (by omega),cond_true,bQ l n hn,aA,show dP l[n]=some (iA l[n]) from rfl,aA,show cQ (iA l[n])=some (decide ((iA l[n]).to<=(iA l[n]).from_)) from rfl,aA]
  generalize mq s ((l.take n).map iA)=S at ht hw ⊢
  generalize iA l[n]=y at ht ⊢
  by_cases c:y.to<=y.from_
  ·rw [decide_eq_true c,cond_true,aA,w64 (by omega) (by omega),ht,rn,if_pos c]
   rfl
  ·have hlen:=hw.len
   have hl2:=hw.l
   rw [decide_eq_false c,cond_false,ht,rn,if_neg c,show iM S y=some (S,y) from rfl,aA]
   dsimp only
   rw [uD S y (by omega),aA,aA,w64 (by omega) (by omega)]
   rfl
 ·dsimp only
  rw [decide_eq_false (by omega),cond_false,List.take_of_length_le (Nat.le_refl _)]
def nZ (x y:aB):aB:=⟨imax y.from_ x.from_,cA y.to x.to⟩
def inL (s:List aB) (x:aB):List aB:=(s.map (nZ x)).filter neS
theorem sj (s:List aB) (x:aB):(inL s x).length<=s.length:=by
 have:=List.length_filter_le neS (s.map (nZ x))
 rw [List.length_map] at this
 exact this
theorem sn (s:List aB) (x:aB) (hs:s.length<=1000000):gp ⟨s⟩ x=some (inL s (iA x)):=by
 unfold gp
 refine fc (λn:Nat=>((n:Int),inL (s.take n) (iA x))) s.length (inL s (iA x)) rfl (λn hn=> ?_) ?_ rfl
 ·dsimp only
  have hlen:=sj (s.take n) (iA x)
  rw [List.length_take] at hlen
  have ht:inL (s.take (n+1)) (iA x)=inL (s.take n) (iA x)++[nZ (iA x) s[n]].filter neS:=by
   unfold inL
   rw [List.take_succ_eq_append_getElem hn,List.map_append,List.filter_append]
   rfl
  rw [decide_eq_true (by omega),cond_true,bQ s n hn,aA,show dP x=some (iA x) from rfl,aA,show gY s[n] (iA x)=some (nZ (iA x) s[n]) from rfl,aA,ht]
  generalize nZ (iA x) s[n]=p
  generalize inL (s.take n) (iA x)=o at hlen ⊢
  rw [show cQ p=some (decide (p.to<=p.from_)) from rfl,aA]
  by_cases c:p.to<=p.from_
  ·have:[p].filter neS=[]:=by simp [neS]; omega
   rw [decide_eq_true c,Bool.not_true,cond_false,aA,w64 (by omega) (by omega),this,List.append_nil]
   rfl
  ·have:[p].filter neS=[p]:=by simp [neS]; omega
   rw [decide_eq_false c,Bool.not_false,cond_true,bO (by simp; omega),aA,aA,w64 (by omega) (by omega),this]
   rfl
 ·dsimp only
  rw [decide_eq_false (by omega),cond_false,List.take_of_length_le (Nat.le_refl _)]
theorem yc {k:Int} {x:aB}: ∀ {s:List aB},WS k s->(∀ z∈inL s x,(0<=z.from_/\z.from_ < z.to/\z.to<=1152921504606846976)/\z.to<=x.to /\ ∀ n,z.from_<=n->n < z.to->inP s n)/\dB (inL s x)<=dB s:=by
 intro s h
 have key: ∀ s:List aB,(∀ y∈s,0<=y.from_/\y.from_ < y.to/\y.to<=1152921504606846976)->dB (inL s x)<=dB s:=by
  intro s
  induction s with
  | nil=>intro _; simp [inL,dB]
  | cons y s ih =>
   intro h
   have ih:=ih λz hz=>h z (List.mem_cons_of_mem _ hz)
   have hy:=h y List.mem_cons_self
   have e1:=je y.to x.to
   have e2:=iP y.from_ x.from_
   have:inL (y::s) x=[nZ x y].filter neS++inL s x:=by unfold inL; rw [List.map_cons]; exact List.filter_append (p:=neS) [nZ x y] _
   rw [this,iq]
   have:dB ([nZ x y].filter neS)<=y.to - y.from_:=by
    by_cases c:neS (nZ x y)=true
    ·rw [List.filter_cons_of_pos c]; show cA y.to x.to - imax y.from_ x.from_+0<=_; omega
    ·rw [List.filter_cons_of_neg c]; show (0:Int)<=_; omega
   show _<=y.to - y.from_+dB s
   omega
 refine ⟨λz hz=> ?_,key s h.b⟩
 obtain ⟨hz1,hz2⟩:=List.mem_filter.1 hz
 obtain ⟨y,hy,rfl⟩:=List.mem_map.1 hz1
 have hb:=h.b y hy
 have e1:=je y.to x.to
 have e2:=iP y.from_ x.from_
 have hn:imax y.from_ x.from_ < cA y.to x.to:=of_decide_eq_true hz2
 refine ⟨⟨?_,hn,?_⟩,e1.2.1,λn h1 h2=>⟨y,hy,?_,?_⟩⟩
 ·show 0<=imax _ _; omega
 ·show cA _ _<=_; omega
 ·change imax _ _<=n at h1; omega
 ·change n < cA _ _ at h2; omega
theorem vt {k:Int} {s:List aB} (h:WS k s) (hk:k<=1000000):gN ⟨s⟩=some (dB s):=by
 unfold gN
 have hlen:=h.len
 have hl:=h.l
 have hp: ∀ n:Nat,0<=dB (s.take n)/\dB (s.take n)<=dB s:=λn=>by
  have e:=iq (s.take n) (s.drop n)
  rw [List.take_append_drop] at e
  have:WS k (s.take n)->True:=λ_=>trivial
  have nn: ∀ l:List aB,(∀ y∈l,y∈s)->0<=dB l:=by
   intro l
   induction l with
   | nil=>intro _; exact Int.le_refl _
   | cons y l ih =>
    intro hy
    have:=ih λz hz=>hy z (List.mem_cons_of_mem _ hz)
    have:=h.b y (hy y List.mem_cons_self)
    show 0<=y.to - y.from_+dB l
    omega
  have a1:=nn (s.take n) λy hy=>List.mem_of_mem_take hy
  have a2:=nn (s.drop n) λy hy=>List.mem_of_mem_drop hy
  omega
 refine fc (λn:Nat=>((n:Int),dB (s.take n))) s.length (dB s) rfl (λn hn=> ?_) ?_ rfl
 ·dsimp only
  have hb:=h.b _ (List.getElem_mem hn)
  have h1:=hp n
  have h2:=hp (n+1)
  rw [List.take_succ_eq_append_getElem hn,iq] at h2 ⊢
  have e:dB [s[n]]=s[n].to - s[n].from_:=by show _+0=_; omega
  rw [e] at h2 ⊢
  rw [decide_eq_true (by omega),cond_true,bQ s n hn,aA,w64 (x:=s[n].to - s[n].from_) (by omega) (by omega),w64 (x:=(n:Int)+1) (by omega) (by omega),w64 (by omega) (by omega)]
  rfl
 ·dsimp only
  rw [decide_eq_false (by omega),cond_false,List.take_of_length_le (Nat.le_refl _)]
theorem zc (s:List aB) (i:Int) (hs:s.length<=1000000): ∃ b,gM ⟨s⟩ i=some b/\(b=true->inP s i):=by
 have key: ∃ j:Int,bU s i=some j/\(0<=j->inP s i):=by
  unfold bU
  have hst: ∀ z:Int,(∃ n:Nat,z=n/\n<=s.length)->(∃ z',(λs52:Int=>((bif (decide (s52 < (s.length:Int))) then (Option.bind (idx s s52) λa=>(Option.bind (dI a i) λd=>(bif d then (eT (some s52)) else some (.inl (IntKind.i64.wrap (s52+1)))))) else some (.inr (.inl ()))):Option (Int ⊕ (Unit ⊕ Int)))) z=some (.inl z')/\(∃ n:Nat,z'=n/\n<=s.length)/\s.length - z'.toNat < s.length - z.toNat)\/(∃ r,(λs52:Int=>((bif (decide (s52 < (s.length:Int))) then (Option.bind (idx s s52) λa=>(Option.bind (dI a i) λd=>(bif d then (eT (some s52)) else some (.inl (IntKind.i64.wrap (s52+1)))))) else some (.inr (.inl ()))):Option (Int ⊕ (Unit ⊕ Int)))) z=some (.inr r)/\(r = .inl () \/ ∃ j,r = .inr j/\inP s i)):=by
   rintro _ ⟨n,rfl,hn⟩
   dsimp only
   by_cases c:n < s.length
   ·rw [decide_eq_true (by omega),cond_true,bQ s n c,aA]
    by_cases c2:i>=s[n].from_/\i < s[n].to
    ·right
     refine ⟨_,?_,.inr ⟨(n:Int),rfl,s[n],List.getElem_mem c,c2⟩⟩
     rw [show dI s[n] i=some true by unfold dI; rw [decide_eq_true c2.1,decide_eq_true c2.2]; rfl,aA,cond_true]
     rfl
    ·left
     rw [show dI s[n] i=some false by
      unfold dI
      by_cases c3:i>=s[n].from_
      ·rw [decide_eq_true c3,decide_eq_false (by omega)]; rfl
      ·rw [decide_eq_false c3]; rfl,aA,cond_false,w64 (by omega) (by omega)]
     exact ⟨_,rfl,⟨n+1,rfl,c⟩,by omega⟩
   ·right
    rw [decide_eq_false (by omega),cond_false]
    exact ⟨_,rfl,.inl rfl⟩
  obtain ⟨r,e1,e2⟩:=ij (σ:=Int) (λz=> ∃ n:Nat,z=n/\n<=s.length) (λz=>s.length - z.toNat) _ hst 0 ⟨0,rfl,Nat.zero_le _⟩
  refine Exists.imp (λj h=>⟨(congrArg (λz=>Option.bind z _) e1).trans h.1,h.2⟩) (?_: ∃ j:Int,_/\(0<=j->inP s i))
  rw [aA]
  rcases e2 with rfl | ⟨j,rfl,h⟩
  ·exact ⟨-1,rfl,λh=>by omega⟩
  ·exact ⟨j,rfl,λ_=>h⟩
 obtain ⟨j,h1,h2⟩:=key
 refine ⟨decide (j>=0),?_,λh=>h2 (of_decide_eq_true h)⟩
 unfold gM bZ
 dsimp only
 rw [h1]
 rfl
structure FS (k:Int) (f:aS):Prop where
 m:f.most=k
 w:WS k f.want.l
theorem WS.nil {k:Int} (h:0<=k):WS k []:=⟨λy hy=>(by cases hy),h⟩
theorem WS.cnt {k:Int} {s:List aB} (h:WS k s):(s.length:Int)<=k:=by have:=h.len; have:=h.l; omega
theorem WS.pos {k:Int} {s:List aB} (h:WS k s) {n:Int} (hn:inP s n):0<=n/\n < 1152921504606846976:=by
 obtain ⟨x,hx,h1,h2⟩:=hn
 have:=h.b x hx
 omega
theorem z7 (n lo hi:Int) (h:lo<=hi): ∃ x,fw n lo hi=some x/\lo<=x/\x<=hi:=by
 refine ⟨_,rfl,?_,?_⟩ <;> unfold imax cA <;> split <;> split <;> omega
theorem zd {most every:Int}: ∃ f,kD most every=some f/\FS (imax 1 (cA most 65536)) f:=by
 refine ⟨_,rfl,rfl,WS.nil ?_⟩
 have:=iP 1 (cA most 65536)
 omega
theorem wC {k:Int} (hk:0<=k) {f:aS} (h:FS k f): ∃ f',dR f=some f'/\FS k f':=⟨_,rfl,h.m,WS.nil hk⟩
theorem uE {k:Int} (hk:k<=100000) {f:aS} (h:FS k f):fN f=some f.want.l:=by
 have:=h.w.cnt
 show Option.bind (Option.bind (Option.bind (chk (dK 0 f.want.l.length 16)) _) _) _=_
 rw [bO (by omega)]
 rfl
theorem zf {k:Int} (hk:k<=100000) {f:aS} (h:FS k f) {i:Int} (h0:0<=i) (h1:i<=4611686018427487904): ∃ b f',eL f i=some (b,f')/\FS k f'/\(b=true->0<=i/\i < 1152921504606846976):=by
 unfold eL
 have hc:=h.w.cnt
 obtain ⟨b,b1,b2⟩:=zc f.want.l i (by omega)
 rw [show f.want=⟨f.want.l⟩ from rfl,b1,aA]
 obtain ⟨q,q1,q2⟩: ∃ q,kE (decide (i < 1152921504606846976))=some q/\0<=q/\q<=1:=by
  by_cases c:i < 1152921504606846976
  ·rw [decide_eq_true c]; exact ⟨1,rfl,by decide,by decide⟩
  ·rw [decide_eq_false c]; exact ⟨0,rfl,by decide,by decide⟩
 rw [q1,aA,w64 (by omega) (by omega),sg hk f.want.l _ h.w (by simp) (λx hx=>by rw [List.mem_singleton.1 hx]; dsimp only; omega),aA]
 refine ⟨b,_,rfl,⟨h.m,h.w.zb λx hx=> ?_⟩,λe=>h.w.pos (b2 e)⟩
 rw [List.mem_singleton.1 hx]
 exact sd (by dsimp only; omega)
theorem zg {k:Int} (hk:k<=100000) {f:aS} (h:FS k f) (now len:Int): ∃ L f',eK f now len=some (L,f')/\FS k f'/\L.length<=8 /\ ∀ z∈L,0<=z.from_/\z.from_ < z.to/\z.to<=1152921504606846976:=by
 unfold eK
 have hc:=h.w.cnt
 obtain ⟨i1,_⟩:=yc (x:=iA ⟨0,len⟩) h.w
 have hl:=sj f.want.l (iA ⟨0,len⟩)
 rw [show f.want=⟨f.want.l⟩ from rfl,sn f.want.l _ (by omega),aA]
 generalize inL f.want.l (iA ⟨0,len⟩)=L at i1 hl ⊢
 have hd: ∃ d:Bool,((bif ((L.length:Int) == 0) then some true else some (decide (now < f.due))):Option Bool)=some d:=by
  cases ((L.length:Int) == 0) <;> exact ⟨_,rfl⟩
 obtain ⟨d,hd⟩:=hd
 rw [hd,aA]
 cases d with
 | true=>exact ⟨[],f,rfl,h,Nat.zero_le _,λz hz=>by cases hz⟩
 | false =>
  have e1:=je (L.length:Int) 8
  rw [cond_false,dG (by omega) (by omega) (by omega),aA]
  refine ⟨_,_,rfl,⟨h.m,h.w⟩,?_,λz hz=> ?_⟩
  ·obtain ⟨n,hn⟩:=Int.eq_ofNat_of_zero_le (show 0<=cA (L.length:Int) 8 by omega)
   rw [hn,show (0:Int)=((0:Nat):Int) from rfl,nD]
   simp
   omega
  ·refine (i1 z ?_).1
   obtain ⟨n,hn⟩:=Int.eq_ofNat_of_zero_le (show 0<=cA (L.length:Int) 8 by omega)
   rw [hn,show (0:Int)=((0:Nat):Int) from rfl,nD] at hz
   exact List.mem_of_mem_take (List.mem_of_mem_drop hz)
theorem ye {k:Int} (hk0:1<=k) (hk:k<=100000) {f:aS} (h:FS k f) (x:aB) {l:List aB} (hl:l.length<=1000000) (hb: ∀ y∈l,0<=y.to): ∃ n f',eX f x l=some (n,f')/\FS k f':=by
 unfold eX
 obtain ⟨a,a1,a2,a3⟩:=z7 x.from_ 0 1152921504606846976 (by decide)
 obtain ⟨b,b1,b2,b3⟩:=z7 x.to 0 1152921504606846976 (by decide)
 have hm:=h.m
 have e1:=je b (a+k)
 rw [a1,aA,b1,aA,show dR f=some ⟨f.most,f.every,0,⟨[]⟩⟩ from rfl,aA,hm,w64 (by omega) (by omega)]
 dsimp only
 rw [nX [] _ (by simp) (λy hy=>by rw [List.mem_singleton.1 hy]; refine ⟨?_,?_,?_,?_⟩ <;> (dsimp only; omega)),aA]
 have hw:WS k (hG [] [⟨a,cA b (a+k)⟩]):=by
  show WS k (if _ then _ else _)
  split
  ·exact WS.nil (by omega)
  ·rename_i c
   dsimp only at c
   refine ⟨λy hy=> ?_,?_⟩
   ·rw [List.mem_singleton.1 (show y∈[_] from hy)]; dsimp only; omega
   ·show cA b (a+k) - a+0<=k; omega
 generalize hG [] [⟨a,cA b (a+k)⟩]=W at hw ⊢
 have hw2:WS k (mq W (l.map iA)):=hw.zb λy hy=>by
  obtain ⟨z,hz,rfl⟩:=List.mem_map.1 hy
  exact sd (hb z hz)
 rw [sg hk W l hw hl hb,aA,vt hw2 (by omega),aA]
 exact ⟨_,_,rfl,rfl,hw2⟩
theorem A9 {a b:Int} (h: ¬ a=b):(a == b)=false:=by simpa using h
theorem yf (s:ByteArray) {lo hi:Int} (h0:0<=lo) (h1:lo<=hi) (h2:hi<=s.size):(fR s lo hi).size=(hi - lo).toNat:=by
 unfold fR
 rw [ByteArray.size_extract]
 omega
theorem zh (s:ByteArray) {n:Int} (h:0<=n):okO (fQ s n) (λr=>(r.size:Int)<=n):=by
 unfold fQ
 refine BD (λhc=> ?_) λhc=>vr (by omega)
 refine y9 (AY (by omega) h (by omega)) λ_ _=>vr ?_
 rw [yf _ (by omega) h (by omega)]
 omega
end Go.Tw.X
set_option maxRecDepth 20000
namespace Go.Tw.X
open Go Go.Tw
def BY (l:List mC) (b:Int):Option mC:=l.find? λx=>decide (x.first<=b) && decide (b<=x.last)
def fnd (b:Int):mC×Bool:=match BY qB b with
 | some x=>(x,true)
 | none=>(⟨0,0,0,0,0⟩,false)
def d0:nB:=⟨0,0,0⟩
def o0:sZ:=⟨false,false,false,false,0,[]⟩
end Go.Tw.X
set_option maxHeartbeats 2000000
namespace Go.Tw.X
open Go Go.Tw
def p0:wc:=⟨0,o0,ByteArray.mk #[],d0,[]⟩
end Go.Tw.X
set_option maxHeartbeats 1000000
namespace Go.Tw.X
open Go Go.Tw
theorem zi {n:Nat} {a b:Int} (h:(n:Int) < a/\(n:Int) < b):((bif (decide ((n:Int) < a)) then some (decide ((n:Int) < b)) else some false):Option Bool)=some true:=by
 rw [decide_eq_true h.1,decide_eq_true h.2]; rfl
theorem zj {n:Nat} {a b:Int} (h: ¬ ((n:Int) < a/\(n:Int) < b)):((bif (decide ((n:Int) < a)) then some (decide ((n:Int) < b)) else some false):Option Bool)=some false:=by
 by_cases c:(n:Int) < a
 ·rw [decide_eq_true c,decide_eq_false (by omega: ¬ (n:Int) < b)]; rfl
 ·rw [decide_eq_false c]; rfl
theorem BE {a:Int}:(a != a)=false:=by simp
theorem zl {s:ByteArray} (h:s.size<=12000):(zT s).1.size<=12000:=by
 have v0:SZ s.size (⟨s,0⟩:aE):=⟨⟨by show s.size<=1000000; omega,.inl rfl⟩,Nat.le_refl _⟩
 have s1:SZ s.size (zF s).2:=jc (jc (rM _ (rM _ (jc (jc v0)))))
 have:=(p8 s1.1 s1.2).1
 have h2:(zT s).1.size<=s.size:=this
 omega
theorem uF (a:aK) (s:ByteArray) (ha:SW a) (pa:(a.rows.flatMap eF).length<=12000) (h:s.size<=100000) (ht:(zT s).1.size<=12000):SW (lR a s).1/\((lR a s).1.rows.flatMap eF).length<=(a.rows.flatMap eF).length+s.size:=by
 have z:SW gQ/\(gQ.rows.flatMap eF).length<=(a.rows.flatMap eF).length+s.size:=⟨nM,Nat.zero_le _⟩
 unfold lR
 split
 ·exact z
 ·split
  ·exact z
  ·rename_i hE
   split
   ·exact z
   ·obtain ⟨vB,vC,vF,vH,vK,vN,vR⟩:=zVI (s:=s) (by omega)
    obtain ⟨he,hs0⟩:=q8 vR (Classical.not_not.1 hE)
    split
    ·exact z
    ·rename_i l hl
     split
     ·exact z
     ·refine ⟨(nU ha pa h ht he hl).1,?_⟩
      have p3:=qj _ _ _ _ hl
      have p4:=uz ((0:Nat):Int) (zR s).1
      have p5:=xT (by omega) he
      have p6:((a.rows.drop 0).flatMap eF).length=(a.rows.flatMap eF).length:=by simp
      simp only [List.flatMap_nil,List.length_nil] at p3
      show (l.flatMap eF).length<=_
      omega
def zm (h:ByteArray) (i:Nat):Bool:=match (sbs h)[i / 8]? with | some b=>decide ((b / 2 ^ (i % 8)) % 2=1) | none=>false
theorem uG: ∀ (n:Nat) (l:List Nat),l.Nodup->(∀ x∈l,x < n)->l.length<=n/\(l.length=n -> ∀ i,i < n->i∈l)
 | 0,l,_,h=>by
  have:l=[]:=by
   cases l with
   | nil=>rfl
   | cons a l=>exact absurd (h a List.mem_cons_self) (Nat.not_lt_zero a)
  subst this
  exact ⟨Nat.le_refl _,λ_ i hi=>absurd hi (Nat.not_lt_zero i)⟩
 | n+1,l,hn,h=>by
  by_cases hm:n∈l
  ·have hl:=List.length_erase_of_mem hm
   have hpos:0 < l.length:=List.length_pos_of_mem hm
   obtain ⟨h1,h2⟩:=uG n (l.erase n) (hn.erase n) (λx hx=>by
    have h3:=(hn.mem_erase_iff.1 hx)
    have:=h x h3.2
    have:=h3.1
    omega)
   refine ⟨by omega,λe i hi=> ?_⟩
   by_cases hin:i=n
   ·rw [hin]; exact hm
   ·exact List.mem_of_mem_erase (h2 (by omega) i (by omega))
  ·obtain ⟨h1,h2⟩:=uG n l hn (λx hx=>by
    have:=h x hx
    have:x≠n:=λe=>hm (e ▸ hx)
    omega)
   exact ⟨by omega,λe=>by omega⟩
structure SL (P:List ByteArray) (l:List (Int×ByteArray)):Prop where
 nd:(l.map Prod.fst).Nodup
 at_: ∀ p∈l,∃ i:Nat,p.1=(i:Int)/\P[i]?=some p.2
theorem yg (P:List ByteArray):SL P []:=⟨List.nodup_nil,λp hp=>by cases hp⟩
theorem n4 {α:Type} {k:Int}: ∀ {l:List (Int×α)},mgl k l=none -> ∀ p∈l,p.1≠k
 | [],_,p,hp=>by cases hp
 | (j,y)::l,h,p,hp=>by
  unfold mgl at h
  split at h
  ·cases h
  ·rename_i hne
   rcases List.mem_cons.1 hp with rfl | hp
   ·exact λe=>hne e.symm
   ·exact n4 h p hp
theorem nh {α:Type} {k:Int} {x:α}: ∀ {l:List (Int×α)},(l.map Prod.fst).Nodup->(k,x)∈l->mgl k l=some x
 | (j,y)::l,hn,hm=>by
  rw [List.map_cons,List.nodup_cons] at hn
  unfold mgl
  rcases List.mem_cons.1 hm with h | h
  ·injection h with h1 h2
   rw [if_pos h1,h2]
  ·split
   ·rename_i e
    exact absurd (List.mem_map_of_mem (f:=Prod.fst) h) (by rw [e]; exact hn.1)
   ·exact nh hn.2 h
theorem SL.add {P:List ByteArray} {l:List (Int×ByteArray)} (h:SL P l) {i:Nat} {d:ByteArray} (hi:P[i]?=some d) (hn:mgl (i:Int) l=none):SL P (msl (i:Int) d l)/\msl (i:Int) d l=l++[((i:Int),d)]:=by
 have e:=rS (i:Int) d l (n4 hn)
 refine ⟨?_,e⟩
 rw [e]
 refine ⟨?_,λp hp=> ?_⟩
 ·rw [List.map_append,List.nodup_append]
  refine ⟨h.nd,by simp,λa ha b hb=> ?_⟩
  obtain ⟨p,hp,rfl⟩:=List.mem_map.1 ha
  simp at hb
  rw [hb]
  exact n4 hn p hp
 ·rcases List.mem_append.1 hp with hp | hp
  ·exact h.at_ p hp
  ·rw [List.mem_singleton.1 hp]; exact ⟨i,rfl,hi⟩
theorem SL.le {P:List ByteArray} {l:List (Int×ByteArray)} (h:SL P l):l.length<=P.length/\(l.length=P.length -> ∀ i (hi:i < P.length),mgl (i:Int) l=some P[i]):=by
 have hk: ∀ p∈l,p.1=((p.1.toNat:Nat):Int):=λp hp=>by
  obtain ⟨i,e,_⟩:=h.at_ p hp
  rw [e]; simp
 have hnd:(l.map λp=>p.1.toNat).Nodup:=by
  have h1:=h.nd
  rw [List.nodup_iff_pairwise_ne] at h1 ⊢
  rw [List.pairwise_map] at h1 ⊢
  refine List.Pairwise.imp_of_mem ?_ h1
  intro a b ha hb hne e
  exact hne (by rw [hk a ha,hk b hb,e])
 obtain ⟨p1,p2⟩:=uG P.length (l.map λp=>p.1.toNat) hnd (λx hx=>by
  obtain ⟨p,hp,rfl⟩:=List.mem_map.1 hx
  obtain ⟨i,e,hi⟩:=h.at_ p hp
  rw [e,Int.toNat_natCast]
  exact (List.getElem?_eq_some_iff.1 hi).1)
 rw [List.length_map] at p1 p2
 refine ⟨p1,λe i hi=> ?_⟩
 obtain ⟨p,hp,hpi⟩:=List.mem_map.1 (p2 e i hi)
 obtain ⟨j,ej,hj⟩:=h.at_ p hp
 have hji:j=i:=by rw [ej,Int.toNat_natCast] at hpi; exact hpi
 subst hji
 rw [List.getElem?_eq_getElem hi] at hj
 refine nh h.nd ?_
 rw [Option.some.inj hj,<- ej]
 exact hp
theorem oK {σ:Type} {s:bJ} {n:Nat} (hc:s.count=(n:Int)) (hn:n<=1000000) (Y:σ->Int×Bool->Option (σ×Bool)) (S:Nat->σ) (h: ∀ i,i < n->Y (S i) ((i:Int),jh s.parts (i:Int))=some (S (i+1),true)):fp s Y (S 0)=some (S n):=by
 unfold fp
 refine fc (λi:Nat=>((i:Int),S i)) n (.inl (S n)) rfl ?_ ?_ rfl
 ·intro i hi
  dsimp only
  rw [hc,decide_eq_true (by omega),cond_true,h i hi,aA]
  dsimp only
  rw [Bool.not_true,cond_false,w64 (by omega) (by omega)]
  rfl
 ·dsimp only
  rw [hc,decide_eq_false (by omega),cond_false]
def dW (P:List ByteArray):List Int:=P.flatMap sbs
theorem ni (P:List ByteArray) (i:Nat) (h:i < P.length):dW (P.take (i+1))=dW (P.take i)++sbs P[i]:=by
 unfold dW
 rw [List.take_succ_eq_append_getElem h,List.flatMap_append]
 simp
theorem uH {P:List ByteArray} {l:List (Int×ByteArray)} {id b:Int} (hid:1<=id) (h:SL P l) (hP:P.length<=4096) (hb:(dW P).length<=1000000) :
  ek ⟨id,(P.length:Int),some l,b⟩=some (if l.length < P.length then (noS,false) else (cZ (dW P),true)):=by
 obtain ⟨h1,h2⟩:=h.le
 unfold ek
 dsimp only
 rw [A9 (by omega),cond_false,aA]
 show (bif decide (((l.length:Nat):Int) < (P.length:Int)) then _ else _)=_
 by_cases c:l.length < P.length
 ·rw [decide_eq_true (by omega),cond_true,if_pos c]
  rfl
 ·rw [decide_eq_false (by omega),cond_false,if_neg c]
  have hall:=h2 (by omega)
  have hpre: ∀ i,(dW (P.take i)).length<=(dW P).length:=λi=>by
   have e:dW P=dW (P.take i)++dW (P.drop i):=by
    unfold dW
    rw [<- List.flatMap_append,List.take_append_drop]
   rw [e,List.length_append]
   omega
  have e:=oK (s:=⟨id,(P.length:Int),some l,b⟩) (n:=P.length) rfl (by omega) (λa f=>(Option.bind (cX (bT.mk a.addr a.buf) (mgd (some l) f.1 (ByteArray.mk #[]))) λd=>some ((bT.mk d.addr d.buf),true))) (λi=>bT.mk (decide (0 < i)) (dW (P.take i))) (λi hi=>by
   dsimp only
   have hg:mgd (some l) (i:Int) (ByteArray.mk #[])=P[i]:=by
    unfold mgd
    rw [Option.getD_some,hall i hi,Option.getD_some]
   have h3:=hpre (i+1)
   rw [ni P i hi,List.length_append,aQ] at h3
   rw [hg]
   unfold cX
   rw [bO (by dsimp only; omega),aA,aA,ni P i hi]
   rfl)
  try dsimp only at e
  rw [show (bT.mk false ([]:List Int))=bT.mk (decide (0 < 0)) (dW (P.take 0)) from rfl,e,aA]
  try dsimp only
  rw [List.take_length]
  rfl
theorem rp {α:Type} [BEq α] [LawfulBEq α]: ∀ (A B:List α),A.Nodup->(∀ x∈A,x∈B)->A.length<=B.length
 | [],B,_,_=>Nat.zero_le _
 | a::A,B,h,hs=>by
  rw [List.nodup_cons] at h
  have ha:=hs a List.mem_cons_self
  have e:=List.length_erase_of_mem ha
  have hp:0 < B.length:=List.length_pos_of_mem ha
  have:=rp A (B.erase a) h.2 λx hx=>by
   have hne:x≠a:=λe=>h.1 (e ▸ hx)
   exact (List.mem_erase_of_ne hne).2 (hs x (List.mem_cons_of_mem _ hx))
  rw [List.length_cons]
  omega
theorem SL.full {P:List ByteArray} {l:List (Int×ByteArray)} (hall: ∀ i:Nat,i < P.length->(mgl (i:Int) l).isSome=true):P.length<=l.length:=by
 have h:=rp ((List.range P.length).map λi:Nat=>(i:Int)) (l.map Prod.fst) (by
  rw [List.nodup_iff_pairwise_ne,List.pairwise_map]
  exact (List.nodup_iff_pairwise_ne.1 List.nodup_range).imp λh e=>h (by omega)) (λx hx=>by
   obtain ⟨i,hi,rfl⟩:=List.mem_map.1 hx
   have:=hall i (List.mem_range.1 hi)
   rw [Option.isSome_iff_exists] at this
   obtain ⟨d,hd⟩:=this
   exact List.mem_map.2 ⟨((i:Int),d),lS hd,rfl⟩)
 simpa using h
theorem or8 {a b:Nat} (ha:a < 256) (hb:b < 256):Go.bits .or .u8 (a:Int) (b:Int)=((a ||| b:Nat):Int):=by
 show IntKind.u8.wrap ((BitVec.ofInt 8 (a:Int) ||| BitVec.ofInt 8 (b:Int)).toNat:Int)=_
 rw [BitVec.ofInt_natCast,BitVec.ofInt_natCast,BitVec.toNat_or,BitVec.toNat_ofNat,BitVec.toNat_ofNat,Nat.mod_eq_of_lt ha,Nat.mod_eq_of_lt hb]
 have:=Nat.or_lt_two_pow (n:=8) ha hb
 exact AB (by omega) (by omega)
theorem vu (b j:Nat):(((b:Int) / 2 ^ j) % 2=1)↔b.testBit j=true:=by
 rw [Nat.testBit_eq_decide_div_mod_eq,decide_eq_true_eq]
 have:((b:Int) / 2 ^ j) % 2=((b / 2 ^ j % 2:Nat):Int):=by
  rw [Int.natCast_emod,Int.natCast_ediv,Int.natCast_pow]
  rfl
 rw [this]
 omega
def n5 (B:List Int) (i:Nat):List Int:=B.set (i / 8) (Go.bits .or .u8 ((B[i / 8]?).getD 0) (IntKind.u8.wrap (1*2 ^ (min (i % 8) 8))))
theorem zo (k:Nat) (h:k < 8):IntKind.u8.wrap (1*2 ^ (min k 8))=((2 ^ k:Nat):Int):=by
 have:k=0\/k=1\/k=2\/k=3\/k=4\/k=5\/k=6\/k=7:=by omega
 rcases this with rfl | rfl | rfl | rfl | rfl | rfl | rfl | rfl <;> decide
theorem zp (k:Nat) (h:k < 8):2 ^ k < 256:=by
 have:k=0\/k=1\/k=2\/k=3\/k=4\/k=5\/k=6\/k=7:=by omega
 rcases this with rfl | rfl | rfl | rfl | rfl | rfl | rfl | rfl <;> decide
def sq (B:List Int) (i:Nat):Bool:=match B[i / 8]? with
 | some b=>decide ((b / 2 ^ (i % 8)) % 2=1)
 | none=>false
theorem zq {B:List Int} (h:BB B) {i:Nat} (hi:i / 8 < B.length):BB (n5 B i)/\(n5 B i).length=B.length /\ ∀ j,sq (n5 B i) j=(decide (j=i) || sq B j):=by
 have hb:=h _ (List.getElem_mem hi)
 obtain ⟨b,hbn⟩:=Int.eq_ofNat_of_zero_le hb.1
 have hb2:b < 256:=by omega
 have hk:i % 8 < 8:=Nat.mod_lt _ (by decide)
 have hp:=zp (i % 8) hk
 have hv:Go.bits .or .u8 ((B[i / 8]?).getD 0) (IntKind.u8.wrap (1*2 ^ (min (i % 8) 8)))=((b ||| 2 ^ (i % 8):Nat):Int):=by
  rw [List.getElem?_eq_getElem hi,Option.getD_some,hbn,zo _ hk,or8 hb2 hp]
 have hlt:=Nat.or_lt_two_pow (n:=8) hb2 hp
 have hlen:(n5 B i).length=B.length:=by unfold n5; rw [List.length_set]
 refine ⟨?_,hlen,λj=> ?_⟩
 ·unfold n5
  rw [hv]
  intro x hx
  rcases List.mem_or_eq_of_mem_set hx with hx | rfl
  ·exact h x hx
  ·omega
 ·unfold sq n5
  rw [hv,List.getElem?_set]
  by_cases hq:i / 8=j / 8
  ·rw [if_pos hq,if_pos hi,<- hq,List.getElem?_eq_getElem hi,hbn]
   dsimp only
   have e1:decide ((((b ||| 2 ^ (i % 8):Nat):Int) / 2 ^ (j % 8)) % 2=1)=(b ||| 2 ^ (i % 8)).testBit (j % 8):=by
    rw [Bool.eq_iff_iff,decide_eq_true_eq]
    exact vu _ _
   have e2:decide (((b:Int) / 2 ^ (j % 8)) % 2=1)=b.testBit (j % 8):=by
    rw [Bool.eq_iff_iff,decide_eq_true_eq]
    exact vu _ _
   rw [e1,e2,Nat.testBit_or,Nat.testBit_two_pow]
   have e3:decide (i % 8=j % 8)=decide (j=i):=by
    rw [Bool.eq_iff_iff,decide_eq_true_eq,decide_eq_true_eq]
    omega
   rw [e3,Bool.or_comm]
  ·rw [if_neg hq,show decide (j=i)=false from decide_eq_false (λe=>hq (by rw [e])),Bool.false_or]
theorem ql: ∀ (L:List Nat) {B:List Int},BB B->(∀ i∈L,i / 8 < B.length)->BB (L.foldl n5 B)/\(L.foldl n5 B).length=B.length /\ ∀ j,sq (L.foldl n5 B) j=(decide (j∈L) || sq B j)
 | [],B,h,_=>⟨h,rfl,λj=>by simp⟩
 | i::L,B,h,hl=>by
  obtain ⟨h1,h2,h3⟩:=zq h (hl i List.mem_cons_self)
  obtain ⟨k1,k2,k3⟩:=ql L h1 λq hq=>by rw [h2]; exact hl q (List.mem_cons_of_mem _ hq)
  refine ⟨k1,k2.trans h2,λj=> ?_⟩
  rw [List.foldl_cons,k3 j,h3 j]
  by_cases h4:j=i
  ·subst h4; simp
  ·simp [h4]
def gR (l:List (Int×ByteArray)) (n:Nat):List Nat:=(List.range n).filter λi=>(mgl (i:Int) l).isSome
theorem zr {l:List (Int×ByteArray)} {n:Nat} {id b:Int} (hn:n<=5000):dJ ⟨id,(n:Int),some l,b⟩=some ((gR l n).map λi:Nat=>(i:Int)):=by
 unfold dJ eY
 have hlen: ∀ i,(gR l i).length<=i:=λi=>by
  unfold gR
  have:=List.length_filter_le (λq:Nat=>(mgl (q:Int) l).isSome) (List.range i)
  rw [List.length_range] at this
  exact this
 have:=oK (s:=⟨id,(n:Int),some l,b⟩) (n:=n) rfl (by omega) (λs32 x3=>(bif (x3.2 == true) then (Option.bind (chk (dK s32.length [x3.1].length 8)) λ_=>some ((s32++[x3.1]),true)) else some (s32,true))) (λi=>(gR l i).map λi:Nat=>(i:Int)) (λi hi=>by
  dsimp only
  have hs:gR l (i+1)=gR l i++(if (mgl (i:Int) l).isSome=true then [i] else []):=by
   unfold gR
   rw [List.range_succ,List.filter_append]
   congr 1
   rw [List.filter_cons]
   rfl
  have hh:jh (some l) (i:Int)=(mgl (i:Int) l).isSome:=rfl
  have:=hlen i
  rw [hh,hs]
  cases hm:(mgl (i:Int) l).isSome with
  | true =>
   rw [show (true == true)=true from rfl,cond_true,bO (by simp; omega),aA,if_pos rfl,List.map_append]
   rfl
  | false =>
   rw [show (false == true)=false from rfl,cond_false,if_neg (by simp),List.append_nil])
 rw [show ((gR l 0).map λi:Nat=>(i:Int))=([]:List Int) from rfl] at this
 rw [this]
 rfl
def ss (l:List (Int×ByteArray)) (n:Nat):List Int:=(gR l n).foldl n5 (List.replicate ((n+7) / 8) 0)
theorem zt (l:List (Int×ByteArray)) (n:Nat):BB (ss l n)/\(ss l n).length=(n+7) / 8 /\ ∀ j,sq (ss l n) j=decide (j∈gR l n):=by
 have h0:BB (List.replicate ((n+7) / 8) (0:Int)):=λx hx=>by rw [List.eq_of_mem_replicate hx]; exact ⟨by decide,by decide⟩
 obtain ⟨h1,h2,h3⟩:=ql (gR l n) h0 λi hi=>by
  have:=List.mem_range.1 (List.mem_filter.1 hi).1
  rw [List.length_replicate]
  omega
 refine ⟨h1,by rw [show (ss l n).length=_ from h2,List.length_replicate],λj=> ?_⟩
 rw [show sq (ss l n) j=_ from h3 j]
 have:sq (List.replicate ((n+7) / 8) (0:Int)) j=false:=by
  unfold sq
  rw [List.getElem?_replicate]
  split
  ·rename_i b hb
   split at hb
   ·injection hb with hb
    rw [<- hb]
    simp
   ·cases hb
  ·rfl
 rw [this,Bool.or_false]
theorem yh {t:aR} {l:List (Int×ByteArray)} {n:Nat} {id b:Int} (h:t.slot=⟨id,(n:Int),some l,b⟩) (hn:n<=5000):cV t=some ⟨1,2,[t.aO.k,id],cZ (ss l n)⟩:=by
 unfold cV
 have e1:IntKind.i64.wrap ((IntKind.i64.wrap ((IntKind.i64.wrap ((n:Int)+8)) - 1)).tdiv 8)=(((n+7) / 8:Nat):Int):=by
  rw [w64 (x:=(n:Int)+8) (by omega) (by omega),w64 (x:=(n:Int)+8 - 1) (by omega) (by omega)]
  have:((n:Int)+8 - 1).tdiv 8=(((n+7) / 8:Nat):Int):=by
   rw [show (n:Int)+8 - 1=((n+7:Nat):Int) by omega]
   rfl
  rw [this,w64 (by omega) (by omega)]
 rw [h,show fC ⟨id,(n:Int),some l,b⟩=some (n:Int) from rfl,aA,e1,show chk (pO (((n+7) / 8:Nat):Int) 1)=some () from ib (by unfold big; omega),aA,zr hn,aA,Int.toNat_natCast]
 have hlen: ∀ i,(((gR l n).take i).foldl n5 (List.replicate ((n+7) / 8) (0:Int))).length=(n+7) / 8:=λi=>by
  have h0:BB (List.replicate ((n+7) / 8) (0:Int)):=λx hx=>by rw [List.eq_of_mem_replicate hx]; exact ⟨by decide,by decide⟩
  have:=(ql ((gR l n).take i) h0 λi hi=>by
   have:=List.mem_range.1 (List.mem_filter.1 (List.mem_of_mem_take hi)).1
   rw [List.length_replicate]
   omega).2.1
  rw [this,List.length_replicate]
 refine fc (λi:Nat=>((i:Int),((gR l n).take i).foldl n5 (List.replicate ((n+7) / 8) (0:Int)))) (gR l n).length (ss l n) rfl ?_ ?_ ?_
 ·intro i hi
  dsimp only
  have hm:=List.mem_range.1 (List.mem_filter.1 (List.getElem_mem hi)).1
  have hl:=hlen i
  have hh:(gR l n).length<=n:=by
   unfold gR
   have:=List.length_filter_le (λq:Nat=>(mgl (q:Int) l).isSome) (List.range n)
   rw [List.length_range] at this
   exact this
  have e2:(((gR l n)[i]:Nat):Int).tdiv 8=(((gR l n)[i] / 8:Nat):Int):=rfl
  have e3:(((gR l n)[i]:Nat):Int).tmod 8=(((gR l n)[i] % 8:Nat):Int):=rfl
  have hmod:(gR l n)[i] % 8 < 8:=Nat.mod_lt _ (by decide)
  rw [List.length_map,decide_eq_true (by omega),cond_true,bQ _ i (by rw [List.length_map]; exact hi),aA,List.getElem_map,e2,e3,w64 (x:=(((gR l n)[i] / 8:Nat):Int)) (by omega) (by omega),bQ _ ((gR l n)[i] / 8) (by rw [hl]; omega),aA,show chk (shk (((gR l n)[i] % 8:Nat):Int))=some () from ib (by omega),aA,aA,w64 (by omega) (by have:=hh; omega),List.take_succ_eq_append_getElem hi,List.foldl_append]
  simp only [List.foldl_cons,List.foldl_nil]
  rw [n5,List.getElem?_eq_getElem (by rw [hl]; omega),Option.getD_some,Int.toNat_natCast,Int.toNat_natCast]
  rfl
 ·dsimp only
  rw [List.length_map,decide_eq_false (by omega),cond_false,List.take_length]
  rfl
 ·rfl
theorem su {α:Type} (k j:Int) (x:α): ∀ l:List (Int×α),mgl k (msl j x l)=if k=j then some x else mgl k l
 | []=>by simp [msl,mgl]
 | (i,y)::l=>by
  unfold msl
  by_cases h:j=i
  ·subst h
   rw [if_pos rfl]
   simp only [mgl]
   split <;> rfl
  ·rw [if_neg h]
   simp only [mgl]
   rw [su k j x l]
   by_cases h1:k=i
   ·rw [if_pos h1,if_neg (λe=>h (by rw [<- e]; exact h1)),if_pos h1]
   ·rw [if_neg h1,if_neg h1]
structure SR (s:bJ) (x:cR) (l:List (Int×ByteArray)):Prop where
 key:x.key=s.key
 cnt:s.count=(x.parts.length:Int)
 has:x.has=(List.range x.parts.length).map λi:Nat=>(mgl (i:Int) l).isSome
 sl:SL x.parts l
 zz: ∀ i:Nat,mgl (i:Int) l=none->i < x.parts.length->x.parts[i]?=some noS
 st:(s.parts=some l/\1<=s.key)\/(s.parts=none/\l=[]/\s.key=0/\x.parts=[])
 le:x.parts.length<=4096
theorem sy:SR ⟨0,0,none,0⟩ ⟨0,[],[]⟩ []:=⟨rfl,rfl,rfl,yg _,λ_ _ h=>absurd h (Nat.not_lt_zero _),.inr ⟨rfl,rfl,rfl,rfl⟩,by decide⟩
theorem SR.mh {s:bJ} {x:cR} {l:List (Int×ByteArray)} (h:SR s x l) (i:Int):jh s.parts i=(mgl i l).isSome:=by
 rcases h.st with ⟨e,_⟩ | ⟨e,e2,_⟩
 ·rw [e]; rfl
 ·rw [e,e2]; rfl
theorem SR.hl {s:bJ} {x:cR} {l:List (Int×ByteArray)} (h:SR s x l):x.has.length=x.parts.length:=by rw [h.has]; simp
theorem zu (count index key:Int):((bif (decide (count < 1)) then some true else (bif (decide (count > 4096)) then some true else (bif (decide (index < 0)) then some true else (bif (decide (index>=count)) then some true else some (decide (key < 1)))))):Option Bool)=some (decide (count < 1\/count > 4096\/index < 0\/index>=count\/key < 1)):=by
 by_cases a:count < 1 <;> by_cases b:count > 4096 <;> by_cases c:index < 0 <;> by_cases d:index>=count <;> simp [a,b,c,d]
theorem tB: ∀ (P:List ByteArray) (i:Nat) (d:ByteArray),(dW (P.set i d)).length<=(dW P).length+d.size
 | [],i,d=>by simp [dW]
 | p::P,0,d=>by simp [dW,aQ]; omega
 | p::P,i+1,d=>by
  have:=tB P i d
  simp only [dW,List.set_cons_succ,List.flatMap_cons,List.length_append] at this ⊢
  omega
theorem yi (n:Nat):dW (List.replicate n noS)=[]:=by
 unfold dW
 rw [List.flatMap_eq_nil_iff]
 intro x hx
 rw [List.eq_of_mem_replicate hx]
 rfl
theorem vw {α:Type} (a b:List α) (h:a.length=b.length):cpy a b=b:=by
 unfold cpy
 simp [h]
theorem yj {s:bJ} {x:cR} {l:List (Int×ByteArray)} (h:SR s x l) (hk:1<=s.key) {i:Nat} (hi:i < x.parts.length) (d:ByteArray) :
  ∃ s' x' l',(Option.bind ((bif (!(jh s.parts (i:Int))) then (Option.bind (chk s.parts.isSome) λ_=>some (bJ.mk s.key s.count (vX s.parts (i:Int) d) (IntKind.i64.wrap (s.bytes+(d.size:Int))))) else some s):Option bJ) λa=>some ((0:Int),a))=some (0,s') /\
   (Option.bind (idx x.has (i:Int)) λb=>(Option.bind ((bif (!b) then (Option.bind (idx x.has (i:Int)) λg=>(Option.bind (idx x.parts (i:Int)) λk=>some (cR.mk x.key (x.has.set ((i:Int)).toNat true) (x.parts.set ((i:Int)).toNat d)))) else some x):Option cR) λf=>some (f,(0:Int))))=some (x',0)/\SR s' x' l'/\(dW x'.parts).length<=(dW x.parts).length+d.size/\s'.key=s.key:=by
 have e1:s.parts=some l:=by
  rcases h.st with ⟨e,_⟩ | ⟨_,_,e,_⟩
  ·exact e
  ·omega
 have e2:idx x.has (i:Int)=some (mgl (i:Int) l).isSome:=by
  rw [bQ _ i (by rw [h.hl]; exact hi)]
  congr 1
  simp [h.has]
 rw [h.mh,e2,aA]
 cases hm:(mgl (i:Int) l).isSome with
 | true=>exact ⟨s,x,l,rfl,rfl,h,by omega,rfl⟩
 | false =>
  have hn:mgl (i:Int) l=none:=by
   cases hg:mgl (i:Int) l with
   | none=>rfl
   | some x=>rw [hg] at hm; cases hm
  rw [Bool.not_false,cond_true,cond_true,e1,show chk (some l).isSome=some () from rfl,aA,aA,aA,bQ _ i hi,aA,aA,Int.toNat_natCast]
  have hs:SL (x.parts.set i d) l:=⟨h.sl.nd,λp hp=>by
   obtain ⟨j,ej,hj⟩:=h.sl.at_ p hp
   have hne:i≠j:=λe=>n4 hn p hp (by rw [ej,e])
   exact ⟨j,ej,by rw [List.getElem?_set_ne hne]; exact hj⟩⟩
  obtain ⟨h1,h2⟩:=hs.add (i:=i) (d:=d) (by simp [hi]) hn
  refine ⟨_,_,msl (i:Int) d l,rfl,rfl,⟨h.key,by simpa using h.cnt,?_,h1,λj hj hj2=> ?_,.inl ⟨rfl,hk⟩,by simpa using h.le⟩,tB _ _ _,rfl⟩
  ·dsimp only
   rw [List.length_set,h.has]
   refine List.ext_getElem (by simp) λj hj1 hj2=> ?_
   simp only [List.length_set,List.length_map,List.length_range] at hj1
   rw [List.getElem_set]
   simp only [List.getElem_map,List.getElem_range,su]
   by_cases c:i=j
   ·subst c; simp
   ·rw [if_neg c,if_neg (by omega)]
  ·dsimp only at hj2 ⊢
   rw [su] at hj
   rw [List.length_set] at hj2
   have c:i≠j:=λe=>by subst e; simp at hj
   rw [if_neg (by omega)] at hj
   rw [List.getElem?_set_ne c]
   exact h.zz j hj hj2
theorem Ba {s:bJ} {x:cR} {l:List (Int×ByteArray)} (h:SR s x l) (key index count:Int) (d:ByteArray) :
  ∃ e s' x' l',gu s key index count d=some (e,s')/\l9 x key index count d=some (x',e)/\SR s' x' l'/\(dW x'.parts).length<=(dW x.parts).length+d.size/\(e≠0->s'=s/\x'=x)/\(s'.key=s.key\/s'.key=key):=by
 unfold gu l9
 rw [zu,aA,aA]
 by_cases c:count < 1\/count > 4096\/index < 0\/index>=count\/key < 1
 ·rw [decide_eq_true c,cond_true,cond_true]
  exact ⟨6,s,x,l,rfl,rfl,h,by omega,λ_=>⟨rfl,rfl⟩,.inl rfl⟩
 ·rw [decide_eq_false c,cond_false,cond_false,h.key]
  by_cases c1:key < s.key
  ·rw [decide_eq_true c1,cond_true,cond_true]
   exact ⟨8,s,x,l,rfl,rfl,h,by omega,λ_=>⟨rfl,rfl⟩,.inl rfl⟩
  ·rw [decide_eq_false c1,cond_false,cond_false,show chk (pO count 1)=some () from ib (by unfold big; omega),aA,show chk (pO count 16)=some () from ib (by unfold big; omega),aA]
   obtain ⟨n,rfl⟩: ∃ n:Nat,count=(n:Int):=⟨count.toNat,by omega⟩
   obtain ⟨i,rfl⟩: ∃ i:Nat,index=(i:Int):=⟨index.toNat,by omega⟩
   by_cases c2:key > s.key
   ·rw [decide_eq_true c2,cond_true,A9 (by omega),cond_false,aA,aA,Int.toNat_natCast]
    have h0:SR ⟨key,(n:Int),some [],0⟩ ⟨key,List.replicate n false,List.replicate n noS⟩ []:=by
     refine ⟨rfl,by simp,?_,yg _,λi _ hi=> ?_,.inl ⟨rfl,show 1<=key by omega⟩,by simp; omega⟩
     ·dsimp only
      rw [List.length_replicate]
      refine List.ext_getElem (by simp) λj hj1 hj2=>by simp [mgl]
     ·dsimp only at hi ⊢
      rw [List.length_replicate] at hi
      simp [hi]
    obtain ⟨s',x',l',e1,e2,e3,e4,e5⟩:=yj h0 (show 1<=key by omega) (i:=i) (by simp; omega) d
    dsimp only
    refine ⟨0,s',x',l',e1,e2,e3,?_,λh=>absurd rfl h,.inr e5⟩
    dsimp only at e4
    rw [yi] at e4
    simp at e4
    omega
   ·have hk:key=s.key:=by omega
    subst hk
    have hk1:1<=s.key:=by omega
    rw [decide_eq_false c2,cond_false,show (s.key == s.key)=true by simp,cond_true,h.cnt,h.hl]
    by_cases c3:n=x.parts.length
    ·subst c3
     rw [BE,cond_false,cond_false,aA,aA,Int.toNat_natCast,vw _ x.has (by rw [List.length_replicate,h.hl]),vw _ x.parts (by rw [List.length_replicate])]
     obtain ⟨s',x',l',e1,e2,e3,e4,e5⟩:=yj h hk1 (i:=i) (by omega) d
     have ex:cR.mk s.key x.has x.parts=x:=by rw [<- h.key]
     rw [ex]
     exact ⟨0,s',x',l',e1,e2,e3,e4,λh=>absurd rfl h,.inl e5⟩
    ·rw [show ((n:Int) != (x.parts.length:Int))=true by simp; omega,cond_true,cond_true]
     exact ⟨1,s,x,l,rfl,rfl,h,by omega,λ_=>⟨rfl,rfl⟩,.inl rfl⟩
def whL (l:List (Int×ByteArray)) (n:Nat) (b:Bool):List Nat:=(List.range n).filter λi=>(mgl (i:Int) l).isSome == b
theorem vx (l:List (Int×ByteArray)) (n:Nat) (b:Bool):(whL l n b).length<=n:=by
 unfold whL
 have:=List.length_filter_le (λi:Nat=>(mgl (i:Int) l).isSome == b) (List.range n)
 rw [List.length_range] at this
 exact this
theorem tC (l:List (Int×ByteArray)) (n:Nat) (b:Bool):whL l (n+1) b=whL l n b++(if ((mgl (n:Int) l).isSome == b)=true then [n] else []):=by
 unfold whL
 rw [List.range_succ,List.filter_append]
 congr 1
 rw [List.filter_cons]
 rfl
theorem z8 {s:bJ} {l:List (Int×ByteArray)} {n:Nat} (hc:s.count=(n:Int)) (hm: ∀ i,jh s.parts i=(mgl i l).isSome) (hn:n<=5000) (b:Bool):eY s b=some ((whL l n b).map λi:Nat=>(i:Int)):=by
 unfold eY
 have:=oK (s:=s) (n:=n) hc (by omega) (λs32 x3=>(bif (x3.2 == b) then (Option.bind (chk (dK s32.length [x3.1].length 8)) λ_=>some ((s32++[x3.1]),true)) else some (s32,true))) (λi=>(whL l i b).map λi:Nat=>(i:Int)) (λi hi=>by
  dsimp only
  have:=vx l i b
  rw [hm,tC]
  cases hg:((mgl (i:Int) l).isSome == b) with
  | true =>
   rw [cond_true,bO (by simp; omega),aA,if_pos rfl,List.map_append]
   rfl
  | false=>rw [cond_false,if_neg (by simp),List.append_nil])
 rw [show ((whL l 0 b).map λi:Nat=>(i:Int))=([]:List Int) from rfl] at this
 rw [this]
 rfl
theorem Bb {x:cR} {l:List (Int×ByteArray)} {n:Nat} (hh:x.has=(List.range n).map λi:Nat=>(mgl (i:Int) l).isSome) (hn:n<=5000) (b:Bool):kT x b=some ((whL l n b).map λi:Nat=>(i:Int)):=by
 unfold kT
 have hl:x.has.length=n:=by rw [hh]; simp
 refine fc (λi:Nat=>((i:Int),(whL l i b).map λi:Nat=>(i:Int))) n _ rfl ?_ ?_ rfl
 ·intro i hi
  dsimp only
  have:=vx l i b
  rw [hl,decide_eq_true (by omega),cond_true,bQ _ i (by omega),aA,show x.has[i]'(by omega)=(mgl (i:Int) l).isSome by simp [hh],tC]
  cases hg:((mgl (i:Int) l).isSome == b) with
  | true=>rw [cond_true,bO (by simp; omega),aA,aA,if_pos rfl,List.map_append,w64 (by omega) (by omega)]; rfl
  | false=>rw [cond_false,aA,if_neg (by simp),List.append_nil,w64 (by omega) (by omega)]; rfl
 ·dsimp only
  rw [hl,decide_eq_false (by omega),cond_false]
theorem Bc {s:bJ} {x:cR} {l:List (Int×ByteArray)} (h:SR s x l) (hb:(dW x.parts).length<=100000) :
  ∃ w u b,ek s=some (w,b)/\ma x=some (u,b)/\(b=true->w=u/\w=cZ (dW x.parts)):=by
 have hA: ∀ R:ByteArray->Option (ByteArray×Bool),Option.bind (iter (σ:=Int×ByteArray) (ρ:=ByteArray) (λd=>(bif (decide (d.1 < (x.parts.length:Int))) then (Option.bind (idx x.parts d.1) λf=>(Option.bind (chk (kj d.2.size f.size)) λ_=>some (.inl ((IntKind.i64.wrap (d.1+1)),(d.2++f))))) else some (.inr d.2))) (0,(ByteArray.mk #[]))) R=R (cZ (dW x.parts)):=λR=>by
  refine fc (λi:Nat=>((i:Int),cZ (dW (x.parts.take i)))) x.parts.length (cZ (dW x.parts)) rfl ?_ ?_ rfl
  ·intro i hi
   dsimp only
   have hpre:(dW (x.parts.take (i+1))).length<=(dW x.parts).length:=by
    have e:dW x.parts=dW (x.parts.take (i+1))++dW (x.parts.drop (i+1)):=by
     unfold dW
     rw [<- List.flatMap_append,List.take_append_drop]
    rw [e,List.length_append]
    omega
   have e2:=ni x.parts i hi
   have e3:(dW (x.parts.take (i+1))).length=(dW (x.parts.take i)).length+x.parts[i].size:=by rw [e2,List.length_append,aQ]
   have:=h.le
   rw [decide_eq_true (by omega),cond_true,bQ _ i hi,aA,eZ (by rw [bN]; omega),aA,w64 (by omega) (by omega),e2,dV,mb]
   rfl
  ·dsimp only
   rw [decide_eq_false (by omega),cond_false,List.take_length]
 unfold ma
 rw [hA]
 have hle:=h.le
 rcases h.st with ⟨e1,e2⟩ | ⟨e1,e2,e3,e4⟩
 ·have hs:s=⟨s.key,(x.parts.length:Int),some l,s.bytes⟩:=by rw [<- e1,<- h.cnt]
  have hw:=uH (b:=s.bytes) e2 h.sl (by omega) (by omega)
  rw [<- hs] at hw
  rw [hw,decide_eq_true (show x.key > 0 by rw [h.key]; omega),cond_true,Bb h.has (by omega),aA,aA]
  by_cases c:l.length < x.parts.length
  ·refine ⟨noS,cZ (dW x.parts),false,by rw [if_pos c],?_,λh=>by cases h⟩
   have:whL l x.parts.length false≠[]:=λe=>by
    have:=SL.full (P:=x.parts) (l:=l) λi hi=>by
     have:=(List.filter_eq_nil_iff.1 e) i (List.mem_range.2 hi)
     simpa [Option.isSome_iff_ne_none] using this
    omega
   cases hq:whL l x.parts.length false with
   | nil=>exact absurd hq this
   | cons a b=>rfl
  ·refine ⟨cZ (dW x.parts),cZ (dW x.parts),true,by rw [if_neg c],?_,λ_=>⟨rfl,rfl⟩⟩
   have:whL l x.parts.length false=[]:=by
    unfold whL
    rw [List.filter_eq_nil_iff]
    intro i hi
    have hall:=(h.sl.le).2 (by have:=h.sl.le.1; omega) i (List.mem_range.1 hi)
    rw [hall]
    simp
   rw [this]
   rfl
 ·refine ⟨noS,cZ (dW x.parts),false,?_,?_,λh=>by cases h⟩
  ·unfold ek
   rw [e3]
   rfl
  ·rw [h.key,e3]
   rfl
abbrev CL:=List (Int×CacheEntry)
structure CM (now:Int) (m:CL):Prop where
 nd:(m.map Prod.fst).Nodup
 r: ∀ e∈m,0<=e.1/\e.1 < 1152921504606846976
 a: ∀ e∈m,e.2.at_<=now
 da:(m.map λe=>e.2.at_).Nodup
 g: ∀ e∈m,e.2.l.length<=1000000
theorem pA {i:Int} {x:CacheEntry}: ∀ {m:CL},(m.map Prod.fst).Nodup -> ∀ e∈msl i x m,e=(i,x)\/(e∈m/\e.1≠i)
 | [],_,e,h=> .inl (List.mem_singleton.1 h)
 | (j,y)::m,hn,e,h=>by
  have hn':=List.nodup_cons.1 hn
  unfold msl at h
  split at h
  ·rename_i hij
   subst hij
   rcases List.mem_cons.1 h with h | h
   ·exact .inl h
   ·exact .inr ⟨List.mem_cons_of_mem _ h,λc=>hn'.1 (List.mem_map.2 ⟨e,h,c⟩)⟩
  ·rename_i hij
   rcases List.mem_cons.1 h with rfl | h
   ·exact .inr ⟨List.mem_cons_self,λc=>hij c.symm⟩
   ·rcases pA hn'.2 e h with c | ⟨c,d⟩
    ·exact .inl c
    ·exact .inr ⟨List.mem_cons_of_mem _ c,d⟩
theorem tD {i:Int} {x:CacheEntry}: ∀ {m:CL},(m.map Prod.fst).Nodup->((msl i x m).map Prod.fst).Nodup /\ ∀ j,j∈(msl i x m).map Prod.fst↔j=i\/j∈m.map Prod.fst
 | [],_=>⟨by simp [msl],λj=>by simp [msl]⟩
 | (j,y)::m,hn=>by
  have hn':=List.nodup_cons.1 hn
  obtain ⟨h1,h2⟩:=tD (i:=i) (x:=x) hn'.2
  unfold msl
  split
  ·rename_i hij
   subst hij
   refine ⟨hn,λj=> ?_⟩
   simp only [List.map_cons,List.mem_cons]
   exact ⟨λc=>c.elim .inl λd=> .inr (.inr d),λc=>c.elim .inl id⟩
  ·rename_i hij
   refine ⟨List.nodup_cons.2 ⟨λc=> ?_,h1⟩,λq=> ?_⟩
   ·rcases (h2 j).1 c with d | d
    ·exact hij d.symm
    ·exact hn'.1 d
   ·simp only [List.map_cons,List.mem_cons,h2]
    exact ⟨λc=>c.elim (λd=> .inr (.inl d)) λd=>d.elim .inl λe=> .inr (.inr e),λc=>c.elim (λd=> .inr (.inl d)) λd=>d.elim .inl λe=> .inr (.inr e)⟩
theorem vy {i:Int} {x:CacheEntry}: ∀ {m:CL},(m.map λe=>e.2.at_).Nodup->(∀ e∈m,e.2.at_ < x.at_)->((msl i x m).map λe=>e.2.at_).Nodup /\ ∀ q∈(msl i x m).map (λe=>e.2.at_),q=x.at_\/q∈m.map λe=>e.2.at_
 | [],_,_=>⟨by simp [msl],λq h=>by simp [msl] at h; exact .inl h⟩
 | (j,y)::m,hn,hx=>by
  have hn':=List.nodup_cons.1 hn
  have hy:=hx _ List.mem_cons_self
  obtain ⟨h1,h2⟩:=vy (i:=i) (x:=x) hn'.2 λe he=>hx e (List.mem_cons_of_mem _ he)
  unfold msl
  split
  ·refine ⟨List.nodup_cons.2 ⟨λc=> ?_,hn'.2⟩,λq hq=> ?_⟩
   ·obtain ⟨e,he,c⟩:=List.mem_map.1 c
    have:=hx e (List.mem_cons_of_mem _ he)
    dsimp only at c
    omega
   ·rcases List.mem_cons.1 hq with c | c
    ·exact .inl c
    ·exact .inr (List.mem_cons_of_mem _ c)
  ·refine ⟨List.nodup_cons.2 ⟨λc=> ?_,h1⟩,λq hq=> ?_⟩
   ·rcases h2 _ c with d | d
    ·dsimp only at d hy; omega
    ·exact hn'.1 d
   ·rcases List.mem_cons.1 hq with c | c
    ·exact .inr (c ▸ List.mem_cons_self)
    ·rcases h2 _ c with d | d
     ·exact .inl d
     ·exact .inr (List.mem_cons_of_mem _ d)
theorem sA {i:Int} {x:CacheEntry}: ∀ m:CL,(msl i x m).length<=m.length+1/\((mgl i m).isSome=true->(msl i x m).length=m.length)
 | []=>⟨Nat.le_refl _,λh=>by cases h⟩
 | (j,y)::m=>by
  obtain ⟨h1,h2⟩:=sA (i:=i) (x:=x) m
  unfold msl mgl
  split
  ·exact ⟨by simp,λ_=>rfl⟩
  ·refine ⟨by simp only [List.length_cons]; omega,λh=> ?_⟩
   simp only [List.length_cons,h2 h]
theorem sB {i:Int}: ∀ m:CL,(mdl i m).Sublist m/\(i∈m.map Prod.fst->(mdl i m).length+1=m.length)
 | []=>⟨.slnil,λh=>by cases h⟩
 | (j,y)::m=>by
  obtain ⟨h1,h2⟩:=sB (i:=i) m
  unfold mdl
  split
  ·exact ⟨List.sublist_cons_self _ _,λ_=>rfl⟩
  ·rename_i hij
   refine ⟨h1.cons_cons _,λh=> ?_⟩
   rcases List.mem_cons.1 h with c | c
   ·exact absurd c hij
   ·simp only [List.length_cons,h2 c]
theorem CM.sub {now:Int} {m m':CL} (h:CM now m) (hs:m'.Sublist m):CM now m':=⟨h.nd.sublist (hs.map _),λe he=>h.r e (hs.subset he),λe he=>h.a e (hs.subset he),h.da.sublist (hs.map _),λe he=>h.g e (hs.subset he)⟩
theorem CM.set {now:Int} {m:CL} (h:CM now m) {i:Int} (hi:0<=i/\i < 1152921504606846976) {l:List aH} (hl:l.length<=1000000):CM (now+1) (msl i ⟨l,now+1⟩ m):=by
 refine ⟨(tD h.nd).1,λe he=> ?_,λe he=> ?_,(vy h.da λe he=> ?_).1,λe he=> ?_⟩
 ·rcases pA h.nd e he with rfl | ⟨c,_⟩
  ·exact hi
  ·exact h.r e c
 ·rcases pA h.nd e he with rfl | ⟨c,_⟩
  ·exact Int.le_refl _
  ·have:=h.a e c; omega
 ·have:=h.a e he; dsimp only; omega
 ·rcases pA h.nd e he with rfl | ⟨c,_⟩
  ·exact hl
  ·exact h.g e c
theorem Bd (x y:Int):fJ x y=some (if x < y then -1 else if x > y then 1 else 0):=by
 unfold fJ gL
 rw [aA,aA,show (x != x)=false by simp,show (y != y)=false by simp,cond_false,cond_false]
 by_cases c:x < y
 ·rw [decide_eq_true c,cond_true,if_pos c]
 ·rw [decide_eq_false c,cond_false,if_neg c]
  by_cases d:x > y
  ·rw [decide_eq_true d,cond_true,if_pos d]
  ·rw [decide_eq_false d,cond_false,if_neg d]
def atC (c:aJ) (i:Int):Int:=(mgd c.l i ⟨[],0⟩).at_
theorem vz (c:aJ) (ks:List Int) (hn:ks≠[]) (hl:ks.length<=1000000): ∃ r,cK ks c=some r/\r∈ks /\ ∀ j∈ks,atC c r<=atC c j:=by
 unfold cK
 have h0:0 < ks.length:=List.length_pos_iff.2 hn
 have hst: ∀ s:Int×Int,(∃ n:Nat,s.2=n/\1<=n/\n<=ks.length/\s.1∈ks /\ ∀ j∈ks.take n,atC c s.1<=atC c j)->(∃ s',(λs100:Int×Int=>((bif (decide (s100.2 < (ks.length:Int))) then (Option.bind ((Option.bind (idx ks s100.2) λa=>(Option.bind (dQ a s100.1 c) λb=>(bif (decide (b < 0)) then (Option.bind (idx ks s100.2) λf=>some f) else some s100.1))):Option Int) λg=>some (.inl (g,(IntKind.i64.wrap (s100.2+1))))) else some (.inr s100.1)):Option ((Int×Int) ⊕ Int))) s=some (.inl s')/\(∃ n:Nat,s'.2=n/\1<=n/\n<=ks.length/\s'.1∈ks /\ ∀ j∈ks.take n,atC c s'.1<=atC c j)/\ks.length - s'.2.toNat < ks.length - s.2.toNat)\/(∃ r,(λs100:Int×Int=>((bif (decide (s100.2 < (ks.length:Int))) then (Option.bind ((Option.bind (idx ks s100.2) λa=>(Option.bind (dQ a s100.1 c) λb=>(bif (decide (b < 0)) then (Option.bind (idx ks s100.2) λf=>some f) else some s100.1))):Option Int) λg=>some (.inl (g,(IntKind.i64.wrap (s100.2+1))))) else some (.inr s100.1)):Option ((Int×Int) ⊕ Int))) s=some (.inr r)/\(r∈ks /\ ∀ j∈ks,atC c r<=atC c j)):=by
  rintro ⟨m,i⟩ ⟨n,h1,h2,h3,h4,h5⟩
  dsimp only at h1 h4 h5 ⊢
  subst h1
  by_cases d:n < ks.length
  ·left
   have hc:dQ ks[n] m c=some (if atC c ks[n] < atC c m then -1 else if atC c ks[n] > atC c m then 1 else 0):=by
    unfold dQ
    rw [show ((mgd c.l ks[n] (CacheEntry.mk ([]:List aH) 0)).at_)=atC c ks[n] from rfl,show ((mgd c.l m (CacheEntry.mk ([]:List aH) 0)).at_)=atC c m from rfl,Bd]
    rfl
   rw [decide_eq_true (by omega),cond_true,bQ ks n d,aA,hc,aA,aA,w64 (by omega) (by omega)]
   have ht:ks.take (n+1)=ks.take n++[ks[n]]:=List.take_succ_eq_append_getElem d
   by_cases e:atC c ks[n] < atC c m
   ·rw [if_pos e,show decide ((-1:Int) < 0)=true from rfl,cond_true,aA]
    refine ⟨_,rfl,⟨n+1,rfl,by omega,d,List.getElem_mem d,λj hj=> ?_⟩,by dsimp only; omega⟩
    rw [ht] at hj
    rcases List.mem_append.1 hj with hj | hj
    ·have:=h5 j hj; dsimp only; omega
    ·rw [List.mem_singleton.1 hj]; exact Int.le_refl _
   ·rw [if_neg e]
    have:decide ((if atC c ks[n] > atC c m then (1:Int) else 0) < 0)=false:=by split <;> rfl
    rw [this,cond_false,aA]
    refine ⟨_,rfl,⟨n+1,rfl,by omega,d,h4,λj hj=> ?_⟩,by dsimp only; omega⟩
    rw [ht] at hj
    rcases List.mem_append.1 hj with hj | hj
    ·exact h5 j hj
    ·rw [List.mem_singleton.1 hj]; dsimp only; omega
  ·right
   rw [decide_eq_false (by omega),cond_false]
   refine ⟨m,rfl,h4,λj hj=>h5 j ?_⟩
   rw [List.take_of_length_le (by omega)]
   exact hj
 obtain ⟨r,e1,e2⟩:=ij (σ:=Int×Int) (λs=> ∃ n:Nat,s.2=n/\1<=n/\n<=ks.length/\s.1∈ks /\ ∀ j∈ks.take n,atC c s.1<=atC c j) (λs=>ks.length - s.2.toNat) _ hst (ks[0],1) ⟨1,rfl,Nat.le_refl _,h0,List.getElem_mem h0,λj hj=>by
  obtain ⟨k,ks',rfl⟩:=List.exists_cons_of_ne_nil hn
  rw [List.mem_singleton.1 (show j∈[k] from hj)]
  exact Int.le_refl _⟩
 rw [decide_eq_false (by omega),cond_false,show (0:Int)=((0:Nat):Int) from rfl,bQ ks 0 h0,aA]
 exact ⟨r,(congrArg (λz=>Option.bind z _) e1).trans rfl,e2⟩
theorem rq {α β:Type} {f:α->β}: ∀ {l:List α},(l.map f).Nodup -> ∀ {a b:α},a∈l->b∈l->f a=f b->a=b
 | x::l,hn,a,b,ha,hb,e=>by
  have hn':=List.nodup_cons.1 hn
  rcases List.mem_cons.1 ha with ha1 | ha1 <;> rcases List.mem_cons.1 hb with hb1 | hb1
  ·rw [ha1,hb1]
  ·exact absurd (List.mem_map.2 ⟨b,hb1,by rw [<- e,ha1]⟩) hn'.1
  ·exact absurd (List.mem_map.2 ⟨a,ha1,by rw [e,hb1]⟩) hn'.1
  ·exact rq hn'.2 ha1 hb1 e
structure CS (k N:Int) (c:aJ):Prop where
 most:c.most=k
 now:0<=c.now/\c.now<=N
 l: ∃ m,c.l=some m/\CM c.now m/\(m.length:Int)<=k
theorem CS.more {k N M:Int} {c:aJ} (h:CS k N c) (hm:N<=M):CS k M c:=⟨h.most,⟨h.now.1,by have:=h.now.2; omega⟩,h.l⟩
theorem zv (most:Int): ∃ c,kC most=some c/\CS (imax 1 (cA most 65536)) 0 c:=by
 refine ⟨_,rfl,rfl,⟨Int.le_refl _,Int.le_refl _⟩,[],rfl,⟨List.nodup_nil,λe h=>(by cases h),λe h=>(by cases h),List.nodup_nil,λe h=>(by cases h)⟩,?_⟩
 have:=iP 1 (cA most 65536)
 show (0:Int)<=_
 omega
theorem wD {k N:Int} (hk:0<=k) {c:aJ} (h:CS k N c): ∃ c',gb c=some c'/\CS k N c':=by
 obtain ⟨m,m1,m2,m3⟩:=h.l
 refine ⟨_,rfl,h.most,h.now,[],?_,⟨List.nodup_nil,λe h=>(by cases h),λe h=>(by cases h),List.nodup_nil,λe h=>(by cases h)⟩,hk⟩
 show Aw c.l=_
 rw [m1]
 rfl
theorem qm (l:List aH) (h:l.length<=1000000):cB l=some l:=by
 unfold cB
 rw [bO (by simp; omega),aA]
 rfl
theorem sC {c:aJ} {m:CL} (hm:c.l=some m) (hn:(m.map Prod.fst).Nodup) {i:Int} {e:CacheEntry} (h:(i,e)∈m):atC c i=e.at_:=by
 unfold atC mgd
 rw [hm,Option.getD_some,nh hn h]
 rfl
theorem zw {k N:Int} {c:aJ} (h:CS k N c) (hk:k<=100000) (hN:N<=1000000000) {i:Int} (hi:0<=i/\i < 1152921504606846976) {l:List aH} (hl:l.length<=1000000): ∃ g b c',eJ c i l=some (g,b,c')/\CS k (N+1) c':=by
 obtain ⟨m,m1,m2,m3⟩:=h.l
 obtain ⟨n1,n2⟩:=h.now
 have hset:=m2.set hi hl
 have hlen:=(sA (i:=i) (x:=⟨l,c.now+1⟩) m).1
 have ht:dE c i l=some ⟨c.most,c.now+1,some (msl i ⟨l,c.now+1⟩ m)⟩:=by
  unfold dE
  rw [w64 (by omega) (by omega),m1]
  rfl
 unfold eJ
 rw [decide_eq_false (by omega),cond_false,decide_eq_false (by omega),aA,cond_false,qm l hl,aA,ht,aA]
 dsimp only
 generalize hM:msl i ⟨l,c.now+1⟩ m=M at hset hlen
 by_cases d:(((ua (some M):Nat):Int)<=c.most)
 ·rw [decide_eq_true d,cond_true]
  exact ⟨_,_,_,rfl,h.most,⟨by dsimp only; omega,by dsimp only; omega⟩,M,rfl,hset,by rw [<- h.most]; exact d⟩
 ·have d': ¬ ((M.length:Int)<=k):=by rw [<- h.most]; exact d
  rw [decide_eq_false d,cond_false,show gq (some M)=some () from rfl,aA]
  have hc:dA (some M)=some ():=by
   unfold dA
   rw [show chk (some M:Mp CacheEntry).isSome=some () from rfl,aA]
   show Option.bind (chk (dK M.length 1 8)) _=_
   rw [bO (by omega)]
   rfl
  rw [hc,aA]
  have hne:mks (some M)≠[]:=by
   intro e
   have:=congrArg List.length e
   simp [mks] at this
   subst this
   simp at d'
   omega
  have hkl:(mks (some M)).length=M.length:=by simp [mks]
  generalize hC:(aJ.mk c.most (c.now+1) (some M))=C
  have hCl:C.l=some M:=by rw [<- hC]
  obtain ⟨r,r1,r2,r3⟩:=vz C (mks (some M)) hne (by omega)
  have hr:r∈M.map Prod.fst:=r2
  rw [rF (r:=(r,true,(aJ.mk C.most C.now (xc C.l r)))) λR hR=> ?_]
  ·refine ⟨_,_,_,rfl,?_,?_,mdl r M,?_,?_,?_⟩
   ·rw [<- hC]; exact h.most
   ·rw [<- hC]; exact ⟨by dsimp only; omega,by dsimp only; omega⟩
   ·show xc C.l r=_; rw [hCl]; rfl
   ·rw [<- hC]; exact hset.sub (sB M).1
   ·have:=(sB (i:=r) M).2 hr; omega
  ·obtain ⟨q,q1,q2,q3⟩:=vz C R (λe=>hne (by rw [e] at hR; exact hR.symm.eq_nil)) (by rw [hR.length_eq]; omega)
   have hq:q∈M.map Prod.fst:=hR.mem_iff.1 q2
   have e1:=r3 q (hR.mem_iff.1 q2)
   have e2:=q3 r (hR.mem_iff.2 r2)
   obtain ⟨⟨a,x⟩,ha,rfl⟩:=List.mem_map.1 hr
   obtain ⟨⟨b,y⟩,hb,rfl⟩:=List.mem_map.1 hq
   dsimp only at e1 e2 q1 ⊢
   rw [sC hCl hset.nd ha,sC hCl hset.nd hb] at e1
   rw [sC hCl hset.nd ha,sC hCl hset.nd hb] at e2
   have e3:=rq hset.da ha hb (show x.at_=y.at_ by omega)
   injection e3 with e3 e4
   rw [q1,aA,e3,<- hC]
theorem zx {k N:Int} {c:aJ} (h:CS k N c) (hk:k<=100000) (hN:N<=1000000000) (i:Int): ∃ l b c',dU c i=some (l,b,c')/\CS k (N+1) c':=by
 obtain ⟨m,m1,m2,m3⟩:=h.l
 obtain ⟨n1,n2⟩:=h.now
 have hp: ∀ {c':aJ},CS k (N+1) c' -> ∃ l b,fB c' i=some (l,b):=λ{c'} h'=>by
  obtain ⟨m',p1,p2,p3⟩:=h'.l
  unfold fB
  have hg:(mgd c'.l i (CacheEntry.mk ([]:List aH) 0)).l.length<=1000000:=by
   unfold mgd
   rw [p1,Option.getD_some]
   cases hx:mgl i m' with
   | none=>exact Nat.zero_le _
   | some x=>exact p2.g _ (lS hx)
  rw [qm _ hg,aA]
  exact ⟨_,_,rfl⟩
 unfold dU
 cases hx:mgl i m with
 | none =>
  have:jh c.l i=false:=by unfold jh; rw [m1,Option.getD_some,hx]; rfl
  obtain ⟨l,b,e⟩:=hp (h.more (by omega))
  rw [this,cond_false,aA,e,aA]
  exact ⟨_,_,_,rfl,h.more (by omega)⟩
 | some x =>
  have hmem:=lS hx
  have:jh c.l i=true:=by unfold jh; rw [m1,Option.getD_some,hx]; rfl
  have hgd:(mgd c.l i (CacheEntry.mk ([]:List aH) 0))=x:=by unfold mgd; rw [m1,Option.getD_some,hx]; rfl
  have ht:dE c i x.l=some ⟨c.most,c.now+1,some (msl i ⟨x.l,c.now+1⟩ m)⟩:=by
   unfold dE
   rw [w64 (by omega) (by omega),m1]
   rfl
  have hl:=(sA (i:=i) (x:=⟨x.l,c.now+1⟩) m).2 (by rw [hx]; rfl)
  have hc:CS k (N+1) ⟨c.most,c.now+1,some (msl i ⟨x.l,c.now+1⟩ m)⟩:=⟨h.most,⟨by dsimp only; omega,by dsimp only; omega⟩,_,rfl,m2.set (m2.r _ hmem) (m2.g _ hmem),by rw [hl]; exact m3⟩
  obtain ⟨l,b,e⟩:=hp hc
  rw [this,cond_true,hgd,ht,aA,aA,e,aA]
  exact ⟨_,_,_,rfl,hc⟩
theorem rr {k N:Int} {c:aJ} (h:CS k N c) (hk:k<=100000): ∃ L,dF c=some L/\WS k L:=by
 obtain ⟨m,m1,m2,m3⟩:=h.l
 have h0: ∀ i∈m.map Prod.fst,0<=i/\i < 1152921504606846976:=λi hi=>by
  obtain ⟨e,he,rfl⟩:=List.mem_map.1 hi
  exact m2.r e he
 obtain ⟨a1,a2,a3⟩:=nY (m.map Prod.fst) [] trivial m2.nd (λi hi=>⟨(h0 i hi).1,lT⟩)
 refine ⟨_,rm m1 (by omega) m2.nd m2.r,⟨λy hy=> ?_,by rw [a3,List.length_map]; show (0:Int)+_<=_; omega⟩⟩
 generalize ji [] (m.map Prod.fst)=L at a1 a2 hy
 have hne: ∀ (L:List aB) (lo:Int),NF lo L -> ∀ y∈L,lo < y.from_/\y.from_ < y.to:=by
  intro L
  induction L with
  | nil=>intro lo _ y hy; cases hy
  | cons z L ih =>
   intro lo hn y hy
   rcases List.mem_cons.1 hy with rfl | hy
   ·exact ⟨hn.1,hn.2.1⟩
   ·have:=ih _ hn.2.2 y hy
    have:=hn.1
    have:=hn.2.1
    omega
 have hb:=hne L _ a1 y hy
 have hlast:=(a2 (y.to - 1)).1 ⟨y,hy,by omega,by omega⟩
 rcases hlast with hlast | hlast
 ·exact absurd hlast lT
 ·have:=h0 _ hlast
  omega
theorem yk {t:aR} {x:fW} {l:List (Int×ByteArray)} (h:SR t.slot x.slot l):cV t=some ⟨1,2,[t.aO.k,t.slot.key],cZ (ss l x.slot.parts.length)⟩:=by
 have hn:=h.le
 have e:=yh (t:=⟨⟨t.slot.key,(x.slot.parts.length:Int),some l,t.slot.bytes⟩,t.aO⟩) (l:=l) (n:=x.slot.parts.length) rfl (by omega)
 rw [<- e]
 have h1:dJ t.slot=some ((whL l x.slot.parts.length true).map λi:Nat=>(i:Int)):=by
  unfold dJ
  rw [z8 h.cnt h.mh (by omega)]
  rfl
 have h2:dJ ⟨t.slot.key,(x.slot.parts.length:Int),some l,t.slot.bytes⟩=some ((whL l x.slot.parts.length true).map λi:Nat=>(i:Int)):=by
  unfold dJ
  rw [z8 (l:=l) (n:=x.slot.parts.length) rfl (λi=>rfl) (by omega)]
  rfl
 have h3:fC t.slot=some (x.slot.parts.length:Int):=congrArg some h.cnt
 unfold cV
 rw [h1,h2,h3]
 rfl
structure TP (t:aR) (x:fW) (q:Nat):Prop where
 sr: ∃ l,SR t.slot x.slot l
 hv:x.aO=eW t.aO
 sw:SW t.aO
 bd:(t.aO.rows.flatMap eF).length+(dW x.slot.parts).length<=q
theorem ym:TP ⟨⟨0,0,none,0⟩,gQ⟩ ⟨eW gQ,⟨0,[],[]⟩⟩ 0:=⟨⟨[],sy⟩,rfl,nM,Nat.le_refl _⟩
theorem TP.more {t:aR} {x:fW} {q q':Nat} (h:TP t x q) (hq:q<=q'):TP t x q':=⟨h.sr,h.hv,h.sw,Nat.le_trans h.bd hq⟩
def TK (B:Int) (t:aR):Prop:=(0<=t.slot.key/\t.slot.key<=B)/\(0<=t.aO.k/\t.aO.k<=B)
theorem yn (D:Nat) (hD:D<=400) {t:aR} {x:fW} {q:Nat} {g:aM} {y:qS} (h:TP t x q) (hq:q<=10600) (e1:y.kind=g.kind) (e2:y.bA=g.bA) (e3:y.data=g.data) (hd:g.data.size<=D) :
  ∃ e t' x',fD t g=some (e,t')/\nC x y=some (x',e)/\TP t' x' (q+D)/\(∀ B,TK B t->(∀ n∈g.bA,0<=n/\n<=B)->TK B t'):=by
 obtain ⟨l,hs⟩:=h.sr
 unfold fD gg nC
 rw [e1,e2,e3]
 by_cases k1: ¬ g.kind=1
 ·rw [show (g.kind != 1)=true by simpa using k1,cond_true,cond_true,aA]
  exact ⟨5,t,x,rfl,rfl,h.more (by omega),λ_ h _=>h⟩
 replace k1:=Classical.not_not.1 k1
 rw [show (g.kind != 1)=false by simp [k1],cond_false,cond_false]
 by_cases k2: ¬ g.bA.length=5
 ·rw [show ((g.bA.length:Int) != 5)=true by simp; omega,cond_true,cond_true,aA]
  exact ⟨1,t,x,rfl,rfl,h.more (by omega),λ_ h _=>h⟩
 replace k2:=Classical.not_not.1 k2
 rw [show ((g.bA.length:Int) != 5)=false by simp; omega,cond_false,cond_false]
 obtain ⟨a,b,c,d,n,hg⟩: ∃ a b c d n,g.bA=[a,b,c,d,n]:=by
  match hh:g.bA,k2 with
  | [a,b,c,d,n],_=>exact ⟨a,b,c,d,n,rfl⟩
 rw [hg]
 simp only [show idx [a,b,c,d,n] 0=some a from rfl,show idx [a,b,c,d,n] 1=some b from rfl,show idx [a,b,c,d,n] 2=some c from rfl,show idx [a,b,c,d,n] 3=some d from rfl,show idx [a,b,c,d,n] 4=some n from rfl,aA]
 rw [h.hv,show (eW t.aO).k=t.aO.k from rfl]
 by_cases k3:b<=t.aO.k
 ·rw [decide_eq_true k3,cond_true,cond_true,aA]
  exact ⟨8,t,x,rfl,rfl,h.more (by omega),λ_ h _=>h⟩
 rw [decide_eq_false k3,cond_false,cond_false]
 have hcc:((bif c != 0 then some (c != t.aO.k) else some false):Option Bool)=some (decide (c≠0/\c≠t.aO.k)):=by
  by_cases c1:c=0
  ·subst c1; simp
  ·rw [show (c != 0)=true by simpa using c1,cond_true]
   by_cases c2:c=t.aO.k <;> simp [c1,c2]
 rw [hcc,aA,aA]
 by_cases k4:c≠0/\c≠t.aO.k
 ·rw [decide_eq_true k4,cond_true,cond_true,aA]
  exact ⟨7,t,x,rfl,rfl,h.more (by omega),λ_ h _=>h⟩
 rw [decide_eq_false k4,cond_false,cond_false]
 obtain ⟨e,s',x',l',p1,p2,p3,p4,p5,p6⟩:=Ba hs a d n g.data
 rw [p1,p2]
 simp only [aA]
 have hbd:(t.aO.rows.flatMap eF).length+(dW x'.parts).length<=q+D:=by have:=h.bd; omega
 by_cases k5: ¬ e=0
 ·rw [show (e != 0)=true by simpa using k5,cond_true,cond_true]
  refine ⟨e,⟨s',t.aO⟩,x,rfl,rfl,?_⟩
  -- an error changes nothing
  rw [(p5 k5).1]
  exact ⟨h.more (by omega),λ_ h _=>h⟩
 replace k5:=Classical.not_not.1 k5
 subst k5
 rw [show ((0:Int) != 0)=false from rfl,cond_false,cond_false]
 obtain ⟨w,u,bb,w1,w2,w3⟩:=Bc p3 (by omega)
 rw [w1,w2,aA,aA]
 dsimp only
 cases bb with
 | false =>
  rw [Bool.not_false,cond_true,cond_true,<- h.hv]
  exact ⟨0,⟨s',t.aO⟩,⟨x.aO,x'⟩,rfl,rfl,⟨⟨l',p3⟩,h.hv,h.sw,hbd⟩,λB hB hn=>⟨by
   rcases p6 with e | e
   ·show 0<=s'.key/\s'.key<=B; rw [e]; exact hB.1
   ·show 0<=s'.key/\s'.key<=B; rw [e]; exact hn a (by simp),hB.2⟩⟩
 | true =>
  obtain ⟨w4,w5⟩:=w3 rfl
  subst w4
  rw [Bool.not_true,cond_false,cond_false,show gf s'=some ⟨0,0,none,0⟩ from rfl,aA]
  obtain ⟨f,hf,sf,pf,f1⟩: ∃ f:aK,((bif c != 0 then some t.aO else some (aK.mk 0 0 0 0 0 (ByteArray.mk #[]) ([]:List aP) 0 0 ([]:List aH))):Option aK)=some f/\SW f/\(f.rows.flatMap eF).length<=(t.aO.rows.flatMap eF).length/\((bif c != 0 then some (eW t.aO) else some (bK.mk 0 0 0 0 0 (ByteArray.mk #[]) ([]:List bM) 0 0 ([]:List aU))):Option bK)=some (eW f):=by
   cases c != 0 with
   | true=>exact ⟨t.aO,rfl,h.sw,Nat.le_refl _,rfl⟩
   | false=>exact ⟨gQ,rfl,nM,Nat.zero_le _,rfl⟩
  have hsz:w.size=(dW x'.parts).length:=by rw [w5,bN]
  have hz:=zl (s:=w) (by omega)
  have hap:=xV f w sf (by omega) (by omega) hz
  have har:=wz f w sf (by omega) (by omega) hz
  obtain ⟨q1,q2⟩:=uF f w sf (by omega) (by omega) hz
  rw [hf,aA,hap,aA,f1,aA,har,aA]
  generalize lR f w=z at q1 q2 ⊢
  obtain ⟨z,er⟩:=z
  dsimp only at q1 q2 ⊢
  have he:Option.bind ((bif (er == 0) then some (z.k != b) else some false):Option Bool) (λi=>((bif i then some 1 else some er):Option Int))=some (if er=0/\z.k≠b then 1 else er):=by
   by_cases c1:er=0
   ·subst c1
    rw [show ((0:Int) == 0)=true from rfl,cond_true,aA]
    by_cases c2:z.k=b
    ·simp [c2]
    ·rw [show (z.k != b)=true by simpa using c2,cond_true,if_pos ⟨rfl,c2⟩]
   ·rw [show (er == 0)=false by simpa using c1,cond_false,aA,cond_false,if_neg (λh=>c1 h.1)]
  generalize hE:(if er=0/\z.k≠b then 1 else er)=E at he
  cases hq:((bif (er == 0) then some (z.k != b) else some false):Option Bool) with
  | none=>rw [hq] at he; cases he
  | some v =>
   rw [hq,aA] at he
   rw [aA,aA,he,aA,aA]
   by_cases c1:E=0
   ·subst c1
    rw [show ((0:Int) == 0)=true from rfl,cond_true,aA,show ((0:Int) != 0)=false from rfl,cond_false]
    exact ⟨0,⟨⟨0,0,none,0⟩,z⟩,⟨eW z,⟨0,[],[]⟩⟩,rfl,rfl,⟨⟨[],sy⟩,rfl,q1,by show (z.rows.flatMap eF).length+0<=_; omega⟩,λB hB hn=>⟨⟨Int.le_refl _,by have:=hB.1; show (0:Int)<=B; omega⟩,by
     have hz:z.k=b:=by
      by_cases c2:z.k=b
      ·exact c2
      ·by_cases c3:er=0
       ·rw [if_pos ⟨c3,c2⟩] at hE; cases hE
       ·rw [if_neg (λh=>c3 h.1)] at hE; exact absurd hE c3
     show 0<=z.k/\z.k<=B
     rw [hz]
     exact hn b (by simp)⟩⟩
   ·rw [show (E == 0)=false by simpa using c1,cond_false,aA,show (E != 0)=true by simpa using c1,cond_true,<- h.hv]
    exact ⟨E,⟨⟨0,0,none,0⟩,t.aO⟩,⟨x.aO,⟨0,[],[]⟩⟩,rfl,rfl,⟨⟨[],sy⟩,h.hv,h.sw,by show (t.aO.rows.flatMap eF).length+0<=_; omega⟩,λB hB hn=>⟨⟨Int.le_refl _,by have:=hB.1; show (0:Int)<=B; omega⟩,hB.2⟩⟩
structure GB (g:aM):Prop where
 k:g.kind=1\/g.kind=4
 n:g.bA.length<=5
 r: ∀ x∈g.bA,0<=x/\x<=4611686018427387904
 d:g.data.size<=8000
theorem GB.check {g:aM} (h:GB g) {e:Int} (e1:1<=e) (e2:e<=4294967296):gW ⟨e,g.kind,g.bA,g.data⟩=0:=by
 have hr:il ⟨e,g.kind,g.bA,g.data⟩=true:=by
  unfold il
  simp only [Bool.and_eq_true,decide_eq_true_eq,List.all_eq_true]
  have hk:=h.k
  have hn:=h.n
  exact ⟨⟨e1,e2⟩,by omega,by omega,λx hx=>decide_eq_true (h.r x hx)⟩
 have hs:(et ⟨e,g.kind,g.bA,g.data⟩).size<=8192:=by
  unfold et
  rw [mF,bN]
  have h1:=ly [e,g.kind,(g.bA.length:Int)]
  have h2:=ly g.bA
  have h3:=bW (g.data.size:Int)
  have hn:=h.n
  have hd:=h.d
  unfold lx
  simp only [List.length_append,aQ]
  simp only [List.length_cons,List.length_nil] at h1
  omega
 unfold gW
 rw [hr,if_neg (by simp),if_neg (by omega)]
theorem yo {s:ByteArray} (h:(jw s).2=0):il (jw s).1=true/\s.size<=8192/\4<=s.size/\(jw s).1=qgR s:=by
 unfold jw at h ⊢
 split at h
 ·cases h
 ·rename_i h1
  rw [if_neg h1]
  split at h
  ·cases h
  ·rename_i h2
   rw [if_neg h2]
   have h4:4<=s.size:=by
    cases ho:nS s with
    | false=>exact absurd ho h2
    | true=>unfold nS at ho; exact (of_decide_eq_true ho).1
   split at h
   ·rename_i h3
    exact absurd h h3
   ·rename_i h3
    rw [if_neg h3]
    split at h
    ·rename_i h5
     exact absurd h h5
    ·rename_i h5
     rw [if_neg h5]
     exact ⟨(nW (Classical.not_not.1 h5)).1,by omega,h4,rfl⟩
theorem wE {g:aM} (h:il g=true):(1<=g.bY/\g.bY<=4294967296)/\(1<=g.kind/\g.kind<=4)/\g.bA.length<=64 /\ ∀ n∈g.bA,0<=n/\n<=4611686018427387904:=by
 unfold il at h
 simp only [Bool.and_eq_true,decide_eq_true_eq,List.all_eq_true] at h
 exact ⟨h.1,h.2.1,h.2.2.1,λn hn=>of_decide_eq_true (h.2.2.2 n hn)⟩
theorem BF {i:aE} (h:VI i) (hp:0 < i.s.size):(bkS i).2.s.size < i.s.size:=by
 by_cases he:(bkS i).2.e=0
 ·obtain ⟨-,hw⟩:=qZ h he
  have h1:=congrArg List.length hw
  rw [List.length_append,aQ,aQ] at h1
  have h2:(jM (bkS i).1).length≠0:=λc=>by
   have:=List.eq_nil_of_length_eq_zero c
   unfold jM at this
   exact vk _ (List.append_eq_nil_iff.1 this).1
  omega
 ·rcases (oF h).2 with h1 | h1
  ·exact absurd h1 he
  ·rw [h1]; exact hp
theorem vI: ∀ (k:Nat) (i:aE) (l:List aH),(bkL k i l).1.length=l.length+k
 | 0,i,l=>rfl
 | k+1,i,l=>by
  unfold bkL
  rw [vI k,List.length_append]
  show l.length+1+k=_
  omega
theorem Be {i:aE} (h:VI i):(bkS i).1.length<=1024:=by
 have hr:=fq (m:=1024) h (by omega)
 unfold bkS
 split
 ·rw [vI]
  show 0+_<=_
  omega
 ·exact Nat.zero_le _
theorem yp (g:aM) (hd:g.data.size<=10000) (hn: ∀ n∈g.bA,0<=n/\n<=4611686018427387904): ∃ first l e,gD g=some (first,l,e)/\(0<=first/\first<=4611686018427387904)/\l.length<=10000 /\ ∀ x∈l,x.length<=1024:=by
 unfold gD
 by_cases k1:g.kind=4
 ·rw [show (g.kind != 4)=false by simp [k1],cond_false]
  by_cases k2:g.bA.length=2
  ·rw [show ((g.bA.length:Int) != 2)=false by rw [k2]; rfl,cond_false,show iX g.data=some ⟨g.data,0⟩ from rfl,aA]
   have i0:idx g.bA 0=some g.bA[0]:=bQ g.bA 0 (by omega)
   have i1:idx g.bA 1=some g.bA[1]:=bQ g.bA 1 (by omega)
   have r0:=hn _ (List.getElem_mem (show 0 < g.bA.length by omega))
   have hst: ∀ s:aE×List (List aH),(VI s.1/\s.2.length+s.1.s.size<=10000 /\ ∀ x∈s.2,x.length<=1024)->(∃ s',(λs136:aE×List (List aH)=>((Option.bind ((Option.bind (gT s136.1) λf=>(bif (decide (f > 0)) then (Option.bind (idx g.bA 1) λj=>some (decide ((s136.2.length:Int) < j))) else some false)):Option Bool) λm=>(bif m then (Option.bind (fK s136.1) λa=>(Option.bind (chk (dK s136.2.length [a.1].length 24)) λ_=>some (.inl (a.2,(s136.2++[a.1]))))) else some (.inr (s136.2,s136.1)))):Option ((aE×List (List aH)) ⊕ ((List (List aH))×aE)))) s=some (.inl s')/\(VI s'.1/\s'.2.length+s'.1.s.size<=10000 /\ ∀ x∈s'.2,x.length<=1024)/\s'.1.s.size < s.1.s.size)\/(∃ r,(λs136:aE×List (List aH)=>((Option.bind ((Option.bind (gT s136.1) λf=>(bif (decide (f > 0)) then (Option.bind (idx g.bA 1) λj=>some (decide ((s136.2.length:Int) < j))) else some false)):Option Bool) λm=>(bif m then (Option.bind (fK s136.1) λa=>(Option.bind (chk (dK s136.2.length [a.1].length 24)) λ_=>some (.inl (a.2,(s136.2++[a.1]))))) else some (.inr (s136.2,s136.1)))):Option ((aE×List (List aH)) ⊕ ((List (List aH))×aE)))) s=some (.inr r)/\(r.1.length<=10000 /\ ∀ x∈r.1,x.length<=1024)):=by
    rintro ⟨i,l⟩ ⟨h1,h2,h3⟩
    dsimp only at h1 h2 h3 ⊢
    rw [show gT i=some (i.s.size:Int) from rfl,aA,i1,aA]
    by_cases c:(i.s.size:Int) > 0/\(l.length:Int) < g.bA[1]
    ·left
     have hlt:=BF h1 (by omega)
     rw [decide_eq_true c.1,cond_true,decide_eq_true c.2,aA,cond_true,tj i h1,aA,bO (by simp; omega),aA]
     refine ⟨_,rfl,⟨oF h1,by simp; omega,λx hx=> ?_⟩,hlt⟩
     rcases List.mem_append.1 hx with hx | hx
     ·exact h3 x hx
     ·rw [List.mem_singleton.1 hx]; exact Be h1
    ·right
     have:((bif (decide ((i.s.size:Int) > 0)) then some (decide ((l.length:Int) < g.bA[1])) else some false):Option Bool)=some false:=by
      by_cases d:(i.s.size:Int) > 0
      ·rw [decide_eq_true d,cond_true,decide_eq_false (λe=>c ⟨d,e⟩)]
      ·rw [decide_eq_false d,cond_false]
     rw [this,aA,cond_false]
     exact ⟨_,rfl,by dsimp only; omega,h3⟩
   obtain ⟨⟨l,i⟩,e1,e2,e3⟩:=ij (σ:=aE×List (List aH)) (λs=>VI s.1/\s.2.length+s.1.s.size<=10000 /\ ∀ x∈s.2,x.length<=1024) (λs=>s.1.s.size) _ hst (⟨g.data,0⟩,[]) ⟨⟨by dsimp only; omega,.inl rfl⟩,by dsimp only; simp; omega,λx hx=>by cases hx⟩
   refine Exists.imp (λfirst=>Exists.imp λl'=>Exists.imp λe' (h:_/\_)=>⟨(congrArg (λz=>Option.bind z _) e1).trans h.1,h.2⟩) (?_: ∃ first l' e',_/\_)
   rw [aA,rL,aA]
   dsimp only at e2 e3 ⊢
   generalize ju i=E
   rw [i1,aA]
   generalize ((l.length:Int) != g.bA[1])=b
   rw [show ((bif (E == 0) then some b else some false):Option Bool)=some ((E == 0) && b) by cases (E == 0) <;> rfl,aA]
   generalize ((E == 0) && b)=b2
   rw [show ((bif b2 then some 1 else some E):Option Int)=some (bif b2 then 1 else E) by cases b2 <;> rfl,aA]
   generalize (bif b2 then 1 else E)=E2
   by_cases d:E2=0
   ·rw [show (E2 != 0)=false by simp [d],cond_false,i0,aA]
    exact ⟨_,_,_,rfl,r0,e2,e3⟩
   ·rw [show (E2 != 0)=true by simpa using d,cond_true]
    exact ⟨_,_,_,rfl,by decide,Nat.zero_le _,λx hx=>by cases hx⟩
  ·rw [show ((g.bA.length:Int) != 2)=true by simp; omega,cond_true]
   exact ⟨_,_,_,rfl,by decide,Nat.zero_le _,λx hx=>by cases hx⟩
 ·rw [show (g.kind != 4)=true by simpa using k1,cond_true]
  exact ⟨_,_,_,rfl,by decide,Nat.zero_le _,λx hx=>by cases hx⟩
structure KI (k N:Int) (q:Nat) (c:aD):Prop where
 cc:c.config.cache=k
 ep:0<=c.bY/\c.bY<=4294967296
 ln:CS k N c.lines
 ft:FS k c.bF
 tp: ∃ x,TP c.aL x q
 tk:TK 4611686018427387904 c.aL
theorem wF {a:Int}:1<=imax 1 (cA a 65536)/\imax 1 (cA a 65536)<=65536/\imax 1 (cA (imax 1 (cA a 65536)) 65536)=imax 1 (cA a 65536):=by
 unfold imax cA
 (repeat' split) <;> omega
theorem yq:TK 4611686018427387904 ⟨⟨0,0,none,0⟩,gQ⟩:=by
 refine ⟨?_,?_⟩
 ·show (0:Int)<=0/\(0:Int)<=_; omega
 ·show (0:Int)<=0/\(0:Int)<=_; omega
theorem Bf (a b d:Int): ∃ c,gG ⟨a,b,d⟩=some c/\KI (imax 1 (cA a 65536)) 0 0 c:=by
 have hk:=wF (a:=a)
 obtain ⟨l,l1,l2⟩:=zv (imax 1 (cA a 65536))
 obtain ⟨f,f1,f2⟩:=zd (most:=imax 1 (cA a 65536)) (every:=imax 1 (cA b 1048576))
 rw [hk.2.2] at l2 f2
 unfold gG
 rw [show cW a 1 65536=some (imax 1 (cA a 65536)) from rfl,aA,show cW b 1 1048576=some (imax 1 (cA b 1048576)) from rfl,aA,show cW d 0 4294967296=some (imax 0 (cA d 4294967296)) from rfl,aA,show jH=some ⟨⟨0,0,none,0⟩,gQ⟩ from rfl,aA,l1,aA,f1,aA]
 refine ⟨_,rfl,rfl,⟨Int.le_refl _,?_⟩,l2,f2,⟨_,ym⟩,yq⟩
 show (0:Int)<=_
 omega
theorem zy {k N:Int} {q:Nat} {c:aD} (h:KI k N q c) (hk:0<=k) {e:Int} (he:0<=e/\e<=4294967296): ∃ c',dL c e=some c'/\KI k N q c'/\c'.bY=e:=by
 obtain ⟨l,l1,l2⟩:=wD hk h.ln
 obtain ⟨f,f1,f2⟩:=wC hk h.ft
 unfold dL
 rw [show gi c.aL=some ⟨⟨0,0,none,0⟩,gQ⟩ from rfl,aA,l1,aA,f1,aA]
 exact ⟨_,rfl,⟨h.cc,he,l2,f2,⟨_,ym.more (Nat.zero_le _)⟩,yq⟩,rfl⟩
theorem zI {k N:Int} {q:Nat} {c:aD} (h:KI k N q c) (hk:k<=65536) (hN:0<=N/\N<=900000000) {g:aM} (hd:g.data.size<=10000) (hn: ∀ n∈g.bA,0<=n/\n<=4611686018427387904): ∃ e c',ey c g=some (e,c')/\KI k (N+10000) q c'/\c'.bY=c.bY:=by
 obtain ⟨first,l,e,r1,r2,r3,r4⟩:=yp g hd hn
 unfold ey
 rw [r1,aA]
 dsimp only
 have hst: ∀ s:aJ×aS×Int,(∃ n:Nat,s.2.2=n/\n<=l.length/\CS k (N+n) s.1/\FS k s.2.1)->(∃ s',(λs165:aJ×aS×Int=>((bif (decide (s165.2.2 < (l.length:Int))) then (Option.bind ((Option.bind (idx l s165.2.2) λo=>(Option.bind (eL s165.2.1 (IntKind.i64.wrap (first+s165.2.2))) λj=>(bif j.1 then (Option.bind (eJ s165.1 (IntKind.i64.wrap (first+s165.2.2)) o) λp=>some (p.2.2,j.2)) else some (s165.1,j.2)))):Option (aJ×aS)) λm=>some (.inl (m.1,m.2,(IntKind.i64.wrap (s165.2.2+1))))) else some (.inr (s165.1,s165.2.1))):Option ((aJ×aS×Int) ⊕ (aJ×aS)))) s=some (.inl s')/\(∃ n:Nat,s'.2.2=n/\n<=l.length/\CS k (N+n) s'.1/\FS k s'.2.1)/\l.length - s'.2.2.toNat < l.length - s.2.2.toNat)\/(∃ r,(λs165:aJ×aS×Int=>((bif (decide (s165.2.2 < (l.length:Int))) then (Option.bind ((Option.bind (idx l s165.2.2) λo=>(Option.bind (eL s165.2.1 (IntKind.i64.wrap (first+s165.2.2))) λj=>(bif j.1 then (Option.bind (eJ s165.1 (IntKind.i64.wrap (first+s165.2.2)) o) λp=>some (p.2.2,j.2)) else some (s165.1,j.2)))):Option (aJ×aS)) λm=>some (.inl (m.1,m.2,(IntKind.i64.wrap (s165.2.2+1))))) else some (.inr (s165.1,s165.2.1))):Option ((aJ×aS×Int) ⊕ (aJ×aS)))) s=some (.inr r)/\(CS k (N+10000) r.1/\FS k r.2)):=by
  rintro ⟨a,f,i⟩ ⟨n,h1,h2,h3,h4⟩
  dsimp only at h1 h3 h4 ⊢
  subst h1
  by_cases d:n < l.length
  ·left
   obtain ⟨b,f',g1,g2,g3⟩:=zf (by omega) h4 (i:=first+n) (by omega) (by omega)
   rw [decide_eq_true (by omega),cond_true,bQ l n d,aA,w64 (x:=first+(n:Int)) (by omega) (by omega),g1,aA]
   dsimp only
   cases b with
   | true =>
    obtain ⟨v,w,a',p1,p2⟩:=zw h3 (by omega) (by omega) (g3 rfl) (l:=l[n]) (by have:=r4 _ (List.getElem_mem d); omega)
    rw [cond_true,p1,aA,aA,w64 (by omega) (by omega)]
    exact ⟨_,rfl,⟨n+1,rfl,d,p2.more (by omega),g2⟩,by dsimp only; omega⟩
   | false =>
    rw [cond_false,aA,w64 (by omega) (by omega)]
    exact ⟨_,rfl,⟨n+1,rfl,d,h3.more (by omega),g2⟩,by dsimp only; omega⟩
  ·right
   rw [decide_eq_false (by omega),cond_false]
   exact ⟨_,rfl,h3.more (by omega),h4⟩
 obtain ⟨⟨a,f⟩,e1,e2,e3⟩:=ij (σ:=aJ×aS×Int) (λs=> ∃ n:Nat,s.2.2=n/\n<=l.length/\CS k (N+n) s.1/\FS k s.2.1) (λs=>l.length - s.2.2.toNat) _ hst (c.lines,c.bF,0) ⟨0,rfl,Nat.zero_le _,h.ln.more (by omega),h.ft⟩
 refine ⟨e,_,(congrArg (λz=>Option.bind z _) e1).trans rfl,⟨h.cc,h.ep,e2,e3,h.tp,h.tk⟩,rfl⟩
theorem KI.more {k N M:Int} {q r:Nat} {c:aD} (h:KI k N q c) (hm:N<=M) (hr:q<=r):KI k M r c:=⟨h.cc,h.ep,h.ln.more hm,h.ft,(by obtain ⟨x,hx⟩:=h.tp; exact ⟨x,hx.more hr⟩),h.tk⟩
theorem qgD {s:ByteArray} (h:s.size<=8192) (h4:4<=s.size):(qgR s).data.size<=s.size:=by
 have z0:SZ s.size (⟨jN s,0⟩:aE):=⟨⟨by show (jN s).size<=1000000; rw [kv h4]; omega,.inl rfl⟩,by show (jN s).size<=_; rw [kv h4]; omega⟩
 have z3:SZ s.size (qgC s).2:=jc (jc (jc z0))
 have z4:SZ s.size (qgI s):=by
  unfold qgI
  split
  ·exact ⟨kq,Nat.zero_le _⟩
  ·exact z3
 have z5:SZ s.size (qgN s).2:=uB _ [] z4
 exact (p8 z5.1 z5.2).1
theorem zJ {k N:Int} {q:Nat} {c:aD} (h:KI k N q c) (hk:0<=k/\k<=65536) (hN:0<=N/\N<=900000000) (hq:q<=10600) (now:Int) {s:ByteArray} (hs:s.size<=400): ∃ e c',cM c now s=some (e,c')/\KI k (N+10000) (q+400) c':=by
 unfold cM
 rw [mH (by omega),aA]
 by_cases p0:(jw s).2=0
 ·obtain ⟨r1,r2,r3,r4⟩:=yo p0
  obtain ⟨q1,q2,q3,q4⟩:=wE r1
  have hdat:(jw s).1.data.size<=400:=by rw [r4]; exact Nat.le_trans (qgD r2 r3) hs
  rw [show ((jw s).2 != 0)=false by simp [p0],cond_false]
  generalize (jw s).1=g at q1 q2 q3 q4 hdat ⊢
  by_cases c1:g.kind=1\/g.kind=4
  ·have hb:((bif (g.kind != 1) then some (g.kind != 4) else some false):Option Bool)=some false:=by
    rcases c1 with c1 | c1 <;> rw [c1] <;> rfl
   rw [hb,aA,cond_false]
   by_cases c2:g.bY < c.bY
   ·rw [decide_eq_true c2,cond_true]
    exact ⟨_,_,rfl,h.more (by omega) (by omega)⟩
   ·rw [decide_eq_false c2,cond_false]
    obtain ⟨d,d1,d2⟩: ∃ d,((bif (decide (g.bY > c.bY)) then (Option.bind (dL c g.bY) λa=>some (.inl a)) else some (.inl c)):Option (aD ⊕ (Int×aD)))=some (.inl d)/\KI k N q d:=by
     by_cases c3:g.bY > c.bY
     ·obtain ⟨d,e1,e2,_⟩:=zy h hk.1 (e:=g.bY) (by omega)
      rw [decide_eq_true c3,cond_true,e1,aA]
      exact ⟨d,rfl,e2⟩
     ·rw [decide_eq_false c3,cond_false]
      exact ⟨c,rfl,h⟩
    rw [d1,aA]
    dsimp only
    by_cases c4:g.kind=4
    ·obtain ⟨e,d',e1,e2,_⟩:=zI d2 hk.2 hN (g:=g) (by omega) q4
     rw [show (g.kind == 4)=true by simpa using c4,cond_true,e1,aA]
     exact ⟨_,_,rfl,e2.more (Int.le_refl _) (by omega)⟩
    ·obtain ⟨x,hx⟩:=d2.tp
     obtain ⟨e,t',x',e1,_,e3,e4⟩:=yn 400 (by decide) (g:=g) (y:=⟨g.bY,g.kind,g.bA,g.data⟩) hx hq rfl rfl rfl hdat
     rw [show (g.kind == 4)=false by simpa using c4,cond_false,e1,aA]
     exact ⟨_,_,rfl,⟨d2.cc,d2.ep,d2.ln.more (by omega),d2.ft,⟨x',e3⟩,e4 _ d2.tk q4⟩⟩
  ·have hb:((bif (g.kind != 1) then some (g.kind != 4) else some false):Option Bool)=some true:=by
    rw [show (g.kind != 1)=true by simp; omega,cond_true,show (g.kind != 4)=true by simp; omega]
   rw [hb,aA,cond_true]
   exact ⟨_,_,rfl,h.more (by omega) (by omega)⟩
 ·rw [show ((jw s).2 != 0)=true by simpa using p0,cond_true]
  exact ⟨_,_,rfl,h.more (by omega) (by omega)⟩
def qn (y:aB):Prop:=0<=y.from_/\y.from_ < y.to/\y.to<=1152921504606846976
theorem sD: ∀ (l:List aB) {x:aB},qn x->(∀ y∈l,qn y) -> ∀ y∈gw l x,qn y
 | [],x,h,_,y,hy=>by rw [List.mem_singleton.1 hy]; exact h
 | z::l,x,h,hl,y,hy=>by
  have hz:=hl z List.mem_cons_self
  have hl': ∀ y∈l,qn y:=λw hw=>hl w (List.mem_cons_of_mem _ hw)
  rw [gw] at hy
  split at hy
  ·rcases List.mem_cons.1 hy with rfl | hy
   ·exact hz
   ·exact sD l h hl' y hy
  ·split at hy
   ·rcases List.mem_cons.1 hy with rfl | hy
    ·exact h
    ·exact hl y hy
   ·have e1:=je x.from_ z.from_
    have e2:=iP x.to z.to
    obtain ⟨a,b,c⟩:=h
    obtain ⟨a',b',c'⟩:=hz
    exact sD l (x:=⟨cA x.from_ z.from_,imax x.to z.to⟩) ⟨by dsimp only; omega,by dsimp only; omega,by dsimp only; omega⟩ hl' y hy
theorem vJ: ∀ (l s:List aB),(∀ y∈l,qn y)->(∀ y∈s,qn y)->(∀ y∈hG s l,qn y)/\dB (hG s l)<=dB s+dB l
 | [],s,_,hs=>⟨hs,by show dB s<=dB s+0; omega⟩
 | x::l,s,hl,hs=>by
  have hx:=hl x List.mem_cons_self
  have e:hG s (x::l)=hG (gw s x) l:=by
   show hG (if x.to<=x.from_ then s else gw s x) l=_
   rw [if_neg (by have:=hx.2.1; omega)]
  obtain ⟨h1,h2⟩:=vJ l (gw s x) (λy hy=>hl y (List.mem_cons_of_mem _ hy)) (sD s hx hs)
  have h3:=(rZ s (x:=x) (by have:=hx.2.1; omega) (λy hy=>by have:=(hs y hy).2.1; omega)).1
  rw [e]
  refine ⟨h1,?_⟩
  show _<=dB s+(x.to - x.from_+dB l)
  omega
theorem mI: ∀ l:List aB,(∀ y∈l,qn y)->0<=dB l
 | [],_=>Int.le_refl _
 | x::l,h=>by
  have:=mI l λy hy=>h y (List.mem_cons_of_mem _ hy)
  have:=(h x List.mem_cons_self).2.1
  show 0<=x.to - x.from_+dB l
  omega
theorem zL {k N:Int} {a:aJ} (h:CS k N a) (hk:k<=65536) (hN:N<=900000000) (x:aB) (hx:qn x) (hd:x.to - x.from_<=100000): ∃ a',iter (σ:=aJ×Int) (ρ:=aJ) (λd=>(bif (decide (d.2 < x.to)) then (Option.bind (dU d.1 d.2) λe=>some (.inl (e.2.2,(IntKind.i64.wrap (d.2+1))))) else some (.inr d.1))) (a,x.from_)=some a'/\CS k (N+(x.to - x.from_)) a':=by
 obtain ⟨x1,x2,x3⟩:=hx
 refine ij (σ:=aJ×Int) (λs=>x.from_<=s.2/\s.2<=x.to/\CS k (N+(s.2 - x.from_)) s.1) (λs=>(x.to - s.2).toNat) (λr=>CS k (N+(x.to - x.from_)) r) ?_ (a,x.from_) ⟨Int.le_refl _,by dsimp only; omega,h.more (by dsimp only; omega)⟩
 rintro ⟨b,i⟩ ⟨h1,h2,h3⟩
 dsimp only at h1 h2 h3 ⊢
 by_cases c:i < x.to
 ·left
  obtain ⟨u,v,b',g1,g2⟩:=zx h3 (by omega) (by omega) i
  rw [decide_eq_true c,cond_true,g1,aA,w64 (by omega) (by omega)]
  exact ⟨_,rfl,⟨by dsimp only; omega,by dsimp only; omega,g2.more (by dsimp only; omega)⟩,by dsimp only; omega⟩
 ·right
  rw [decide_eq_false c,cond_false]
  exact ⟨_,rfl,h3.more (by omega)⟩
theorem zM {k N:Int} {q:Nat} {c:aD} (h:KI k N q c) (hk:1<=k/\k<=65536) (hN:0<=N/\N<=800000000) (from_ to:Int): ∃ n c',cN c from_ to=some (n,c')/\KI k (N+100000) q c':=by
 unfold cN
 obtain ⟨L,l1,l2⟩:=rr h.ln (by omega)
 have hc:=l2.cnt
 have hb: ∀ y∈L,qn y:=l2.b
 obtain ⟨m1,m2⟩:=vJ L [] hb (λy hy=>by cases hy)
 have hml:=oH L []
 have hW:WS k (hG [] L):=⟨m1,by have:=l2.l; have:dB ([]:List aB)=0:=rfl; omega⟩
 rw [show cW from_ 0 1152921504606846976=some (imax 0 (cA from_ 1152921504606846976)) from rfl,aA,show cW to 0 1152921504606846976=some (imax 0 (cA to 1152921504606846976)) from rfl,aA,l1,aA,nX [] L (by simp; omega) (λx hx=>by have:=hb x hx; obtain ⟨a,b,d⟩:=this; refine ⟨?_,?_,?_,?_⟩ <;> omega),aA,sn _ _ (by simp at hml; omega),aA]
 obtain ⟨i1,i2⟩:=yc (x:=iA ⟨imax 0 (cA from_ 1152921504606846976),cA (imax 0 (cA to 1152921504606846976)) (IntKind.i64.wrap (imax 0 (cA from_ 1152921504606846976)+c.config.cache))⟩) hW
 have hil:=sj (hG [] L) (iA ⟨imax 0 (cA from_ 1152921504606846976),cA (imax 0 (cA to 1152921504606846976)) (IntKind.i64.wrap (imax 0 (cA from_ 1152921504606846976)+c.config.cache))⟩)
 generalize inL (hG [] L) (iA ⟨imax 0 (cA from_ 1152921504606846976),cA (imax 0 (cA to 1152921504606846976)) (IntKind.i64.wrap (imax 0 (cA from_ 1152921504606846976)+c.config.cache))⟩)=R at i1 i2 hil ⊢
 have hR: ∀ y∈R,qn y:=λy hy=>(i1 y hy).1
 have hRl:dB R<=k:=by have:=hW.l; omega
 have hRn:R.length<=100000:=by simp at hml; omega
 have hst: ∀ s:aJ×Int,(∃ n:Nat,s.2=n/\n<=R.length/\CS k (N+dB (R.take n)) s.1)->(∃ s',(λs397:aJ×Int=>((bif (decide (s397.2 < (R.length:Int))) then (Option.bind (idx R s397.2) λm=>(Option.bind (iter (σ:=aJ×Int) (ρ:=aJ) (λj=>(bif (decide (j.2 < m.to)) then (Option.bind (dU j.1 j.2) λo=>some (.inl (o.2.2,(IntKind.i64.wrap (j.2+1))))) else some (.inr j.1))) (s397.1,m.from_)) λp=>some (.inl (p,(IntKind.i64.wrap (s397.2+1)))))) else some (.inr s397.1)):Option ((aJ×Int) ⊕ aJ))) s=some (.inl s')/\(∃ n:Nat,s'.2=n/\n<=R.length/\CS k (N+dB (R.take n)) s'.1)/\R.length - s'.2.toNat < R.length - s.2.toNat)\/(∃ r,(λs397:aJ×Int=>((bif (decide (s397.2 < (R.length:Int))) then (Option.bind (idx R s397.2) λm=>(Option.bind (iter (σ:=aJ×Int) (ρ:=aJ) (λj=>(bif (decide (j.2 < m.to)) then (Option.bind (dU j.1 j.2) λo=>some (.inl (o.2.2,(IntKind.i64.wrap (j.2+1))))) else some (.inr j.1))) (s397.1,m.from_)) λp=>some (.inl (p,(IntKind.i64.wrap (s397.2+1)))))) else some (.inr s397.1)):Option ((aJ×Int) ⊕ aJ))) s=some (.inr r)/\CS k (N+100000) r):=by
  rintro ⟨a,i⟩ ⟨n,h1,h2,h3⟩
  dsimp only at h1 h3 ⊢
  subst h1
  have e:=iq (R.take n) (R.drop n)
  rw [List.take_append_drop] at e
  have p1:=mI (R.take n) λy hy=>hR y (List.mem_of_mem_take hy)
  have p2:=mI (R.drop n) λy hy=>hR y (List.mem_of_mem_drop hy)
  by_cases d:n < R.length
  ·left
   have ht:dB (R.take (n+1))=dB (R.take n)+(R[n].to - R[n].from_):=by
    rw [List.take_succ_eq_append_getElem d,iq]
    show _+(R[n].to - R[n].from_+0)=_
    omega
   have e':=iq (R.take (n+1)) (R.drop (n+1))
   rw [List.take_append_drop] at e'
   have p3:=mI (R.drop (n+1)) λy hy=>hR y (List.mem_of_mem_drop hy)
   obtain ⟨a',g1,g2⟩:=zL h3 hk.2 (by omega) R[n] (hR _ (List.getElem_mem d)) (by omega)
   rw [decide_eq_true (by omega),cond_true,bQ R n d,aA,g1,aA,w64 (by omega) (by omega)]
   exact ⟨_,rfl,⟨n+1,rfl,d,g2.more (by rw [ht]; omega)⟩,by dsimp only; omega⟩
  ·right
   rw [decide_eq_false (by omega),cond_false]
   exact ⟨_,rfl,h3.more (by omega)⟩
 obtain ⟨a,e1,e2⟩:=ij (σ:=aJ×Int) (λs=> ∃ n:Nat,s.2=n/\n<=R.length/\CS k (N+dB (R.take n)) s.1) (λs=>R.length - s.2.toNat) _ hst (c.lines,0) ⟨0,rfl,Nat.zero_le _,h.ln.more (by show N<=N+0; omega)⟩
 obtain ⟨n,f,w1,w2⟩:=ye hk.1 (by omega) h.ft ⟨imax 0 (cA from_ 1152921504606846976),cA (imax 0 (cA to 1152921504606846976)) (IntKind.i64.wrap (imax 0 (cA from_ 1152921504606846976)+c.config.cache))⟩ (l:=L) (by omega) (λy hy=>by have:=hb y hy; obtain ⟨a,b,d⟩:=this; omega)
 refine ⟨n,⟨c.config,c.bY,c.due,c.aL,a,f⟩,(congrArg (λz=>Option.bind z _) e1).trans ?_,⟨h.cc,h.ep,e2,w2,h.tp,h.tk⟩⟩
 rw [aA,w1]
 rfl
structure CG (g:aM):Prop where
 k:g.kind=2\/(g.kind=3/\0 < g.bA.length/\g.bA.length % 2=0)
 n:g.bA.length<=16
 r: ∀ x∈g.bA,0<=x/\x<=4611686018427387904
 d:g.data.size<=600
theorem CG.check {g:aM} (h:CG g) {e:Int} (e1:1<=e) (e2:e<=4294967296):gW ⟨e,g.kind,g.bA,g.data⟩=0:=by
 have hn:=h.n
 have hd:=h.d
 have hr:il ⟨e,g.kind,g.bA,g.data⟩=true:=by
  unfold il
  simp only [Bool.and_eq_true,decide_eq_true_eq,List.all_eq_true]
  have hk:=h.k
  exact ⟨⟨e1,e2⟩,by omega,by omega,λx hx=>decide_eq_true (h.r x hx)⟩
 have hs:(et ⟨e,g.kind,g.bA,g.data⟩).size<=8192:=by
  unfold et
  rw [mF,bN]
  have:=tx (g:=⟨e,g.kind,g.bA,g.data⟩) (by dsimp only; omega)
  dsimp only at this ⊢
  omega
 unfold gW
 rw [hr,if_neg (by simp),if_neg (by omega)]
def CB (e:Int) (t:ByteArray):Prop:= ∃ g,CG g/\g.bY=e/\fb t=some (g,0)
theorem yr (e:Int) (he:0<=e/\e<=4294967296) (l:List aM) (hl:l.length<=1000) (h: ∀ g∈l,CG g): ∃ L,iter (σ:=Int×(List ByteArray)) (ρ:=(List ByteArray)) (λa=>(bif (decide (a.1 < (l.length:Int))) then (Option.bind (idx l a.1) λb=>(Option.bind (dD (aM.mk (imax 1 e) b.kind b.bA b.data)) λc=>(Option.bind (chk (dK a.2.length [c].length 16)) λ_=>some (.inl ((IntKind.i64.wrap (a.1+1)),(a.2++[c])))))) else some (.inr a.2))) (0,[])=some L/\L.length<=l.length /\ ∀ t∈L,CB (imax 1 e) t:=by
 have hE:=iP 1 e
 refine ij (σ:=Int×List ByteArray) (λs=> ∃ n:Nat,s.1=n/\n<=l.length/\s.2.length=n /\ ∀ t∈s.2,CB (imax 1 e) t) (λs=>l.length - s.1.toNat) (λr:List ByteArray=>r.length<=l.length /\ ∀ t∈r,CB (imax 1 e) t) ?_ (0,[]) ⟨0,rfl,Nat.zero_le _,rfl,λt ht=>by cases ht⟩
 rintro ⟨i,L⟩ ⟨n,h1,h2,h3,h4⟩
 dsimp only at h1 h3 h4 ⊢
 subst h1
 by_cases d:n < l.length
 ·left
  have hg:=h _ (List.getElem_mem d)
  have hn:=hg.n
  have hd:=hg.d
  have hc:=hg.check (e:=imax 1 e) (by omega) (by omega)
  rw [decide_eq_true (by omega),cond_true,bQ l n d,aA,qk (by dsimp only; omega) (by dsimp only; omega),aA,bO (by simp; omega),aA,w64 (by omega) (by omega)]
  refine ⟨_,rfl,⟨n+1,rfl,d,by simp [h3],λt ht=> ?_⟩,by dsimp only; omega⟩
  rcases List.mem_append.1 ht with ht | ht
  ·exact h4 t ht
  ·rw [List.mem_singleton.1 ht]
   refine ⟨⟨imax 1 e,l[n].kind,l[n].bA,l[n].data⟩,⟨hg.k,hg.n,hg.r,hg.d⟩,rfl,?_⟩
   have hp:rh ⟨imax 1 e,l[n].kind,l[n].bA,l[n].data⟩=et ⟨imax 1 e,l[n].kind,l[n].bA,l[n].data⟩:=by unfold rh; rw [if_pos hc]
   rw [hp,mH (by have:=(nW hc).2; omega),mj hc]
 ·right
  rw [decide_eq_false (by omega),cond_false]
  exact ⟨_,rfl,by omega,h4⟩
theorem Bg {c:aR} {x:fW} {q:Nat} (h:TP c x q) (hk:TK 4611686018427387904 c): ∃ g,cV c=some g/\CG g:=by
 obtain ⟨l,hs⟩:=h.sr
 refine ⟨_,yk hs,.inl rfl,by show 2<=16; omega,λn hn=> ?_,?_⟩
 ·rcases List.mem_cons.1 hn with rfl | hn
  ·exact hk.2
  ·rw [List.mem_singleton.1 hn]; exact hk.1
 ·show (cZ (ss l x.slot.parts.length)).size<=600
  have:=(zt l x.slot.parts.length).2.1
  have:=hs.le
  rw [bN]
  omega
theorem zO {k N:Int} {q:Nat} {c:aD} (h:KI k N q c) (hk:k<=65536) (now:Int): ∃ L c',cL c now=some (L,c')/\KI k N q c'/\c'.bY=c.bY/\L.length<=2 /\ ∀ t∈L,CB (imax 1 c.bY) t:=by
 obtain ⟨x,hx⟩:=h.tp
 obtain ⟨a,a1,a2⟩:=Bg hx h.tk
 obtain ⟨G,d,e1,g1,g2,d1,d2,d3,d4,d5,d6⟩: ∃ G d,((bif (decide (now>=c.due)) then (Option.bind (cV (aR.mk c.aL.slot c.aL.aO)) λj=>(Option.bind (chk (dK ([]:List aM).length [j].length 56)) λ_=>some ((([]:List aM)++[j]),(aD.mk c.config c.bY (IntKind.i64.wrap (now+c.config.every)) (aR.mk c.aL.slot c.aL.aO) c.lines c.bF)))) else some ([],(aD.mk c.config c.bY c.due (aR.mk c.aL.slot c.aL.aO) c.lines c.bF))):Option ((List aM)×aD))=some (G,d)/\G.length<=1/\(∀ g∈G,CG g)/\d.config=c.config/\d.bY=c.bY/\d.aL=c.aL/\d.lines=c.lines/\d.bF=c.bF/\True:=by
  by_cases b:now>=c.due
  ·rw [decide_eq_true b,cond_true,show aR.mk c.aL.slot c.aL.aO=c.aL from rfl,a1,aA,bO (by simp),aA]
   exact ⟨_,_,rfl,Nat.le_refl _,λg hg=>(by rw [List.mem_singleton.1 hg]; exact a2),rfl,rfl,rfl,rfl,rfl,trivial⟩
  ·rw [decide_eq_false b,cond_false]
   exact ⟨_,_,rfl,Nat.zero_le _,λg hg=>(by cases hg),rfl,rfl,rfl,rfl,rfl,trivial⟩
 obtain ⟨R,f,r1,r2,r3,r4⟩:=zg (by omega) h.ft now c.aL.aO.len
 unfold cL
 rw [e1,aA,show eo (aR.mk c.aL.slot c.aL.aO)=some c.aL.aO by unfold eo; rw [oG _ hx.sw]; rfl,aA,r1,aA]
 dsimp only
 have fl: ∀ l:List aB,(l.flatMap λx=>[x.from_,x.to]).length=2*l.length:=λl=>by
  induction l with
  | nil=>rfl
  | cons y l ih=>simp only [List.flatMap_cons,List.length_append,ih,List.length_cons,List.length_nil]; omega
 have hnum:iter (σ:=Int×(List Int)) (ρ:=(List Int)) (λe=>(bif (decide (e.1 < (R.length:Int))) then (Option.bind (idx R e.1) λi=>(Option.bind (chk (dK e.2.length [i.from_,i.to].length 8)) λ_=>some (.inl ((IntKind.i64.wrap (e.1+1)),(e.2++[i.from_,i.to]))))) else some (.inr e.2))) (0,[])=some (R.flatMap λx=>[x.from_,x.to]):=by
  refine kG (λn:Nat=>((n:Int),(R.take n).flatMap λx=>[x.from_,x.to])) R.length _ (λn hn=> ?_) ?_
  ·dsimp only
   have:=fl (R.take n)
   rw [List.length_take] at this
   rw [decide_eq_true (by omega),cond_true,bQ R n hn,aA,bO (by simp only [List.length_cons,List.length_nil]; omega),aA,w64 (by omega) (by omega),List.take_succ_eq_append_getElem hn,List.flatMap_append]
   rfl
  ·dsimp only
   rw [decide_eq_false (by omega),cond_false,List.take_of_length_le (Nat.le_refl _)]
 rw [hnum,aA]
 have hfl:=fl R
 have hrn: ∀ n∈(R.flatMap λx=>[x.from_,x.to]),0<=n/\n<=4611686018427387904:=λn hn=>by
  obtain ⟨y,hy,hn⟩:=List.mem_flatMap.1 hn
  have:=r4 y hy
  rcases List.mem_cons.1 hn with rfl | hn
  ·omega
  ·rw [List.mem_singleton.1 hn]; omega
 generalize (R.flatMap λx=>[x.from_,x.to])=NU at hfl hrn ⊢
 obtain ⟨G2,s1,s2,s3⟩: ∃ G2,((bif (decide ((NU.length:Int) > 0)) then (Option.bind (chk (dK G.length ([(aM.mk 0 3 NU (ByteArray.mk #[]))]).length 56)) λ_=>some (G++[(aM.mk 0 3 NU (ByteArray.mk #[]))])) else some G):Option (List aM))=some G2/\G2.length<=2 /\ ∀ g∈G2,CG g:=by
  by_cases b:(NU.length:Int) > 0
  ·rw [decide_eq_true b,cond_true,bO (by simp; omega),aA]
   refine ⟨_,rfl,by simp; omega,λg hg=> ?_⟩
   rcases List.mem_append.1 hg with hg | hg
   ·exact g2 g hg
   ·rw [List.mem_singleton.1 hg]
    exact ⟨.inr ⟨rfl,by dsimp only; omega,by dsimp only; omega⟩,by dsimp only; omega,hrn,Nat.zero_le _⟩
  ·rw [decide_eq_false b,cond_false]
   exact ⟨G,rfl,by omega,g2⟩
 rw [s1,aA,d2]
 obtain ⟨L,p1,p2,p3⟩:=yr c.bY h.ep G2 (by omega) s3
 refine ⟨L,_,(congrArg (λz=>Option.bind z _) p1).trans rfl,⟨?_,h.ep,h.ln,r2,⟨x,hx⟩,h.tk⟩,rfl,by omega,p3⟩
 show d.config.cache=k
 rw [d1]
 exact h.cc
theorem n6 {k:Int} {L:List aB} (h:WS k L) (n:Nat):0<=dB (L.take n)/\dB (L.take n)<=dB L:=by
 have e:=iq (L.take n) (L.drop n)
 rw [List.take_append_drop] at e
 have a1:=mI (L.take n) λy hy=>h.b y (List.mem_of_mem_take hy)
 have a2:=mI (L.drop n) λy hy=>h.b y (List.mem_of_mem_drop hy)
 omega
theorem BZ {k:Int} {L:List aB} (h:WS k L) (hk:k<=1000000):iter (σ:=Int×Int) (ρ:=Int) (λa=>(bif (decide (a.1 < (L.length:Int))) then (Option.bind (idx L a.1) λc=>some (.inl ((IntKind.i64.wrap (a.1+1)),(IntKind.i64.wrap (a.2+(IntKind.i64.wrap (c.to - c.from_))))))) else some (.inr a.2))) (0,0)=some (dB L):=by
 have hlen:=h.cnt
 have hl:=h.l
 refine kG (λn:Nat=>((n:Int),dB (L.take n))) L.length (dB L) (λn hn=> ?_) ?_
 ·dsimp only
  have hb:=h.b _ (List.getElem_mem hn)
  have h1:=n6 h n
  have h2:=n6 h (n+1)
  rw [List.take_succ_eq_append_getElem hn,iq] at h2 ⊢
  have e:dB [L[n]]=L[n].to - L[n].from_:=by show _+0=_; omega
  rw [e] at h2 ⊢
  rw [decide_eq_true (by omega),cond_true,bQ L n hn,aA,w64 (x:=L[n].to - L[n].from_) (by omega) (by omega),w64 (x:=(n:Int)+1) (by omega) (by omega),w64 (by omega) (by omega)]
  rfl
 ·dsimp only
  rw [decide_eq_false (by omega),cond_false,List.take_of_length_le (Nat.le_refl _)]
theorem B4 {k:Int} {L:List aB} (h:WS k L) (hk:k<=1000000):iter (σ:=Int×Int) (ρ:=Int) (λa=>(bif (decide (a.2 < (L.length:Int))) then (Option.bind (idx L a.2) λc=>some (.inl ((IntKind.i64.wrap (a.1+(IntKind.i64.wrap (c.to - c.from_)))),(IntKind.i64.wrap (a.2+1))))) else some (.inr a.1))) (0,0)=some (dB L):=by
 have hlen:=h.cnt
 have hl:=h.l
 refine kG (λn:Nat=>(dB (L.take n),(n:Int))) L.length (dB L) (λn hn=> ?_) ?_
 ·dsimp only
  have hb:=h.b _ (List.getElem_mem hn)
  have h1:=n6 h n
  have h2:=n6 h (n+1)
  rw [List.take_succ_eq_append_getElem hn,iq] at h2 ⊢
  have e:dB [L[n]]=L[n].to - L[n].from_:=by show _+0=_; omega
  rw [e] at h2 ⊢
  rw [decide_eq_true (by omega),cond_true,bQ L n hn,aA,w64 (x:=L[n].to - L[n].from_) (by omega) (by omega),w64 (x:=(n:Int)+1) (by omega) (by omega),w64 (by omega) (by omega)]
  rfl
 ·dsimp only
  rw [decide_eq_false (by omega),cond_false,List.take_of_length_le (Nat.le_refl _)]
def c23:aD:=⟨⟨5,3,7⟩,0,0,⟨⟨0,0,none,0⟩,gQ⟩,⟨5,0,some []⟩,⟨5,3,0,⟨[]⟩⟩⟩
theorem BH:gG ⟨5,3,7⟩=some c23:=rfl
theorem BI (len:Int):eK ⟨5,3,0,⟨[]⟩⟩ 0 len=some ([],⟨5,3,0,⟨[]⟩⟩):=by
 unfold eK
 rw [sn [] _ (by simp),aA]
 rfl
theorem BJ:cV ⟨⟨0,0,none,0⟩,gQ⟩=some ⟨1,2,[0,0],noS⟩:=by
 rw [yk (x:=⟨eW gQ,⟨0,[],[]⟩⟩) (l:=[]) sy]
 rfl
theorem zP (e k:Int) (he:1<=e/\e<=10) (hk:k=2\/k=4):gW ⟨e,k,[0,0],noS⟩=0:=by
 have:=CG.check (g:=⟨0,2,[0,0],noS⟩) ⟨.inl rfl,by decide,λx hx=>by simp at hx; omega,Nat.zero_le _⟩ (e:=e) (by omega) (by omega)
 rcases hk with rfl | rfl
 ·exact this
 ·exact GB.check (g:=⟨0,4,[0,0],noS⟩) ⟨.inr rfl,by decide,λx hx=>by simp at hx; omega,Nat.zero_le _⟩ (by omega) (by omega)
def yu:aD:=⟨⟨5,3,7⟩,0,3,⟨⟨0,0,none,0⟩,gQ⟩,⟨5,0,some []⟩,⟨5,3,0,⟨[]⟩⟩⟩
theorem Bh:cL c23 0=some ([et ⟨1,2,[0,0],noS⟩],yu):=by
 have hp:dD ⟨1,2,[0,0],noS⟩=some (et ⟨1,2,[0,0],noS⟩):=by
  rw [qk (by decide) (by decide)]
  unfold rh
  rw [if_pos (zP 1 2 (by decide) (.inl rfl))]
 unfold cL
 rw [show decide ((0:Int)>=c23.due)=true from rfl,cond_true,show aR.mk c23.aL.slot c23.aL.aO=⟨⟨0,0,none,0⟩,gQ⟩ from rfl,BJ,aA,bO (by simp),aA,aA,show eo ⟨⟨0,0,none,0⟩,gQ⟩=some gQ by unfold eo; rw [oG _ nM]; rfl,aA,show c23.bF=⟨5,3,0,⟨[]⟩⟩ from rfl,BI,aA,bB (r:=[]) rfl,aA]
 dsimp only
 rw [show decide ((([]:List Int).length:Int) > 0)=false from rfl,cond_false,aA,bS (s':=(1,[et ⟨1,2,[0,0],noS⟩])),bB (r:=[et ⟨1,2,[0,0],noS⟩]) rfl,aA]
 ·rfl
 ·show Option.bind (dD ⟨1,2,[0,0],noS⟩) _=_
  rw [hp,aA]
  rfl
def oL:aD:=⟨⟨5,3,7⟩,3,3,⟨⟨0,0,none,0⟩,gQ⟩,⟨5,0,some []⟩,⟨5,3,0,⟨[]⟩⟩⟩
theorem Bi:gD ⟨3,4,[0,0],noS⟩=some (0,[],0):=by
 unfold gD
 rw [show ((aM.mk 3 4 [0,0] noS).kind != 4)=false from rfl,cond_false,show (((aM.mk 3 4 [0,0] noS).bA.length:Int) != 2)=false from rfl,cond_false,show iX (aM.mk 3 4 [0,0] noS).data=some ⟨noS,0⟩ from rfl,aA,bB (r:=([],⟨noS,0⟩)) rfl,aA,rL,aA]
 rfl
theorem Bj:cM yu 0 (et ⟨3,4,[0,0],noS⟩)=some (0,oL):=by
 have hc:=zP 3 4 (by decide) (.inr rfl)
 unfold cM
 rw [mH (by have:=(nW hc).2; omega),mj hc,aA]
 dsimp only
 rw [show ((0:Int) != 0)=false from rfl,cond_false,show ((4:Int) != 1)=true from rfl,cond_true,show ((4:Int) != 4)=false from rfl,aA,cond_false,show decide ((3:Int) < yu.bY)=false from rfl,cond_false,show decide ((3:Int) > yu.bY)=true from rfl,cond_true,show dL yu 3=some oL from rfl,aA,aA]
 dsimp only
 rw [show ((4:Int) == 4)=true from rfl,cond_true]
 unfold ey
 rw [Bi,aA,bB (r:=(oL.lines,oL.bF)) rfl,aA,aA]
theorem Bk: ∃ c,cN oL 0 9=some (5,c):=by
 unfold cN
 rw [show cW 0 0 1152921504606846976=some 0 from rfl,aA,show cW 9 0 1152921504606846976=some 9 from rfl,aA,show dF oL.lines=some (ji [] (([]:CL).map Prod.fst)) from rm (m:=[]) rfl (by decide) List.nodup_nil (λe h=>by cases h),aA,nX [] _ (by decide) (λx h=>by cases h),aA,sn _ _ (by decide),aA,bB (r:=oL.lines) rfl,aA]
 unfold eX
 have hw:WS 5 (hG [] [⟨0,5⟩]):=⟨λy hy=>by rw [List.mem_singleton.1 (show y∈[_] from hy)]; decide,by decide⟩
 rw [show fw (aB.mk 0 (cA 9 (IntKind.i64.wrap (0+oL.config.cache)))).from_ 0 1152921504606846976=some 0 from rfl,aA,show fw (aB.mk 0 (cA 9 (IntKind.i64.wrap (0+oL.config.cache)))).to 0 1152921504606846976=some 5 from rfl,aA,show dR oL.bF=some ⟨5,3,0,⟨[]⟩⟩ from rfl,aA]
 dsimp only
 rw [show (aB.mk 0 (cA 5 (IntKind.i64.wrap (0+oL.bF.most))))=⟨0,5⟩ from rfl,nX [] [⟨0,5⟩] (by decide) (λx h=>by rw [List.mem_singleton.1 h]; unfold spB; decide),aA,sg (by decide) _ _ hw (by decide) (λx h=>by cases h),aA,show mq (hG [] [⟨0,5⟩]) (List.map iA (ji [] (([]:CL).map Prod.fst)))=hG [] [⟨0,5⟩] from rfl,vt hw (by decide),aA,aA]
 exact ⟨_,rfl⟩
theorem uI:iH=some true:=by
 have hc:=zP 1 2 (by decide) (.inl rfl)
 have hc2:=zP 3 4 (by decide) (.inr rfl)
 have hp:dD ⟨3,4,[0,0],ByteArray.mk #[]⟩=some (et ⟨3,4,[0,0],noS⟩):=by
  rw [qk (by decide) (by decide)]
  unfold rh
  exact congrArg some (if_pos hc2)
 obtain ⟨c,hw⟩:=Bk
 unfold iH
 rw [BH,aA,Bh,aA]
 dsimp only
 rw [show ((([et ⟨1,2,[0,0],noS⟩]:List ByteArray).length:Int) != 1)=false from rfl,cond_false,show idx [et ⟨1,2,[0,0],noS⟩] 0=some (et ⟨1,2,[0,0],noS⟩) from rfl,aA,mH (by have:=(nW hc).2; omega),mj hc,aA,hp,aA,Bj,aA]
 dsimp only
 rw [show ((0:Int) == 0)=true from rfl,cond_true,show ((2:Int) == 2)=true from rfl,cond_true,show ((1:Int) == 1)=true from rfl,cond_true,cond_true,show cS oL=some 3 from rfl,aA,show ((3:Int) == 3)=true from rfl,cond_true,show fP oL=some 7 from rfl,aA,show ((7:Int) == 7)=true from rfl,cond_true,hw,aA,aA]
 rfl
theorem zQ {e:Int} {t:ByteArray} {c:aD} (h:CB (imax 1 c.bY) t): ∃ g,fb t=some (g,0)/\((Option.bind (cS c) λa=>(bif (g.bY != (imax 1 a)) then some true else (bif (g.kind != 2) then (bif (g.kind != 3) then some true else (bif (g.kind == 3) then (bif ((g.bA.length:Int) == 0) then some true else (bif (decide ((g.bA.length:Int) > 16)) then some true else some (((g.bA.length:Int).tmod 2) != 0))) else some false)) else (bif (g.kind == 3) then (bif ((g.bA.length:Int) == 0) then some true else (bif (decide ((g.bA.length:Int) > 16)) then some true else some (((g.bA.length:Int).tmod 2) != 0))) else some false)))):Option Bool)=some false:=by
 obtain ⟨g,g1,g2,g3⟩:=h
 refine ⟨g,g3,?_⟩
 rw [show cS c=some c.bY from rfl,aA,g2,BE,cond_false]
 rcases g1.k with k | ⟨k,k1,k2⟩
 ·rw [k]; rfl
 ·have hn:=g1.n
  rw [k,show ((3:Int) != 2)=true from rfl,cond_true,show ((3:Int) != 3)=false from rfl,cond_false,show ((3:Int) == 3)=true from rfl,cond_true,A9 (by omega),cond_false,decide_eq_false (by omega),cond_false]
  have:((g.bA.length:Int).tmod 2 != 0)=false:=by
   have:(g.bA.length:Int).tmod 2=0:=by
    rw [show (2:Int)=((2:Nat):Int) from rfl,Int.tmod_eq_emod_of_nonneg (by omega)]
    omega
   rw [this]; rfl
  rw [this]
theorem pb {c:eQ} {acts:List jJ} (a0:kV c) (a1: ∀ x∈acts,lM x):gH c acts=some true:=by
 unfold gH
 rw [uI,aA,Bool.not_true,cond_false]
 obtain ⟨d,d1,d2⟩: ∃ d,iI c=some d/\d.cache<=12:=by
  unfold iI
  by_cases b:c.cache > 12
  ·rw [decide_eq_true b,cond_true,aA]; exact ⟨_,rfl,Int.le_refl _⟩
  ·rw [decide_eq_false b,cond_false,aA]; exact ⟨c,rfl,by omega⟩
 rw [d1,aA]
 obtain ⟨s,s1,s2⟩:=Bf d.cache d.every d.addr
 rw [s1,aA]
 have hk:1<=imax 1 (cA d.cache 65536)/\imax 1 (cA d.cache 65536)<=12/\imax 1 (cA d.cache 65536)=imax 1 d.cache:=by
  unfold imax cA; (repeat' split) <;> omega
 generalize imax 1 (cA d.cache 65536)=k at s2 hk
 rw [<- hk.2.2]
 refine pU (λs:aD×Int×Int=> ∃ n:Nat,s.2.2=n/\n<=25/\KI k (n*110000) (n*400) s.1) (λs=>25 - s.2.2.toNat) (λr=> ∃ c,r = .inl c) ⟨0,rfl,by decide,s2.more (by decide) (by decide)⟩ ?_ ?_
 ·rintro ⟨s,now,i⟩ ⟨n,h1,h2,h3⟩
  dsimp only at h1 h3 ⊢
  subst h1
  by_cases c:(n:Int) < (acts.length:Int)/\(n:Int) < 25
  ·left
   rw [zi c,aA,cond_true,bQ acts n (by omega),aA]
   generalize hnow:IntKind.i64.wrap (now+(Go.bits .and .i64 acts[n].later 7))=now'
   obtain ⟨s',q1,q2⟩: ∃ s',((bif (acts[n].kind == 0) then (Option.bind (fQ acts[n].text 400) λj=>(Option.bind (cM s now' j) λm=>some (.inl m.2))) else (bif (acts[n].kind == 1) then (Option.bind (cL s now') λf=>(Option.bind (iter (σ:=Int) (ρ:=Unit ⊕ (aD ⊕ ((aD×Int×Int) ⊕ (aD ⊕ Bool)))) (λh=>(bif (decide (h < (f.1.length:Int))) then (Option.bind (idx f.1 h) λo=>(Option.bind (fb o) λa=>(Option.bind ((bif (a.2 != 0) then some true else (Option.bind (cS f.2) λp=>(bif (a.1.bY != (imax 1 p)) then some true else (bif (a.1.kind != 2) then (bif (a.1.kind != 3) then some true else (bif (a.1.kind == 3) then (bif ((a.1.bA.length:Int) == 0) then some true else (bif (decide ((a.1.bA.length:Int) > 16)) then some true else some (((a.1.bA.length:Int).tmod 2) != 0))) else some false)) else (bif (a.1.kind == 3) then (bif ((a.1.bA.length:Int) == 0) then some true else (bif (decide ((a.1.bA.length:Int) > 16)) then some true else some (((a.1.bA.length:Int).tmod 2) != 0))) else some false))))):Option Bool) λq=>(bif q then (eT (kz (eT (some false)))) else some (.inl (IntKind.i64.wrap (h+1))))))) else some (.inr (.inl ())))) 0) λ | .inl e21118=>some (.inl f.2) | .inr w=>some w)) else (Option.bind (cN s acts[n].from_ acts[n].to) λt=>some (.inl t.2)))):Option (aD ⊕ ((aD×Int×Int) ⊕ (aD ⊕ Bool))))=some (.inl s')/\KI k ((n+1:Nat)*110000) ((n+1)*400) s':=by
    by_cases k0:acts[n].kind=0
    ·rw [show (acts[n].kind == 0)=true by simpa using k0,cond_true]
     have hc:fQ acts[n].text 400=some (yZ acts[n].text 400):=xI acts[n].text 400
     obtain ⟨r,er,hr⟩:=zh acts[n].text (n:=400) (by decide)
     rw [hc] at er
     cases er
     obtain ⟨e,s',e1,e2⟩:=zJ h3 (by omega) (by omega) (by omega) now' (s:=yZ acts[n].text 400) (by omega)
     rw [hc,aA,e1,aA]
     exact ⟨s',rfl,e2.more (by omega) (by omega)⟩
    ·rw [show (acts[n].kind == 0)=false by simpa using k0,cond_false]
     by_cases k1:acts[n].kind=1
     ·rw [show (acts[n].kind == 1)=true by simpa using k1,cond_true]
      obtain ⟨L,s',e1,e2,e3,e4,e5⟩:=zO h3 (by omega) now'
      rw [e1,aA]
      refine ⟨s',fc (λi:Nat=>(i:Int)) L.length (.inl ()) rfl (λi hi=> ?_) ?_ rfl,e2.more (by omega) (by omega)⟩
      ·obtain ⟨g,g1,g2⟩:=zQ (e:=0) (c:=s') (by rw [e3]; exact e5 _ (List.getElem_mem hi))
       dsimp only
       rw [decide_eq_true (by omega),cond_true,bQ L i hi,aA,g1,aA]
       dsimp only
       rw [show ((0:Int) != 0)=false from rfl,cond_false,g2,aA,cond_false,w64 (by omega) (by omega)]
       rfl
      ·dsimp only
       rw [decide_eq_false (by omega),cond_false]
     ·rw [show (acts[n].kind == 1)=false by simpa using k1,cond_false]
      obtain ⟨v,s',e1,e2⟩:=zM h3 (by omega) (by omega) acts[n].from_ acts[n].to
      rw [e1,aA]
      exact ⟨s',rfl,e2.more (by omega) (by omega)⟩
   obtain ⟨L1,l1,l2⟩:=rr q2.ln (by omega)
   have l3:=uE (by omega) q2.ft
   have z1:=l2.l
   have z2:=q2.ft.w.l
   refine ⟨(s',now',((n+1:Nat):Int)),(congrArg (λz=>Option.bind z _) q1).trans ?_,⟨n+1,rfl,by omega,q2⟩,by dsimp only; omega⟩
   rw [aA]
   dsimp only
   rw [show eU s'=some L1 by unfold eU; rw [l1]; rfl,aA,BZ l2 (by omega),aA,show eO s'=some s'.bF.want.l by unfold eO; rw [l3]; rfl,aA,B4 q2.ft.w (by omega),aA,decide_eq_false (by omega),cond_false,decide_eq_false (by omega),aA,cond_false,w64 (by omega) (by omega)]
   rfl
  ·right
   rw [zj c,aA,cond_false]
   exact ⟨_,rfl,s,rfl⟩
 ·rintro r ⟨s,rfl⟩
  rfl
end Go.Tw.X

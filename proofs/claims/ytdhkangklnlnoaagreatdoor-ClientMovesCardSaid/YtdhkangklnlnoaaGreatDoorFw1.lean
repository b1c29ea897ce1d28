import Derived.Calls
import Derived.Tactics
import Derived.TacticsIn
import Derived.RangeFuncRecord
import Derived.Laws.AppendOwn
import Derived.Laws.StructEq
import Derived.Laws.Cells
import Derived.Laws.Build
import Derived.Laws.Tables
import Derived.Laws.Entries
import Derived.Laws.CopyRow
import Derived.KernelRfl
import Derived.Laws.MakeOwn
import Derived.Great.BuildSlice
import Derived.Laws.OwnMore
import Derived.OrdersHeld
import Derived.OrdersIn
import Derived.Lib.AppendZeros
import Derived.Laws.BytesString
import Derived.Laws.Concat
import Derived.Lib.AppendStr
set_option linter.unusedVariables false
set_option linter.unusedSimpArgs false
namespace Go.Tw
open Go
abbrev Env:=List (Nat×Value)
def look:Env->Nat->Option Value
 | [],_=>none
 | (i,v)::m,j=>match Nat.beq i j with
  | true=>some v
  | false=>look m j
structure Nd where
 n:Nat
 ds:List Nat
def mark (D:Nat):Deferred:={ target:= .collected D,args:= #[] }
structure Fr (n:Nd) (m:Env) (a:Act):Prop where
 size:a.tmps.size=n.n
 defers:a.defers=n.ds.map mark
 at_: ∀ i v,look m i=some v->a.tmps.getD i undef=v
def ev (m:Env):Operand->Option Value
 | .tmp t=>look m t
 | .const v=>some v
 | .global g=>some (.pointer (some ⟨g,0,none⟩))
 | .func f=>some (.func (.func f) #[] #[])
theorem Fr.ev {n:Nd} {m:Env} {a:Act} (h:Fr n m a) {x:Operand} {v:Value} (hx:ev m x=some v):a.eval x=v:=by
 cases x with
 | tmp t=>exact h.at_ t v hx
 | const c=>exact Option.some.inj hx
 | global g=>exact Option.some.inj hx
 | func f=>exact Option.some.inj hx
theorem Fr.put {n:Nd} {d:Nat} {m:Env} {a:Act} (h:Fr n m a) (v:Value) (hd:d < n.n):Fr n ((d,v)::m) (a.put (some d) v):=by
 refine ⟨by simpa [Act.put] using h.size,h.defers,?_⟩
 intro i u hu
 simp only [look] at hu
 have hsz:=h.size
 cases hb:Nat.beq d i with
 | true =>
  rw [hb] at hu
  have e:d=i:=Nat.eq_of_beq_eq_true hb
  subst e
  injection hu with hu
  subst hu
  simp [Act.put,Array.getD,hsz,hd]
 | false =>
  rw [hb] at hu
  have hne:d≠i:=Nat.ne_of_beq_eq_false hb
  have h2:=h.at_ i u hu
  show (a.tmps.setIfInBounds d v).getD i undef=u
  rw [<- h2]
  simp only [Array.getD_eq_getD_getElem?,Array.getElem?_setIfInBounds,if_neg hne]
theorem Fr.Bp {n:Nd} {m:Env} {a:Act} (h:Fr n m a) (v:Value):Fr n m (a.put none v):=h
theorem Fr.sub {n:Nd} {m m':Env} {a:Act} (h:Fr n m a) (hs: ∀ i v,look m' i=some v->look m i=some v):Fr n m' a:=⟨h.size,h.defers,λi v hv=>h.at_ i v (hs i v hv)⟩
def sF (m:Env):Env->Prop
 | []=>True
 | (i,v)::m'=>look m i=some v/\sF m m'
theorem my {m:Env}: ∀ {m':Env},sF m m' -> ∀ i v,look m' i=some v->look m i=some v
 | [],_,_,_,h=>by simp [look] at h
 | (i',v')::m',hs,i,v,h=>by
  simp only [look] at h
  cases hb:Nat.beq i' i with
  | true =>
   rw [hb] at h
   injection h with h
   rw [<- h,<- Nat.eq_of_beq_eq_true hb]
   exact hs.1
  | false =>
   rw [hb] at h
   exact my hs.2 i v h
abbrev eL:=Nat->Prop
structure Ch where
 blk:eL
 ok:eL->World->Prop
 st: ∀ {A A':eL} {w w':World},(∀ b,A b->A' b)->(∀ b,A b->w'.heap[b]?=w.heap[b]?)->(∀ b,blk b->w'.heap[b]?=w.heap[b]?)->ok A w->ok A' w'
structure Im where
 ok:eL->World->Prop
 st: ∀ {A A':eL} {w w':World},(∀ b,A b->A' b)->(∀ b,A b->w'.heap[b]?=w.heap[b]?)->ok A w->ok A' w'
structure St (A:eL) (S:List Ch) (I:List Im) (w:World):Prop where
 lt: ∀ b,A b->b < w.heap.size
 ch: ∀ c∈S,c.ok A w
 own: ∀ c∈S,∀ b,c.blk b->b < w.heap.size /\ ¬ A b
 dis:S.Pairwise λc d=> ∀ b,c.blk b -> ¬ d.blk b
 im: ∀ i∈I,i.ok A w
def Own (S:List Ch):eL:=λb=> ∃ c∈S,c.blk b
structure Key where
 w:World
 A:eL
 O:eL
structure Fx (K:Key) (A:eL) (S:List Ch) (w:World):Prop where
 os:w.os=K.w.os
 tape:w.tape=K.w.tape
 output:w.output=K.w.output
 size:K.w.heap.size<=w.heap.size
 mR: ∀ b,b < K.w.heap.size -> ¬ K.O b->w.heap[b]?=K.w.heap[b]?
 up: ∀ b,K.A b->A b
 dn: ∀ b,A b->K.A b\/K.O b\/K.w.heap.size<=b
 own: ∀ b,Own S b->K.O b\/K.w.heap.size<=b
structure SS (K:Key) (A:eL) (S:List Ch) (I:List Im) (w:World):Prop where
 st:St A S I w
 fx:Fx K A S w
theorem St.left {A:eL} {S R:List Ch} {I J:List Im} {w:World} (h:St A (S++R) I w) (hJ: ∀ i∈J,i∈I):St A S J w :=
 ⟨h.lt,λc hc=>h.ch c (List.mem_append_left _ hc),λc hc=>h.own c (List.mem_append_left _ hc),(List.pairwise_append.1 h.dis).1,λi hi=>h.im i (hJ i hi)⟩
theorem SS.start {A:eL} {S:List Ch} {I:List Im} {w:World} (h:St A S I w):SS ⟨w,A,Own S⟩ A S I w :=
 ⟨h,rfl,rfl,rfl,Nat.le_refl _,λ_ _ _=>rfl,λ_ h=>h,λ_ h=> .inl h,λ_ h=> .inl h⟩
theorem SS.frame {K:Key} {A A':eL} {S R S':List Ch} {I I':List Im} {w w':World} (h:SS K A (S++R) I w) (h2:SS ⟨w,A,Own S⟩ A' S' I' w'):SS K A' (S'++R) (I'++I) w':=by
 have hdis:=List.pairwise_append.1 h.st.dis
 have hA: ∀ b,A b->w'.heap[b]?=w.heap[b]?:=λb hb=>h2.fx.mR b (h.st.lt b hb) (λ⟨c,hc,e⟩=>(h.st.own c (List.mem_append_left _ hc) b e).2 hb)
 have hR: ∀ d∈R,∀ b,d.blk b -> ¬ Own S b:=λd hd b hb ⟨c,hc,e⟩=>hdis.2.2 c hc d hd b e hb
 have hRk: ∀ d∈R,∀ b,d.blk b->w'.heap[b]?=w.heap[b]?:=λd hd b hb=>h2.fx.mR b (h.st.own d (List.mem_append_right _ hd) b hb).1 (hR d hd b hb)
 have hSW: ∀ b,Own S b->K.O b\/K.w.heap.size<=b:=λb ⟨c,hc,e⟩=>h.fx.own b ⟨c,List.mem_append_left _ hc,e⟩
 refine ⟨⟨h2.st.lt,?_,?_,?_,?_⟩,⟨h2.fx.os.trans h.fx.os,h2.fx.tape.trans h.fx.tape,h2.fx.output.trans h.fx.output,Nat.le_trans h.fx.size h2.fx.size,?_,λb hb=>h2.fx.up b (h.fx.up b hb),?_,?_⟩⟩
 ·intro c hc
  rcases List.mem_append.1 hc with hc | hc
  ·exact h2.st.ch c hc
  ·exact c.st h2.fx.up hA (hRk c hc) (h.st.ch c (List.mem_append_right _ hc))
 ·intro c hc b hb
  rcases List.mem_append.1 hc with hc | hc
  ·exact h2.st.own c hc b hb
  ·have h3:=h.st.own c (List.mem_append_right _ hc) b hb
   refine ⟨Nat.lt_of_lt_of_le h3.1 h2.fx.size,λhA'=> ?_⟩
   rcases h2.fx.dn b hA' with h4 | h4 | h4
   ·exact h3.2 h4
   ·exact hR c hc b hb h4
   ·exact Nat.lt_irrefl _ (Nat.lt_of_lt_of_le h3.1 h4)
 ·refine List.pairwise_append.2 ⟨h2.st.dis,hdis.2.1,?_⟩
  intro c hc d hd b hb hb2
  have h3:=h.st.own d (List.mem_append_right _ hd) b hb2
  rcases h2.fx.own b ⟨c,hc,hb⟩ with h4 | h4
  ·exact hR d hd b hb2 h4
  ·exact Nat.lt_irrefl _ (Nat.lt_of_lt_of_le h3.1 h4)
 ·intro i hi
  rcases List.mem_append.1 hi with hi | hi
  ·exact h2.st.im i hi
  ·exact i.st h2.fx.up hA (h.st.im i hi)
 ·intro b hb hO
  refine (h2.fx.mR b (Nat.lt_of_lt_of_le hb h.fx.size) (λho=> ?_)).trans (h.fx.mR b hb hO)
  rcases hSW b ho with h4 | h4
  ·exact hO h4
  ·exact Nat.lt_irrefl _ (Nat.lt_of_lt_of_le hb h4)
 ·intro b hb
  rcases h2.fx.dn b hb with h4 | h4 | h4
  ·exact h.fx.dn b h4
  ·exact .inr (hSW b h4)
  ·exact .inr (.inr (Nat.le_trans h.fx.size h4))
 ·rintro b ⟨c,hc,e⟩
  rcases List.mem_append.1 hc with hc | hc
  ·rcases h2.fx.own b ⟨c,hc,e⟩ with h4 | h4
   ·exact hSW b h4
   ·exact .inr (Nat.le_trans h.fx.size h4)
  ·exact h.fx.own b ⟨c,List.mem_append_right _ hc,e⟩
theorem SS.perm {K:Key} {A:eL} {S S':List Ch} {I I':List Im} {w:World} (h:SS K A S I w) (hp:S'.Perm S) (hI: ∀ i∈I',i∈I):SS K A S' I' w:=by
 have hs: ∀ {x y:Ch},(∀ b,x.blk b -> ¬ y.blk b)->(∀ b,y.blk b -> ¬ x.blk b):=λh b hy hx=>h b hx hy
 refine ⟨⟨h.st.lt,λc hc=>h.st.ch c (hp.mem_iff.1 hc),λc hc=>h.st.own c (hp.mem_iff.1 hc),(hp.pairwise_iff (@hs)).2 h.st.dis,λi hi=>h.st.im i (hI i hi)⟩,⟨h.fx.os,h.fx.tape,h.fx.output,h.fx.size,h.fx.mR,h.fx.up,h.fx.dn,λb ⟨c,hc,e⟩=>h.fx.own b ⟨c,hp.mem_iff.1 hc,e⟩⟩⟩
theorem SS.drop {K:Key} {A:eL} {S R:List Ch} {I I':List Im} {w:World} (h:SS K A (S++R) I w) (hI: ∀ i∈I',i∈I):SS K A S I' w :=
 ⟨h.st.left hI,⟨h.fx.os,h.fx.tape,h.fx.output,h.fx.size,h.fx.mR,h.fx.up,h.fx.dn,λb ⟨c,hc,e⟩=>h.fx.own b ⟨c,List.mem_append_left _ hc,e⟩⟩⟩
theorem SS.heap {K:Key} {A:eL} {S:List Ch} {I:List Im} {w w':World} (h:SS K A S I w) (hh:w'.heap=w.heap) (ho:w'.os=w.os) (ht:w'.tape=w.tape) (hu:w'.output=w.output):SS K A S I w':=by
 refine ⟨⟨by rw [hh]; exact h.st.lt,λc hc=>c.st (λ_ h=>h) (λ_ _=>by rw [hh]) (λ_ _=>by rw [hh]) (h.st.ch c hc),by rw [hh]; exact h.st.own,h.st.dis,λi hi=>i.st (λ_ h=>h) (λ_ _=>by rw [hh]) (h.st.im i hi)⟩,
  ⟨ho.trans h.fx.os,ht.trans h.fx.tape,hu.trans h.fx.output,by rw [hh]; exact h.fx.size,by rw [hh]; exact h.fx.mR,h.fx.up,h.fx.dn,h.fx.own⟩⟩
inductive TK where
 | int (k:IntKind) | bool | string | pointer (e:Nat) | slice (e:Nat) | struct (fs:List (Nat×Nat)) | array (len e:Nat) | map (k e:Nat) | func | other
structure TI where
 k:TK
 size:Nat
 bytes:Nat
 zero:List Value
 agg:Bool
 eq:Bool
abbrev Tab:=List (Nat×TI)
def bL:Tab->Nat->Option TI
 | [],_=>none
 | (i,v)::m,j=>match Nat.beq i j with
  | true=>some v
  | false=>bL m j
def TK.fits:TK->TypeDesc->Prop
 | .int k,d=>d = .int k
 | .bool,d=>d = .bool
 | .string,d=>d = .string
 | .pointer e,d=>d = .pointer e
 | .slice e,d=>d = .slice e
 | .struct fs,d=> ∃ a:Array Field,d = .struct a/\a.toList.map (λf=>(f.type,f.offset))=fs
 | .array n e,d=>d = .array n e
 | .map k e,d=>d = .map k e
 | .func,d=> ∃ a b c,d = .func a b c
 | .other,_=>True
def TK.isAgg:TK->Bool
 | .struct _ | .array _ _=>true
 | _=>false
def Fz (P : Program) (t : Nat) : Prop := (∀ a, P.underlying t = some (.struct a) -> (∀ f ∈ a.toList, (f.name == "_") = false) /\ P.stoodInHeld t = false) /\ P.eqGuardType P.depth t = false
def TI.ok (P:Program) (t:Nat) (i:TI):Prop :=
 ∃ (d:TypeDesc) (f:TypeInfo) (z:Value),P.underlying t=some d/\P.info? t=some f/\i.k.fits d/\f.size=i.size/\f.bytes=i.bytes/\f.zero=some z/\z.cells.toList=i.zero/\i.agg=i.k.isAgg/\(i.k.isAgg=false -> ∀ a,d ≠ .struct a)/\(i.k.isAgg=false -> ∀ a b,d ≠ .array a b)/\(i.eq=true->Fz P t)
def jz (P:Program) (τ:Tab):Prop:= ∀ t i,bL τ t=some i->i.ok P t
structure Pg where
 P:Program
 τ:Tab
 ok:jz P τ
 rd:Option Nat:=none
def Pg.F (G:Pg):Fence:=match G.rd with
 | none=>Fence.wide
 | some l=>Fence.wide.inRound l
def Pg.at (G:Pg) (l:Nat):Pg:={ G with rd:=some l }
theorem Pg.fn (G:Pg) (f:FuncId):G.F.fn f:=by unfold Pg.F; split <;> trivial
theorem Pg.depth (G:Pg):G.F.depth=none:=by unfold Pg.F; split <;> rfl
theorem Pg.round (G:Pg):G.F.round=G.rd:=by
 unfold Pg.F
 split
 ·rename_i h; rw [h]; rfl
 ·rename_i h; rw [h]; rfl
theorem Pg.calls (G:Pg) {n:Nat} {f:FuncId} {args:Array Value} {w:World} {R:Ending->World->Prop} (h:Calls G.P f args w R):CallsIn G.F n G.P f args w R:=by
 unfold Pg.F
 split
 ·exact callsIn_wide.2 h
 ·exact (callsIn_wide (n:=n)).2 h
theorem s8 {P:Program} {o:Oper} {ρ:Operand->Value} {w w':World} {x:Next} (h:(execOp ρ o).run P w = .ok x w') (hx: ∀ d,x ≠ .defer d): ∀ c,o.op ≠ .defer c:=by
 intro c hc
 simp only [execOp,hc,Sem.run_bind] at h
 cases hr:(resolve ρ c o.type).run P w with
 | ok d w1 =>
  rw [hr] at h
  simp only [Result.andThen_ok,Sem.run_pure,Result.ok.injEq] at h
  exact hx d h.1.symm
 | halt s w1 =>
  rw [hr] at h
  cases h
theorem Pg.rows (G:Pg) {n:Nat} {row:String} {args:Array Value} {w:World} {R:Value->World->Prop} (h:Rows G.P row args w R):RowsIn G.F n G.P row args w R:=by
 intro c cs _
 obtain ⟨v,w',r,s⟩:=h c cs
 refine ⟨v,w',r,?_⟩
 unfold Pg.F
 split
 ·exact stepsIn_wide.2 s
 ·exact stepsIn_wide.2 s
theorem Pg.deep (G:Pg) {p:Prop}:G.F.depth.isSome=true->p:=λh=>by rw [G.depth] at h; cases h
theorem Pg.sem (G:Pg) {o:Oper} {ρ:Operand->Value} (h: ∀ c,o.op ≠ .defer c):o.semAt G.F.round ρ=execOp ρ o:=by
 rw [G.round]
 cases G.rd with
 | none=>exact Oper.semAt_none ..
 | some l=>exact Oper.semAt_some l ρ o h
section
variable (G : Pg) (n : Nd) (K : Key)
def T (Q:Exit->Act->World->Prop) (c:Code) (m:Env) (S:List Ch) (I:List Im):Prop:= ∀ A a w,Fr n m a->SS K A S I w->c.wpIn G.F 0 G.P Q a w
def L (ops:Array Oper) (Q:Exit->Act->World->Prop) (l:List Oper) (m:Env) (S:List Ch) (I:List Im):Prop:= ∀ A a w,Fr n m a->SS K A S I w->wpListIn G.F 0 G.P ops Q l a w
def E (Q:Exit->Act->World->Prop) (e:Exit) (m:Env) (S:List Ch) (I:List Im):Prop:= ∀ A a w,Fr n m a->SS K A S I w->Q e a w
def CT (f:FuncId) (args:List Value) (S:List Ch) (I:List Im) {σ:Type} (val:σ->Value) (S':σ->List Ch) (I':σ->List Im):Prop :=
 (∃ fn, G.P.funcs[f]? = some fn /\ (fn.name == "runtime.NumGoroutine") = false /\ fn.body.isNone = false) /\
 ∀ A w,St A S I w->Calls G.P f args.toArray w λe w'=> ∃ x A',e = .returned (val x)/\SS ⟨w,A,Own S⟩ A' (S' x) (I' x) w'
end
section
variable {G : Pg} {n : Nd} {K : Key} {Q : Exit -> Act -> World -> Prop} {m : Env} {S : List Ch} {I : List Im} {ops : Array Oper}
theorem T.region {id:Nat} {l:List Oper} (h:L G n K l.toArray Q l m S I):T G n K Q (.region id l.toArray false) m S I :=
 λA a w hf hs=>wpIn_region_lit (h A a w hf hs)
theorem T.seq {x y:Code} (h:T G n K (Exit.then (y.wpIn G.F 0 G.P Q) Q) x m S I):T G n K Q (.seq x y) m S I:=λA a w hf hs=>wpIn_seq (h A a w hf hs)
theorem T.skip (h:E n K Q .normal m S I):T G n K Q .skip m S I:=λA a w hf hs=>wpIn_skip (h A a w hf hs)
theorem T.exit {id:Nat} (h:E n K Q (.exit id) m S I):T G n K Q (.exit id) m S I:=λA a w hf hs=>wpIn_exit (h A a w hf hs)
theorem T.ret (h:E n K Q .ret m S I):T G n K Q .ret m S I:=λA a w hf hs=>wpIn_ret (h A a w hf hs)
theorem T.block {id:Nat} {c:Code} (h:T G n K (Exit.inBlock id Q) c m S I):T G n K Q (.block id c) m S I:=λA a w hf hs=>wpIn_block (h A a w hf hs)
theorem T.cond {c:Operand} {x y:Code} {b:Bool} (hc:ev m c=some (.bool b)) (ht:b=true->T G n K Q x m S I) (hf:b=false->T G n K Q y m S I):T G n K Q (.cond c x y) m S I :=
 λA a w hfr hs=>wpIn_cond_split (hfr.ev hc) (λh=>ht h A a w hfr hs) (λh=>hf h A a w hfr hs)
theorem T.bif {ρ:Type} {g h:Option ρ} {r:ρ} {c:Operand} {x y:Code} {b:Bool} (hc:ev m c=some (.bool b)) (H:(bif b then g else h)=some r) (ht:b=true->g=some r->T G n K Q x m S I) (hf:b=false->h=some r->T G n K Q y m S I):T G n K Q (.cond c x y) m S I :=
 T.cond hc (λe=>ht e (by rw [e] at H; exact H)) (λe=>hf e (by rw [e] at H; exact H))
theorem E.then {y:Code} (h:T G n K Q y m S I):E n K (Exit.then (y.wpIn G.F 0 G.P Q) Q) .normal m S I:=h
theorem E.pZ {y:Act->World->Prop} (h:E n K Q .ret m S I):E n K (Exit.then y Q) .ret m S I:=h
theorem E.yr {y:Act->World->Prop} {id:Nat} (h:E n K Q (.exit id) m S I):E n K (Exit.then y Q) (.exit id) m S I:=h
theorem E.block {id:Nat} (h:E n K Q .normal m S I):E n K (Exit.inBlock id Q) .normal m S I:=h
theorem E.AA {id:Nat} (h:E n K Q .ret m S I):E n K (Exit.inBlock id Q) .ret m S I:=h
theorem E.yu {id:Nat} (h:E n K Q .normal m S I):E n K (Exit.inBlock id Q) (.exit id) m S I:=λA a w hf hs=>by
 show (if id=id then Q .normal a w else Q (.exit id) a w)
 rw [if_pos rfl]
 exact h A a w hf hs
theorem E.Bq {id id':Nat} (hne:Nat.beq id' id=false) (h:E n K Q (.exit id') m S I):E n K (Exit.inBlock id Q) (.exit id') m S I:=λA a w hf hs=>by
 show (if id'=id then Q .normal a w else Q (.exit id') a w)
 rw [if_neg (Nat.ne_of_beq_eq_false hne)]
 exact h A a w hf hs
theorem L.nil (h:E n K Q .normal m S I):L G n K ops Q [] m S I:=h
theorem least {R:Nat->Prop} (h: ∃ k,R k): ∃ k,R k /\ ∀ j,R j->k<=j:=by
 obtain ⟨k,hk⟩:=h
 induction k using Nat.strongRecOn with
 | _ k ih =>
  by_cases hj: ∃ j,j < k/\R j
  ·obtain ⟨j,hlt,hR⟩:=hj
   exact ih j hlt hR
  ·exact ⟨k,hk,λj hR=>Nat.le_of_not_lt λhlt=>hj ⟨j,hlt,hR⟩⟩
theorem T.loop {ρ σ:Type} {r:ρ} {c:Code} (l:Nat->σ->Option ρ) (M:σ->Env) (SL:σ->List Ch) (IL:σ->List Im) (h0: ∀ s,l 0 s≠some r)
  (round: ∀ k s,l (k+1) s=some r->T G n K (Exit.then (λa w=> ∃ s' A,l k s'=some r/\Fr n (M s') a/\SS K A (SL s') (IL s') w) Q) c (M s) (SL s) (IL s))
  {k:Nat} {s:σ} (h:l k s=some r):T G n K Q (.loop c) (M s) (SL s) (IL s):=by
 intro A a w hf hs
 classical
 let R:Act->World->Nat->Prop:=λa w k=> ∃ s A,l k s=some r/\Fr n (M s) a/\SS K A (SL s) (IL s) w
 refine wpIn_loop (λa w=> ∃ k,R a w k) (λa w=>if h: ∃ k,R a w k then Classical.choose (least h) else 0) ⟨k,s,A,h,hf,hs⟩ ?_
 rintro a1 w1 ⟨k1,hk1⟩
 have hex: ∃ k,R a1 w1 k:=⟨k1,hk1⟩
 have hmu:(if h: ∃ k,R a1 w1 k then Classical.choose (least h) else 0)=Classical.choose (least hex):=dif_pos hex
 obtain ⟨⟨s2,A2,hl,hf2,hs2⟩,hmin⟩:=Classical.choose_spec (least hex)
 rw [<- hmu] at hl hmin
 generalize (if h: ∃ k,R a1 w1 k then Classical.choose (least h) else 0)=mu at hl hmin ⊢
 cases mu with
 | zero=>exact absurd hl (h0 s2)
 | succ k2 =>
  refine Code.wpIn_mono ?_ (round k2 s2 hl A2 a1 w1 hf2 hs2)
  intro e a3 w3 hq
  cases e with
  | normal =>
   obtain ⟨s3,A3,hl3,hf3,hs3⟩:=hq
   refine ⟨⟨k2,s3,A3,hl3,hf3,hs3⟩,?_⟩
   have hex3: ∃ k,R a3 w3 k:=⟨k2,s3,A3,hl3,hf3,hs3⟩
   show (if h: ∃ k,R a3 w3 k then Classical.choose (least h) else 0) < k2+1
   rw [dif_pos hex3]
   exact Nat.lt_succ_of_le ((Classical.choose_spec (least hex3)).2 k2 ⟨s3,A3,hl3,hf3,hs3⟩)
  | exit id=>exact hq
  | goto id=>exact hq
  | ret=>exact hq
  | panic ch=>exact hq
  | outgrown=>exact hq
end
def ikb:IntKind->IntKind->Bool
 | .i8,.i8 | .i16,.i16 | .i32,.i32 | .i64,.i64 | .u8,.u8 | .u16,.u16 | .u32,.u32 | .u64,.u64=>true
 | _,_=>false
theorem ry {a b:IntKind} (h:ikb a b=true):a=b:=by cases a <;> cases b <;> first | rfl | cases h
def FA (op:BinOp) (k:IntKind) (a b:Int):Option Value :=
 match op with
 | .add=>some (.int k (k.wrap (a+b)))
 | .sub=>some (.int k (k.wrap (a - b)))
 | .mul=>some (.int k (k.wrap (a*b)))
 | .eql=>some (.bool (a == b))
 | .neq=>some (.bool (a != b))
 | .lss=>some (.bool (decide (a < b)))
 | .leq=>some (.bool (decide (a<=b)))
 | .gtr=>some (.bool (decide (a > b)))
 | .geq=>some (.bool (decide (a>=b)))
 | .and=>some (.int k (Go.bits .and k a b))
 | .or=>some (.int k (Go.bits .or k a b))
 | .xor=>some (.int k (Go.bits .xor k a b))
 | _=>none
def FB (op:BinOp) (k:IntKind) (a:Int) (b:Int):Option Value :=
 match op,b with
 | .quo,.ofNat (c+1)=>some (.int k (k.wrap (a.tdiv (.ofNat (c+1)))))
 | .rem,.ofNat (c+1)=>some (.int k (a.tmod (.ofNat (c+1))))
 | .shl,.ofNat c=>some (.int k (k.wrap (a*2 ^ (min c k.bits))))
 | .shr,.ofNat c=>some (.int k (a.fdiv (2 ^ (min c k.bits))))
 | _,_=>none
def FC (op:BinOp) (a b:ByteArray):Option Value :=
 match op with
 | .eql=>some (.bool (a.toList == b.toList))
 | .neq=>some (.bool (!(a.toList == b.toList)))
 | .lss=>some (.bool (Op.bytesLess a.toList b.toList))
 | .gtr=>some (.bool (!(Op.bytesLess a.toList b.toList || a.toList == b.toList)))
 | _=>none
def BinOp.sh:BinOp->Bool
 | .shl | .shr=>true
 | _=>false
def FD (op:BinOp) (con:Bool) (x y:Value):Option Value :=
 match x,y with
 | .int k a,.int k' b=>match con with
  | true=>match ikb k k' || BinOp.sh op with
   | true=>FB op k a b
   | false=>none
  | false=>match ikb k k' with
   | true=>FA op k a b
   | false=>none
 | .string a,.string b=>FC op a b
 | _,_=>none
def BinOp.con:BinOp->Operand->Bool
 | .quo,.const _ | .rem,.const _ | .shl,.const _ | .shr,.const _=>true
 | _,_=>false
def qun (op:UnOp) (x:Value):Option Value :=
 match op,x with
 | .neg,.int k n=>some (.int k (k.wrap (0 - n)))
 | .not,.bool b=>some (.bool (!b))
 | _,_=>none
def vc (v:Value):List Value:=v.cells.toList
def sG:List Value->Nat->List Value->List Value
 | cs,_,[]=>cs
 | cs,o,v::vs=>sG (cs.set o v) (o+1) vs
def wS:List Value->Nat->List Value->List Value
 | cs,_,[]=>cs
 | [],_,_::_=>[]
 | _::cs,0,v::vs=>v::wS cs 0 vs
 | c::cs,o+1,v::vs=>c::wS cs o (v::vs)
def s9 (pl:Nat->Option (Nat×Nat)):List Value->List (Nat×Value)->Option (List Value)
 | cs,[]=>some cs
 | cs,(i,v)::r=>match pl i with
  | none=>none
  | some (o,s)=>match Nat.beq (vc v).length s,Nat.ble (o+s) cs.length with
   | true,true=>s9 pl (wS cs o (vc v)) r
   | _,_=>none
def AB (τ:Tab) (t:Nat) (cs:List Value) (o:Nat):Option Value :=
 match bL τ t with
 | some i=>match i.agg with
  | true=>some (.agg ((cs.drop o).take i.size).toArray)
  | false=>cs[o]?
 | none=>none
def evs (m:Env):List (Nat×Operand)->Option (List (Nat×Value))
 | []=>some []
 | (i,x)::r=>match ev m x,evs m r with
  | some v,some l=>some ((i,v)::l)
  | _,_=>none
def evl (m:Env):List Operand->Option (List Value)
 | []=>some []
 | x::r=>match ev m x,evl m r with
  | some v,some l=>some (v::l)
  | _,_=>none
def spl (τ:Tab):List (Nat×Nat)->Option (List (Nat×Nat))
 | []=>some []
 | (t,o)::r=>match bL τ t,spl τ r with
  | some j,some l=>some ((o,j.size)::l)
  | _,_=>none
def imax (a b:Int):Int:=if b > a then b else a
def cB (a b:Int):Int:=if b < a then b else a
theorem vm (a b:Int):imax a b=max a b:=by unfold imax; omega
theorem nV (a b:Int):cB a b=min a b:=by unfold cB; omega
def mx2 (x y:Value):Option Value:=match x,y with | .int k a,.int _ b=>some (.int k (if b > a then b else a)) | _,_=>none
def mn2 (x y:Value):Option Value:=match x,y with | .int k a,.int _ b=>some (.int k (if b < a then b else a)) | _,_=>none
def TK.FE:TK->Bool
 | .slice _=>true
 | _=>false
def TK.isStr:TK->Bool
 | .string=>true
 | _=>false
def td (τ:Tab) (f:TK->Bool):List Nat->Bool
 | t::_=>match bL τ t with
  | some i=>f i.k
  | none=>false
 | []=>false
def tf (τ:Tab) (b:Builtin) (ts:List Nat) (vs:List Value):Option Value :=
 match b,vs with
 | .len,[.string s]=>match td τ TK.isStr ts with
  | true=>some (.int .i64 s.size)
  | false=>none
 | .len,[.slice _ n _]=>match td τ TK.FE ts with
  | true=>some (.int .i64 n)
  | false=>none
 | .max,[x,y]=>mx2 x y
 | .min,[x,y]=>mn2 x y
 | .cap,[.slice _ _ c]=>match td τ TK.FE ts with
  | true=>some (.int .i64 c)
  | false=>none
 | _,_=>none
def DY (f:Nat->Value->Value->Option Bool) (τ:Tab) (xs ys:List Value):List (Nat×Nat)->Option Bool
 | []=>some true
 | (t,o)::r=>match AB τ t xs o,AB τ t ys o with
  | some a,some b=>match f t a b,DY f τ xs ys r with
   | some x,some y=>some (x && y)
   | _,_=>none
  | _,_=>none
def qeq (τ:Tab):Nat->Nat->Value->Value->Option Bool
 | 0,_,_,_=>none
 | d+1,t,x,y=>match bL τ t with
  | some { k:= .bool,.. }=>match x,y with
   | .bool a,.bool b=>some (a == b)
   | _,_=>none
  | some { k:= .int _,.. }=>match x,y with
   | .int k a,.int k' b=>match ikb k k' with
    | true=>some (a == b)
    | false=>none
   | _,_=>none
  | some { k:= .string,.. }=>match x,y with
   | .string a,.string b=>some (a.data.toList == b.data.toList)
   | _,_=>none
  | some { k:= .struct fs,eq:=true,.. }=>match x,y with
   | .agg xs,.agg ys=>DY (qeq τ d) τ xs.toList ys.toList fs
   | _,_=>none
  | _=>none
def FF (τ:Tab) (op:BinOp) (t:Nat) (x y:Value):Option Value :=
 match x,y with
 | .agg _,.agg _=>match op with
  | .eql=>match bL τ t,qeq τ 9 t x y with
   | some { eq:=true,.. },some b=>some (.bool b)
   | _,_=>none
  | .neq=>match bL τ t,qeq τ 9 t x y with
   | some { eq:=true,.. },some b=>some (.bool (!b))
   | _,_=>none
  | _=>none
 | _,_=>none
def Br (τ:Tab) (op:BinOp) (t:Nat) (x y:Value):Option Value :=
 match x,y with
 | .bool a,.bool b=>match bL τ t with
  | some { k:= .bool,.. }=>match op with
   | .eql=>some (.bool (a == b))
   | .neq=>some (.bool (!(a == b)))
   | _=>none
  | _=>none
 | _,_=>none
inductive VK where
 | agg | bool | other
def GI:Value->VK
 | .agg _=> .agg
 | .bool _=> .bool
 | _=> .other
def qx (τ:Tab) (m:Env):Op->Option Value
 | .move x | .assign x=>ev m x
 | .pick c a b=>match ev m c with
  | some (.bool true)=>ev m a
  | some (.bool false)=>ev m b
  | _=>none
 | .binOp op t x y _=>match ev m x,ev m y with
  | some v,some u=>match GI v with
   | .agg=>FF τ op t v u
   | .bool=>Br τ op t v u
   | .other=>FD op (BinOp.con op y) v u
  | _,_=>none
 | .unOp op _ x=>match ev m x with
  | some v=>qun op v
  | none=>none
 | .convert s d x=>match bL τ s,bL τ d,ev m x with
  | some { k:= .int _,.. },some { k:= .int k,.. },some (.int _ n)=>some (.int k (k.wrap n))
  | some { k:= .string,.. },some { k:= .string,.. },some (.string s)=>some (.string s)
  | _,_,_=>none
 | .fieldAddr s x f=>match bL τ s,ev m x with
  | some { k:= .struct fs,.. },some (.pointer (some ⟨g,o,none⟩))=>match fs[f]? with
   | some (t,o')=>match bL τ t with
    | some { size:=_+1,.. }=>some (.pointer (some ⟨g,o+o',none⟩))
    | _=>none
   | none=>none
  | _,_=>none
 | .field s x f=>match bL τ s,ev m x with
  | some { k:= .struct fs,.. },some (.agg cs)=>match fs[f]? with
   | some (t,o)=>AB τ t cs.toList o
   | none=>none
  | _,_=>none
 | .build t ps=>match bL τ t,evs m ps.toList with
  | some { k:= .struct fs,zero:=z,.. },some l=>match spl τ fs with
   | some pl=>match s9 (pl[·]?) z l with
    | some cs=>some (.agg cs.toArray)
    | none=>none
   | none=>none
  | some { k:= .array _ e,zero:=z,.. },some l=>match bL τ e with
   | some te=>match s9 (λi=>some (i*te.size,te.size)) z l with
    | some cs=>some (.agg cs.toArray)
    | none=>none
   | none=>none
  | _,_=>none
 | .indexAddr t x ix=>match bL τ t,ev m x,ev m ix with
  | some { k:= .array n e,.. },some (.pointer (some ⟨g,o,none⟩)),some (.int _ (.ofNat i))=>match Nat.blt i n,bL τ e with
   | true,some te=>some (.pointer (some ⟨g,o+i*te.size,none⟩))
   | _,_=>none
  | _,_,_=>none
 | .slice t x none none none=>match bL τ t,ev m x with
  | some { k:= .array (n+1) e,.. },some (.pointer (some ⟨g,o,none⟩))=>match bL τ e with
   | some _=>some (.slice (some ⟨g,o,none⟩) (n+1) (n+1))
   | none=>none
  | _,_=>none
 | .extract x i=>match ev m x with
  | some (.tuple vs)=>vs.toList[i]?
  | _=>none
 | .nilCheck x=>match ev m x with
  | some (.pointer (some a))=>some (.pointer (some a))
  | _=>none
 | .makeFunc fn f c=>match evl m f.toList,evl m c.toList with
  | some a,some b=>some (.func fn a.toArray b.toArray)
  | _,_=>none
 | .call { callee:= .builtin b,args:=as,argTypes:=ts }=>match evl m as.toList with
  | some vs=>tf τ b ts.toList vs
  | none=>none
 | _=>none
def ma (d:Option Nat) (v:Value) (m:Env):Env:=match d with
 | some d=>(d,v)::m
 | none=>m
def wg (ops:List Oper) (m:Env) (o:Oper):Option Bool :=
 match o.guard with
 | none=>some true
 | some (j,b)=>match ops[j]? with
  | some oj=>match oj.dst with
   | some d=>match look m d with
    | some (.bool true)=>some b
    | some (.bool false)=>some (!b)
    | some (.tuple _)=>some false
    | _=>none
   | none=>none
  | none=>none
theorem Fr.bool {n:Nd} {m:Env} {a:Act} (hf:Fr n m a) {d:Nat} {c:Bool} (h:look m d=some (.bool c)):a.tmps[d]?=some (.bool c):=by
 have h1:=hf.at_ d _ h
 rw [Array.getD_eq_getD_getElem?] at h1
 cases h2:a.tmps[d]? with
 | none=>rw [h2] at h1; simp [undef] at h1
 | some v=>rw [h2] at h1; simp at h1; rw [h1]
theorem kx {n:Nd} {ops:Array Oper} {m:Env} {o:Oper} {b:Bool} {a:Act} (h:wg ops.toList m o=some b) (hf:Fr n m a):Region.wanted o (yielded ops a.tmps)=b:=by
 unfold wg at h
 unfold Region.wanted
 split at h
 ·rename_i hg; rw [hg]; injection h
 ·rename_i j c hg
  rw [hg]
  split at h
  ·rename_i oj hj
   split at h
   ·rename_i d hd
    have hy: ∀ u,look m d=some (.bool u)->yielded ops a.tmps j=some u:=λu hu=>by
     have e1:ops[j]?=some oj:=by simpa using hj
     simp [yielded,e1,hd,hf.bool hu]
    split at h
    ·rename_i hl; injection h with h; subst h; show (yielded ops a.tmps j == some c)=_; rw [hy _ hl]; cases c <;> rfl
    ·rename_i hl; injection h with h; subst h; show (yielded ops a.tmps j == some c)=_; rw [hy _ hl]; cases c <;> rfl
    ·rename_i vs hl
     injection h with h
     subst h
     have h1:=hf.at_ _ _ hl
     have e1:ops[j]?=some oj:=by simpa using hj
     have hn:yielded ops a.tmps j=none:=by
      simp only [yielded,e1,hd,Option.bind_some]
      rw [Array.getD_eq_getD_getElem?] at h1
      cases h2:a.tmps[d]? with
      | none=>rfl
      | some v=>rw [h2] at h1; simp at h1; rw [h1]
     show (yielded ops a.tmps j == some c)=false
     rw [hn]
     rfl
    ·cases h
   ·cases h
  ·cases h
def dok (d:Option Nat) (n:Nat):Bool:=match d with
 | some d=>Nat.blt d n
 | none=>true
theorem fW {a b:Nat} (h:Nat.blt a b=true):a < b:=Nat.lt_of_lt_of_le (Nat.lt_succ_self a) (Nat.le_of_ble_eq_true h)
theorem Fr.sH {n:Nd} {m:Env} {a:Act} (hf:Fr n m a) {d:Option Nat} (h:dok d n.n=true) (v:Value):Fr n (ma d v m) (a.put d v):=by
 cases d with
 | none=>exact hf.Bp _
 | some d=>exact hf.put _ (fW h)
def yv (τ:Tab) (n:Nat) (ops:List Oper):Nat->List Oper->Env->Option (Env×List Oper)
 | 0,l,m=>some (m,l)
 | _+1,[],_=>none
 | k+1,o::l,m=>match wg ops m o with
  | some true=>match o.dst with
   | some d=>match Nat.blt d n,qx τ m o.op with
    | true,some v=>yv τ n ops k l ((d,v)::m)
    | _,_=>none
   | none=>none
  | some false=>match dok o.dst n with
   | true=>yv τ n ops k l (ma o.dst undef m)
   | false=>none
  | none=>none
theorem jz.info {P:Program} {τ:Tab} (h:jz P τ) {t:Nat} {i:TI} (hi:bL τ t=some i): ∃ (d:TypeDesc) (f:TypeInfo) (z:Value),P.underlying t=some d/\P.info? t=some f/\i.k.fits d/\f.size=i.size/\f.bytes=i.bytes/\f.zero=some z/\z.cells.toList=i.zero/\i.agg=i.k.isAgg/\(i.k.isAgg=false -> ∀ a,d ≠ .struct a)/\(i.k.isAgg=false -> ∀ a b,d ≠ .array a b)/\(i.eq=true->Fz P t):=h t i hi
theorem uQ {P:Program} {τ:Tab} (h:jz P τ) {t:Nat} {i:TI} (hi:bL τ t=some i) (w:World):(isAgg t).run P w = .ok i.agg w:=by
 obtain ⟨d,f,z,hd,hf,hk,_,_,_,_,ha,h1,h2,_⟩:=h.info hi
 simp only [isAgg,Sem.run_bind,run_underlying hd,Result.andThen_ok]
 rw [ha]
 cases hb:i.k.isAgg with
 | true =>
  cases hk':i.k <;> rw [hk'] at hb hk <;> first | cases hb | skip
  ·obtain ⟨a,rfl,_⟩:=hk; rfl
  ·cases hk; rfl
 | false =>
  split
  ·exact absurd rfl (h1 hb _)
  ·exact absurd rfl (h2 hb _ _)
  ·rfl
theorem run_sizeOf {P:Program} {τ:Tab} (h:jz P τ) {t:Nat} {i:TI} (hi:bL τ t=some i) (w:World):(sizeOf t).run P w = .ok i.size w:=by
 obtain ⟨d,f,z,hd,hf,hk,hs,_⟩:=h.info hi
 simp [sizeOf,typeInfo,hf,hs]
theorem p9 {P:Program} {τ:Tab} (h:jz P τ) {t o:Nat} {cs:Array Value} {v:Value} (hv:AB τ t cs.toList o=some v) (w:World):(part t cs o).run P w = .ok v w:=by
 unfold AB at hv
 split at hv
 ·rename_i i hi
  simp only [part,Sem.run_bind,uQ h hi,Result.andThen_ok]
  cases ha:i.agg with
  | true =>
   rw [ha] at hv
   injection hv with hv
   subst hv
   simp only [if_true,Sem.run_bind,run_sizeOf h hi,Result.andThen_ok,Sem.run_pure]
   congr 2
   apply Array.ext'
   simp
  | false =>
   rw [ha] at hv
   simp only [Bool.false_eq_true,if_false]
   have:cs[o]?=some v:=by simpa using hv
   rw [this]
   rfl
 ·cases hv
theorem uR (off:Nat): ∀ (vs:List Value) (k:Nat) (cs:Array Value),((vs.zipIdx k).foldl (λ(cs:Array Value) (p:Value×Nat)=>cs.setIfInBounds (off+p.2) p.1) cs).toList=sG cs.toList (off+k) vs
 | [],_,_=>rfl
 | v::vs,k,cs=>by
  simp only [List.zipIdx_cons,List.foldl_cons,sG]
  rw [uR off vs (k+1)]
  simp [Nat.add_assoc]
theorem wT: ∀ (vs:List Value) (o:Nat),sG [] o vs=[]
 | [],_=>rfl
 | v::vs,o=>by simp only [sG,List.set_nil]; exact wT vs (o+1)
theorem rz (c:Value): ∀ (vs cs:List Value) (o:Nat),sG (c::cs) (o+1) vs=c::sG cs o vs
 | [],_,_=>rfl
 | v::vs,cs,o=>by simp only [sG,List.set_cons_succ]; exact rz c vs (cs.set o v) (o+1)
theorem vn: ∀ (cs:List Value) (o:Nat) (vs:List Value),wS cs o vs=sG cs o vs
 | [],_,[]=>rfl
 | _::_,_,[]=>by simp only [wS,sG]
 | [],o,v::vs=>by simp only [wS]; exact (wT (v::vs) o).symm
 | c::cs,0,v::vs=>by
  simp only [wS,sG,List.set_cons_zero]
  rw [rz,vn cs 0 vs]
 | c::cs,o+1,v::vs=>by
  simp only [wS]
  rw [vn cs o (v::vs),rz]
theorem sQ {pl:Nat->Option (Nat×Nat)}: ∀ {l:List (Nat×Value)} {cs:Array Value} {r:List Value},s9 pl cs.toList l=some r -> ∃ a:Array Value,Instr.fill pl cs l=some a/\a.toList=r
 | [],cs,r,h=>⟨cs,rfl,Option.some.inj h⟩
 | (i,v)::l,cs,r,h=>by
  simp only [s9] at h
  split at h
  ·cases h
  ·rename_i o s hp
   split at h
   ·rename_i h1 h2
    have e1:=Nat.eq_of_beq_eq_true h1
    have e2:=Nat.le_of_ble_eq_true h2
    simp only [Instr.fill,hp]
    have e1':v.cells.size=s:=by simpa [vc] using e1
    have e2': ¬ (v.cells.size≠s\/o+v.cells.size > cs.size):=by
     rw [e1']
     simp at e2
     omega
    rw [if_neg (by simpa using e2')]
    have e3:=uR o v.cells.toList 0 cs
    have e4:(v.cells.zipIdx.foldl (λ(cs:Array Value) (p:Value×Nat)=>cs.setIfInBounds (o+p.2) p.1) cs).toList=sG cs.toList o (vc v):=by
     rw [<- Array.foldl_toList,Array.toList_zipIdx]
     exact e3
    rw [vn,<- e4] at h
    exact sQ h
   ·cases h
theorem rA {n:Nd} {m:Env} {a:Act} (hf:Fr n m a): ∀ {l:List Operand} {vs:List Value},evl m l=some vs->l.map a.eval=vs
 | [],vs,h=>Option.some.inj h
 | x::l,vs,h=>by
  simp only [evl] at h
  split at h
  ·rename_i v l' hv hl
   injection h with h
   subst h
   simp [hf.ev hv,rA hf hl]
  ·cases h
theorem vo {n:Nd} {m:Env} {a:Act} (hf:Fr n m a): ∀ {l:List (Nat×Operand)} {vs:List (Nat×Value)},evs m l=some vs->l.map (λp=>(p.1,a.eval p.2))=vs
 | [],vs,h=>Option.some.inj h
 | (i,x)::l,vs,h=>by
  simp only [evs] at h
  split at h
  ·rename_i v l' hv hl
   injection h with h
   subst h
   simp [hf.ev hv,vo hf hl]
  ·cases h
theorem sI {P:Program} (op:BinOp) (t:Nat) (x y:Operand) (k k':IntKind) (a b:Int) (w:World):(eqGuard op t x y (.int k a) (.int k' b)).run P w = .ok () w:=by
 unfold eqGuard
 split <;> rfl
theorem sJ {P:Program} (op:BinOp) (t:Nat) (x y:Operand) (a b:ByteArray) (w:World):(eqGuard op t x y (.string a) (.string b)).run P w = .ok () w:=by
 unfold eqGuard
 split <;> rfl
theorem Bs {P:Program} {op:BinOp} {t:Nat} {k:IntKind} {a b:Int} {v:Value} (h:FA op k a b=some v) (w:World):(binOp op t (.int k a) (.int k b)).run P w = .ok v w:=by
 cases op <;> simp only [FA] at h <;> first | cases h; done | (injection h with h; subst h)
 all_goals first
  | (simp [binOp,Op.intArith]; done)
  | (simp [binOp,Op.intCmp]; done)
  | (simp [binOp,Op.intBits,Go.bits]; done)
theorem Bt {P:Program} {op:BinOp} {t:Nat} {k k':IntKind} {a b:Int} {v:Value} (hc: ∃ x,BinOp.con op x=true) (h:FB op k a b=some v) (hk:ikb k k'=true\/op = .shl\/op = .shr) (w:World):(binOp op t (.int k a) (.int k' b)).run P w = .ok v w:=by
 unfold FB at h
 split at h
 ·injection h with h
  subst h
  rcases hk with hk | hk | hk <;> first | cases hk; done | skip
  obtain rfl:=ry hk
  rename_i c
  have hne: ¬ (Int.ofNat (c+1)=0):=by simp; omega
  simp only [binOp,ne_eq,not_true_eq_false,if_false,Op.intDiv]
  rw [if_neg hne]
  rfl
 ·injection h with h
  subst h
  rcases hk with hk | hk | hk <;> first | cases hk; done | skip
  obtain rfl:=ry hk
  rename_i c
  have hne: ¬ (Int.ofNat (c+1)=0):=by simp; omega
  simp only [binOp,ne_eq,not_true_eq_false,if_false,Op.intDiv]
  rw [if_neg hne]
  rfl
 ·injection h with h
  subst h
  rename_i c
  have hne: ¬ (Int.ofNat c < 0):=by simp
  simp only [binOp,Op.shift]
  rw [if_neg hne]
  simp
 ·injection h with h
  subst h
  rename_i c
  have hne: ¬ (Int.ofNat c < 0):=by simp
  simp only [binOp,Op.shift]
  rw [if_neg hne]
  simp
 ·cases h
theorem Bu {P:Program} {op:BinOp} {t:Nat} {a b:ByteArray} {v:Value} (h:FC op a b=some v) (w:World):(binOp op t (.string a) (.string b)).run P w = .ok v w:=by
 cases op <;> simp only [FC] at h <;> first | cases h; done | (injection h with h; subst h; simp [binOp,Op.stringOp])
theorem DZ {P:Program} {op:BinOp} {t:Nat} {x y:Operand} {v u r:Value} (h:FD op (BinOp.con op y) v u=some r) (w:World):(do eqGuard op t x y v u; binOp op t v u:Sem Value).run P w = .ok r w:=by
 unfold FD at h
 split at h
 ·rename_i k a k' b
  simp only [Sem.run_bind,sI,Result.andThen_ok]
  cases hc:BinOp.con op y with
  | true =>
   rw [hc] at h
   simp only at h
   split at h
   ·rename_i hk
    refine Bt ⟨y,hc⟩ h ?_ w
    rcases Bool.or_eq_true_iff.1 hk with hk | hk
    ·exact .inl hk
    ·cases op <;> first | cases hk; done | exact .inr (.inl rfl) | exact .inr (.inr rfl)
   ·cases h
  | false =>
   rw [hc] at h
   simp only at h
   split at h
   ·rename_i hk
    obtain rfl:=ry hk
    exact Bs h w
   ·cases h
 ·simp only [Sem.run_bind,sJ,Result.andThen_ok]
  exact Bu h w
 ·cases h
theorem D1 (a b:ByteArray):(a == b)=(a.data.toList == b.data.toList):=by
 cases a with
 | mk a=>cases b with
  | mk b =>
   show (a == b)=(a.toList == b.toList)
   cases a; cases b; simp
theorem zq {P : Program} {τ : Tab} (hτ : jz P τ) {f : Nat -> Value -> Value -> Option Bool} {k : Nat} (ih : ∀ t x y b w, f t x y = some b -> (Op.equalIn k t x y).run P w = .ok b w) {xs ys : Array Value} : ∀ (fs : List Field) (b : Bool) (w : World), (∀ g ∈ fs, (g.name == "_") = false) -> DY f τ xs.toList ys.toList (fs.map λg => (g.type, g.offset)) = some b -> (Op.eqFields k xs ys fs).run P w = .ok b w
 | [],b,w,_,h=>by
  injection h with h
  subst h
  simp [Op.eqFields]
 | g::fs,b,w,hn,h=>by
  simp only [List.map_cons,DY] at h
  split at h
  ·rename_i a c ha hc
   split at h
   ·rename_i x y hx hy
    injection h with h
    subst h
    have hn' : g.name ≠ "_" := by simpa using hn g (by simp)
    have h1:=p9 hτ ha w
    have h2:=p9 hτ hc w
    have h3:=ih _ _ _ _ w hx
    have h4:=zq hτ ih fs y w (λg' hg'=>hn g' (by simp [hg'])) hy
    rw [Op.eqFields]
    simp only [if_pos hn',Sem.run_bind,h1,h2,h3,Result.andThen_ok]
    cases x
    ·simp
    ·simpa using h4
   ·cases h
  ·cases h
theorem yw {P:Program} {τ:Tab} (hτ:jz P τ): ∀ (d:Nat) (t:Nat) (x y:Value) (b:Bool) (w:World),qeq τ d t x y=some b -> ∀ k,d<=k->(Op.equalIn k t x y).run P w = .ok b w
 | 0,t,x,y,b,w,h,k,_=>by cases h
 | d+1,t,x,y,b,w,h,k,hk=>by
  obtain ⟨k,rfl⟩: ∃ j,k=j+1:=⟨k - 1,by omega⟩
  simp only [qeq] at h
  split at h
  ·rename_i hi
   obtain ⟨dd,_,_,hd,_,hf,_⟩:=hτ.info hi
   cases hf
   split at h
   ·injection h with h
    subst h
    simp [Op.equalIn,run_underlying hd]
   ·cases h
  ·rename_i hi
   obtain ⟨dd,_,_,hd,_,hf,_⟩:=hτ.info hi
   cases hf
   split at h
   ·split at h
    ·rename_i hk'
     injection h with h
     subst h
     obtain rfl:=ry hk'
     simp [Op.equalIn,run_underlying hd]
    ·cases h
   ·cases h
  ·rename_i hi
   obtain ⟨dd,_,_,hd,_,hf,_⟩:=hτ.info hi
   cases hf
   split at h
   ·injection h with h
    subst h
    simp only [Op.equalIn,Sem.run_bind,run_underlying hd,Result.andThen_ok,Sem.run_pure,D1]
   ·cases h
  ·rename_i fs _ _ _ _ hi
   obtain ⟨dd,_,_,hd,_,hf,_,_,_,_,_,_,_,he⟩:=hτ.info hi
   obtain ⟨fa,rfl,hfa⟩:=hf
   obtain ⟨he1,he2⟩:=he rfl
   obtain ⟨hn,hs⟩:=he1 fa hd
   split at h
   ·rename_i xs ys
    rw [<- hfa] at h
    have h1:=zq hτ (k:=k) (λt x y b w h=>yw hτ d t x y b w h k (by omega)) fa.toList b w hn h
    have hf:P.fieldsOf t=fa:=by simp [Program.fieldsOf,hd]
    rw [run_equalIn_struct (P:=P) w k t xs ys (by rw [hf]; exact hd) hs,hf]
    exact h1
   ·cases h
  ·cases h
theorem D2 {P:Program} {τ:Tab} (hτ:jz P τ) {op:BinOp} {t:Nat} {x y:Operand} {v u r:Value} (h:FF τ op t v u=some r) (w:World):(do eqGuard op t x y v u; binOp op t v u:Sem Value).run P w = .ok r w:=by
 have guard: ∀ (i:TI) (xs ys:Array Value),bL τ t=some i->i.eq=true->(eqGuard op t x y (.agg xs) (.agg ys)).run P w = .ok () w:=by
  intro i xs ys hi he
  obtain ⟨_,_,_,_,_,_,_,_,_,_,_,_,_,he'⟩:=hτ.info hi
  have h2:=(he' he).2
  cases op <;> simp [eqGuard,program,Sem.run,h2]
 unfold FF at h
 split at h
 ·rename_i xs ys
  split at h
  ·split at h
   ·rename_i hi hq
    injection h with h
    subst h
    simp only [Sem.run_bind,guard _ _ _ hi rfl,Result.andThen_ok,binOp,Op.equal,yw hτ 9 _ _ _ _ w hq _ (by decide:9<=Op.maxDepth),Sem.run_pure]
   ·cases h
  ·split at h
   ·rename_i hi hq
    injection h with h
    subst h
    simp only [Sem.run_bind,guard _ _ _ hi rfl,Result.andThen_ok,binOp,Op.equal,yw hτ 9 _ _ _ _ w hq _ (by decide:9<=Op.maxDepth),Sem.run_pure]
   ·cases h
  ·cases h
 ·cases h
theorem Bv {P:Program} {τ:Tab} (hτ:jz P τ) {op:BinOp} {t:Nat} {x y:Operand} {v u r:Value} (h:Br τ op t v u=some r) (w:World):(do eqGuard op t x y v u; binOp op t v u:Sem Value).run P w = .ok r w:=by
 unfold Br at h
 split at h
 ·rename_i a b
  split at h
  ·rename_i hi
   obtain ⟨dd,_,_,hd,_,hf,_⟩:=hτ.info hi
   cases hf
   have hg:(eqGuard op t x y (.bool a) (.bool b)).run P w = .ok () w:=by
    unfold eqGuard
    split <;> rfl
   have he: ∀ k,(Op.equalIn (k+1) t (.bool a) (.bool b)).run P w = .ok (a == b) w:=λk=>by simp [Op.equalIn,run_underlying hd]
   have he2:(Op.equal t (.bool a) (.bool b)).run P w = .ok (a == b) w:=he 9999
   split at h
   ·injection h with h
    subst h
    simp only [Sem.run_bind,hg,Result.andThen_ok,binOp,he2,Sem.run_pure]
   ·injection h with h
    subst h
    simp only [Sem.run_bind,hg,Result.andThen_ok,binOp,he2,Sem.run_pure]
   ·cases h
  ·cases h
 ·cases h
theorem th {P:Program} {τ:Tab} (hτ:jz P τ) {f:TK->Bool} {ts:Array Nat} (h:td τ f ts.toList=true): ∃ t i d,ts[0]?=some t/\f i=true/\P.underlying t=some d/\TK.fits i d:=by
 unfold td at h
 split at h
 ·rename_i t l e
  split at h
  ·rename_i i hi
   obtain ⟨d,_,_,hd,_,hk,_⟩:=hτ.info hi
   exact ⟨t,i.k,d,by rw [<- Array.getElem?_toList,e]; rfl,h,hd,hk⟩
  ·cases h
 ·cases h
theorem AD {P:Program} {τ:Tab} (hτ:jz P τ) {ts:Array Nat} (h:td τ TK.isStr ts.toList=true): ∃ t,ts[0]?=some t/\P.underlying t=some .string:=by
 obtain ⟨t,i,d,h1,h2,h3,h4⟩:=th hτ h
 cases i <;> first | cases h2; done | skip
 cases h4
 exact ⟨t,h1,h3⟩
theorem wU {P:Program} {τ:Tab} (hτ:jz P τ) {ts:Array Nat} (h:td τ TK.FE ts.toList=true): ∃ t e,ts[0]?=some t/\P.underlying t=some (.slice e):=by
 obtain ⟨t,i,d,h1,h2,h3,h4⟩:=th hτ h
 cases i <;> first | cases h2; done | skip
 cases h4
 exact ⟨t,_,h1,h3⟩
theorem vp {P:Program} {τ:Tab} (hτ:jz P τ) {b:Builtin} {ts:Array Nat} {ty:Nat} {cs:Array Bool} {vs:List Value} {v:Value} (h:tf τ b ts.toList vs=some v) (w:World):(builtin b ts ty cs vs.toArray).run P w = .ok (.value v) w:=by
 unfold tf at h
 split at h
 ·split at h
  ·rename_i hl
   injection h with h
   subst h
   obtain ⟨t,h1,h2⟩:=AD hτ hl
   simp [builtin,Builtin.len_,h1,run_underlying h2,goInt]
  ·cases h
 ·split at h
  ·rename_i hl
   injection h with h
   subst h
   obtain ⟨t,e,h1,h2⟩:=wU hτ hl
   simp [builtin,Builtin.len_,h1,run_underlying h2,goInt]
  ·cases h
 ·rename_i x y
  unfold mx2 at h
  split at h
  ·injection h with h
   subst h
   simp [builtin,Builtin.max_,Builtin.max2]
  ·cases h
 ·rename_i x y
  unfold mn2 at h
  split at h
  ·injection h with h
   subst h
   simp [builtin,Builtin.min_,Builtin.min2]
  ·cases h
 ·split at h
  ·rename_i hl
   injection h with h
   subst h
   obtain ⟨t,e,h1,h2⟩:=wU hτ hl
   simp [builtin,Builtin.cap_,h1,run_underlying h2,goInt]
  ·cases h
 ·cases h
theorem Bx {P:Program} {τ:Tab} (hτ:jz P τ): ∀ {l:List Field} {pl:List (Nat×Nat)},spl τ (l.map λf=>(f.type,f.offset))=some pl->l.mapM (λf=>(P.info? f.type).map λi=>(f.offset,i.size))=some pl
 | [],pl,h=>h
 | f::l,pl,h=>by
  simp only [List.map_cons,spl] at h
  split at h
  ·rename_i j r hj hr
   injection h with h
   subst h
   obtain ⟨_,fi,_,_,hfi,_,hsz,_⟩:=hτ.info hj
   simp [List.mapM_cons,hfi,hsz,Bx hτ hr]
  ·cases h
theorem By {P:Program} {τ:Tab} (hτ:jz P τ) {n:Nd} {m:Env} {a:Act} (hf:Fr n m a) {o:Oper} {v:Value} (h:qx τ m o.op=some v) (w:World):(execOp a.eval o).run P w = .ok (.value v) w:=by
 obtain ⟨dst,op,ty,pos,aft,gd⟩:=o
 simp only at h
 have hv0: ∃ v0,v0=v:=⟨v,rfl⟩
 cases op with
 | move x=>simp only [qx] at h; simp [execOp,hf.ev h]
 | assign x=>simp only [qx] at h; simp [execOp,hf.ev h]
 | pick c x y =>
  simp only [qx] at h
  split at h
  ·rename_i hc
   simp [execOp,hf.ev hc,hf.ev h,asBool]
  ·rename_i hc
   simp [execOp,hf.ev hc,hf.ev h,asBool]
  ·cases h
 | binOp op xt x y yt =>
  simp only [qx] at h
  obtain ⟨v0,e0⟩:=hv0
  rw [<- e0]
  split at h
  ·rename_i v u hv hu
   have:(do eqGuard op xt x y v u; binOp op xt v u:Sem Value).run P w = .ok v0 w:=by
    rw [e0]
    split at h
    ·exact D2 hτ (x:=x) (y:=y) h w
    ·exact Bv hτ (x:=x) (y:=y) h w
    ·exact DZ (P:=P) (t:=xt) (x:=x) h w
   simp only [execOp,hf.ev hv,hf.ev hu,Sem.run_bind] at this ⊢
   rw [this]
   rfl
  ·cases h
 | unOp op xt x =>
  simp only [qx] at h
  split at h
  ·rename_i u hu
   simp only [execOp,hf.ev hu]
   unfold qun at h
   split at h
   ·injection h with h
    subst h
    simp [Op.unary,Op.intArith]
   ·injection h with h
    subst h
    simp [Op.unary]
   ·cases h
  ·cases h
 | convert s d x =>
  simp only [qx] at h
  split at h
  ·rename_i hs hi hx
   injection h with h
   subst h
   obtain ⟨dd,_,_,hd,_,hk,_⟩:=hτ.info hi
   obtain ⟨ds,_,_,hds,_,hks,_⟩:=hτ.info hs
   cases hk
   cases hks
   simp [execOp,hf.ev hx,convert,run_underlying hd,run_underlying hds,Conv.intToInt]
  ·rename_i hs hi hx
   injection h with h
   subst h
   obtain ⟨dd,_,_,hd,_,hk,_⟩:=hτ.info hi
   obtain ⟨ds,_,_,hds,_,hks,_⟩:=hτ.info hs
   cases hk
   cases hks
   simp [execOp,hf.ev hx,convert,run_underlying hd,run_underlying hds]
  ·cases h
 | fieldAddr s x f =>
  simp only [qx] at h
  split at h
  ·rename_i hi hx
   split at h
   ·rename_i t o' hfs
    split at h
    ·rename_i hj
     injection h with h
     subst h
     obtain ⟨dd,_,_,hd,_,⟨fa,rfl,hfa⟩,_⟩:=hτ.info hi
     have hg: ∃ f0:Field,fa[f]?=some f0/\f0.type=t/\f0.offset=o':=by
      rw [<- hfa] at hfs
      simp only [List.getElem?_map,Option.map_eq_some_iff,Prod.mk.injEq] at hfs
      obtain ⟨f0,h1,h2,h3⟩:=hfs
      exact ⟨f0,by simpa using h1,h2,h3⟩
     obtain ⟨f0,h1,h2,h3⟩:=hg
     have hsz:=run_sizeOf (P:=P) hτ hj w
     simp only [execOp,hf.ev hx,Instr.fieldAt,Sem.run_bind,run_underlying hd,Result.andThen_ok,h1,Instr.sureAddr,Sem.run_pure,fieldPlace,h2,hsz,h3]
     rw [if_neg (by omega)]
     simp only [Sem.run_pure,Result.andThen_ok,Addr.add]
     split <;> simp_all
    ·cases h
   ·cases h
  ·cases h
 | field s x f =>
  simp only [qx] at h
  split at h
  ·rename_i hi hx
   split at h
   ·rename_i t o' hfs
    obtain ⟨dd,_,_,hd,_,⟨fa,rfl,hfa⟩,_⟩:=hτ.info hi
    have hg: ∃ f0:Field,fa[f]?=some f0/\f0.type=t/\f0.offset=o':=by
     rw [<- hfa] at hfs
     simp only [List.getElem?_map,Option.map_eq_some_iff,Prod.mk.injEq] at hfs
     obtain ⟨f0,h1,h2,h3⟩:=hfs
     exact ⟨f0,by simpa using h1,h2,h3⟩
    obtain ⟨f0,h1,h2,h3⟩:=hg
    simp only [execOp,hf.ev hx,Instr.field,Sem.run_bind,run_underlying hd,Result.andThen_ok,h1,asAgg,Sem.run_pure,h2,h3,p9 hτ h]
   ·cases h
  ·cases h
 | build t ps =>
  simp only [qx] at h
  split at h
  ·rename_i fs _ _ _ _ _ hi hl
   split at h
   ·rename_i pl hpl
    split at h
    ·rename_i cs hb
     injection h with h
     subst h
     obtain ⟨dd,f1,z1,hd,hinf,⟨fa,rfl,hfa⟩,_,_,hz,hzc,_⟩:=hτ.info hi
     have hev:=vo hf hl
     have hparts:(ps.map λ(x:Nat×Operand)=>(x.1,a.eval x.2)).toList=_:=(Array.toList_map).trans hev
     simp only at hzc
     rw [<- hzc] at hb
     obtain ⟨ra,hra,hrl⟩:=sQ hb
     have hpl':fa.toList.mapM (λf=>(P.info? f.type).map λi=>(f.offset,i.size))=some pl:=Bx hτ (by rw [hfa]; exact hpl)
     have hcells:ra=cs.toArray:=by apply Array.ext'; simpa using hrl
     have hbu:P.built t (ps.map λ(x:Nat×Operand)=>(x.1,a.eval x.2)).toList=some ra:=by
      rw [hparts]
      simp only [Program.built,hinf,hd,hz,hpl',List.getElem?_toArray]
      exact hra
     simp only [execOp,Sem.run_bind,run_build w t _ _ hbu,Result.andThen_ok,Sem.run_pure,hcells]
    ·cases h
   ·cases h
  ·rename_i nn e _ z _ _ _ _ l hi hl
   split at h
   ·rename_i te he
    split at h
    ·rename_i cs hb
     injection h with h
     subst h
     obtain ⟨dd,f1,z1,hd,hinf,hfa,_,_,hz,hzc,_⟩:=hτ.info hi
     cases hfa
     have hev:=vo hf hl
     have hparts:(ps.map λ(x:Nat×Operand)=>(x.1,a.eval x.2)).toList=_:=(Array.toList_map).trans hev
     simp only at hzc
     rw [<- hzc] at hb
     obtain ⟨ra,hra,hrl⟩:=sQ hb
     have hcells:ra=cs.toArray:=by apply Array.ext'; simpa using hrl
     have hr:(Instr.build t (ps.map λ(x:Nat×Operand)=>(x.1,a.eval x.2))).run P w = .ok (.agg ra) w:=by
      rw [<- hparts] at hra
      simp only [Instr.build,Sem.run_bind,zeroValue,typeInfo,program,Sem.run,hinf,hz,Result.andThen_ok,run_underlying hd,run_sizeOf hτ he,Sem.run_pure]
      simp only [Sem.run_pure,Result.andThen_ok,hra]
     simp only [execOp,Sem.run_bind,hr,Result.andThen_ok,Sem.run_pure,hcells]
    ·cases h
   ·cases h
  ·cases h
 | indexAddr t x ix =>
  simp only [qx] at h
  split at h
  ·rename_i hi hx hix
   split at h
   ·rename_i hlt he
    injection h with h
    subst h
    obtain ⟨dd,_,_,hd,_,hk,_⟩:=hτ.info hi
    cases hk
    have hlt:=fW hlt
    simp only [execOp,hf.ev hx,hf.ev hix,Instr.indexAt,asIntOf,Instr.sureAddr,Sem.run_bind,Sem.run_pure,Result.andThen_ok,run_underlying hd]
    rw [if_pos ⟨Int.natCast_nonneg _,Int.ofNat_lt.2 hlt⟩]
    simp only [Sem.run_bind,run_sizeOf hτ he,Result.andThen_ok,Sem.run_pure,Addr.add,Int.toNat_natCast]
    split <;> simp_all
   ·cases h
  ·cases h
 | slice t x lo hi mx =>
  cases lo with
  | some _=>simp [qx] at h
  | none =>
  cases hi with
  | some _=>simp [qx] at h
  | none =>
  cases mx with
  | some _=>simp [qx] at h
  | none =>
   simp only [qx] at h
   split at h
   ·rename_i hi hx
    split at h
    ·rename_i he
     injection h with h
     subst h
     obtain ⟨dd,_,_,hd,_,hk,_⟩:=hτ.info hi
     cases hk
     simp only [execOp,hf.ev hx,Option.map_none,Instr.sliceAt,Sem.run_bind,run_underlying hd,Result.andThen_ok,Instr.sureAddr,Sem.run_pure,Instr.sliceBounds,run_sizeOf hτ he]
     simp [Addr.add]
    ·cases h
   ·cases h
 | extract x i =>
  simp only [qx] at h
  split at h
  ·rename_i vs hx
   have:vs[i]?=some v:=by simpa using h
   simp [execOp,hf.ev hx,Instr.extract,this]
  ·cases h
 | nilCheck x =>
  simp only [qx] at h
  split at h
  ·rename_i ad hx
   injection h with h
   subst h
   simp [execOp,hf.ev hx]
  ·cases h
 | makeFunc fn f c =>
  simp only [qx] at h
  split at h
  ·rename_i x y hx hy
   injection h with h
   subst h
   have h1:=rA hf hx
   have h2:=rA hf hy
   have h3:f.map a.eval=x.toArray:=by apply Array.ext'; simpa using h1
   have h4:c.map a.eval=y.toArray:=by apply Array.ext'; simpa using h2
   simp [execOp,Instr.makeFunc,h3,h4]
  ·cases h
 | call c =>
  obtain ⟨callee,args,ats⟩:=c
  cases callee with
  | builtin b =>
   simp only [qx] at h
   split at h
   ·rename_i vs hvs
    have h1:=rA hf hvs
    have h3:args.map a.eval=vs.toArray:=by apply Array.ext'; simpa using h1
    simp [execOp,resolve,invoke,h3,vp hτ h]
   ·cases h
  | value f=>simp [qx] at h
  | invoke r m=>simp [qx] at h
 | _=>simp [qx] at h
section
variable {G : Pg} {n : Nd} {K : Key} {Q : Exit -> Act -> World -> Prop} {m : Env} {S : List Ch} {I : List Im} {ops : Array Oper}
theorem sR: ∀ {k:Nat} {l:List Oper} {m m':Env} {l':List Oper},yv G.τ n.n ops.toList k l m=some (m',l')->L G n K ops Q l' m' S I->L G n K ops Q l m S I
 | 0,l,m,m',l',h,hl=>by
  simp only [yv,Option.some.injEq,Prod.mk.injEq] at h
  obtain ⟨rfl,rfl⟩:=h
  exact hl
 | k+1,[],m,m',l',h,hl=>by cases h
 | k+1,o::l,m,m',l',h,hl=>by
  simp only [yv] at h
  split at h
  ·rename_i hw
   split at h
   ·rename_i d hd
    split at h
    ·rename_i v hn hv
     intro A a w hf hs
     have hr:=By G.ok hf hv w
     unfold wpListIn
     rw [if_pos (kx hw hf)]
     refine ⟨λf _=>G.fn f,?_⟩
     rw [G.sem (s8 hr (by simp)),hr,Oper.uponIn_value,hd]
     exact sR h hl A _ w (hf.put v (fW hn)) hs
    ·cases h
   ·cases h
  ·rename_i hw
   split at h
   ·rename_i hn
    intro A a w hf hs
    unfold wpListIn
    rw [if_neg (by rw [kx hw hf]; decide)]
    refine ⟨λf _=>G.fn f,?_⟩
    exact sR h hl A _ w (hf.sH hn undef) hs
   ·cases h
  ·cases h
theorem L.q (k:Nat) {l l':List Oper} {m':Env} (h:yv G.τ n.n ops.toList k l m=some (m',l')) (hl:L G n K ops Q l' m' S I):L G n K ops Q l m S I:=sR h hl
end
def rem {α:Type _}:List α->Nat->Option (α×List α)
 | [],_=>none
 | x::l,0=>some (x,l)
 | x::l,i+1=>match rem l i with
  | some (c,r)=>some (c,x::r)
  | none=>none
def ext {α:Type _}:List α->List Nat->Option (List α×List α)
 | l,[]=>some ([],l)
 | l,i::r=>match rem l i with
  | some (a,l')=>match ext l' r with
   | some (p,q)=>some (a::p,q)
   | none=>none
  | none=>none
def pick {α:Type _} (l:List α):List Nat->Option (List α)
 | []=>some []
 | i::r=>match l[i]?,pick l r with
  | some a,some b=>some (a::b)
  | _,_=>none
theorem wV {α:Type _}: ∀ {l:List α} {i:Nat} {a:α} {r:List α},rem l i=some (a,r)->(a::r).Perm l
 | [],i,a,r,h=>by cases h
 | b::l,0,a,r,h=>by
  simp only [rem,Option.some.injEq,Prod.mk.injEq] at h
  obtain ⟨rfl,rfl⟩:=h
  exact List.Perm.refl _
 | b::l,i+1,a,r,h=>by
  simp only [rem] at h
  split at h
  ·rename_i c r' hr
   simp only [Option.some.injEq,Prod.mk.injEq] at h
   obtain ⟨rfl,rfl⟩:=h
   exact (List.Perm.swap b c _).trans (List.Perm.cons b (wV hr))
  ·cases h
theorem dC {α:Type _}: ∀ {is:List Nat} {l p q:List α},ext l is=some (p,q)->(p++q).Perm l
 | [],l,p,q,h=>by
  simp only [ext,Option.some.injEq,Prod.mk.injEq] at h
  obtain ⟨rfl,rfl⟩:=h
  exact List.Perm.refl _
 | i::is,l,p,q,h=>by
  simp only [ext] at h
  split at h
  ·rename_i a l' ha
   split at h
   ·rename_i p' q' hr
    simp only [Option.some.injEq,Prod.mk.injEq] at h
    obtain ⟨rfl,rfl⟩:=h
    exact (List.Perm.cons a (dC hr)).trans (wV ha)
   ·cases h
  ·cases h
theorem eF {α:Type _} {l:List α}: ∀ {is:List Nat} {p:List α},pick l is=some p -> ∀ x∈p,x∈l
 | [],p,h,x,hx=>by
  simp only [pick,Option.some.injEq] at h
  subst h
  cases hx
 | i::is,p,h,x,hx=>by
  simp only [pick] at h
  split at h
  ·rename_i a b ha hb
   injection h with h
   subst h
   rcases List.mem_cons.1 hx with rfl | hx
   ·exact List.mem_of_getElem? ha
   ·exact eF hb x hx
  ·cases h
theorem SS.fresh {A:eL} {w w':World} (hlt: ∀ b,A b->b < w.heap.size) {o:Obj} (hh:w'.heap=w.heap.push o) (ho:w'.os=w.os) (ht:w'.tape=w.tape) (hu:w'.output=w.output) (c:Ch) (hb: ∀ b,c.blk b->b=w.heap.size) (hc:c.ok A w'):SS ⟨w,A,Own []⟩ A [c] [] w':=by
 have hs:w'.heap.size=w.heap.size+1:=by rw [hh]; simp
 refine ⟨⟨λb h=>by have:=hlt b h; omega,?_,?_,List.pairwise_singleton _ _,λi hi=>by cases hi⟩,⟨ho,ht,hu,by show w.heap.size<=_; omega,?_,λ_ h=>h,λ_ h=> .inl h,?_⟩⟩
 ·intro d hd
  rw [List.mem_singleton.1 hd]
  exact hc
 ·intro d hd b hb2
  rw [List.mem_singleton.1 hd] at hb2
  obtain rfl:=hb b hb2
  exact ⟨by omega,λh=>Nat.lt_irrefl _ (hlt _ h)⟩
 ·intro b hb2 _
  rw [hh]
  exact Array.getElem?_push_lt hb2 |>.trans (Array.getElem?_eq_getElem hb2).symm
 ·rintro b ⟨d,hd,hb2⟩
  rw [List.mem_singleton.1 hd] at hb2
  have:=hb b hb2
  exact .inr (by show w.heap.size<=b; omega)
theorem SS.grown {A:eL} {w w':World} {c c':Ch} {J:List Im} (hs:St A [c] J w) {ob:Option Nat} (hg:w.grownBy w' ob) (hob: ∀ b,ob=some b->c.blk b) (hb: ∀ b,c'.blk b->(c.blk b\/w.heap.size<=b)/\b < w'.heap.size) (hc:c'.ok A w'):SS ⟨w,A,Own [c]⟩ A [c'] [] w':=by
 have hown:=hs.own c (List.mem_singleton.2 rfl)
 refine ⟨⟨λb h=>Nat.lt_of_lt_of_le (hs.lt b h) hg.size,?_,?_,List.pairwise_singleton _ _,λi hi=>by cases hi⟩,⟨hg.os,hg.tape,hg.output,hg.size,?_,λ_ h=>h,λ_ h=> .inl h,?_⟩⟩
 ·intro d hd
  rw [List.mem_singleton.1 hd]
  exact hc
 ·intro d hd b hb2
  rw [List.mem_singleton.1 hd] at hb2
  have h:=hb b hb2
  refine ⟨h.2,λhA=> ?_⟩
  rcases h.1 with h1 | h1
  ·exact (hown b h1).2 hA
  ·have:=hs.lt b hA; omega
 ·intro b hb2 hO
  exact hg.block b hb2 (λe=>hO ⟨c,List.mem_singleton.2 rfl,hob b e.symm⟩)
 ·rintro b ⟨d,hd,hb2⟩
  rw [List.mem_singleton.1 hd] at hb2
  rcases (hb b hb2).1 with h1 | h1
  ·exact .inl ⟨c,List.mem_singleton.2 rfl,h1⟩
  ·exact .inr h1
theorem SS.frz {K:Key} {A:eL} {c:Ch} {R:List Ch} {I:List Im} {w:World} {f:Im} (h:SS K A (c::R) I w) (hf: ∀ A w,c.ok A w->f.ok (λb=>A b\/c.blk b) w):SS K (λb=>A b\/c.blk b) R (f::I) w:=by
 have hd:=List.pairwise_cons.1 h.st.dis
 have hc:=h.st.own c (by simp)
 refine ⟨⟨?_,λd hd'=>d.st (λ_ h=> .inl h) (λ_ _=>rfl) (λ_ _=>rfl) (h.st.ch d (by simp [hd'])),?_,hd.2,?_⟩,⟨h.fx.os,h.fx.tape,h.fx.output,h.fx.size,h.fx.mR,λb hb=> .inl (h.fx.up b hb),?_,λb ⟨d,hd',e⟩=>h.fx.own b ⟨d,by simp [hd'],e⟩⟩⟩
 ·rintro b (hb | hb)
  ·exact h.st.lt b hb
  ·exact (hc b hb).1
 ·intro d hd' b hb
  have h1:=h.st.own d (by simp [hd']) b hb
  refine ⟨h1.1,?_⟩
  rintro (hA | hA)
  ·exact h1.2 hA
  ·exact hd.1 d hd' b hA hb
 ·intro i hi
  rcases List.mem_cons.1 hi with rfl | hi
  ·exact hf A w (h.st.ch c (by simp))
  ·exact i.st (λ_ h=> .inl h) (λ_ _=>rfl) (h.st.im i hi)
 ·rintro b (hb | hb)
  ·exact h.fx.dn b hb
  ·exact .inr (h.fx.own b ⟨c,by simp,hb⟩)
def Ch.box (g T:Nat) (vs:List Value):Ch where
 blk:=λb=>b=g
 ok:=λ_ w=>w.heap[g]?=some (.cells vs.toArray T (0,0))
 st:=λ_ _ hb h=>(hb g rfl).trans h
def od (τ:Tab) (t:Nat) (cs:List Value) (o:Nat):Option Value :=
 match bL τ t with
 | some i=>match i.agg with
  | true=>match Nat.ble (o+i.size) cs.length with
   | true=>some (.agg ((cs.drop o).take i.size).toArray)
   | false=>none
  | false=>cs[o]?
 | none=>none
theorem add_lit (g o j:Nat):(⟨g,o,none⟩:Addr).add j=⟨g,o+j,none⟩:=by unfold Addr.add; split <;> simp_all
theorem ky {P:Program} {τ:Tab} (hτ:jz P τ) {t g o:Nat} {cs:List Value} {v:Value} {w:World} (hv:od τ t cs 0=some v) (hc: ∀ j u,cs[j]?=some u->w.cell? ⟨g,o+j,none⟩=some u):(loadVar t ⟨g,o,none⟩).run P w = .ok v w:=by
 unfold od at hv
 split at hv
 ·rename_i i hi
  simp only [loadVar,Sem.run_bind,uQ hτ hi,Result.andThen_ok]
  cases ha:i.agg with
  | true =>
   rw [ha] at hv
   simp only at hv
   split at hv
   ·rename_i hle
    have hle:=Nat.le_of_ble_eq_true hle
    injection hv with hv
    subst hv
    simp only [if_true,Sem.run_bind,run_sizeOf hτ hi,Result.andThen_ok]
    have h1:(cs.take i.size).length=i.size:=by simp at hle ⊢; omega
    have h2:=run_loadCells_list (P:=P) w ⟨g,o,none⟩ (cs.take i.size) (λj u hu=>by
     rw [add_lit]
     refine hc j u ?_
     rw [List.getElem?_take] at hu
     split at hu
     ·exact hu
     ·cases hu)
    rw [h1] at h2
    rw [h2]
    simp
   ·cases hv
  | false =>
   rw [ha] at hv
   simp only [Bool.false_eq_true,if_false]
   have:=hc 0 v hv
   rw [Nat.add_zero] at this
   simp [load,Sem.run,this]
 ·cases hv
theorem nW {P:Program} {τ:Tab} (hτ:jz P τ) {t g o T:Nat} {v:Value} {i:TI} {cur:List Value} {w:World} (hi:bL τ t=some i) (hl:(vc v).length=i.size) (h1:(vc v).all Value.oneCell'=true) (hg:w.heap[g]?=some (.cells cur.toArray T (0,0))) (hfit:o+(vc v).length<=cur.length):(storeVar t ⟨g,o,none⟩ v).run P w = .ok () (w.setRow g (cur.take o++vc v++cur.drop (o+(vc v).length)).toArray):=by
 have hs:=run_storeCells_at P g o T (vc v) 0 cur.toArray w hg (by simpa using hfit) (λu hu=>List.all_eq_true.1 h1 u hu)
 have hl':v.cells.size=i.size:=by simpa [vc] using hl
 simp only [storeVar,Sem.run_bind,run_sizeOf hτ hi,Result.andThen_ok,hl',ne_eq,not_true_eq_false,if_false]
 simpa [vc] using hs
theorem tj {w:World} {g T:Nat} {cs:List Value} (h:w.heap[g]?=some (.cells cs.toArray T (0,0))) (o:Nat):w.cell? ⟨g,o,none⟩=cs[o]?:=by
 rw [cell_of_row w g o _ T (0,0) h]
 simp
section
variable {G : Pg} {n : Nd} {K : Key} {Q : Exit -> Act -> World -> Prop} {m : Env} {S : List Ch} {I : List Im} {ops : Array Oper} {o : Oper} {l : List Oper}
def nxv:Option Value->Value
 | some v=>v
 | none=>undef
def nx:Option Value->Next
 | some v=> .value v
 | none=> .skip
def Yl (G:Pg) (n:Nd) (m:Env) (C:List Ch) (I:List Im) (o:Oper) (v:Value):Prop:= ∀ A a w,Fr n m a->(∀ c∈C,c.ok A w)->(∀ f∈I,f.ok A w)->(execOp a.eval o).run G.P w = .ok (.value v) w
def Ac (G:Pg) (n:Nd) (m:Env) (o:Oper) (Sp:List Ch) (J:List Im) {σ:Type} (v:σ->Value) (S':σ->List Ch) (I':σ->List Im):Prop :=
 ∀ A a w (Kc:Act->World->Prop) (Q:Exit->Act->World->Prop),Fr n m a->St A Sp J w->(∀ x w' A',SS ⟨w,A,Own Sp⟩ A' (S' x) (I' x) w'->Kc (a.put o.dst (v x)) w')->o.wp G.P a w Kc Q/\o.wpIn G.F 0 G.P a w Kc Q
theorem Ac.run {Sp:List Ch} {J:List Im} {σ:Type} {v:σ->Option Value} {S':σ->List Ch} {I':σ->List Im} (h: ∀ A a w,Fr n m a->St A Sp J w -> ∃ x w' A',(execOp a.eval o).run G.P w = .ok (nx (v x)) w'/\SS ⟨w,A,Own Sp⟩ A' (S' x) (I' x) w'):Ac G n m o Sp J (λx=>nxv (v x)) S' I':=by
 intro A a w Kc Q hf hs hk
 obtain ⟨x,w',A',hr,h2⟩:=h A a w hf hs
 have h3:=hk x w' A' h2
 unfold Oper.wp Oper.wpIn
 rw [G.sem (s8 hr (λd=>by cases v x <;> simp [nx])),hr]
 cases hv:v x with
 | some u=>simp only [hv,nxv] at h3; exact ⟨h3,λf _=>G.fn f,h3⟩
 | none=>simp only [hv,nxv] at h3; exact ⟨h3,λf _=>G.fn f,h3⟩
theorem L.y {d:Nat} {v:Value} (hy:Yl G n m S I o v) (hw:wg ops.toList m o=some true) (hd:o.dst=some d) (hn:Nat.blt d n.n=true) (h:L G n K ops Q l ((d,v)::m) S I):L G n K ops Q (o::l) m S I:=by
 intro A a w hf hs
 have hr:=hy A a w hf hs.st.ch hs.st.im
 unfold wpListIn
 rw [if_pos (kx hw hf)]
 refine ⟨λf _=>G.fn f,?_⟩
 rw [G.sem (s8 hr (by simp)),hr,Oper.uponIn_value,hd]
 exact h A _ w (hf.put v (fW hn)) hs
theorem L.a (is js:List Nat) {d:Option Nat} {Sp R:List Ch} {J:List Im} {σ:Type} {v:σ->Value} {S':σ->List Ch} {I':σ->List Im} (hA:Ac G n m o Sp J v S' I') (hw:wg ops.toList m o=some true) (hd:o.dst=d) (hn:dok d n.n=true) (hS:ext S is=some (Sp,R)) (hJ:pick I js=some J)
  (h: ∀ x,L G n K ops Q l (ma d (v x) m) (S' x++R) (I' x++I)):L G n K ops Q (o::l) m S I:=by
 intro A a w hf hs
 unfold wpListIn
 rw [if_pos (kx hw hf)]
 have hs':=hs.perm (dC hS) (λi hi=>hi)
 refine (hA A a w _ Q hf (hs'.st.left (eF hJ)) λx w' A' h2=> ?_).2
 rw [hd]
 exact h x A' _ w' (hf.sH hn _) (hs'.frame h2)
theorem L.cs (j:Nat) {ρ:Type} {g h:Option ρ} {r:ρ} {b:Bool} (H:(bif b then g else h)=some r) (hj:look m j=some (.bool b)) (ht:b=true->g=some r->L G n K ops Q l ((j,.bool true)::m) S I) (hf:b=false->h=some r->L G n K ops Q l ((j,.bool false)::m) S I):L G n K ops Q l m S I:=by
 intro A a w hfr hs
 have key: ∀ c,look m j=some (.bool c)->Fr n ((j,.bool c)::m) a:=λc hc=>hfr.sub λi v hi=>by
  simp only [look] at hi
  split at hi
  ·rename_i hb
   rw [<- Nat.eq_of_beq_eq_true hb,hc]
   exact hi
  ·exact hi
 cases b with
 | true=>exact ht rfl H A a w (key _ hj) hs
 | false=>exact hf rfl H A a w (key _ hj) hs
theorem Yl.ldb (i:Nat) {t g o' T:Nat} {x:Operand} {cs:List Value} {v:Value} (ho:o.op = .load t x) (hx:ev m x=some (.pointer (some ⟨g,o',none⟩))) (hS:S[i]?=some (Ch.box g T cs)) (hv:od G.τ t (cs.drop o') 0=some v):Yl G n m S I o v:=λA a w hf hs _=>by
 have hb:w.heap[g]?=some (.cells cs.toArray T (0,0)):=hs _ (List.mem_of_getElem? hS)
 simp only [execOp,ho,hf.ev hx,Instr.loadAt,Instr.sureAddr,Sem.run_bind,Sem.run_pure,Result.andThen_ok]
 rw [ky G.ok hv (λj u hu=>by rw [tj hb]; simpa using hu)]
 rfl
def wr:List Value->Nat->List Value->Option (List Value)
 | cs,0,[]=>some cs
 | _::cs,0,v::vs=>match wr cs 0 vs with
  | some r=>some (v::r)
  | none=>none
 | c::cs,o+1,vs=>match wr cs o vs with
  | some r=>some (c::r)
  | none=>none
 | [],_,_=>none
theorem Bz: ∀ {cs:List Value} {o:Nat} {vs r:List Value},wr cs o vs=some r->o+vs.length<=cs.length/\r=cs.take o++vs++cs.drop (o+vs.length)
 | [],0,[],r,h=>by simp [wr] at h; simp [h]
 | [],0,v::vs,r,h=>by simp [wr] at h
 | [],o+1,vs,r,h=>by simp [wr] at h
 | c::cs,0,[],r,h=>by simp [wr] at h; simp [h]
 | c::cs,0,v::vs,r,h=>by
  simp only [wr] at h
  cases hw:wr cs 0 vs with
  | none=>rw [hw] at h; cases h
  | some r' =>
   rw [hw] at h
   injection h with h
   subst h
   obtain ⟨h1,h2⟩:=Bz hw
   simp at h1 h2 ⊢
   exact ⟨by omega,h2⟩
 | c::cs,o+1,vs,r,h=>by
  simp only [wr] at h
  cases hw:wr cs o vs with
  | none=>rw [hw] at h; cases h
  | some r' =>
   rw [hw] at h
   injection h with h
   subst h
   obtain ⟨h1,h2⟩:=Bz hw
   have e:o+1+vs.length=(o+vs.length)+1:=by omega
   simp [e,h2]
   omega
theorem Ac.stb {t g o' T:Nat} {x y:Operand} {cs cs':List Value} {v:Value} {ti:TI} (ho:o.op = .store t x y) (hx:ev m x=some (.pointer (some ⟨g,o',none⟩))) (hy:ev m y=some v) (hi:bL G.τ t=some ti) (hc:(Nat.beq (vc v).length ti.size && (vc v).all Value.oneCell')=true) (hr0:wr cs o' (vc v)=some cs') :
  Ac G n m o [Ch.box g T cs] [] (λ_:Unit=>undef) (λ_=>[Ch.box g T cs']) (λ_=>[]):=by
 simp only [Bool.and_eq_true] at hc
 obtain ⟨h1,h2⟩:=hc
 obtain ⟨h3,rfl⟩:=Bz hr0
 refine Ac.run (v:=λ_=>none) λA a w hf hs=> ?_
 have hb:w.heap[g]?=some (.cells cs.toArray T (0,0)):=hs.ch _ (List.mem_singleton.2 rfl)
 have hr:=nW G.ok (P:=G.P) (o:=o') (v:=v) hi (Nat.eq_of_beq_eq_true h1) h2 hb h3
 have hk:w.grownBy (w.setRow g (cs.take o'++vc v++cs.drop (o'+(vc v).length)).toArray) (some g):=⟨rfl,rfl,rfl,by rw [setRow_size]; exact Nat.le_refl _,λk _ hk=>setRow_other _ _ _ _ (λe=>hk (by rw [e]))⟩
 refine ⟨(),w.setRow g (cs.take o'++vc v++cs.drop (o'+(vc v).length)).toArray,A,?_,SS.grown hs hk (λb e=>(Option.some.inj e).symm) (λb hb2=>⟨.inl hb2,?_⟩) (setRow_heap w g _ _ T (0,0) hb)⟩
 ·simp only [execOp,ho,hf.ev hx,hf.ev hy,Instr.storeAt,Instr.sureAddr,Sem.run_bind,Sem.run_pure,Result.andThen_ok,hr,nx]
 ·rw [setRow_size]
  obtain rfl:b=g:=hb2
  exact (Array.getElem?_eq_some_iff.1 hb).1
theorem tq {P:Program} (T:Nat) (cs:Array Value) (w:World):(newRow T cs).run P w = .ok ⟨w.heap.size,0,none⟩ { w with heap:=w.heap.push (.cells cs T) }:=by
 simp [newRow,newObj,Sem.run]
theorem Ac.alloc {T:Nat} {ti:TI} (ho:o.op = .alloc T) (hi:bL G.τ T=some ti):Ac G n m o [] [] (λg:Nat=> .pointer (some ⟨g,0,none⟩)) (λg=>[Ch.box g T ti.zero]) (λ_=>[]):=by
 refine Ac.run (v:=λg:Nat=>some (.pointer (some ⟨g,0,none⟩))) λA a w hf hs=> ?_
 obtain ⟨dd,f,z,hdd,hf2,_,_,_,hz,hzc,_⟩:=G.ok.info hi
 refine ⟨w.heap.size,{ w with heap:=w.heap.push (.cells z.cells T) },A,?_,?_⟩
 ·simp [execOp,ho,Instr.alloc,zeroValue,typeInfo,hf2,hz,newVar,tq,nx]
 ·refine SS.fresh (w':={ w with heap:=w.heap.push (.cells z.cells T) }) (o:= .cells z.cells T) hs.lt rfl rfl rfl rfl (Ch.box w.heap.size T ti.zero) (λb hb=>hb) ?_
  show (w.heap.push _)[w.heap.size]?=_
  rw [Array.getElem?_push_size,<- hzc]
theorem Ac.box {T:Nat} {x:Operand} {v:Value} (ho:o.op = .box T x) (hx:ev m x=some v):Ac G n m o [] [] (λg:Nat=> .pointer (some ⟨g,0,none⟩)) (λg=>[Ch.box g T (vc v)]) (λ_=>[]):=by
 refine Ac.run (v:=λg:Nat=>some (.pointer (some ⟨g,0,none⟩))) λA a w hf hs=> ?_
 refine ⟨w.heap.size,{ w with heap:=w.heap.push (.cells v.cells T) },A,?_,?_⟩
 ·simp [execOp,ho,hf.ev hx,Instr.box,newVar,tq,nx]
 ·refine SS.fresh (w':={ w with heap:=w.heap.push (.cells v.cells T) }) (o:= .cells v.cells T) hs.lt rfl rfl rfl rfl (Ch.box w.heap.size T (vc v)) (λb hb=>hb) ?_
  show (w.heap.push _)[w.heap.size]?=_
  rw [Array.getElem?_push_size]
  simp [vc]
theorem nX {P : Program} {f : FuncId} {fn : Func} (hf : P.funcs[f]? = some fn) (h1 : (fn.name == "runtime.NumGoroutine") = false) (h2 : fn.body.isNone = false) (args : Array Value) (w : World) : (callFunc f args).run P w = .ok (.enter f args) w := by
 simp only [callFunc,program,Sem.run_bind,Sem.run,Result.andThen_ok,hf,h1,h2,Bool.false_eq_true,if_false,Sem.run_pure]
theorem Ac.call {σ:Type} {f:FuncId} {fo:Operand} {as:Array Operand} {ts:Array Nat} {vs args:List Value} {a1 a2:Array Value} {Sp:List Ch} {J:List Im} {val:σ->Value} {S':σ->List Ch} {I':σ->List Im} (hC:CT G f args Sp J val S' I') (ho:o.op = .call { callee:= .value fo,args:=as,argTypes:=ts }) (hfo:ev m fo=some (.func (.func f) a1 a2)) (ha:evl m as.toList=some vs) (hargs:a1.toList++vs++a2.toList=args):Ac G n m o Sp J val S' I':=by
 obtain ⟨⟨fn,hfn,h1,h2⟩,hcalls⟩:=hC
 intro A a w Kc Q hf hst hk
 have harr:(a1++as.map a.eval)++a2=args.toArray:=by
  apply Array.ext'
  have:=rA hf ha
  simp [<- hargs,this]
 have hr:(execOp a.eval o).run G.P w = .ok (.enter f args.toArray) w:=by
  simp only [execOp,ho,resolve,Deferred.ofValue,hf.ev hfo,invoke,Sem.run_bind,Sem.run_pure,Result.andThen_ok,harr,nX hfn h1 h2]
 unfold Oper.wp Oper.wpIn
 rw [G.sem (s8 hr (by simp)),hr,Oper.upon_enter,Oper.uponIn_enter]
 refine ⟨(hcalls A w hst).mono ?_,λf _=>G.fn f,G.deep,G.calls ((hcalls A w hst).mono ?_)⟩
 ·rintro e w' ⟨x,A',rfl,h3⟩
  exact hk x w' A' h3
 ·rintro e w' ⟨x,A',rfl,h3⟩
  exact hk x w' A' h3
end
def en:Nat->List Value->Env
 | _,[]=>[]
 | i,v::r=>(i,v)::en (i+1) r
theorem zr: ∀ (l:List Value) (k i:Nat) (v:Value),look (en k l) i=some v -> ∃ j,i=k+j/\l[j]?=some v
 | [],_,_,_,h=>by simp [en,look] at h
 | u::l,k,i,v,h=>by
  simp only [en,look] at h
  split at h
  ·rename_i hb
   injection h with h
   subst h
   exact ⟨0,(Nat.eq_of_beq_eq_true hb).symm,rfl⟩
  ·obtain ⟨j,rfl,hj⟩:=zr l (k+1) i v h
   exact ⟨j+1,by omega,by simpa using hj⟩
theorem GJ {n:Nat} {args:List Value} (h:args.length<=n):Fr ⟨n,[]⟩ (en 0 args) { tmps:=args.toArray++Array.replicate (n - args.toArray.size) undef,defers:=[] }:=by
 refine ⟨by simp; omega,rfl,?_⟩
 intro i v hv
 obtain ⟨j,rfl,hj⟩:=zr args 0 i v hv
 have hlt:j < args.length:=(List.getElem?_eq_some_iff.1 hj).1
 simp only [Nat.zero_add,Array.getD_eq_getD_getElem?]
 rw [Array.getElem?_append_left (by simpa using hlt)]
 simp [hj]
def nh (G:Pg) (fn:Func) (K:Key) {σ:Type} (val:σ->Value) (S':σ->List Ch) (I':σ->List Im):Exit->Act->World->Prop :=
 bodyPostM G.F 0 G.P fn λe w'=> ∃ x A',e = .returned (val x)/\SS K A' (S' x) (I' x) w'
theorem CT.of {G : Pg} {f : FuncId} {fn : Func} {c : Code} {args : List Value} {S : List Ch} {I : List Im} {σ : Type} {val : σ -> Value} {S' : σ -> List Ch} {I' : σ -> List Im} (hf : G.P.funcs[f]? = some fn) (h1 : (fn.name == "runtime.NumGoroutine") = false) (hb : fn.body = some c) (hn : Nat.ble args.length fn.ntmps = true)
  (hrd:G.rd=none) (h: ∀ K,T G ⟨fn.ntmps,[]⟩ K (nh G fn K val S' I') c (en 0 args) S I):CT G f args S I val S' I' :=
 ⟨⟨fn,hf,h1,by rw [hb]; rfl⟩,λA w hs=>by
  have h2:=h _ A _ w (GJ (Nat.le_of_ble_eq_true hn)) (SS.start hs)
  unfold nh at h2
  have hF:G.F=Fence.wide:=by unfold Pg.F; rw [hrd]
  rw [hF] at h2
  exact callsIn_wide.1 (callsIn_of_wp_marks (n:=0) hf hb trivial h2)⟩
inductive RVs (τ:Tab) (m:Env) (S:List Ch):List ResultVar->List Value->Prop where
 | nil:RVs τ m S [] []
 | tmp {t r v vs} (h:look m t=some v) (hr:RVs τ m S r vs):RVs τ m S (.tmp t::r) (v::vs)
 | cell {a t r v vs g T cs} (i:Nat) (h:look m a=some (.pointer (some ⟨g,0,none⟩))) (hS:S[i]?=some (Ch.box g T cs)) (hv:od τ t cs 0=some v) (hr:RVs τ m S r vs):RVs τ m S (.cell a t::r) (v::vs)
def tr:List Value->Value
 | [v]=>v
 | vs=> .tuple vs.toArray
def BA (tm:Array Value):ResultVar->Sem Value
 | .tmp t=>pure (tm.getD t undef)
 | .cell a t=>do loadVar t (<- asAddr (tm.getD a undef))
theorem yx (fn:Func) (tm:Array Value):results fn tm=(do let vs <- fn.results.mapM (BA tm); pure (if h:vs.size=1 then vs[0] else .tuple vs)):=by
 unfold results
 congr 1
theorem lb {G:Pg} {n:Nd} {m:Env} {a:Act} {S:List Ch} {A:eL} {w:World} (hf:Fr n m a) (hs: ∀ c∈S,c.ok A w): ∀ {rs:List ResultVar} {vs:List Value},RVs G.τ m S rs vs->(rs.mapM (BA a.tmps)).run G.P w = .ok vs w
 | _,_,.nil=>rfl
 | _,_,.tmp h hr=>by
  have h1:=hf.at_ _ _ h
  have ih:=lb (G:=G) (w:=w) hf hs hr
  simp only [List.mapM_cons,Sem.run_bind,ih,BA,Sem.run_pure,Result.andThen_ok,h1]
 | _,_,@RVs.cell _ _ _ ad ty r v vs g T cs i hx hi hv hr=>by
  have h1:=hf.at_ _ _ hx
  have hb:=hs _ (List.mem_of_getElem? hi)
  have hl:=ky (P:=G.P) (w:=w) (o:=0) G.ok hv (λj u hu=>by rw [tj hb]; simpa using hu)
  have ih:=lb (G:=G) (w:=w) hf hs hr
  have hc:(BA a.tmps (.cell ad ty)).run G.P w = .ok v w:=by simp only [BA,Sem.run_bind,Sem.run_pure,Result.andThen_ok,h1,asAddr,hl]
  simp only [List.mapM_cons,Sem.run_bind,hc,Result.andThen_ok,ih,Sem.run_pure]
theorem rW {G:Pg} {n:Nd} {m:Env} {a:Act} {S:List Ch} {A:eL} {w:World} {fn:Func} {vs:List Value} (hf:Fr n m a) (hs: ∀ c∈S,c.ok A w) (h:RVs G.τ m S fn.results.toList vs):(results fn a.tmps).run G.P w = .ok (tr vs) w:=by
 have h1:=lb (G:=G) (w:=w) hf hs h
 rw [yx,Array.mapM_eq_mapM_toList]
 simp only [Sem.run_bind,Sem.run_map,h1,Result.andThen_ok,Sem.run_pure]
 match vs with
 | []=>rfl
 | [v]=>rfl
 | v::u::r=>simp [tr]
theorem E.ret {G:Pg} {k:Nat} {K:Key} {m:Env} {S:List Ch} {I:List Im} {fn:Func} {σ:Type} {val:σ->Value} {S':σ->List Ch} {I':σ->List Im} (x:σ) (is js:List Nat) {vs:List Value} {R:List Ch} (hr:RVs G.τ m S fn.results.toList vs) (hv:tr vs=val x) (hS:ext S is=some (S' x,R)) (hJ:pick I js=some (I' x)):E ⟨k,[]⟩ K (nh G fn K val S' I') .ret m S I:=by
 intro A a w hf hs
 show LeavesInM _ _ _ _ _ _ a.defers _ _
 rw [hf.defers]
 refine ⟨tr vs,rW hf hs.st.ch hr,x,A,by rw [hv],?_⟩
 have h2:=hs.perm (dC hS) (λi hi=>hi)
 exact h2.drop (eF hJ)
def veq:Value->Value->Bool
 | .int k a,.int k' b=>ikb k k' && decide (a=b)
 | .bool a,.bool b=>a == b
 | .string a,.string b=>a.data.toList.isEmpty && b.data.toList.isEmpty
 | .slice none a b,.slice none c d=>Nat.beq a c && Nat.beq b d
 | .pointer none,.pointer none=>true
 | .map none,.map none=>true
 | .nilFunc,.nilFunc=>true
 | .nilIface,.nilIface=>true
 | _,_=>false
theorem FG {a b:Value} (h:veq a b=true):a=b:=by
 unfold veq at h
 split at h
 ·simp only [Bool.and_eq_true,decide_eq_true_eq] at h
  rw [ry h.1,h.2]
 ·rw [eq_of_beq h]
 ·rename_i x y
  simp only [Bool.and_eq_true,List.isEmpty_iff] at h
  have hx:x.data = #[]:=Array.ext' h.1
  have hy:y.data = #[]:=Array.ext' h.2
  cases x; cases y
  simp_all
 ·simp only [Bool.and_eq_true] at h
  rw [Nat.eq_of_beq_eq_true h.1,Nat.eq_of_beq_eq_true h.2]
 all_goals first | rfl | cases h
def D3:List Value->List Value->Bool
 | [],[]=>true
 | a::r,b::s=>veq a b && D3 r s
 | _,_=>false
theorem zt: ∀ {a b:List Value},D3 a b=true->a=b
 | [],[],_=>rfl
 | [],_::_,h=>by cases h
 | _::_,[],h=>by cases h
 | a::r,b::s,h=>by
  simp only [D3,Bool.and_eq_true] at h
  rw [FG h.1,zt h.2]
def fsb:List (Nat×Nat)->List Field->Bool
 | [],[]=>true
 | (t,o)::r,f::s=>Nat.beq f.type t && Nat.beq f.offset o && fsb r s
 | _,_=>false
theorem yy: ∀ {r:List (Nat×Nat)} {s:List Field},fsb r s=true->s.map (λf=>(f.type,f.offset))=r
 | [],[],_=>rfl
 | [],_::_,h=>by cases h
 | _::_,[],h=>by cases h
 | (t,o)::r,f::s,h=>by
  simp only [fsb,Bool.and_eq_true] at h
  rw [List.map_cons,yy h.2,Nat.eq_of_beq_eq_true h.1.1,Nat.eq_of_beq_eq_true h.1.2]
def FH:TK->TypeDesc->Bool
 | .int k,.int k'=>ikb k k'
 | .bool,.bool=>true
 | .string,.string=>true
 | .pointer e,.pointer e'=>Nat.beq e e'
 | .slice e,.slice e'=>Nat.beq e e'
 | .struct fs,.struct a=>fsb fs a.toList
 | .array n e,.array n' e'=>Nat.beq n n' && Nat.beq e e'
 | .map k e,.map k' e'=>Nat.beq k k' && Nat.beq e e'
 | .func,.func _ _ _=>true
 | .other,.interface _=>true
 | .other,.tuple _=>true
 | _,_=>false
theorem AE {k:TK} {d:TypeDesc} (h:FH k d=true):k.fits d/\(k.isAgg=false -> ∀ a,d ≠ .struct a)/\(k.isAgg=false -> ∀ a b,d ≠ .array a b):=by
 unfold FH at h
 split at h
 ·obtain rfl:=ry h; exact ⟨rfl,by simp,by simp⟩
 ·exact ⟨rfl,by simp,by simp⟩
 ·exact ⟨rfl,by simp,by simp⟩
 ·obtain rfl:=Nat.eq_of_beq_eq_true h; exact ⟨rfl,by simp,by simp⟩
 ·obtain rfl:=Nat.eq_of_beq_eq_true h; exact ⟨rfl,by simp,by simp⟩
 ·exact ⟨⟨_,rfl,yy h⟩,by simp [TK.isAgg],by simp⟩
 ·simp only [Bool.and_eq_true] at h
  obtain rfl:=Nat.eq_of_beq_eq_true h.1
  obtain rfl:=Nat.eq_of_beq_eq_true h.2
  exact ⟨rfl,by simp,by simp [TK.isAgg]⟩
 ·simp only [Bool.and_eq_true] at h
  obtain rfl:=Nat.eq_of_beq_eq_true h.1
  obtain rfl:=Nat.eq_of_beq_eq_true h.2
  exact ⟨rfl,by simp,by simp⟩
 ·exact ⟨⟨_,_,_,rfl⟩,by simp,by simp⟩
 ·exact ⟨trivial,by simp,by simp⟩
 ·exact ⟨trivial,by simp,by simp⟩
 ·cases h
def eqb (P:Program) (t:Nat):Bool :=
 (match P.underlying t with
  | some (.struct a) => a.toList.all (λf => !(f.name == "_")) && !P.stoodInHeld t
  | _=>true) && !P.eqGuardType P.depth t
theorem FI {P:Program} {t:Nat} (h:eqb P t=true):Fz P t:=by
 unfold eqb at h
 simp only [Bool.and_eq_true,Bool.not_eq_true'] at h
 refine ⟨λa ha=> ?_,h.2⟩
 have h1:=h.1
 rw [ha] at h1
 simp only [Bool.and_eq_true,List.all_eq_true,Bool.not_eq_true'] at h1
 exact h1
def tib (P:Program) (t:Nat) (i:TI):Bool :=
 match P.underlying t,P.info? t with
 | some d,some f=>FH i.k d && Nat.beq f.size i.size && Nat.beq f.bytes i.bytes && (i.agg == i.k.isAgg) && (match f.zero with | some z=>D3 z.cells.toList i.zero | none=>false) && (match i.eq with | true=>eqb P t | false=>true)
 | _,_=>false
theorem FJ {P:Program} {t:Nat} {i:TI} (h:tib P t i=true):i.ok P t:=by
 unfold tib at h
 split at h
 ·rename_i d f hd hf
  simp only [Bool.and_eq_true] at h
  obtain ⟨⟨⟨⟨⟨h1,h2⟩,h3⟩,h4⟩,h5⟩,h7⟩:=h
  split at h5
  ·rename_i z hz
   have h6:=AE h1
   exact ⟨d,f,z,hd,hf,h6.1,Nat.eq_of_beq_eq_true h2,Nat.eq_of_beq_eq_true h3,hz,zt h5,eq_of_beq h4,h6.2.1,h6.2.2,λe=>FI (by rw [e] at h7; exact h7)⟩
  ·cases h5
 ·cases h
def FK (P:Program):Tab->Bool
 | []=>true
 | (t,i)::r=>tib P t i && FK P r
theorem zu {P:Program}: ∀ {τ:Tab},FK P τ=true->jz P τ
 | [],_,t,i,h=>by simp [bL] at h
 | (t,i)::r,hb,t',i',h=>by
  simp only [FK,Bool.and_eq_true] at hb
  simp only [bL] at h
  split at h
  ·rename_i he
   injection h with h
   subst h
   rw [<- Nat.eq_of_beq_eq_true he]
   exact FJ hb.1
  ·exact zu hb.2 t' i' h
structure Ty (α:Type) where
 sz:Nat
 Hid:Type
 cs:α->Hid->List Value
 im:α->Hid->List Im
 len: ∀ x h,(cs x h).length=sz
 one: ∀ x h,∀ v∈cs x h,v.oneCell'=true
def Ty.int (k:IntKind):Ty Int:=⟨1,Unit,λx _=>[.int k x],λ_ _=>[],λ_ _=>rfl,by simp [Value.oneCell']⟩
def Ty.bool:Ty Bool:=⟨1,Unit,λx _=>[.bool x],λ_ _=>[],λ_ _=>rfl,by simp [Value.oneCell']⟩
def Ty.str:Ty ByteArray:=⟨1,Unit,λx _=>[.string x],λ_ _=>[],λ_ _=>rfl,by simp [Value.oneCell']⟩
def Ty.pair {α β:Type} (a:Ty α) (b:Ty β):Ty (α×β) where
 sz:=a.sz+b.sz
 Hid:=a.Hid×b.Hid
 cs:=λx h=>a.cs x.1 h.1++b.cs x.2 h.2
 im:=λx h=>a.im x.1 h.1++b.im x.2 h.2
 len:=λx h=>by rw [List.length_append,a.len,b.len]
 one:=λx h v hv=>by
  rcases List.mem_append.1 hv with hv | hv
  ·exact a.one _ _ v hv
  ·exact b.one _ _ v hv
inductive Els {α:Type} (d:Ty α) (A:eL) (w:World):List α->List Value->Prop where
 | nil:Els d A w [] []
 | cons {x xs cs} (h:d.Hid) (hi: ∀ f∈d.im x h,f.ok A w) (hr:Els d A w xs cs):Els d A w (x::xs) (d.cs x h++cs)
variable {α : Type} {d : Ty α} {A A' : eL} {w w' : World} {xs ys : List α} {cs es : List Value}
theorem Els.st (hA: ∀ b,A b->A' b) (hw: ∀ b,A b->w'.heap[b]?=w.heap[b]?) (h:Els d A w xs cs):Els d A' w' xs cs:=by
 induction h with
 | nil=>exact .nil
 | cons h hi hr ih=>exact .cons h (λf hf=>f.st hA hw (hi f hf)) ih
theorem Els.len (h:Els d A w xs cs):cs.length=xs.length*d.sz:=by
 induction h with
 | nil=>simp
 | cons h hi hr ih=>rw [List.length_append,d.len,ih,List.length_cons,Nat.succ_mul,Nat.add_comm]
theorem Els.one (h:Els d A w xs cs): ∀ v∈cs,v.oneCell'=true:=by
 induction h with
 | nil=>intro v hv; cases hv
 | cons h hi hr ih =>
  intro v hv
  rcases List.mem_append.1 hv with hv | hv
  ·exact d.one _ _ v hv
  ·exact ih v hv
theorem Els.app (h:Els d A w xs cs) (k:Els d A w ys es):Els d A w (xs++ys) (cs++es):=by
 induction h with
 | nil=>exact k
 | cons h hi hr ih=>rw [List.append_assoc]; exact .cons h hi ih
theorem Els.at_ (h:Els d A w xs cs): ∀ (i:Nat) (x:α),xs[i]?=some x -> ∃ hd,(∀ f∈d.im x hd,f.ok A w) /\ ∀ j u,(d.cs x hd)[j]?=some u->cs[i*d.sz+j]?=some u:=by
 induction h with
 | nil=>intro i x hx; simp at hx
 | @cons y ys cs hy hi hr ih =>
  intro i x hx
  cases i with
  | zero =>
   simp at hx
   subst hx
   refine ⟨hy,hi,λj u hu=> ?_⟩
   rw [Nat.zero_mul,Nat.zero_add,List.getElem?_append_left (List.getElem?_eq_some_iff.1 hu).1]
   exact hu
  | succ i =>
   simp at hx
   obtain ⟨hd,h1,h2⟩:=ih i x hx
   refine ⟨hd,h1,λj u hu=> ?_⟩
   have e:(i+1)*d.sz+j=(d.cs y hy).length+(i*d.sz+j):=by rw [d.len,Nat.succ_mul]; omega
   rw [e,List.getElem?_append_right (Nat.le_add_right _ _),Nat.add_sub_cancel_left]
   exact h2 j u hu
theorem Els.take (h:Els d A w xs cs): ∀ k,Els d A w (xs.take k) (cs.take (k*d.sz)):=by
 induction h with
 | nil=>intro k; simp; exact .nil
 | @cons y ys cs hy hi hr ih =>
  intro k
  cases k with
  | zero=>simp; exact .nil
  | succ k =>
   have e:(d.cs y hy++cs).take ((k+1)*d.sz)=d.cs y hy++cs.take (k*d.sz):=by
    rw [List.take_append,d.len,Nat.succ_mul,List.take_of_length_le (by rw [d.len]; omega),Nat.add_sub_cancel]
   rw [e,List.take_succ_cons]
   exact .cons hy hi (ih k)
theorem Els.drop (h:Els d A w xs cs): ∀ k,Els d A w (xs.drop k) (cs.drop (k*d.sz)):=by
 induction h with
 | nil=>intro k; simp; exact .nil
 | @cons y ys cs hy hi hr ih =>
  intro k
  cases k with
  | zero=>simp; exact .cons hy hi hr
  | succ k =>
   have e:(d.cs y hy++cs).drop ((k+1)*d.sz)=cs.drop (k*d.sz):=by
    rw [List.drop_append,d.len,Nat.succ_mul,List.drop_of_length_le (by rw [d.len]; omega),Nat.add_sub_cancel]
    rfl
   rw [e,List.drop_succ_cons]
   exact ih k
theorem Els.set (h:Els d A w xs cs): ∀ (i:Nat) (x x':α) (k:Nat) (vs:List Value),xs[i]?=some x->(∀ hd,(∀ f∈d.im x hd,f.ok A w) -> ∃ hd',(d.cs x hd).take k++vs++(d.cs x hd).drop (k+vs.length)=d.cs x' hd' /\ ∀ f∈d.im x' hd',f.ok A w)->k+vs.length<=d.sz ->
  Els d A w (xs.set i x') (cs.take (i*d.sz+k)++vs++cs.drop (i*d.sz+k+vs.length)):=by
 induction h with
 | nil=>intro i x x' k vs hx; simp at hx
 | @cons y ys cs hy hi hr ih =>
  intro i x x' k vs hx hn hk
  cases i with
  | zero =>
   simp at hx
   subst hx
   obtain ⟨hd',e,h2⟩:=hn hy hi
   have hl:=d.len y hy
   have e2:(d.cs y hy++cs).take (0*d.sz+k)++vs++(d.cs y hy++cs).drop (0*d.sz+k+vs.length)=d.cs x' hd'++cs:=by
    rw [<- e,Nat.zero_mul,Nat.zero_add,List.take_append_of_le_length (by omega),List.drop_append_of_le_length (by omega)]
    simp [List.append_assoc]
   rw [e2,List.set_cons_zero]
   exact .cons hd' h2 hr
  | succ i =>
   simp at hx
   have hl:=d.len y hy
   have e1:(i+1)*d.sz+k=(d.cs y hy).length+(i*d.sz+k):=by rw [hl,Nat.succ_mul]; omega
   have e2:(d.cs y hy++cs).take ((i+1)*d.sz+k)++vs++(d.cs y hy++cs).drop ((i+1)*d.sz+k+vs.length)=d.cs y hy++(cs.take (i*d.sz+k)++vs++cs.drop (i*d.sz+k+vs.length)):=by
    rw [e1,List.take_length_add_append,Nat.add_assoc,List.drop_length_add_append]
    simp [List.append_assoc]
   rw [e2,List.set_cons_succ]
   exact .cons hy hi (ih i x x' k vs hx hn hk)
def Im.sl (d:Ty α) (a0:Option Addr) (c:Nat) (xs:List α):Im where
 ok:=λA w=>xs.length<=c/\(xs=[] \/ ∃ b o cs,a0=some ⟨b,o,none⟩/\A b/\Els d A w xs cs /\ ∀ j u,cs[j]?=some u->w.cell? ⟨b,o+j,none⟩=some u)
 st:=by
  rintro A A' w w' hA hw ⟨h1,h2⟩
  refine ⟨h1,?_⟩
  rcases h2 with h2 | ⟨b,o,cs,rfl,hb,he,hc⟩
  ·exact .inl h2
  ·exact .inr ⟨b,o,cs,rfl,hA b hb,he.st hA hw,λj u hu=>(World.cell?_of_block (hw b hb)).trans (hc j u hu)⟩
def Ty.slice (d:Ty α):Ty (List α):=⟨1,Option Addr×Nat,λxs h=>[.slice h.1 xs.length h.2],λxs h=>[Im.sl d h.1 h.2 xs],λ_ _=>rfl,by simp [Value.oneCell']⟩
def Ch.arr (d:Ty α) (T:Nat) (a0:Option Addr) (c:Nat) (xs:List α):Ch where
 blk:=λb=>a0.map (·.block)=some b
 ok:=λA w=> ∃ cs,w.ownsRow 0 T d.sz (.slice a0 xs.length c) xs.length cs/\Els d A w xs cs
 st:=by
  rintro A A' w w' hA hw hb ⟨cs,⟨h1,h2⟩,he⟩
  refine ⟨cs,⟨h1,?_⟩,he.st hA hw⟩
  rcases h2 with h2 | ⟨g,cap,cur,e,h3,h4,h5⟩
  ·exact .inl h2
  ·injection e with e1 e2 e3
   subst e1
   exact .inr ⟨g,cap,cur,by rw [e3],h3,(hb g rfl).trans h4,h5⟩
theorem kF {T:Nat} {a0:Option Addr} {c:Nat} (h:(Ch.arr d T a0 c xs).ok A w):(a0=none/\xs=[]/\c=0) \/ ∃ g cur cs,a0=some ⟨g,0,none⟩/\w.heap[g]?=some (.cells cur T (0,0))/\xs.length<=c/\c<=maxLen/\cur.size=c*d.sz/\cur.toList.take (xs.length*d.sz)=cs/\Els d A w xs cs:=by
 obtain ⟨cs,⟨h1,h2⟩,he⟩:=h
 rcases h2 with ⟨e,hn⟩ | ⟨g,cap,cur,e,h3,h4,h5,h6,h7,h8⟩
 ·injection e with e1 e2 e3
  exact .inl ⟨e1,List.eq_nil_of_length_eq_zero hn,e3⟩
 ·injection e with e1 e2 e3
  subst e3
  exact .inr ⟨g,cur,cs,e1,h4,h5,h6,h7,h8,he⟩
theorem gy {T:Nat} {a0:Option Addr} {c:Nat} (h:(Ch.arr d T a0 c xs).ok A w):xs.length<=c/\(xs=[] \/ ∃ b cs,a0=some ⟨b,0,none⟩/\Els d A w xs cs /\ ∀ j u,cs[j]?=some u->w.cell? ⟨b,j,none⟩=some u):=by
 rcases kF h with ⟨_,rfl,_⟩ | ⟨g,cur,cs,rfl,h2,h3,h4,h5,h6,h7⟩
 ·exact ⟨Nat.zero_le _,.inl rfl⟩
 ·refine ⟨h3,.inr ⟨g,cs,rfl,h7,λj u hu=> ?_⟩⟩
  rw [cell_of_row w g j _ T (0,0) h2]
  rw [<- h6,List.getElem?_take] at hu
  split at hu
  ·simpa using hu
  ·cases hu
theorem qd {T:Nat} {a0:Option Addr} {c:Nat}: ∀ A w,(Ch.arr d T a0 c xs).ok A w->(Im.sl d a0 c xs).ok (λb=>A b\/(Ch.arr d T a0 c xs).blk b) w:=by
 intro A w h
 obtain ⟨h1,h2⟩:=gy h
 refine ⟨h1,?_⟩
 rcases h2 with h2 | ⟨b,cs,rfl,he,hc⟩
 ·exact .inl h2
 ·exact .inr ⟨b,0,cs,rfl,.inr rfl,he.st (λ_ h=> .inl h) (λ_ _=>rfl),λj u hu=>by rw [Nat.zero_add]; exact hc j u hu⟩
end Go.Tw
namespace Go.Tw
open Go
theorem rX {β:Type _} (L:List β) (p:Nat) (vs:List β) (N:Nat) (h:p+vs.length<=N) (hN:N<=L.length):(L.take p++vs++L.drop (p+vs.length)).take N=(L.take N).take p++vs++(L.take N).drop (p+vs.length):=by
 have hX:(L.take N).length=N:=by rw [List.length_take]; omega
 have hL:L=L.take N++L.drop N:=(List.take_append_drop N L).symm
 generalize L.take N=X at hX hL ⊢
 generalize L.drop N=Y at hL
 subst hL
 have e1:(X++Y).take p=X.take p:=List.take_append_of_le_length (by omega)
 have e2:(X++Y).drop (p+vs.length)=X.drop (p+vs.length)++Y:=List.drop_append_of_le_length (by omega)
 rw [e1,e2,<- List.append_assoc]
 refine List.take_left' ?_
 simp only [List.length_append,List.length_take,List.length_drop]
 omega
def idx {α:Type} (xs:List α) (i:Int):Option α:=bif decide (0<=i) then xs[i.toNat]? else none
theorem aI {α:Type} {xs:List α} {i:Int} {x:α} (h:idx xs i=some x):0<=i/\xs[i.toNat]?=some x:=by
 unfold idx at h
 cases hb:decide (0<=i) with
 | true=>rw [hb] at h; exact ⟨of_decide_eq_true hb,h⟩
 | false=>rw [hb] at h; cases h
def inK (k:IntKind) (n:Int):Prop:=k.min<=n/\n<=k.max
def chk (b:Bool):Option Unit:=bif b then some () else none
theorem fm {p:Prop} [Decidable p] {u:Unit} (h:chk (decide p)=some u):p:=by
 unfold chk at h
 cases hb:decide p with
 | true=>exact of_decide_eq_true hb
 | false=>rw [hb] at h; cases h
theorem bnd {α β:Type _} {x:Option α} {f:α->Option β} {r:β} (h:Option.bind x f=some r): ∃ y,x=some y/\f y=some r:=by
 cases x with
 | none=>cases h
 | some y=>exact ⟨y,rfl,h⟩
def cut {α:Type} (xs:List α) (lo hi:Int):List α:=(xs.take hi.toNat).drop lo.toNat
abbrev big:Nat:=140737488355328
def Im.cells (b off:Nat) (vs:List Value):Im where
 ok:=λA w=>A b /\ ∀ j u,vs[j]?=some u->w.cell? ⟨b,off+j,none⟩=some u
 st:=λhA hw h=>⟨hA _ h.1,λj u hu=>(World.cell?_of_block (hw _ h.1)).trans (h.2 j u hu)⟩
section
variable {G : Pg} {n : Nd} {K : Key} {Q : Exit -> Act -> World -> Prop} {m : Env} {S : List Ch} {I : List Im} {ops : Array Oper} {o : Oper} {l : List Oper} {α : Type} {ty : Ty α} {xs ys : List α} {a0 a1 : Option Addr} {c c1 : Nat}
theorem SS.dD {A:eL} {w:World} {J:List Im} (hs:SS K A S I w) (hJ: ∀ f∈J,f.ok A w):SS K A S (J++I) w :=
 ⟨⟨hs.st.lt,hs.st.ch,hs.st.own,hs.st.dis,λi hi=>(List.mem_append.1 hi).elim (hJ i) (hs.st.im i)⟩,hs.fx⟩
theorem wW {P:Program} {τ:Tab} (hτ:jz P τ) {t e:Nat} {ti te:TI} {k:IntKind} {i:Int} {b o' n c:Nat} {w:World} (ht:bL τ t=some ti) (hk:ti.k = .slice e) (he:bL τ e=some te) (h0:0<=i) (h1:i < n):(Instr.indexAt t (.slice (some ⟨b,o',none⟩) n c) (.int k i)).run P w = .ok (.pointer (some ⟨b,o'+i.toNat*te.size,none⟩)) w:=by
 obtain ⟨d,f,z,hd,hf,hkk,_⟩:=hτ.info ht
 rw [hk] at hkk
 cases hkk
 simp only [Instr.indexAt,asIntOf,Sem.run_bind,Sem.run_pure,Result.andThen_ok,run_underlying hd]
 rw [if_pos ⟨h0,h1⟩]
 simp only [Sem.run_bind,run_sizeOf hτ he,Result.andThen_ok,Sem.run_pure,add_lit]
theorem Yl.ia {t e b o':Nat} {x ix:Operand} {k:IntKind} {i:Int} {x0:α} {ti te:TI} (hi:idx xs i=some x0) (ho:o.op = .indexAddr t x ix) (hx:ev m x=some (.slice (some ⟨b,o',none⟩) xs.length c)) (hix:ev m ix=some (.int k i)) (ht:bL G.τ t=some ti) (hk:ti.k = .slice e) (he:bL G.τ e=some te):Yl G n m S I o (.pointer (some ⟨b,o'+i.toNat*te.size,none⟩)):=λA a w hf _ _=>by
 obtain ⟨h0,h1⟩:=aI hi
 have h2:=(List.getElem?_eq_some_iff.1 h1).1
 simp only [execOp,ho,hf.ev hx,hf.ev hix,Sem.run_bind,wW G.ok ht hk he h0 (show i < (xs.length:Int) by omega),Result.andThen_ok,Sem.run_pure]
theorem Yl.ldc (i k:Nat) {t b off:Nat} {x:Operand} {vs:List Value} {v:Value} (ho:o.op = .load t x) (hx:ev m x=some (.pointer (some ⟨b,off+k,none⟩))) (hI:I[i]?=some (Im.cells b off vs)) (hv:od G.τ t (vs.drop k) 0=some v):Yl G n m S I o v:=λA a w hf _ hI'=>by
 obtain ⟨_,h1⟩:=hI' _ (List.mem_of_getElem? hI)
 have hr:(loadVar t ⟨b,off+k,none⟩).run G.P w = .ok v w:=ky G.ok hv λj u hu=>by
  rw [Nat.add_assoc]
  exact h1 (k+j) u (by simpa using hu)
 simp only [execOp,ho,hf.ev hx,Instr.loadAt,Instr.sureAddr,Sem.run_bind,Sem.run_pure,Result.andThen_ok,hr]
theorem Yl.lo (p i k:Nat) {t b off T:Nat} {x:Operand} {x0:α} {v:Value} (hx0:xs[i]?=some x0) (ho:o.op = .load t x) (hx:ev m x=some (.pointer (some ⟨b,off,none⟩))) (hoff:off=0+i*ty.sz+k) (hS:S[p]?=some (Ch.arr ty T (some ⟨b,0,none⟩) c xs)) (hv: ∀ hd,od G.τ t ((ty.cs x0 hd).drop k) 0=some v):Yl G n m S I o v:=λA a w hf hS' _=>by
 obtain ⟨_,h2⟩:=gy (hS' _ (List.mem_of_getElem? hS))
 rcases h2 with rfl | ⟨b1,cs,e1,hels,hc⟩
 ·simp at hx0
 ·injection e1 with e1
  injection e1 with e1 e2
  subst e1
  obtain ⟨hd',him,hcs⟩:=hels.at_ i x0 hx0
  have hr:(loadVar t ⟨b,off,none⟩).run G.P w = .ok v w:=by
   refine ky G.ok (hv hd') λj u hu=> ?_
   have h3:=hc (i*ty.sz+(k+j)) u (hcs (k+j) u (by simpa using hu))
   rw [hoff,<- h3]
   congr 2
   omega
  simp only [execOp,ho,hf.ev hx,Instr.loadAt,Instr.sureAddr,Sem.run_bind,Sem.run_pure,Result.andThen_ok,hr]
theorem Ac.lo (i k:Nat) {t b off T:Nat} {x:Operand} {x0:α} {v:ty.Hid->Value} (hx0:xs[i]?=some x0) (ho:o.op = .load t x) (hx:ev m x=some (.pointer (some ⟨b,off,none⟩))) (hoff:off=0+i*ty.sz+k) (hv: ∀ hd,od G.τ t ((ty.cs x0 hd).drop k) 0=some (v hd)):Ac G n m o [Ch.arr ty T (some ⟨b,0,none⟩) c xs] [] v (λ_=>[Ch.arr ty T (some ⟨b,0,none⟩) c xs]) (λhd=>ty.im x0 hd):=by
 refine Ac.run (v:=λhd=>some (v hd)) λA a w hf hs=> ?_
 have hok:=hs.ch _ (List.mem_singleton.2 rfl)
 obtain ⟨_,h2⟩:=gy hok
 rcases h2 with rfl | ⟨b1,cs,e1,hels,hc⟩
 ·simp at hx0
 ·injection e1 with e1
  injection e1 with e1 e2
  subst e1
  obtain ⟨hd',him,hcs⟩:=hels.at_ i x0 hx0
  have hr:(loadVar t ⟨b,off,none⟩).run G.P w = .ok (v hd') w:=by
   refine ky G.ok (hv hd') λj u hu=> ?_
   have h3:=hc (i*ty.sz+(k+j)) u (hcs (k+j) u (by simpa using hu))
   rw [hoff,<- h3]
   congr 2
   omega
  refine ⟨hd',w,A,?_,?_⟩
  ·simp only [execOp,ho,hf.ev hx,Instr.loadAt,Instr.sureAddr,Sem.run_bind,Sem.run_pure,Result.andThen_ok,hr,nx]
  ·have h5:=SS.grown hs (ob:=none) ⟨rfl,rfl,rfl,Nat.le_refl _,λ_ _ _=>rfl⟩ (λ_ e=>nomatch e) (λb hb=>⟨.inl hb,(hs.own _ (List.mem_singleton.2 rfl) b hb).1⟩) hok
   have h6:=h5.dD (J:=ty.im x0 hd') him
   simpa using h6
theorem Ac.se (k:Nat) (x1:α) {J:List Im} {t b off T:Nat} {x y:Operand} {i:Nat} {x0:α} {v:Value} {ti:TI} (hx0:xs[i]?=some x0) (ho:o.op = .store t x y) (hx:ev m x=some (.pointer (some ⟨b,off,none⟩))) (hoff:off=0+i*ty.sz+k) (hy:ev m y=some v) (hti:bL G.τ t=some ti) (hc:(Nat.beq (vc v).length ti.size && (vc v).all Value.oneCell' && Nat.ble (k+(vc v).length) ty.sz)=true)
  (hnew: ∀ hd,∃ hd',(ty.cs x0 hd).take k++vc v++(ty.cs x0 hd).drop (k+(vc v).length)=ty.cs x1 hd' /\ ∃ is,pick (ty.im x0 hd++J) is=some (ty.im x1 hd')) :
  Ac G n m o [Ch.arr ty T (some ⟨b,0,none⟩) c xs] J (λ_:Unit=>undef) (λ_=>[Ch.arr ty T (some ⟨b,0,none⟩) c (xs.set i x1)]) (λ_=>[]):=by
 simp only [Bool.and_eq_true] at hc
 obtain ⟨⟨h1,h2⟩,h3⟩:=hc
 rw [Nat.zero_add] at hoff
 refine Ac.run (v:=λ_=>none) λA a w hf hs=> ?_
 have hok:=hs.ch _ (List.mem_singleton.2 rfl)
 rcases kF hok with ⟨_,rfl,_⟩ | ⟨g,cur,cs,e0,hb,h4,h5,h6,h7,h8⟩
 ·simp at hx0
 ·injection e0 with e0
  injection e0 with e0 e1
  subst e0
  have hi:i < xs.length:=(List.getElem?_eq_some_iff.1 hx0).1
  have hk3:=Nat.le_of_ble_eq_true h3
  have hlen:=h8.len
  have hmul:(i+1)*ty.sz<=xs.length*ty.sz:=Nat.mul_le_mul_right _ hi
  have hmul2:xs.length*ty.sz<=c*ty.sz:=Nat.mul_le_mul_right _ h4
  rw [Nat.succ_mul] at hmul
  have hcur:cur=cur.toList.toArray:=by simp
  rw [hcur] at hb
  have hcl:cur.toList.length=c*ty.sz:=by rw [Array.length_toList,h6]
  have hfit:off+(vc v).length<=cur.toList.length:=by rw [hcl,hoff]; omega
  have hr:=nW G.ok (P:=G.P) (o:=off) (v:=v) hti (Nat.eq_of_beq_eq_true h1) h2 hb hfit
  generalize hnewc:(cur.toList.take off++vc v++cur.toList.drop (off+(vc v).length))=nc at hr
  have hk:w.grownBy (w.setRow b nc.toArray) (some b):=⟨rfl,rfl,rfl,by rw [setRow_size]; exact Nat.le_refl _,λk _ hk=>setRow_other _ _ _ _ (λe=>hk (by rw [e]))⟩
  have hncl:nc.length=cur.size:=by rw [<- hnewc]; simp at hfit ⊢; omega
  refine ⟨(),w.setRow b nc.toArray,A,?_,SS.grown hs hk (λb e=>e) (λb' hb2=>⟨.inl hb2,?_⟩) ?_⟩
  ·simp only [execOp,ho,hf.ev hx,hf.ev hy,Instr.storeAt,Instr.sureAddr,Sem.run_bind,Sem.run_pure,Result.andThen_ok,hr,nx]
  ·rw [setRow_size]
   injection hb2 with hb2
   subst hb2
   exact (Array.getElem?_eq_some_iff.1 hb).1
  ·have hA: ∀ b',A b'->(w.setRow b nc.toArray).heap[b']?=w.heap[b']?:=λb' hA=>setRow_other _ _ _ _ (λe=>(hs.own _ (List.mem_singleton.2 rfl) b' (by subst e; rfl)).2 hA)
   have h9:=(h8.set i x0 x1 k (vc v) hx0 (λhd him=>by
    obtain ⟨hd',e1,is,e2⟩:=hnew hd
    refine ⟨hd',e1,λf hf'=> ?_⟩
    rcases List.mem_append.1 (eF e2 f hf') with h | h
    ·exact him f h
    ·exact hs.im f h) hk3).st (λ_ h=>h) hA
   refine ⟨_,⟨?_,.inr ⟨b,c,nc.toArray,by rw [List.length_set],Nat.zero_le _,setRow_heap w b _ _ T (0,0) hb,by rw [List.length_set]; exact h4,h5,by simpa [hncl] using h6,?_⟩⟩,h9⟩
   ·rw [h9.len]
   ·rw [List.length_set,<- hnewc,<- h7,hoff]
    exact rX _ _ _ _ (by omega) (by rw [hcl]; exact hmul2)
end
def evb (m:Env) (x:Option Operand) (dflt:Int):Option Int :=
 match x with
 | none=>some dflt
 | some x=>match ev m x with
  | some (.int _ i)=>some i
  | _=>none
theorem run_sliceBound {P:Program} (k:IntKind) (i:Int) (y:Nat) (code:BoundsCode) (w:World) (h0:0<=i) (h1:i<=y):(Instr.sliceBound (.int k i) y code).run P w = .ok i.toNat w:=by
 simp only [Instr.sliceBound,asIntOf,Sem.run_bind,Sem.run_pure,Result.andThen_ok]
 rw [if_pos ⟨h0,h1⟩]
 rfl
theorem tt {n:Nd} {m:Env} {a:Act} (hf:Fr n m a) {x:Operand} {dflt i:Int} (h:evb m (some x) dflt=some i): ∃ k,a.eval x = .int k i:=by
 simp only [evb] at h
 split at h
 ·rename_i k j hx
  injection h with h
  subst h
  exact ⟨k,hf.ev hx⟩
 ·cases h
theorem tu {P:Program} {n:Nd} {m:Env} {a:Act} (hf:Fr n m a) {lo hi:Option Operand} {lv hv:Int} {len cap:Nat} {w:World} (hlo:evb m lo 0=some lv) (hhi:evb m hi len=some hv) (h0:0<=lv) (h1:lv<=hv) (h2:hv<=cap) (b:Bool):(Instr.sliceBounds b len cap (lo.map a.eval) (hi.map a.eval) none).run P w = .ok (lv.toNat,hv.toNat,cap) w:=by
 have e0:lo=none->lv=0:=λe=>by subst e; simp only [evb,Option.some.injEq] at hlo; exact hlo.symm
 have e1:hi=none->hv=len:=λe=>by subst e; simp only [evb,Option.some.injEq] at hhi; exact hhi.symm
 cases lo with
 | none =>
  obtain rfl:=e0 rfl
  cases hi with
  | none =>
   obtain rfl:=e1 rfl
   simp [Instr.sliceBounds]
  | some y =>
   obtain ⟨k,hk⟩:=tt hf hhi
   simp only [Option.map_none,Option.map_some,Instr.sliceBounds,Sem.run_bind,Sem.run_pure,Result.andThen_ok,hk]
   rw [run_sliceBound k hv cap _ w (by omega) h2]
   simp
 | some x =>
  obtain ⟨j,hj⟩:=tt hf hlo
  cases hi with
  | none =>
   obtain rfl:=e1 rfl
   simp only [Option.map_none,Option.map_some,Instr.sliceBounds,Sem.run_bind,Sem.run_pure,Result.andThen_ok,hj]
   rw [run_sliceBound j lv len _ w h0 (by omega)]
   simp
  | some y =>
   obtain ⟨k,hk⟩:=tt hf hhi
   simp only [Option.map_some,Instr.sliceBounds,Sem.run_bind,Sem.run_pure,Result.andThen_ok,hk,hj]
   rw [run_sliceBound k hv cap _ w (by omega) h2,Result.andThen_ok]
   rw [run_sliceBound j lv hv.toNat _ w h0 (by omega)]
   simp
section
variable {G : Pg} {n : Nd} {K : Key} {Q : Exit -> Act -> World -> Prop} {m : Env} {S : List Ch} {I : List Im} {ops : Array Oper} {o : Oper} {l : List Oper} {α : Type} {ty : Ty α} {xs ys : List α} {a0 a1 : Option Addr} {c c1 : Nat}
theorem ny {P:Program} {τ:Tab} (hτ:jz P τ) {n:Nd} {m:Env} {a:Act} (hf:Fr n m a) {t e:Nat} {ti te:TI} {lo hi:Option Operand} {lv hv:Int} {len cap:Nat} {w:World} (ht:bL τ t=some ti) (hk:ti.k = .slice e) (he:bL τ e=some te) (hlo:evb m lo 0=some lv) (hhi:evb m hi len=some hv) (h0:0<=lv) (h1:lv<=hv) (h2:hv<=cap) (a0:Option Addr):(Instr.sliceAt t (.slice a0 len cap) (lo.map a.eval) (hi.map a.eval) none).run P w = .ok (.slice (if cap=lv.toNat then a0 else a0.map (·.add (lv.toNat*te.size))) (hv.toNat - lv.toNat) (cap - lv.toNat)) w:=by
 obtain ⟨d,f,z,hd,hfi,hkk,_⟩:=hτ.info ht
 rw [hk] at hkk
 cases hkk
 simp only [Instr.sliceAt,Instr.slice,Sem.run_bind,run_underlying hd,Result.andThen_ok,tu (P:=P) (w:=w) hf hlo hhi h0 h1 h2 true,run_sizeOf hτ he,Sem.run_pure]
def eN (lo hi n:Int):Bool:=decide (0<=lo/\lo<=hi/\hi<=n)
theorem iN {xs:List α} {lo hi:Int} (h:0<=lo/\lo<=hi/\hi<=xs.length):(cut xs lo hi).length=hi.toNat - lo.toNat:=by
 unfold cut
 rw [List.length_drop,List.length_take]
 omega
def lE (a0:Option Addr) (c:Nat) (lo:Int) (sz:Nat):Option Addr:=if c=lo.toNat then a0 else a0.map (·.add (lo.toNat*sz))
theorem Yl.rs {t e:Nat} {x:Operand} {lo hi:Option Operand} {lv hv:Int} {ti te:TI} {u:Unit} (i:Nat) (hI:I[i]?=some (Im.sl ty a0 c xs)) (hk0:chk (eN lv hv xs.length)=some u) (ho:o.op = .slice t x lo hi none) (hx:ev m x=some (.slice a0 xs.length c)) (hlo:evb m lo 0=some lv) (hhi:evb m hi xs.length=some hv) (ht:bL G.τ t=some ti) (hk:ti.k = .slice e) (he:bL G.τ e=some te) (hsz:te.size=ty.sz) :
  Yl G n m S I o (.slice (lE a0 c lv ty.sz) (cut xs lv hv).length (c - lv.toNat)):=λA a w hf _ hI'=>by
 obtain ⟨h0,h1,h2⟩:=fm hk0
 have hle:=(hI' _ (List.mem_of_getElem? hI)).1
 have hr:=ny (P:=G.P) (w:=w) G.ok hf ht hk he hlo hhi h0 h1 (by omega:hv<=(c:Int)) a0
 rw [iN ⟨h0,h1,h2⟩,lE,<- hsz]
 simp only [execOp,ho,hf.ev hx,Option.map_none,Sem.run_bind,hr,Result.andThen_ok,Sem.run_pure]
theorem zv {A:eL} {w:World} {lv hv:Int} {u:Unit} (hk0:chk (eN lv hv xs.length)=some u) (h:(Im.sl ty a0 c xs).ok A w):(Im.sl ty (lE a0 c lv ty.sz) (c - lv.toNat) (cut xs lv hv)).ok A w:=by
 obtain ⟨h0,h1,h2⟩:=fm hk0
 obtain ⟨h5,h6⟩:=h
 refine ⟨by rw [iN ⟨h0,h1,h2⟩]; omega,?_⟩
 rcases h6 with rfl | ⟨b,o',cs,rfl,hb,hels,hc⟩
 ·exact .inl (by simp [cut])
 ·by_cases hcl:c=lv.toNat
  ·left
   apply List.eq_nil_of_length_eq_zero
   rw [iN ⟨h0,h1,h2⟩]
   omega
  ·refine .inr ⟨b,o'+lv.toNat*ty.sz,_,by rw [lE,if_neg hcl]; simp [add_lit],hb,(hels.take hv.toNat).drop lv.toNat,λj u hu=> ?_⟩
   rw [Nat.add_assoc]
   apply hc
   rw [List.getElem?_drop,List.getElem?_take] at hu
   split at hu
   ·exact hu
   ·cases hu
theorem L.rs (i:Nat) {d t e:Nat} {x:Operand} {lo hi:Option Operand} {lv hv:Int} {ti te:TI} {u:Unit} (hk0:chk (eN lv hv xs.length)=some u) (hw:wg ops.toList m o=some true) (hd:o.dst=some d) (hn:Nat.blt d n.n=true) (ho:o.op = .slice t x lo hi none) (hx:ev m x=some (.slice a0 xs.length c)) (hlo:evb m lo 0=some lv) (hhi:evb m hi xs.length=some hv) (hI:I[i]?=some (Im.sl ty a0 c xs)) (ht:bL G.τ t=some ti) (hk:ti.k = .slice e) (he:bL G.τ e=some te) (hsz:te.size=ty.sz)
  (h: ∀ a1 c1,L G n K ops Q l ((d,.slice a1 (cut xs lv hv).length c1)::m) S (Im.sl ty a1 c1 (cut xs lv hv)::I)):L G n K ops Q (o::l) m S I:=by
 refine L.y (Yl.rs i hI hk0 ho hx hlo hhi ht hk he hsz) hw hd hn λA a w hf hs=>h _ _ A a w hf (hs.dD (J:=[_]) λf hf'=> ?_)
 rw [List.mem_singleton.1 hf']
 exact zv hk0 (hs.st.im _ (List.mem_of_getElem? hI))
theorem Ac.rso {t T:Nat} {x:Operand} {hi:Option Operand} {hv:Int} {ti te:TI} {u:Unit} (hk0:chk (eN 0 hv xs.length)=some u) (ho:o.op = .slice t x none hi none) (hx:ev m x=some (.slice a0 xs.length c)) (hhi:evb m hi xs.length=some hv) (ht:bL G.τ t=some ti) (hk:ti.k = .slice T) (he:bL G.τ T=some te) (hsz:te.size=ty.sz) :
  Ac G n m o [Ch.arr ty T a0 c xs] [] (λ_:Unit=> .slice a0 (cut xs 0 hv).length c) (λ_=>[Ch.arr ty T a0 c (cut xs 0 hv)]) (λ_=>[]):=by
 obtain ⟨_,h1,h2⟩:=fm hk0
 have ec:cut xs 0 hv=xs.take hv.toNat:=by simp [cut]
 rw [ec]
 refine Ac.run (v:=λ_=>some (.slice a0 (xs.take hv.toNat).length c)) λA a w hf hs=> ?_
 have hok:=hs.ch _ (List.mem_singleton.2 rfl)
 have hle:xs.length<=c:=(gy hok).1
 have hr:=ny (P:=G.P) (w:=w) (lo:=none) (lv:=0) (cap:=c) G.ok hf ht hk he rfl hhi (Int.le_refl 0) h1 (by omega) a0
 have hlen:(xs.take hv.toNat).length=hv.toNat:=by rw [List.length_take]; omega
 have ha:(if c=(0:Int).toNat then a0 else a0.map (·.add ((0:Int).toNat*te.size)))=a0:=by
  simp only [Int.toNat_zero,Nat.zero_mul]
  split
  ·rfl
  ·cases a0 <;> simp [Addr.add]
 rw [ha] at hr
 refine ⟨(),w,A,?_,SS.grown hs (ob:=none) ⟨rfl,rfl,rfl,Nat.le_refl _,λ_ _ _=>rfl⟩ (λ_ e=>nomatch e) (λb hb=>⟨.inl hb,(hs.own _ (List.mem_singleton.2 rfl) b hb).1⟩) ?_⟩
 ·simp only [execOp,ho,hf.ev hx,Option.map_none,Sem.run_bind,hlen,nx] at hr ⊢
  rw [hr]
  simp
 ·rcases kF hok with ⟨rfl,rfl,rfl⟩ | ⟨g,cur,cs,rfl,hb,h4,h5,h6,h7,h8⟩
  ·exact ⟨[],⟨by simp,.inl ⟨by simp,by simp⟩⟩,by simp; exact .nil⟩
  ·refine ⟨_,⟨?_,.inr ⟨g,c,cur,rfl,Nat.zero_le _,hb,by rw [hlen]; omega,h5,h6,?_⟩⟩,h8.take hv.toNat⟩
   ·rw [(h8.take hv.toNat).len]
   ·rw [hlen,<- h7,List.take_take,Nat.min_eq_left]
    exact Nat.mul_le_mul_right _ (by omega)
theorem BC {P:Program} (w:World) (t ty e:TypeId) (i:TypeInfo) (z:Value) (size bytes:Nat) (ht:P.underlying t=some (.slice e)) (hi:P.info? e=some i) (hz:i.zero=some z) (hsize:i.size=size) (hby:i.bytes=bytes) (hzs:z.cells.size=size) (hsz:0 < size)
  (v:Value) (n:Nat) (xs:List Value) (hown:w.ownsRow 0 e size v n xs) (a:Addr) (m c:Nat) (news:List Value) (hl:news.length=m*size) (hnews: ∀ j u,news[j]?=some u->w.cell? (a.add j)=some u) (h1: ∀ u∈news,u.oneCell'=true) (h63:n+m<=maxLen) (hbytes:(n+m)*bytes<=140737488355328) :
  ∃ v' w',(Builtin.append_ #[t,t] ty #[v,.slice (some a) m c]).run P w = .ok v' w'/\w'.ownsRow 0 e size v' (n+m) (xs++news)/\w.grownBy w' v.ownBlock/\(∀ b,v'.ownBlock=some b->(v.ownBlock=some b\/w.heap.size<=b)/\b < w'.heap.size):=by
 obtain ⟨v',w',hr,h2,h3,h4⟩:=run_append_own (P:=P) w 0 t ty e i z size bytes ht hi hz hsize hby hzs hsz v n xs hown a m c news hl hnews h1 h63 hbytes (Nat.zero_le _)
 refine ⟨v',w',hr,h2,h3,λb hb=>⟨?_,?_⟩⟩
 ·subst hsize hby
  simp only [maxLen] at h63
  rcases hown.2 with ⟨rfl,rfl⟩ | ⟨g,cap,cur,rfl,hbg,hg,hnc,hcm,hcs,htake⟩
  ·by_cases hm:m=0
   ·rw [h4.2 ⟨rfl,hm⟩] at hb
    cases hb
   ·have hr2:=run_append_nil (P:=P) w t ty e i z ht hi hz a m c news hl hnews (by omega) (by omega) (by simp only [Nat.zero_add] at hbytes; omega)
    rw [hr] at hr2
    injection hr2 with hv
    rw [hv] at hb
    injection hb with hb
    exact .inr (Nat.le_of_eq hb)
  ·by_cases hroom:n+m<=cap
   ·have hfit:n*i.size+news.length<=cur.size:=by rw [hl,hcs,<- Nat.add_mul]; exact Nat.mul_le_mul_right _ hroom
    have hr2:=run_append_room (P:=P) w t ty e i ht hi g n cap cur hg a m c news hl hnews h1 hroom hfit
    rw [hr] at hr2
    injection hr2 with hv
    rw [hv] at hb
    exact .inl hb
   ·have hr2:=run_append_grow (P:=P) w t ty e i z ht hi hz ⟨g,0,none⟩ n cap xs hown.1 (hown.cells (g:=g) rfl) a m c news hl hnews (by omega) (by omega) (growslice_fits (by omega) hbytes)
    rw [hr] at hr2
    injection hr2 with hv
    rw [hv] at hb
    injection hb with hb
    exact .inr (Nat.le_of_eq hb)
 ·exact (h2.lt b hb).2
theorem tv {P:Program} (w:World) (t ty e:TypeId) (i:TypeInfo) (ht:P.underlying t=some (.slice e)) (hi:P.info? e=some i) (a0:Option Addr) (n cap:Nat) (hn:n<=cap):(Builtin.append_ #[t,t] ty #[.slice a0 n cap,.slice none 0 c1]).run P w = .ok (.slice a0 n cap) w:=by
 cases a0 <;> simp [Builtin.append_,run_underlying ht,sizeOf,typeInfo,hi,Builtin.lenOf,hn,Builtin.firstCells,storeCells]
def cQ (n m bytes:Nat):Bool:=decide ((n+m)*bytes<=big)
theorem Ac.ap {t T:Nat} {x y:Operand} {ti te:TI} {u:Unit} (hlim:chk (cQ xs.length ys.length te.bytes)=some u) (ho:o.op = .call { callee:= .builtin .append,args:= #[x,y],argTypes:= #[t,t] }) (hx:ev m x=some (.slice a0 xs.length c)) (hy:ev m y=some (.slice a1 ys.length c1)) (ht:bL G.τ t=some ti) (hk:ti.k = .slice T) (he:bL G.τ T=some te) (hsz:(Nat.beq te.size ty.sz && Nat.beq te.zero.length ty.sz && Nat.blt 0 ty.sz && Nat.blt 0 te.bytes)=true) :
  Ac G n m o [Ch.arr ty T a0 c xs] [Im.sl ty a1 c1 ys] (λz:Option Addr×Nat=> .slice z.1 (xs++ys).length z.2) (λz=>[Ch.arr ty T z.1 z.2 (xs++ys)]) (λ_=>[]):=by
 have hlim:(xs.length+ys.length)*te.bytes<=140737488355328:=fm hlim
 simp only [Bool.and_eq_true] at hsz
 obtain ⟨⟨⟨hs1,hs2⟩,hpos⟩,hby⟩:=hsz
 have hs1:=Nat.eq_of_beq_eq_true hs1
 have hs2:=Nat.eq_of_beq_eq_true hs2
 have hpos':0 < ty.sz:=fW hpos
 have hby':0 < te.bytes:=fW hby
 refine Ac.run (v:=λz:Option Addr×Nat=>some (.slice z.1 (xs++ys).length z.2)) λA a w hf hs=> ?_
 obtain ⟨dd,f,z0,hdd,hfi,hkk,_⟩:=G.ok.info ht
 rw [hk] at hkk
 cases hkk
 obtain ⟨de,fe,ze,hde,hfe,_,hfs,hfb,hfz,hzc,_⟩:=G.ok.info he
 have hok:=hs.ch _ (List.mem_singleton.2 rfl)
 obtain ⟨cs,hown,hels⟩:=hok
 have hym:=hs.im _ (List.mem_singleton.2 rfl)
 have h63:xs.length+ys.length<=maxLen:=by
  have h1:(xs.length+ys.length)*1<=(xs.length+ys.length)*te.bytes:=Nat.mul_le_mul_left _ hby'
  simp only [maxLen]
  omega
 have hzs:ze.cells.size=ty.sz:=by rw [<- hs2,<- hzc,Array.length_toList]
 have key: ∀ (ad:Addr) (es:List Value),a1=some ad->Els ty A w ys es->(∀ j u,es[j]?=some u->w.cell? (ad.add j)=some u) -> ∃ (x:Option Addr×Nat) (w':World) (A':eL),(execOp a.eval o).run G.P w = .ok (nx (some (.slice x.1 (xs++ys).length x.2))) w'/\SS ⟨w,A,Own [Ch.arr ty T a0 c xs]⟩ A' [Ch.arr ty T x.1 x.2 (xs++ys)] [] w':=by
  rintro ad es rfl hes hcells
  obtain ⟨v',w',hr,hown',hgr,hat⟩:=BC (P:=G.P) w t o.type T fe ze ty.sz te.bytes hdd hfe hfz (hfs.trans hs1) hfb hzs hpos' (.slice a0 xs.length c) xs.length cs hown ad ys.length c1 es hes.len hcells hes.one h63 hlim
  have hv': ∃ a2 c2,v' = .slice a2 (xs.length+ys.length) c2:=by
   rcases hown'.2 with ⟨rfl,e⟩ | ⟨g,cap,cur,rfl,_⟩
   ·exact ⟨none,0,by rw [e]⟩
   ·exact ⟨_,_,rfl⟩
  obtain ⟨a2,c2,rfl⟩:=hv'
  have hblk:(Value.slice a0 xs.length c).ownBlock=a0.map (·.block):=by cases a0 <;> rfl
  have hblk2:(Value.slice a2 (xs.length+ys.length) c2).ownBlock=a2.map (·.block):=by cases a2 <;> rfl
  have hA: ∀ b,A b->w'.heap[b]?=w.heap[b]?:=λb hb=>hgr.block b (hs.lt b hb) (λe=>(hs.own _ (List.mem_singleton.2 rfl) b (hblk.symm.trans e.symm)).2 hb)
  rw [hblk2,hblk] at hat
  rw [<- List.length_append] at hown'
  refine ⟨(a2,c2),w',A,?_,SS.grown hs (by rw [<- hblk]; exact hgr) (λb e=>e) hat ⟨_,hown',(hels.app hes).st (λ_ h=>h) hA⟩⟩
  simp only [execOp,ho,resolve,invoke,builtin,Sem.run_bind,Sem.run_pure,Result.andThen_ok,List.map_toArray,List.map_cons,List.map_nil,hf.ev hx,hf.ev hy,hr,nx,List.length_append]
 rcases hym.2 with rfl | ⟨b,o',es,ha1,hb,hes,hc⟩
 ·cases a1 with
  | none =>
   refine ⟨(a0,c),w,A,?_,SS.grown hs (ob:=none) ⟨rfl,rfl,rfl,Nat.le_refl _,λ_ _ _=>rfl⟩ (λ_ e=>nomatch e) (λb hb=>⟨.inl hb,(hs.own _ (List.mem_singleton.2 rfl) b hb).1⟩) ⟨cs,by rw [List.append_nil]; exact hown,by rw [List.append_nil]; exact hels⟩⟩
   have hle:xs.length<=c:=(gy ⟨cs,hown,hels⟩).1
   simp only [execOp,ho,resolve,invoke,builtin,Sem.run_bind,Sem.run_pure,Result.andThen_ok,List.map_toArray,List.map_cons,List.map_nil,hf.ev hx,hf.ev hy,List.length_nil,tv w t o.type T fe hdd hfe a0 xs.length c hle,nx,List.append_nil]
  | some ad=>exact key ad [] rfl .nil (λj u hu=>by simp at hu)
 ·exact key _ es ha1 hes (λj u hu=>by rw [add_lit]; exact hc j u hu)
end
inductive Elb {α:Type} (ty:Ty α) (J:List Im):List α->List Value->Prop where
 | nil:Elb ty J [] []
 | cons {x xs cs} (h:ty.Hid) (is:List Nat) (hp:pick J is=some (ty.im x h)) (hr:Elb ty J xs cs):Elb ty J (x::xs) (ty.cs x h++cs)
theorem Elb.els {α:Type} {ty:Ty α} {J:List Im} {xs:List α} {cs:List Value} {A:eL} {w:World} (hJ: ∀ f∈J,f.ok A w) (h:Elb ty J xs cs):Els ty A w xs cs:=by
 induction h with
 | nil=>exact .nil
 | cons h is hp hr ih=>exact .cons h (λf hf=>hJ f (eF hp f hf)) ih
def yz (z:List Value) (n:Nat):List Value:=(List.range n).map λj=>(z[j % z.length]?).getD default
theorem AF (z:Array Value) (n:Nat):((Array.range n).map (z[· % z.size]!)).toList=yz z.toList n:=by
 unfold yz
 rw [Array.toList_map,Array.toList_range]
 apply List.map_congr_left
 intro j _
 rw [Array.length_toList,Array.getElem!_eq_getD,Array.getD_eq_getD_getElem?]
 simp only [Array.getElem?_toList]
section
variable {G : Pg} {n : Nd} {K : Key} {Q : Exit -> Act -> World -> Prop} {m : Env} {S : List Ch} {I : List Im} {ops : Array Oper} {o : Oper} {l : List Oper} {α : Type} {ty : Ty α} {xs ys : List α} {a0 a1 : Option Addr} {c c1 : Nat}
theorem Ac.bs {t e k:Nat} {ps:Array (Nat×Operand)} {ti te:TI} {pv:List (Nat×Value)} {cs:List Value} {J:List Im} (hE:Elb ty J xs cs) (ho:o.op = .buildSlice t k ps) (ht:bL G.τ t=some ti) (hk:ti.k = .slice e) (he:bL G.τ e=some te) (hsz:(Nat.beq te.size ty.sz && Nat.beq xs.length k && Nat.blt (k*te.size) 1000000 && Nat.blt k 1000000)=true) (hp:evs m ps.toList=some pv) (hb:s9 (λi=>some (i*te.size,te.size)) (yz te.zero (k*te.size)) pv=some cs) :
  Ac G n m o [] J (λg:Nat=> .slice (some ⟨g,0,none⟩) xs.length k) (λg=>[Ch.arr ty e (some ⟨g,0,none⟩) k xs]) (λ_=>[]):=by
 simp only [Bool.and_eq_true] at hsz
 obtain ⟨⟨⟨hs1,hs2⟩,hs3⟩,hs4⟩:=hsz
 have hs4:=fW hs4
 have hs1:=Nat.eq_of_beq_eq_true hs1
 have hs2:=Nat.eq_of_beq_eq_true hs2
 have hs3:=fW hs3
 refine Ac.run (v:=λg:Nat=>some (.slice (some ⟨g,0,none⟩) xs.length k)) λA a w hf hs=> ?_
 obtain ⟨dd,f,z0,hdd,hfi,hkk,_⟩:=G.ok.info ht
 rw [hk] at hkk
 cases hkk
 obtain ⟨de,fe,ze,hde,hfe,_,hfs,hfb,hfz,hzc,_⟩:=G.ok.info he
 have hels:=hE.els (A:=A) (w:=w) hs.im
 have hlen:=hels.len
 have hb':s9 (λi=>some (i*fe.size,fe.size)) ((Array.range (k*fe.size)).map (ze.cells[· % ze.cells.size]!)).toList pv=some cs:=by
  rw [AF,hzc,hfs]
  exact hb
 obtain ⟨ra,hra,hrl⟩:=sQ hb'
 have hcells:ra=cs.toArray:=by apply Array.ext'; simpa using hrl
 subst hcells
 have hev:(ps.map λ(x:Nat×Operand)=>(x.1,a.eval x.2)).toList=pv:=(Array.toList_map).trans (vo hf hp)
 have hr:(Instr.buildSlice t k (ps.map λ(x:Nat×Operand)=>(x.1,a.eval x.2))).run G.P w = .ok (.slice (some ⟨w.heap.size,0,none⟩) k k) (w.alloc (.cells cs.toArray e)):=by
  by_cases hpos:k*fe.size=0
  ·have hcs:cs=[]:=by
    apply List.eq_nil_of_length_eq_zero
    rw [hlen,hs2,<- hs1,<- hfs]
    exact hpos
   subst hcs
   rw [<- hev,hpos] at hra
   have hra2:Instr.fill (λi=>some (i*fe.size,fe.size)) #[] (ps.map λ(x:Nat×Operand)=>(x.1,a.eval x.2)).toList=some #[]:=by simpa [Array.range_zero'] using hra
   have hp0:k*te.size=0:=by rw [<- hfs]; exact hpos
   rw [hfs] at hra2
   have hgt: ¬ (k*te.size > 2 ^ 24):=by omega
   simp only [Instr.buildSlice,Sem.run_bind,run_underlying hdd,run_sizeOf G.ok he,Result.andThen_ok]
   rw [if_neg hgt,if_pos hp0]
   simp only [Sem.run_bind,Sem.run_pure,Result.andThen_ok,hp0,Array.range_zero',List.map_toArray,Array.map_empty,hra2]
   simp only [Array.toList_map] at hra2
   simp [newRow,newObj,Sem.run,hra2]
  ·rw [<- hev] at hra
   exact run_buildSlice w t e k _ _ fe ze hdd hfe hfz (by rw [hfs]; omega) hpos hra
 refine ⟨w.heap.size,w.alloc (.cells cs.toArray e),A,?_,?_⟩
 ·simp only [execOp,ho,Sem.run_bind,hr,Result.andThen_ok,Sem.run_pure,nx,hs2]
 ·refine SS.fresh (w':=w.alloc (.cells cs.toArray e)) (o:= .cells cs.toArray e) hs.lt rfl rfl rfl rfl (Ch.arr ty e (some ⟨w.heap.size,0,none⟩) k xs) (λb hb=>(Option.some.inj hb).symm) ?_
  have hA: ∀ b,A b->(w.alloc (.cells cs.toArray e)).heap[b]?=w.heap[b]?:=λb hb=>by
   have:=hs.lt b hb
   show (w.heap.push _)[b]?=_
   rw [Array.getElem?_push_lt this,Array.getElem?_eq_getElem this]
  refine ⟨cs,?_,hels.st (λ_ h=>h) hA⟩
  rw [hs2]
  have h5:=World.ownsRow_lit w cs.toArray k (base:=0) (size:=ty.sz) (e:=e) (Nat.zero_le _) (by simp only [maxLen]; omega) (by simpa [hs2] using hlen)
  simpa using h5
end
def iX {σ ρ:Type} (f:σ->Option (σ ⊕ ρ)):Nat->σ->Option ρ
 | 0,_=>none
 | k+1,s=>match f s with
  | none=>none
  | some (.inl s')=>iX f k s'
  | some (.inr r)=>some r
theorem pG {σ ρ:Type} {f:σ->Option (σ ⊕ ρ)}: ∀ {k j:Nat} {s:σ} {r:ρ},iX f k s=some r->k<=j->iX f j s=some r
 | 0,_,_,_,h,_=>by cases h
 | k+1,0,_,_,_,h=>by omega
 | k+1,j+1,s,r,h,hk=>by
  simp only [iX] at h ⊢
  cases hf:f s with
  | none=>rw [hf] at h; cases h
  | some z =>
   rw [hf] at h
   cases z with
   | inl s'=>exact pG (f:=f) (k:=k) (s:=s') h (Nat.le_of_succ_le_succ hk)
   | inr r'=>exact h
open Classical in
noncomputable def iter {σ ρ:Type} (f:σ->Option (σ ⊕ ρ)) (s:σ):Option ρ :=
 if h: ∃ k r,iX f k s=some r then iX f (Classical.choose h) s else none
theorem vq {σ ρ:Type} {f:σ->Option (σ ⊕ ρ)} {k:Nat} {s:σ} {r:ρ} (h:iX f k s=some r):iter f s=some r:=by
 have hex: ∃ k r,iX f k s=some r:=⟨k,r,h⟩
 unfold iter
 rw [dif_pos hex]
 obtain ⟨r',hr'⟩:=Classical.choose_spec hex
 have h1:=pG h (Nat.le_max_left k (Classical.choose hex))
 have h2:=pG hr' (Nat.le_max_right k (Classical.choose hex))
 rw [h1] at h2
 rw [hr',h2]
theorem nz {σ ρ:Type} {f:σ->Option (σ ⊕ ρ)} {s:σ} {r:ρ} (h:iter f s=some r): ∃ k,iX f k s=some r:=by
 unfold iter at h
 split at h
 ·rename_i hex; exact ⟨_,h⟩
 ·cases h
theorem iter_eq {σ ρ:Type} (f:σ->Option (σ ⊕ ρ)) (s:σ):iter f s=match f s with
  | none=>none
  | some (.inl s')=>iter f s'
  | some (.inr r)=>some r:=by
 cases hx:f s with
 | none =>
  simp only
  cases h:iter f s with
  | none=>rfl
  | some r =>
   obtain ⟨k,hk⟩:=nz h
   cases k with
   | zero=>cases hk
   | succ k=>simp [iX,hx] at hk
 | some z =>
  cases z with
  | inl s' =>
   simp only
   cases h:iter f s' with
   | none =>
    cases h2:iter f s with
    | none=>rfl
    | some r =>
     obtain ⟨k,hk⟩:=nz h2
     cases k with
     | zero=>cases hk
     | succ k =>
      simp only [iX,hx] at hk
      rw [vq hk] at h
      cases h
   | some r =>
    obtain ⟨k,hk⟩:=nz h
    exact vq (k:=k+1) (by simp only [iX,hx]; exact hk)
  | inr r=>exact vq (k:=1) (by simp [iX,hx])
theorem bY {σ ρ:Type} {f:σ->Option (σ ⊕ ρ)} {s s':σ} (h:f s=some (.inl s')):iter f s=iter f s':=by rw [iter_eq,h]
theorem bD {σ ρ:Type} {f:σ->Option (σ ⊕ ρ)} {s:σ} {r:ρ} (h:f s=some (.inr r)):iter f s=some r:=by rw [iter_eq,h]
def nA {α β:Type} (x:Option β):Option (α ⊕ β):=x.map .inr
theorem gA {α β:Type} {x:Option β} {y:α ⊕ β} (h:nA x=some y): ∃ w,y = .inr w/\x=some w:=by
 cases x with
 | none=>cases h
 | some w=>injection h with h; exact ⟨w,h.symm,rfl⟩
def fH {α β γ:Type} (x:Option γ):Option (α ⊕ (β ⊕ γ)):=x.map λw=> .inr (.inr w)
theorem cK {α β γ:Type} {x:Option γ} {y:α ⊕ (β ⊕ γ)} (h:fH x=some y): ∃ w,y = .inr (.inr w)/\x=some w:=by
 cases x with
 | none=>cases h
 | some w=>injection h with h; exact ⟨w,h.symm,rfl⟩
section
variable {G : Pg} {n : Nd} {K : Key} {Q : Exit -> Act -> World -> Prop} {m : Env} {S : List Ch} {I : List Im} {ops : Array Oper} {o : Oper} {l : List Oper}
def Mid (n:Nd) (K:Key) {η:Type} (φ:η->Prop) (M:η->Env) (S:η->List Ch) (I:η->List Im):Act->World->Prop:=λa w=> ∃ x A,φ x/\Fr n (M x) a/\SS K A (S x) (I x) w
theorem T.join {x y:Code} {η:Type} (φ:η->Prop) (M:η->Env) (S':η->List Ch) (I':η->List Im) (h1:T G n K (Exit.then (Mid n K φ M S' I') Q) x m S I) (h2: ∀ z,φ z->T G n K Q y (M z) (S' z) (I' z)):T G n K (Exit.then (y.wpIn G.F 0 G.P Q) Q) x m S I:=by
 intro A a w hf hs
 refine Code.wpIn_mono ?_ (h1 A a w hf hs)
 intro e a' w' hq
 cases e with
 | normal =>
  obtain ⟨z,A',hz,hf',hs'⟩:=hq
  exact h2 z hz A' a' w' hf' hs'
 | exit id=>exact hq
 | goto id=>exact hq
 | ret=>exact hq
 | panic ch=>exact hq
 | outgrown=>exact hq
theorem E.ux {η:Type} {φ:η->Prop} {M:η->Env} {S':η->List Ch} {I':η->List Im} (z:η) (is js:List Nat) {R:List Ch} (hz:φ z) (hm:sF m (M z)) (hS:ext S is=some (S' z,R)) (hJ:pick I js=some (I' z)):E n K (Exit.then (Mid n K φ M S' I') Q) .normal m S I:=by
 intro A a w hf hs
 have h2:=hs.perm (dC hS) (λi hi=>hi)
 exact ⟨z,A,hz,hf.sub (my hm),h2.drop (eF hJ)⟩
theorem T.it {ρ σ η:Type} {r:ρ} {c:Code} {f:σ->Option (σ ⊕ ρ)} (M:σ->η->Env) (SL:σ->η->List Ch) (IL:σ->η->List Im)
  (round: ∀ k s x z,f s=some z->(∀ s',z = .inl s'->iX f k s'=some r)->(∀ r',z = .inr r'->r'=r)->T G n K (Exit.then (Mid n K (λp:σ×η=>iX f k p.1=some r) (λp=>M p.1 p.2) (λp=>SL p.1 p.2) (λp=>IL p.1 p.2)) Q) c (M s x) (SL s x) (IL s x))
  {s:σ} {x:η} (h:iter f s=some r):T G n K Q (.loop c) (M s x) (SL s x) (IL s x):=by
 obtain ⟨k,hk⟩:=nz h
 refine T.loop (σ:=σ×η) (λk p=>iX f k p.1) (λp=>M p.1 p.2) (λp=>SL p.1 p.2) (λp=>IL p.1 p.2) (λs e=>by cases e) ?_ (k:=k) (s:=(s,x)) hk
 rintro k ⟨s,x⟩ hs
 simp only [iX] at hs
 cases hz:f s with
 | none=>rw [hz] at hs; cases hs
 | some z =>
  rw [hz] at hs
  have h1:=round k s x z hz (λs' e=>by subst e; exact hs) (λr' e=>by subst e; exact Option.some.inj hs)
  intro A a w hf hss
  refine Code.wpIn_mono ?_ (h1 A a w hf hss)
  intro e a' w' hq
  cases e with
  | normal =>
   obtain ⟨p,A',hp,hf',hs'⟩:=hq
   exact ⟨p,A',hp,hf',hs'⟩
  | exit id=>exact hq
  | goto id=>exact hq
  | ret=>exact hq
  | panic ch=>exact hq
  | outgrown=>exact hq
theorem T.GK {c:Code} {m':Env} {S' R:List Ch} {I':List Im} (is js:List Nat) (hm:sF m m') (hS:ext S is=some (S',R)) (hJ:pick I js=some I') (h:T G n K Q c m' S' I'):T G n K Q c m S I :=
 λA a w hf hs=>h A a w (hf.sub (my hm)) ((hs.perm (dC hS) (λi hi=>hi)).drop (eF hJ))
theorem SS.fZ {A:eL} {w:World} {α:Type} {ty:Ty α} {T0:Nat} (h:SS K A S I w):SS K A (Ch.arr ty T0 none 0 []::S) I w:=by
 refine ⟨⟨h.st.lt,?_,?_,List.pairwise_cons.2 ⟨λc hc b hb=>(by cases hb),h.st.dis⟩,h.st.im⟩,⟨h.fx.os,h.fx.tape,h.fx.output,h.fx.size,h.fx.mR,h.fx.up,h.fx.dn,?_⟩⟩
 ·intro c hc
  rcases List.mem_cons.1 hc with rfl | hc
  ·exact ⟨[],⟨by simp,.inl ⟨rfl,rfl⟩⟩,.nil⟩
  ·exact h.st.ch c hc
 ·intro c hc b hb
  rcases List.mem_cons.1 hc with rfl | hc
  ·cases hb
  ·exact h.st.own c hc b hb
 ·rintro b ⟨c,hc,hb⟩
  rcases List.mem_cons.1 hc with rfl | hc
  ·cases hb
  ·exact h.fx.own b ⟨c,hc,hb⟩
theorem T.dD {c:Code} (J:List Im) (hq: ∀ A w,(∀ c∈S,c.ok A w)->(∀ f∈I,f.ok A w) -> ∀ f∈J,f.ok A w) (h:Tw.T G n K Q c m S (J++I)):Tw.T G n K Q c m S I:=λA a w hf hs=>h A a w hf (hs.dD (hq A w hs.st.ch hs.st.im))
theorem L.dD {l:List Oper} (J:List Im) (hq: ∀ A w,(∀ c∈S,c.ok A w)->(∀ f∈I,f.ok A w) -> ∀ f∈J,f.ok A w) (h:L G n K ops Q l m S (J++I)):L G n K ops Q l m S I:=λA a w hf hs=>h A a w hf (hs.dD (hq A w hs.st.ch hs.st.im))
theorem E.dD {e0:Exit} (J:List Im) (hq: ∀ A w,(∀ c∈S,c.ok A w)->(∀ f∈I,f.ok A w) -> ∀ f∈J,f.ok A w) (h:E n K Q e0 m S (J++I)):E n K Q e0 m S I:=λA a w hf hs=>h A a w hf (hs.dD (hq A w hs.st.ch hs.st.im))
theorem L.addr {l:List Oper} (i:Nat) {α:Type} {ty:Ty α} {xs:List α} {a0:Option Addr} {c0:Nat} (hI:I[i]?=some (Im.sl ty a0 c0 xs)) (hne:0 < xs.length) (h: ∀ b o',a0=some ⟨b,o',none⟩->L G n K ops Q l m S I):L G n K ops Q l m S I:=by
 intro A a w hf hs
 rcases (hs.st.im _ (List.mem_of_getElem? hI)).2 with rfl | ⟨b,o',cs,e,_⟩
 ·simp at hne
 ·exact h b o' e A a w hf hs
theorem L.iw {l:List Oper} (i:Nat) {α:Type} {ty:Ty α} {xs:List α} {a0:Option Addr} {c0 T0:Nat} (hI:S[i]?=some (Ch.arr ty T0 a0 c0 xs)) (hne:0 < xs.length) (h: ∀ b,a0=some ⟨b,0,none⟩->L G n K ops Q l m S I):L G n K ops Q l m S I:=by
 intro A a w hf hs
 rcases (gy (hs.st.ch _ (List.mem_of_getElem? hI))).2 with rfl | ⟨b,cs,e,_⟩
 ·simp at hne
 ·exact h b e A a w hf hs
theorem L.el {l:List Oper} (i:Nat) {α:Type} {ty:Ty α} {xs:List α} {b o' c0:Nat} {k:Nat} {x0:α} (hI:I[i]?=some (Im.sl ty (some ⟨b,o',none⟩) c0 xs)) (hk:xs[k]?=some x0) (h: ∀ hd,L G n K ops Q l m S (Im.cells b (o'+k*ty.sz) (ty.cs x0 hd)::(ty.im x0 hd++I))):L G n K ops Q l m S I:=by
 intro A a w hf hs
 rcases (hs.st.im _ (List.mem_of_getElem? hI)).2 with rfl | ⟨b1,o1,cs,e,hA,hels,hc⟩
 ·simp at hk
 ·injection e with e
  injection e with e1 e2
  subst e1 e2
  obtain ⟨hd,h1,h2⟩:=hels.at_ k x0 hk
  refine h hd A a w hf (hs.dD (J:=Im.cells b (o'+k*ty.sz) (ty.cs x0 hd)::ty.im x0 hd) λf hf'=> ?_)
  rcases List.mem_cons.1 hf' with rfl | hf'
  ·exact ⟨hA,λj u hu=>by rw [Nat.add_assoc]; exact hc _ u (h2 j u hu)⟩
  ·exact h1 f hf'
theorem L.frz {l:List Oper} (p:Nat) {α:Type} {ty:Ty α} {xs:List α} {a0:Option Addr} {c0 T0:Nat} {R:List Ch} (hS:ext S [p]=some ([Ch.arr ty T0 a0 c0 xs],R)) (h:L G n K ops Q l m R (Im.sl ty a0 c0 xs::I)):L G n K ops Q l m S I:=λA a w hf hs=>h _ a w hf ((hs.perm (dC hS) λ_ h=>h).frz qd)
theorem E.frz {e0:Exit} (p:Nat) {α:Type} {ty:Ty α} {xs:List α} {a0:Option Addr} {c0 T0:Nat} {R:List Ch} (hS:ext S [p]=some ([Ch.arr ty T0 a0 c0 xs],R)) (h:E n K Q e0 m R (Im.sl ty a0 c0 xs::I)):E n K Q e0 m S I:=λA a w hf hs=>h _ a w hf ((hs.perm (dC hS) λ_ h=>h).frz qd)
theorem T.fZ {c:Code} {α:Type} (ty:Ty α) (T0:Nat) (h:Tw.T G n K Q c m (Ch.arr ty T0 none 0 []::S) I):Tw.T G n K Q c m S I:=λA a w hf hs=>h A a w hf hs.fZ
theorem L.fZ {l:List Oper} {α:Type} (ty:Ty α) (T0:Nat) (h:L G n K ops Q l m (Ch.arr ty T0 none 0 []::S) I):L G n K ops Q l m S I:=λA a w hf hs=>h A a w hf hs.fZ
theorem E.fZ {e0:Exit} {α:Type} (ty:Ty α) (T0:Nat) (h:E n K Q e0 m (Ch.arr ty T0 none 0 []::S) I):E n K Q e0 m S I:=λA a w hf hs=>h A a w hf hs.fZ
def prn (m:Env):List Nat->Option Env
 | []=>some []
 | d::r=>match look m d,prn m r with
  | some v,some r'=>some ((d,v)::r')
  | _,_=>none
theorem BD {m:Env}: ∀ {ds:List Nat} {m':Env},prn m ds=some m'->sF m m'
 | [],m',h=>by injection h with h; subst h; exact trivial
 | d::r,m',h=>by
  simp only [prn] at h
  split at h
  ·rename_i v r' hv hr
   injection h with h
   subst h
   exact ⟨hv,BD hr⟩
  ·cases h
theorem T.G8 {id:Nat} {l:List Oper} (h0:ops.toList=l) (h:L G n K ops Q l m S I):Tw.T G n K Q (.region id ops false) m S I:=by
 obtain rfl:ops=l.toArray:=by rw [<- h0]
 exact T.region h
theorem L.sl (d:Nat) {l:List Oper} {a0:Option Addr} {k k' c:Nat} (hk:k'=k) (hd:look m d=some (.slice a0 k c)) (h:L G n K ops Q l ((d,.slice a0 k' c)::m) S I):L G n K ops Q l m S I:=by
 subst hk
 exact λA a w hf hs=>h A a w (hf.sub λi v hi=>by
  simp only [look] at hi
  split at hi
  ·rename_i hb
   rw [<- Nat.eq_of_beq_eq_true hb,hd]
   exact hi
  ·exact hi) hs
theorem E.sl (d:Nat) {e0:Exit} {a0:Option Addr} {k k' c:Nat} (hk:k'=k) (hd:look m d=some (.slice a0 k c)) (h:E n K Q e0 ((d,.slice a0 k' c)::m) S I):E n K Q e0 m S I:=by
 subst hk
 exact λA a w hf hs=>h A a w (hf.sub λi v hi=>by
  simp only [look] at hi
  split at hi
  ·rename_i hb
   rw [<- Nat.eq_of_beq_eq_true hb,hd]
   exact hi
  ·exact hi) hs
theorem L.bx (i:Nat) {l:List Oper} {g T0:Nat} {cs cs':List Value} {R:List Ch} (he:cs'=cs) (hS:ext S [i]=some ([Ch.box g T0 cs],R)) (h:L G n K ops Q l m (Ch.box g T0 cs'::R) I):L G n K ops Q l m S I:=by
 subst he
 exact λA a w hf hs=>h A a w hf (hs.perm (dC hS) λ_ h=>h)
theorem SS.GL {A A' A'':eL} {w w':World} {J:List Im} (h:SS K A S I w) (h2:SS ⟨w,A',Own []⟩ A'' [] J w'):SS K A S I w':=by
 have hk: ∀ b,b < w.heap.size->w'.heap[b]?=w.heap[b]?:=λb hb=>h2.fx.mR b hb (λ⟨c,hc,_⟩=>by cases hc)
 have hA: ∀ b,A b->w'.heap[b]?=w.heap[b]?:=λb hb=>hk b (h.st.lt b hb)
 refine ⟨⟨λb hb=>Nat.lt_of_lt_of_le (h.st.lt b hb) h2.fx.size,λc hc=>c.st (λ_ h=>h) hA (λb hb=>hk b (h.st.own c hc b hb).1) (h.st.ch c hc),λc hc b hb=>⟨Nat.lt_of_lt_of_le (h.st.own c hc b hb).1 h2.fx.size,(h.st.own c hc b hb).2⟩,h.st.dis,λf hf=>f.st (λ_ h=>h) hA (h.st.im f hf)⟩,
  ⟨h2.fx.os.trans h.fx.os,h2.fx.tape.trans h.fx.tape,h2.fx.output.trans h.fx.output,Nat.le_trans h.fx.size h2.fx.size,λb hb hO=>(hk b (Nat.lt_of_lt_of_le hb h.fx.size)).trans (h.fx.mR b hb hO),h.fx.up,h.fx.dn,h.fx.own⟩⟩
def Bw (S:List Ch) (I J:List Im):Prop:= ∀ A w,St A S I w -> ∃ A':eL,(∀ b,A b->A' b)/\St A' [] J w
theorem Bw.nil:Bw S I []:=λA w h=>⟨A,λ_ h=>h,h.lt,(λ_ h=>by cases h),(λ_ h=>by cases h),List.Pairwise.nil,(λ_ h=>by cases h)⟩
theorem Bw.im (i:Nat) {f:Im} {J:List Im} (hI:I[i]?=some f) (h:Bw S I J):Bw S I (f::J):=λA w hs=>by
 obtain ⟨A',h1,h2⟩:=h A w hs
 refine ⟨A',h1,h2.lt,(λ_ h=>by cases h),(λ_ h=>by cases h),List.Pairwise.nil,λg hg=> ?_⟩
 rcases List.mem_cons.1 hg with rfl | hg
 ·exact g.st h1 (λ_ _=>rfl) (hs.im _ (List.mem_of_getElem? hI))
 ·exact h2.im g hg
theorem Bw.ch (i:Nat) {α:Type} {ty:Ty α} {T0 c0:Nat} {a0:Option Addr} {xs:List α} {J:List Im} (hS:S[i]?=some (Ch.arr ty T0 a0 c0 xs)) (h:Bw S I J):Bw S I (Im.sl ty a0 c0 xs::J):=λA w hs=>by
 obtain ⟨A',h1,h2⟩:=h A w hs
 have hc:=List.mem_of_getElem? hS
 have hk:=qd A w (hs.ch _ hc)
 refine ⟨λb=>A' b\/(Ch.arr ty T0 a0 c0 xs).blk b,λb hb=> .inl (h1 b hb),?_,(λ_ h=>by cases h),(λ_ h=>by cases h),List.Pairwise.nil,λg hg=> ?_⟩
 ·rintro b (hb | hb)
  ·exact h2.lt b hb
  ·exact (hs.own _ hc b hb).1
 ·rcases List.mem_cons.1 hg with rfl | hg
  ·exact Im.st _ (λb hb=>hb.imp (h1 b) id) (λ_ _=>rfl) hk
  ·exact g.st (λb hb=> .inl hb) (λ_ _=>rfl) (h2.im g hg)
theorem L.br {l:List Oper} {d:Option Nat} {J:List Im} {σ:Type} {v:σ->Value} (hA:Ac G n m o [] J v (λ_=>[]) (λ_=>[])) (hB:Bw S I J) (hw:wg ops.toList m o=some true) (hd:o.dst=d) (hn:dok d n.n=true) (h: ∀ x,L G n K ops Q l (ma d (v x) m) S I):L G n K ops Q (o::l) m S I:=by
 intro A a w hf hs
 unfold wpListIn
 rw [if_pos (kx hw hf)]
 obtain ⟨A',h1,h2⟩:=hB A w hs.st
 refine (hA A' a w _ Q hf h2 λx w' A'' h3=> ?_).2
 rw [hd]
 exact h x A _ w' (hf.sH hn _) (hs.GL h3)
theorem Im.bV {α:Type} {ty:Ty α} {c:Nat}: ∀ A w,(Im.sl ty none c []).ok A w:=λA w=>⟨Nat.zero_le _,.inl rfl⟩
theorem bH {α:Type} {xs:List α} {i:Int} {x:α} (h:idx xs i=some x):0 < xs.length:=by
 have:=(List.getElem?_eq_some_iff.1 (aI h).2).1
 omega
end
end Go.Tw
namespace Go.Tw
open Go
def kv (e:Edge):Bool:=match e.ground with
 | .textOnly _ | .gcOnly _=>false
 | _=>true
theorem nB (e:Edge):Region.binds .any e=kv e:=by
 unfold Region.binds kv
 cases e.ground <;> rfl
def mem (i:Nat):List Nat->Bool
 | []=>false
 | j::l=>Nat.beq i j || mem i l
theorem mem_iff {i:Nat}: ∀ {l:List Nat},mem i l=true↔i∈l
 | []=>by simp [mem]
 | j::l=>by
  simp only [mem,Bool.or_eq_true,mem_iff (l:=l),List.mem_cons]
  constructor
  ·rintro (h | h)
   ·exact .inl (Nat.eq_of_beq_eq_true h)
   ·exact .inr h
  ·rintro (rfl | h)
   ·exact .inl (Nat.beq_refl _)
   ·exact .inr h
def lst (n:Nat) (l:List Nat):Array Bool:=((List.range n).map λi=>mem i l).toArray
theorem nY (n:Nat) (l:List Nat) (i:Nat) (d:Bool):(lst n l).getD i d=if i < n then mem i l else d:=by
 unfold lst
 rw [Array.getD_eq_getD_getElem?]
 split <;> rename_i h <;> simp [h]
theorem mb (n:Nat) (l:List Nat) (i:Nat):(lst n l).setIfInBounds i true=lst n (i::l):=by
 apply Array.ext'
 unfold lst
 rw [Array.toList_setIfInBounds]
 show ((List.range n).map λi=>mem i l).set i true=(List.range n).map λj=>mem j (i::l)
 apply List.ext_getElem?
 intro j
 rw [List.getElem?_set,List.getElem?_map,List.getElem?_map,List.length_map,List.length_range]
 by_cases hij:i=j
 ·subst hij
  by_cases hi:i < n <;> simp [hi,mem]
 ·rw [if_neg hij]
  have:Nat.beq j i=false:=by cases hb:Nat.beq j i with
   | false=>rfl
   | true=>exact absurd (Nat.eq_of_beq_eq_true hb).symm hij
  cases hr:(List.range n)[j]? with
  | none=>rfl
  | some y =>
   have:y=j:=by
    obtain ⟨h1,h2⟩:=List.getElem?_eq_some_iff.1 hr
    simpa using h2.symm
   subst this
   simp [mem, *]
theorem D4 (n:Nat):Array.replicate n false=lst n []:=by
 apply Array.ext
 ·simp [lst]
 ·intro j h1 h2
  simp [lst,mem]
def yA (l:List Nat) (o:Oper):Bool:=o.after.toList.all λe=> !kv e || mem e.on l
def qe (l:List Nat):Nat->List Oper->List Nat
 | _,[]=>[]
 | i,o::r=>match !mem i l && yA l o with
  | true=>i::qe l (i+1) r
  | false=>qe l (i+1) r
def closed (ops:List Oper):Bool:=ops.all λo=>o.after.toList.all λe=>Nat.blt e.on ops.length
theorem nC {l:List Nat}: ∀ {r:List Oper} {k i:Nat},i∈qe l k r ↔ ∃ j o,i=k+j/\r[j]?=some o/\(!mem i l && yA l o)=true
 | [],k,i=>by simp [qe]
 | o::r,k,i=>by
  simp only [qe]
  have ih:=nC (l:=l) (r:=r) (k:=k+1) (i:=i)
  split
  ·rename_i h
   rw [List.mem_cons,ih]
   constructor
   ·rintro (rfl | ⟨j,o',rfl,h1,h2⟩)
    ·exact ⟨0,o,rfl,rfl,h⟩
    ·exact ⟨j+1,o',by omega,h1,h2⟩
   ·rintro ⟨j,o',rfl,h1,h2⟩
    cases j with
    | zero=>exact .inl rfl
    | succ j=>exact .inr ⟨j,o',by omega,h1,h2⟩
  ·rename_i h
   rw [ih]
   constructor
   ·rintro ⟨j,o',rfl,h1,h2⟩
    exact ⟨j+1,o',by omega,h1,h2⟩
   ·rintro ⟨j,o',rfl,h1,h2⟩
    cases j with
    | zero =>
     simp at h1
     subst h1
     rw [Nat.add_zero,h] at h2
     cases h2
    | succ j=>exact ⟨j,o',by omega,h1,h2⟩
theorem ld {ops:List Oper} {l:List Nat} (hc:closed ops=true) {i:Nat}:i∈Region.ready .any ops.toArray (lst ops.length l)↔i∈qe l 0 ops:=by
 rw [mem_ready,nC]
 have hon: ∀ o∈ops,∀ e∈o.after,e.on < ops.length:=λo ho e he=>fW (List.all_eq_true.1 (List.all_eq_true.1 hc o ho) e (by simpa using he))
 constructor
 ·rintro ⟨h1,o,h2,h3⟩
  have h2':ops[i]?=some o:=by simpa using h2
  have hlt:i < ops.length:=(List.getElem?_eq_some_iff.1 h2').1
  rw [nY,if_pos hlt] at h1
  refine ⟨i,o,by omega,h2',?_⟩
  rw [h1]
  simp only [Bool.not_false,Bool.true_and,yA,List.all_eq_true,Bool.or_eq_true,Bool.not_eq_true']
  intro e he
  have he':e∈o.after:=by simpa using he
  cases hb:kv e with
  | false=>exact .inl rfl
  | true =>
   right
   have h4:=h3 e he' (by rw [nB,hb])
   rw [nY,if_pos (hon o (List.mem_of_getElem? h2') e he')] at h4
   exact h4
 ·rintro ⟨j,o,hj,h2,h3⟩
  obtain rfl:i=j:=by omega
  have hlt:i < ops.length:=(List.getElem?_eq_some_iff.1 h2).1
  simp only [Bool.and_eq_true,Bool.not_eq_true',yA,List.all_eq_true,Bool.or_eq_true] at h3
  refine ⟨by rw [nY,if_pos hlt]; exact h3.1,o,by simpa using h2,λe he hb=> ?_⟩
  rw [nB] at hb
  have h4:=h3.2 e (by simpa using he)
  rw [hb] at h4
  rw [nY,if_pos (hon o (List.mem_of_getElem? h2) e he)]
  exact h4.resolve_left (by simp)
def wpG (P:Program) (ops:Array Oper) (Q:Exit->Act->World->Prop) (late:List Nat):Nat->(World->Prop)->Array Bool->Act->World->Prop
 | 0,S,listed,a,w=>Region.ready .any ops listed=[]/\Q .normal a w
 | fuel+1,S,listed,a,w =>
  (Region.ready .any ops listed=[]->Q .normal a w) /\
  ∀ i∈Region.ready .any ops listed,wpOp P ops Q i (λa' w'=> ∃ S':World->Prop,(i∈late \/ ∀ w,S' w->S w)/\S' w'/\wpG P ops Q late fuel S' (listed.setIfInBounds i true) a' w') a w
section
variable {P : Program} {ops : Array Oper} {Q : Exit -> Act -> World -> Prop} {late : List Nat}
theorem tw: ∀ (fuel:Nat) (S:World->Prop) (listed:Array Bool) (a:Act) (w:World),wpG P ops Q late fuel S listed a w->wpAny P .any ops Q fuel listed a w
 | 0,_,_,_,_,h=>h
 | fuel+1,_,_,_,_,h=>⟨h.1,λi hi=>wpOp_mono (λa' w' ⟨S',_,_,h'⟩=>tw fuel S' _ a' w' h') (h.2 i hi)⟩
theorem tx: ∀ {fuel:Nat} {S S2:World->Prop} {listed:Array Bool} {a:Act} {w:World},(∀ w,S w->S2 w)->wpG P ops Q late fuel S listed a w->wpG P ops Q late fuel S2 listed a w
 | 0,_,_,_,_,_,_,h=>h
 | fuel+1,_,_,_,_,_,hS,h=>⟨h.1,λi hi=>wpOp_mono (λa' w' ⟨S',h1,h2,h3⟩=>⟨S',h1.imp id (λh1 w h=>hS w (h1 w h)),h2,h3⟩) (h.2 i hi)⟩
inductive Wt (ops:Array Oper) (i:Nat):Nat->Prop where
 | one {j oj} {e:Edge} (hj:ops[j]?=some oj) (he:e∈oj.after) (hb:Region.binds .any e=true) (h:e.on=i):Wt ops i j
 | more {j oj} {e:Edge} (hj:ops[j]?=some oj) (he:e∈oj.after) (hb:Region.binds .any e=true) (h:Wt ops i e.on):Wt ops i j
def DC (ops:Array Oper) (listed:Array Bool):Prop:= ∀ j oj,ops[j]?=some oj->listed.getD j false=true -> ∀ e∈oj.after,Region.binds .any e=true->listed.getD e.on false=true
theorem DC.wt {listed:Array Bool} (h:DC ops listed) {i j:Nat} (hw:Wt ops i j):listed.getD j false=true->listed.getD i false=true:=by
 induction hw with
 | one hj he hb h1=>intro hl; rw [<- h1]; exact h _ _ hj hl _ he hb
 | more hj he hb h1 ih=>intro hl; exact ih (h _ _ hj hl _ he hb)
theorem DC.ready {listed:Array Bool} (h:DC ops listed) {i j:Nat} (hw:Wt ops i j) (hr:j∈Region.ready .any ops listed):listed.getD i false=true:=by
 obtain ⟨_,oj,hoj,hall⟩:=mem_ready.1 hr
 cases hw with
 | one hj he hb h1=>rw [hj] at hoj; cases hoj; rw [<- h1]; exact hall _ he hb
 | more hj he hb h1=>rw [hj] at hoj; cases hoj; exact h.wt h1 (hall _ he hb)
theorem DC.add {listed:Array Bool} (h:DC ops listed) {j:Nat} (hr:j∈Region.ready .any ops listed):DC ops (listed.setIfInBounds j true):=by
 intro k ok hk hl e he hb
 obtain ⟨_,oj,hoj,hall⟩:=mem_ready.1 hr
 by_cases hjk:j=k
 ·subst hjk
  rw [hk] at hoj
  cases hoj
  exact getD_set_true (hall _ he hb)
 ·rw [getD_set_ne false hjk] at hl
  exact getD_set_true (h k ok hk hl e he hb)
theorem AG {i:Nat} {oi:Oper} {v:Value} (hi:ops[i]?=some oi) (hsel: ∀ (j:Nat) (o:Oper) cs b,ops[j]?=some o->o.op ≠ .select cs b)
  (hQ: ∀ c a w,Q (.panic c) (a.put oi.dst v) w->Q (.panic c) a w) {S0:World->Prop} (hlate:(∀ w,S0 w) \/ ∀ j∈late,(ops[j]?).isSome=true->Wt ops i j) :
  ∀ (fuel:Nat) (S:World->Prop) (listed:Array Bool) (a:Act) (w:World),
   (∀ j oj,ops[j]?=some oj->j≠i->listed.getD j true=false->(∀ e∈oj.after,Region.binds .any e=true->e.on≠i)->oi.apart ops oj=true) ->
   i∈Region.ready .any ops listed->DC ops listed->YieldsIf P ops S0 oi v a->(∀ w,S w->S0 w)->S w ->
   wpG P ops Q late fuel S (listed.setIfInBounds i true) (a.put oi.dst v) w->wpG P ops Q late (fuel+1) S listed a w:=by
 intro fuel
 induction fuel with
 | zero =>
  intro S listed a w _ hr hdc hy hSS hS H
  refine ⟨λh=>(by rw [h] at hr; cases hr),λj hj=> ?_⟩
  by_cases hji:j=i
  ·subst hji; exact hy.wpOp hi (hSS w hS) ⟨S,.inr λ_ h=>h,hS,H⟩
  ·have:=ready_mono hj hji
   rw [H.1] at this
   cases this
 | succ fuel ih =>
  intro S listed a w hfree hr hdc hy hSS hS H
  refine ⟨λh=>(by rw [h] at hr; cases hr),λj hj=> ?_⟩
  by_cases hji:j=i
  ·subst hji; exact hy.wpOp hi (hSS w hS) ⟨S,.inr λ_ h=>h,hS,H⟩
  ·have h1:=H.2 j (ready_mono hj hji)
   obtain ⟨hjun,oj,hoj,hall⟩:=mem_ready.1 hj
   have hnot: ∀ e∈oj.after,Region.binds .any e=true->e.on≠i:=λe he hb heq=>by
    have h1:=hall e he hb
    have h0:=(mem_ready.1 hr).1
    rw [heq] at h1
    rcases Nat.lt_or_ge i listed.size with h' | h'
    ·simp [h'] at h0 h1; rw [h0] at h1; cases h1
    ·simp [Array.getElem?_eq_none h'] at h1
   have hun:listed.getD i false=false:=by
    have h0:=(mem_ready.1 hr).1
    rcases Nat.lt_or_ge i listed.size with h' | h'
    ·simpa [h'] using h0
    ·simp [Array.getElem?_eq_none h']
   have hnl:(∀ w,S0 w)\/j ∉ late:=hlate.imp id λhl h=>by
    have h5:=hdc.ready (hl j h (by rw [hoj]; rfl)) hj
    rw [hun] at h5
    cases h5
   have h2:=wpOp_putIf hoj (hfree j oj hoj hji hjun hnot) (λcs b=>hsel i oi cs b hi) (λcs b=>hsel j oj cs b hoj) hQ hy h1
   have hfree': ∀ k ok,ops[k]?=some ok->k≠i->(listed.setIfInBounds j true).getD k true=false ->
     (∀ e∈ok.after,Region.binds .any e=true->e.on≠i)->oi.apart ops ok=true:=λk ok hk hki hun hno=>by
    refine hfree k ok hk hki ?_ hno
    by_cases hjk:j=k
    ·subst hjk; exact hjun
    ·rw [getD_set_ne true hjk] at hun; exact hun
   refine wpOp_mono (λa' w' h3=> ?_) h2
   obtain ⟨hy3,S',hm,hS',h4⟩:=h3
   have hm0:=hm
   have hm: ∀ w,S' w->S0 w:=by
    rcases hnl with h | h
    ·exact λw _=>h w
    ·exact λw hw=>hSS w (hm.resolve_left h w hw)
   refine ⟨S',?_,hS',ih S' (listed.setIfInBounds j true) a' w' hfree' (ready_mono hr (Ne.symm hji)) (hdc.add hj) hy3 hm hS' ?_⟩
   ·exact hm0
   rw [Array.setIfInBounds_comm _ _ hji]
   exact h4
end
def NP (Q:Exit->Act->World->Prop):Exit->Act->World->Prop
 | .panic _,_,_=>False
 | .outgrown,_,_=>False
 | e,a,w=>Q e a w
def WS (C:List Ch) (I:List Im):World->Prop:=λw=> ∃ A,(∀ c∈C,c.ok A w)/\(∀ f∈I,f.ok A w)
section
variable {G : Pg} {n : Nd} {K : Key} {Q : Exit -> Act -> World -> Prop} {m : Env} {S C V : List Ch} {I : List Im} {ops : List Oper} {late l : List Nat} {o : Oper}
def D (G:Pg) (n:Nd) (K:Key) (Q:Exit->Act->World->Prop) (ops:List Oper) (late l:List Nat) (C:List Ch) (m:Env) (V:List Ch) (I:List Im):Prop :=
 ∀ A a w fuel,ops.length<=fuel+l.length->Fr n m a->SS K A (C++V) I w->wpG G.P ops.toArray (NP Q) late fuel (WS C I) (lst ops.length l) a w
def Dp (G:Pg) (n:Nd) (K:Key) (Q:Exit->Act->World->Prop) (ops:List Oper) (late l:List Nat) (i:Nat) (C:List Ch) (m:Env) (V:List Ch) (I:List Im):Prop :=
 ∀ A a w fuel,ops.length<=fuel+(l.length+1)->Fr n m a->SS K A (C++V) I w->wpOp G.P ops.toArray (NP Q) i (λa' w'=> ∃ S':World->Prop,(i∈late \/ ∀ w,S' w->WS C I w)/\S' w'/\wpG G.P ops.toArray (NP Q) late fuel S' ((lst ops.length l).setIfInBounds i true) a' w') a w
theorem SS.ws {A:eL} {w:World} (h:SS K A (C++V) I w):WS C I w:=⟨A,λc hc=>h.st.ch c (List.mem_append_left _ hc),h.st.im⟩
def waits (ops:List Oper) (i:Nat):Nat->Nat->Bool
 | 0,_=>false
 | f+1,j=>match ops[j]? with
  | some oj=>oj.after.toList.any λe=>kv e && (Nat.beq e.on i || waits ops i f e.on)
  | none=>false
theorem wX {ops:List Oper} {i:Nat}: ∀ {f j:Nat},waits ops i f j=true->Wt ops.toArray i j
 | 0,_,h=>by cases h
 | f+1,j,h=>by
  simp only [waits] at h
  split at h
  ·rename_i oj hj
   obtain ⟨e,he,hb⟩:=List.any_eq_true.1 h
   simp only [Bool.and_eq_true,Bool.or_eq_true] at hb
   have hj':ops.toArray[j]?=some oj:=by simpa using hj
   have hb':Region.binds .any e=true:=by rw [nB]; exact hb.1
   rcases hb.2 with h1 | h1
   ·exact .one hj' (by simpa using he) hb' (Nat.eq_of_beq_eq_true h1)
   ·exact .more hj' (by simpa using he) hb' (wX h1)
  ·cases h
def vr (ops:List Oper) (late:List Nat) (i:Nat):Bool:=late.all λj=>waits ops i 5 j
def dcl (ops:List Oper) (l:List Nat):Bool:=l.all λj=>match ops[j]? with
 | some oj=>yA l oj
 | none=>true
theorem FL {ops:List Oper} {l:List Nat} (hc:closed ops=true) (h:dcl ops l=true):DC ops.toArray (lst ops.length l):=by
 intro j oj hj hl e he hb
 have hj':ops[j]?=some oj:=by simpa using hj
 have hlt:j < ops.length:=(List.getElem?_eq_some_iff.1 hj').1
 rw [nY,if_pos hlt] at hl
 have h1:=List.all_eq_true.1 h j (mem_iff.1 hl)
 rw [hj'] at h1
 have h2:=List.all_eq_true.1 h1 e (by simpa using he)
 rw [nB] at hb
 rw [hb] at h2
 have hon:e.on < ops.length:=fW (List.all_eq_true.1 (List.all_eq_true.1 hc oj (List.mem_of_getElem? hj')) e (by simpa using he))
 rw [nY,if_pos hon]
 simpa using h2
def zw (ops:List Oper) (l:List Nat) (i:Nat) (oi:Oper):Nat->List Oper->Bool
 | _,[]=>true
 | k,o::r=>(Nat.beq k i || mem k l || o.after.toList.any (λe=>kv e && Nat.beq e.on i) || oi.apart ops.toArray o) && zw ops l i oi (k+1) r
theorem tz {oi:Oper} {i:Nat}: ∀ {r:List Oper} {k:Nat},zw ops l i oi k r=true -> ∀ j oj,r[j]?=some oj->k+j≠i->mem (k+j) l=false->(∀ e∈oj.after,kv e=true->e.on≠i)->oi.apart ops.toArray oj=true
 | [],_,_,j,oj,h,_,_,_=>by simp at h
 | o::r,k,h,j,oj,hj,h1,h2,h3=>by
  simp only [zw,Bool.and_eq_true,Bool.or_eq_true] at h
  cases j with
  | zero =>
   simp at hj
   subst hj
   rcases h.1 with ((h4 | h4) | h4) | h4
   ·exact absurd (Nat.eq_of_beq_eq_true h4) h1
   ·rw [Nat.add_zero] at h2; rw [h2] at h4; cases h4
   ·obtain ⟨e,he,hb⟩:=List.any_eq_true.1 h4
    simp only [Bool.and_eq_true] at hb
    exact absurd (Nat.eq_of_beq_eq_true hb.2) (h3 e (by simpa using he) hb.1)
   ·exact h4
  | succ j =>
   have e:k+(j+1)=k+1+j:=by omega
   rw [e] at h1 h2
   exact tz h.2 j oj (by simpa using hj) h1 h2 h3
def GM (ops:List Oper):Bool:=ops.all λo=>match o.op with | .select .. => false | _=>true
def zx (ops:List Oper):Bool:=ops.all λo=>match o.op with | .defer .. => false | _=>true
theorem D5 {Q:Exit->Act->World->Prop} (hQ: ¬ LetsOut Q) {ops:Array Oper} (hnd:zx ops.toList=true) {i:Nat} {Kc Kc':Act->World->Prop} {a:Act} {w:World} (hk: ∀ a w,Kc a w->Kc' a w) (h:wpOp G.P ops Q i Kc a w):wpOpIn G.F 0 G.P ops Q i Kc' a w:=by
 unfold wpOp at h
 unfold wpOpIn
 split
 ·rename_i ho
  rw [ho] at h
  exact hk _ _ h
 ·rename_i o ho
  rw [ho] at h
  simp only at h
  split
  ·rename_i hw
   rw [if_pos hw] at h
   have hnd': ∀ c,o.op ≠ .defer c:=λc e=>by
    have:=List.all_eq_true.1 hnd o (by rw [<- Array.getElem?_toList] at ho; exact List.mem_of_getElem? ho)
    simp [e] at this
   rcases h with h | h
   ·refine ⟨λf _=>G.fn f,?_⟩
    rw [G.sem hnd']
    unfold Oper.wp at h
    generalize (execOp a.eval o).run G.P w=r at h
    cases r with
    | ok x w' =>
     cases x with
     | value v=>exact hk _ _ h
     | skip=>exact hk _ _ h
     | defer d=>exact hk _ _ h
     | enter f args =>
      refine ⟨G.deep,G.calls (Calls.mono h ?_)⟩
      intro e w'' he
      cases e <;> first | exact hk _ _ he | exact he
     | row row args=>exact ⟨G.deep,G.rows (Rows.mono h λv w'' hv=>hk _ _ hv)⟩
     | _=>exact h.elim
    | halt s w'=>cases s <;> first | exact h | exact h.elim
   ·exact (hQ h.2).elim
  ·rename_i hw
   rw [if_neg hw] at h
   exact ⟨λf _=>G.fn f,hk _ _ h⟩
theorem wY {Q:Exit->Act->World->Prop} (hQ: ¬ LetsOut Q) {ops:Array Oper} (hnd:zx ops.toList=true): ∀ (fuel:Nat) (listed:Array Bool) (a:Act) (w:World),wpAny G.P .any ops Q fuel listed a w->wpAnyIn G.F 0 G.P .any ops Q fuel listed a w
 | 0,_,_,_,h=>h
 | fuel+1,_,_,_,h=>⟨h.1,λi hi=>D5 hQ hnd (λa w h=>wY hQ hnd fuel _ a w h) (h.2 i hi)⟩
theorem T.draw {id:Nat} (late:List Nat) (is:List Nat) (hmo:G.P.follows .mixedOrders=true) (hnd:zx ops=true) (hS:ext S is=some (C,V)) (h:D G n K Q ops late [] C m V I):T G n K Q (.region id ops.toArray true) m S I:=by
 intro A a w hf hs
 refine Code.wpIn_mono (Q:=NP Q) ?_ (wpIn_region_any hmo (wY (λ⟨_,_,h⟩=>h) (by simpa using hnd) _ _ _ _ (tw (late:=late) _ (WS C I) _ _ _ ?_)))
 ·intro e a w h
  cases e <;> first | exact h | cases h
 ·have h2:=(hs.perm (dC hS) (λi hi=>hi)).heap (w':={ w with drawn:=w.drawn+1 }) rfl rfl rfl rfl
  have h3:=h A a _ ops.length (by simp) hf h2
  have e:ops.toArray.size=ops.length:=by simp
  rw [e,D4]
  exact h3
theorem D.nil (hc:closed ops=true) (hr:qe l 0 ops=[]) (h:E n K Q .normal m (C++V) I):D G n K Q ops late l C m V I:=by
 intro A a w fuel hfu hf hs
 have hr':Region.ready .any ops.toArray (lst ops.length l)=[]:=by
  apply List.eq_nil_iff_forall_not_mem.2
  intro i hi
  rw [ld hc,hr] at hi
  cases hi
 cases fuel with
 | zero=>exact ⟨hr',h A a w hf hs⟩
 | succ fuel=>exact ⟨λ_=>h A a w hf hs,by rw [hr']; intro i hi; cases hi⟩
def uy (ops:List Oper) (late l:List Nat) (i:Nat):Bool:=match ops[i]? with
 | some oi=>closed ops && GM ops && !mem i l && yA l oi && dcl ops l && zw ops l i oi 0 ops && Nat.blt l.length ops.length
 | none=>false
theorem D.put {v:Value} {d:Option Nat} {S0:World->Prop} (i:Nat) (hi:ops[i]?=some o) (hc:uy ops late l i=true) (hlate:(∀ w,S0 w)\/vr ops late i=true) (hSS: ∀ w,WS C I w->S0 w) (hd:o.dst=d) (hn:dok d n.n=true) (hy: ∀ A a w,Fr n m a->SS K A (C++V) I w->YieldsIf G.P ops.toArray S0 o v a) (h:D G n K Q ops late (i::l) C (ma d v m) V I):D G n K Q ops late l C m V I:=by
 intro A a w fuel hfu hf hs
 unfold uy at hc
 rw [hi] at hc
 simp only [Bool.and_eq_true,Bool.not_eq_true'] at hc
 obtain ⟨⟨⟨⟨⟨⟨h1,h2⟩,h3⟩,h4⟩,h5⟩,h6⟩,h7⟩:=hc
 have h7:=fW h7
 obtain ⟨fuel,rfl⟩: ∃ k,fuel=k+1:=⟨fuel - 1,by omega⟩
 have hi':ops.toArray[i]?=some o:=by simpa using hi
 refine AG hi' ?_ ?_ ?_ fuel (WS C I) (lst ops.length l) a w ?_ ?_ (FL h1 h5) (hy A a w hf hs) hSS hs.ws ?_
 ·intro j oj cs b hj e
  have:=List.all_eq_true.1 h2 oj (List.mem_of_getElem? (by simpa using hj))
  simp [e] at this
 ·intro c a w h; exact h
 ·exact hlate.imp id λh j hj _=>wX (List.all_eq_true.1 h j hj)
 ·intro j oj hoj hne hun hno
  have hoj':ops[j]?=some oj:=by simpa using hoj
  have hlt:j < ops.length:=(List.getElem?_eq_some_iff.1 hoj').1
  rw [nY,if_pos hlt] at hun
  exact tz h6 j oj hoj' (by omega) (by rw [Nat.zero_add]; exact hun) (λe he hb=>hno e he (by rw [nB]; exact hb))
 ·rw [ld h1,nC]
  exact ⟨i,o,by omega,hi,by rw [h3,h4]; rfl⟩
 ·rw [mb,hd]
  exact h A _ w fuel (by simp only [List.length_cons]; omega) (hf.sH hn v) hs
theorem D.y (i:Nat) {d:Nat} {v:Value} (hy:Yl G n m C I o v) (hi:ops[i]?=some o) (hc:uy ops late l i=true) (hl:vr ops late i=true) (hw:wg ops m o=some true) (hd:o.dst=some d) (hn:dok (some d) n.n=true) (h:D G n K Q ops late (i::l) C ((d,v)::m) V I):D G n K Q ops late l C m V I :=
 D.put (S0:=WS C I) i hi hc (.inr hl) (λ_ h=>h) hd hn (λA a w hf hs=> .inl ⟨kx hw hf,λw' ⟨A',h1,h2⟩=>hy A' a w' hf h1 h2⟩) h
theorem D.q (i:Nat) {d:Nat} {v:Value} (hi:ops[i]?=some o) (hc:uy ops late l i=true) (hw:wg ops m o=some true) (hd:o.dst=some d) (hn:dok (some d) n.n=true) (hq:qx G.τ m o.op=some v) (h:D G n K Q ops late (i::l) C ((d,v)::m) V I):D G n K Q ops late l C m V I :=
 D.put (S0:=λ_=>True) i hi hc (.inl λ_=>trivial) (λ_ _=>trivial) hd hn (λA a w hf hs=> .inl ⟨kx hw hf,λw' _=>By G.ok hf hq w'⟩) h
theorem D.sk (i:Nat) {d:Option Nat} (hi:ops[i]?=some o) (hc:uy ops late l i=true) (hw:wg ops m o=some false) (hd:o.dst=d) (hn:dok d n.n=true) (h:D G n K Q ops late (i::l) C (ma d undef m) V I):D G n K Q ops late l C m V I :=
 D.put (S0:=λ_=>True) i hi hc (.inl λ_=>trivial) (λ_ _=>trivial) hd hn (λA a w hf hs=> .inr ⟨kx hw hf,rfl⟩) h
theorem D.many {rs:List Nat} (hc:closed ops=true) (hr:qe l 0 ops=rs) (hl:Nat.blt l.length ops.length=true) (hne:rs≠[]) (h: ∀ i∈rs,Dp G n K Q ops late l i C m V I):D G n K Q ops late l C m V I:=by
 intro A a w fuel hfu hf hs
 have h7:=fW hl
 obtain ⟨fuel,rfl⟩: ∃ k,fuel=k+1:=⟨fuel - 1,by omega⟩
 refine ⟨λh0=> ?_,λi hi=> ?_⟩
 ·exfalso
  apply hne
  apply List.eq_nil_iff_forall_not_mem.2
  intro i hi
  rw [<- hr,<- ld hc,h0] at hi
  cases hi
 ·rw [ld hc,hr] at hi
  exact h i hi A a w fuel (by omega) hf hs
theorem D.one {i:Nat} (hc:closed ops=true) (hr:qe l 0 ops=[i]) (hl:Nat.blt l.length ops.length=true) (h:Dp G n K Q ops late l i C m V I):D G n K Q ops late l C m V I :=
 D.many hc hr hl (by simp) λj hj=>by rw [List.mem_singleton.1 hj]; exact h
theorem D.two {i j:Nat} (hc:closed ops=true) (hr:qe l 0 ops=[i,j]) (hl:Nat.blt l.length ops.length=true) (h:Dp G n K Q ops late l i C m V I) (h2:Dp G n K Q ops late l j C m V I):D G n K Q ops late l C m V I :=
 D.many hc hr hl (by simp) λk hk=>by
  rcases List.mem_cons.1 hk with rfl | hk
  ·exact h
  ·rw [List.mem_singleton.1 hk]; exact h2
theorem Dp.a {i:Nat} (is js:List Nat) {d:Option Nat} {Sp R:List Ch} {J:List Im} {σ:Type} {v:σ->Value} {S':σ->List Ch} {I':σ->List Im} (hA:Ac G n m o Sp J v S' I') (hi:ops[i]?=some o) (hw:wg ops m o=some true) (hd:o.dst=d) (hn:dok d n.n=true) (hS:ext V is=some (Sp,R)) (hJ:pick I js=some J)
  (h: ∀ x,D G n K Q ops late (i::l) C (ma d (v x) m) (S' x++R) (I' x++I)):Dp G n K Q ops late l i C m V I:=by
 intro A a w fuel hfu hf hs
 have hi':ops.toArray[i]?=some o:=by simpa using hi
 unfold wpOp
 simp only [hi']
 rw [if_pos (kx hw hf)]
 left
 have hp:(Sp++(C++R)).Perm (C++V):=by
  have h1:=dC hS
  have h2:(Sp++(C++R)).Perm (C++(Sp++R)):=by
   rw [<- List.append_assoc,<- List.append_assoc]
   exact (List.perm_append_comm (l₁:=Sp) (l₂:=C)).append_right R
  exact h2.trans (h1.append_left C)
 have hs':=hs.perm hp (λi hi=>hi)
 refine (hA A a w _ (NP Q) hf (hs'.st.left (eF hJ)) λx w' A' h2=> ?_).1
 have h3:=hs'.frame h2
 have hp2:(C++(S' x++R)).Perm (S' x++(C++R)):=by
  rw [<- List.append_assoc,<- List.append_assoc]
  exact (List.perm_append_comm (l₁:=C) (l₂:=S' x)).append_right R
 have h4:=h3.perm hp2 (λi hi=>hi)
 refine ⟨WS C (I' x++I),.inr λw ⟨A,h1,h2⟩=>⟨A,h1,λf hf=>h2 f (List.mem_append_right _ hf)⟩,h4.ws,?_⟩
 rw [mb,hd]
 exact h x A' _ w' fuel (by simp only [List.length_cons]; omega) (hf.sH hn _) h4
theorem Dp.al {i:Nat} (is js:List Nat) {d:Option Nat} {Sp R:List Ch} {J:List Im} {σ:Type} {v:σ->Value} {S':σ->List Ch} {I':σ->List Im} (hA:Ac G n m o Sp J v S' I') (hl:mem i late=true) (hi:ops[i]?=some o) (hw:wg ops m o=some true) (hd:o.dst=d) (hn:dok d n.n=true) (hS:ext (C++V) is=some (Sp,R)) (hJ:pick I js=some J)
  (h: ∀ x,D G n K Q ops late (i::l) [] (ma d (v x) m) (S' x++R) (I' x++I)):Dp G n K Q ops late l i C m V I:=by
 intro A a w fuel hfu hf hs
 have hi':ops.toArray[i]?=some o:=by simpa using hi
 unfold wpOp
 simp only [hi']
 rw [if_pos (kx hw hf)]
 left
 have hs':=hs.perm (dC hS) (λi hi=>hi)
 refine (hA A a w _ (NP Q) hf (hs'.st.left (eF hJ)) λx w' A' h2=> ?_).1
 have h3:=hs'.frame h2
 refine ⟨WS [] (I' x++I),.inl (mem_iff.1 hl),SS.ws (C:=[]) h3,?_⟩
 rw [mb,hd]
 exact h x A' _ w' fuel (by simp only [List.length_cons]; omega) (hf.sH hn _) h3
theorem Dp.br {i:Nat} {d:Option Nat} {J:List Im} {σ:Type} {v:σ->Value} (hA:Ac G n m o [] J v (λ_=>[]) (λ_=>[])) (hB:Bw (C++V) I J) (hi:ops[i]?=some o) (hw:wg ops m o=some true) (hd:o.dst=d) (hn:dok d n.n=true) (h: ∀ x,D G n K Q ops late (i::l) C (ma d (v x) m) V I):Dp G n K Q ops late l i C m V I:=by
 intro A a w fuel hfu hf hs
 have hi':ops.toArray[i]?=some o:=by simpa using hi
 unfold wpOp
 simp only [hi']
 rw [if_pos (kx hw hf)]
 left
 obtain ⟨A',h1,h2⟩:=hB A w hs.st
 refine (hA A' a w _ (NP Q) hf h2 λx w' A'' h3=> ?_).1
 have h4:=hs.GL h3
 refine ⟨WS C I,.inr λ_ h=>h,h4.ws,?_⟩
 rw [mb,hd]
 exact h x A _ w' fuel (by simp only [List.length_cons]; omega) (hf.sH hn _) h4
theorem D.dD (J:List Im) (hq: ∀ A w,(∀ c∈C,c.ok A w)->(∀ f∈I,f.ok A w) -> ∀ f∈J,f.ok A w) (h:D G n K Q ops late l C m V (J++I)):D G n K Q ops late l C m V I:=λA a w fuel hfu hf hs =>
 tx (λw ⟨A,h1,h2⟩=>⟨A,h1,λf hf=>h2 f (List.mem_append_right _ hf)⟩) (h A a w fuel hfu hf (hs.dD (hq A w (λc hc=>hs.st.ch c (List.mem_append_left _ hc)) hs.st.im)))
theorem D.addr (i:Nat) {α:Type} {ty:Ty α} {xs:List α} {a0:Option Addr} {c0:Nat} (hI:I[i]?=some (Im.sl ty a0 c0 xs)) (hne:0 < xs.length) (h: ∀ b o',a0=some ⟨b,o',none⟩->D G n K Q ops late l C m V I):D G n K Q ops late l C m V I:=by
 intro A a w fuel hfu hf hs
 rcases (hs.st.im _ (List.mem_of_getElem? hI)).2 with rfl | ⟨b,o',cs,e,_⟩
 ·simp at hne
 ·exact h b o' e A a w fuel hfu hf hs
theorem D.iw (i:Nat) {α:Type} {ty:Ty α} {xs:List α} {a0:Option Addr} {c0 T0:Nat} (hI:(C++V)[i]?=some (Ch.arr ty T0 a0 c0 xs)) (hne:0 < xs.length) (h: ∀ b,a0=some ⟨b,0,none⟩->D G n K Q ops late l C m V I):D G n K Q ops late l C m V I:=by
 intro A a w fuel hfu hf hs
 rcases (gy (hs.st.ch _ (List.mem_of_getElem? hI))).2 with rfl | ⟨b,cs,e,_⟩
 ·simp at hne
 ·exact h b e A a w fuel hfu hf hs
theorem D.el (i:Nat) {α:Type} {ty:Ty α} {xs:List α} {b o' c0:Nat} {k:Nat} {x0:α} (hI:I[i]?=some (Im.sl ty (some ⟨b,o',none⟩) c0 xs)) (hk:xs[k]?=some x0) (h: ∀ hd,D G n K Q ops late l C m V (Im.cells b (o'+k*ty.sz) (ty.cs x0 hd)::(ty.im x0 hd++I))):D G n K Q ops late l C m V I:=by
 intro A a w fuel hfu hf hs
 rcases (hs.st.im _ (List.mem_of_getElem? hI)).2 with rfl | ⟨b1,o1,cs,e,hA,hels,hc⟩
 ·simp at hk
 ·injection e with e
  injection e with e1 e2
  subst e1 e2
  obtain ⟨hd,h1,h2⟩:=hels.at_ k x0 hk
  refine tx (λw ⟨A,h1,h2⟩=>⟨A,h1,λf hf=>h2 f (List.mem_cons_of_mem _ (List.mem_append_right _ hf))⟩) (h hd A a w fuel hfu hf (hs.dD (J:=Im.cells b (o'+k*ty.sz) (ty.cs x0 hd)::ty.im x0 hd) λf hf'=> ?_))
  rcases List.mem_cons.1 hf' with rfl | hf'
  ·exact ⟨hA,λj u hu=>by rw [Nat.add_assoc]; exact hc _ u (h2 j u hu)⟩
  ·exact h1 f hf'
theorem D.cs (j:Nat) {ρ:Type} {g h:Option ρ} {r:ρ} {b:Bool} (H:(bif b then g else h)=some r) (hj:look m j=some (.bool b)) (ht:b=true->g=some r->D G n K Q ops late l C ((j,.bool true)::m) V I) (hf:b=false->h=some r->D G n K Q ops late l C ((j,.bool false)::m) V I):D G n K Q ops late l C m V I:=by
 intro A a w fuel hfu hfr hs
 have key: ∀ c,look m j=some (.bool c)->Fr n ((j,.bool c)::m) a:=λc hc=>hfr.sub λi v hi=>by
  simp only [look] at hi
  split at hi
  ·rename_i hb
   rw [<- Nat.eq_of_beq_eq_true hb,hc]
   exact hi
  ·exact hi
 cases b with
 | true=>exact ht rfl H A a w fuel hfu (key _ hj) hs
 | false=>exact hf rfl H A a w fuel hfu (key _ hj) hs
end
section
variable {G : Pg} {n : Nd} {K : Key} {Q : Exit -> Act -> World -> Prop} {m : Env} {S C V : List Ch} {I : List Im} {ops : List Oper} {late l : List Nat} {o : Oper} {α : Type} {ty : Ty α} {xs ys : List α} {a0 a1 : Option Addr} {c c1 : Nat}
theorem D.frz (p:Nat) {T0:Nat} {R:List Ch} (hS:ext V [p]=some ([Ch.arr ty T0 a0 c xs],R)) (h:D G n K Q ops late l C m R (Im.sl ty a0 c xs::I)):D G n K Q ops late l C m V I:=by
 intro A a w fuel hfu hf hs
 have hp:(Ch.arr ty T0 a0 c xs::(C++R)).Perm (C++V):=by
  have h1:=dC hS
  exact (List.perm_middle (l₁:=C) (l₂:=R)).symm.trans (h1.append_left C)
 exact tx (λw ⟨A,h1,h2⟩=>⟨A,h1,λf hf=>h2 f (List.mem_cons_of_mem _ hf)⟩) (h _ a w fuel hfu hf ((hs.perm hp λ_ h=>h).frz qd))
theorem L.FM (i:Nat) {os:Array Oper} {l:List Oper} {d t e:Nat} {x:Operand} {ti:TI} (hI:I[i]?=some (Im.sl ty a0 c xs)) (hw:wg os.toList m o=some true) (hd:o.dst=some d) (hn:Nat.blt d n.n=true) {y:Operand} {t2:Nat} (ho:o.op = .binOp .eql t x y t2) (hx:ev m x=some (.slice a0 xs.length c)) (hy:ev m y=some (.slice none 0 0)) (ht:bL G.τ t=some ti) (hk:ti.k = .slice e)
  (h1:a0=none->xs=[]->L G n K os Q l ((d,.bool true)::m) S I) (h2:L G n K os Q l ((d,.bool false)::m) S I):L G n K os Q (o::l) m S I:=by
 intro A a w hf hs
 have hb:=hs.st.im _ (List.mem_of_getElem? hI)
 obtain ⟨dd,_,_,hdd,_,hkk,_⟩:=G.ok.info ht
 rw [hk] at hkk
 cases hkk
 have hg: ∀ a1,(eqGuard .eql t x y (.slice a1 xs.length c) (.slice none 0 0)).run G.P w = .ok () w:=λa1=>by
  unfold eqGuard
  split <;> rfl
 have he: ∀ a1 k,(Op.equalIn (k+1) t (.slice a1 xs.length c) (.slice none 0 0)).run G.P w = .ok a1.isNone w:=λa1 k=>by
  cases a1 <;> simp [Op.equalIn,run_underlying hdd]
 have hr: ∀ a1,(do eqGuard .eql t x y (.slice a1 xs.length c) (.slice none 0 0); binOp .eql t (.slice a1 xs.length c) (.slice none 0 0):Sem Value).run G.P w = .ok (.bool a1.isNone) w:=λa1=>by
  have he2:(Op.equal t (.slice a1 xs.length c) (.slice none 0 0)).run G.P w = .ok a1.isNone w:=he a1 9999
  simp only [Sem.run_bind,hg,Result.andThen_ok,binOp,he2,Sem.run_pure]
 have hr2:(execOp a.eval o).run G.P w = .ok (.value (.bool a0.isNone)) w:=by
  have:=hr a0
  simp only [execOp,ho,hf.ev hx,hf.ev hy,Sem.run_bind] at this ⊢
  rw [this]
  rfl
 unfold wpListIn
 rw [if_pos (kx hw hf)]
 refine ⟨λf _=>G.fn f,?_⟩
 rw [G.sem (s8 hr2 (by simp)),hr2,Oper.uponIn_value,hd]
 cases a0 with
 | none =>
  refine h1 rfl ?_ A _ w (hf.put _ (fW hn)) hs
  rcases hb.2 with h | ⟨b,o',cs,e,_⟩
  ·exact h
  ·cases e
 | some ad=>exact h2 A _ w (hf.put _ (fW hn)) hs
def tA (k:Int) (bytes:Nat):Bool:=decide (0<=k/\k*bytes<=big/\k<=big)
theorem vt {x:α} {h:ty.Hid} {A:eL} {w:World} (hi: ∀ f∈ty.im x h,f.ok A w): ∀ k,Els ty A w (List.replicate k x) ((List.replicate k (ty.cs x h)).flatten)
 | 0=> .nil
 | k+1=>by
  rw [List.replicate_succ,List.replicate_succ,List.flatten_cons]
  exact .cons h hi (vt hi k)
theorem zy (z:Array Value) (hz:0 < z.size): ∀ k,(madeCells z (k*z.size)).toList=(List.replicate k z.toList).flatten:=by
 intro k
 apply List.ext_getElem?
 intro j
 have e1:(madeCells z (k*z.size)).toList[j]?=if j < k*z.size then z.toList[j % z.size]? else none:=by
  have hlt:j % z.size < z.size:=Nat.mod_lt _ hz
  by_cases hj:j < k*z.size
  ·simp [madeCells,hj,hlt]
  ·simp [madeCells,hj]
 rw [e1]
 clear e1
 induction k generalizing j with
 | zero=>simp
 | succ k ih =>
  rw [List.replicate_succ,List.flatten_cons]
  by_cases hj:j < z.size
  ·rw [if_pos (by rw [Nat.succ_mul]; omega),Nat.mod_eq_of_lt hj,List.getElem?_append_left (by simpa using hj)]
  ·have h2:z.toList.length<=j:=by simp; omega
   rw [List.getElem?_append_right h2,<- ih]
   have h3:j % z.size=(j - z.size) % z.size:=by
    rw [Nat.mod_eq_sub_mod (by omega)]
   simp only [Array.length_toList]
   rw [<- h3]
   by_cases h4:j < (k+1)*z.size
   ·rw [if_pos h4,if_pos (by rw [Nat.succ_mul] at h4; omega)]
   ·rw [if_neg h4,if_neg (by rw [Nat.succ_mul] at h4; omega)]
theorem Ac.mk (x0:α) (h0:ty.Hid) {t e:Nat} {x:Operand} {kk:IntKind} {k:Int} {ti te:TI} {u:Unit} (hk0:chk (tA k te.bytes)=some u) (hfree: ∀ A w,∀ f∈ty.im x0 h0,f.ok A w) (hz0:te.zero=ty.cs x0 h0) (ho:o.op = .makeSlice t x x) (hx:ev m x=some (.int kk k)) (ht:bL G.τ t=some ti) (hk:ti.k = .slice e) (he:bL G.τ e=some te) (hsz:(Nat.beq te.size ty.sz && Nat.blt 0 ty.sz)=true) :
  Ac G n m o [] [] (λg:Nat=> .slice (some ⟨g,0,none⟩) (List.replicate k.toNat x0).length k.toNat) (λg=>[Ch.arr ty e (some ⟨g,0,none⟩) k.toNat (List.replicate k.toNat x0)]) (λ_=>[]):=by
 simp only [Bool.and_eq_true] at hsz
 obtain ⟨hs1,hs2⟩:=hsz
 have hs1:=Nat.eq_of_beq_eq_true hs1
 have hs2:=fW hs2
 have hk1:0<=k/\k*te.bytes<=big/\k<=big:=fm hk0
 refine Ac.run (v:=λg:Nat=>some (.slice (some ⟨g,0,none⟩) (List.replicate k.toNat x0).length k.toNat)) λA a w hf hs=> ?_
 obtain ⟨dd,f,z0,hdd,hfi,hkk,_⟩:=G.ok.info ht
 rw [hk] at hkk
 cases hkk
 obtain ⟨de,fe,ze,hde,hfe,_,hfs,hfb,hfz,hzc,_⟩:=G.ok.info he
 have ebig:((big:Nat):Int)=140737488355328:=rfl
 have hr:=run_make (P:=G.P) w t e fe ze hdd hfe hfz kk kk k k hk1.1 (Int.le_refl _) (by rw [hfb,Int.mul_comm]; omega) (by omega)
 have hzl:ze.cells.size=ty.sz:=by rw [<- Array.length_toList,hzc,hz0,ty.len]
 have hm:(madeCells ze.cells (k.toNat*fe.size)).toList=(List.replicate k.toNat (ty.cs x0 h0)).flatten:=by
  rw [<- hz0,<- hzc,hfs,hs1,<- hzl]
  exact zy _ (by rw [hzl]; exact hs2) _
 refine ⟨w.heap.size,w.alloc (.cells (madeCells ze.cells (k.toNat*fe.size)) e),A,?_,?_⟩
 ·simp only [execOp,ho,hf.ev hx,Sem.run_bind,hr,Result.andThen_ok,Sem.run_pure,nx,List.length_replicate]
 ·refine SS.fresh (w':=w.alloc (.cells (madeCells ze.cells (k.toNat*fe.size)) e)) (o:= .cells (madeCells ze.cells (k.toNat*fe.size)) e) hs.lt rfl rfl rfl rfl (Ch.arr ty e (some ⟨w.heap.size,0,none⟩) k.toNat (List.replicate k.toNat x0)) (λb hb=>(Option.some.inj hb).symm) ?_
  refine ⟨_,?_,vt (hfree _ _) k.toNat⟩
  rw [<- hm,List.length_replicate]
  refine World.ownsRow_lit w _ k.toNat (base:=0) (size:=ty.sz) (e:=e) (Nat.zero_le _) (by simp only [maxLen]; omega) ?_
  rw [size_madeCells,hfs,hs1]
def cpy (xs ys:List α):List α:=ys.take xs.length++xs.drop ys.length
theorem pH (xs ys:List α):(cpy xs ys).length=xs.length:=by
 unfold cpy
 simp
 omega
theorem zI {T:Nat} {b:Nat} {A:eL} {w:World} {J:List Im} {lo:Nat} {zs:List α} {es:List Value} (hs:St A [Ch.arr ty T (some ⟨b,0,none⟩) c xs] J w) (hz:Els ty A w zs es) (hle:lo+zs.length<=xs.length) :
  ∃ w',(storeCells ⟨b,lo*ty.sz,none⟩ es 0).run G.P w = .ok () w'/\SS ⟨w,A,Own [Ch.arr ty T (some ⟨b,0,none⟩) c xs]⟩ A [Ch.arr ty T (some ⟨b,0,none⟩) c (xs.take lo++zs++xs.drop (lo+zs.length))] [] w':=by
 have hok:=hs.ch _ (List.mem_singleton.2 rfl)
 rcases kF hok with ⟨e,_,_⟩ | ⟨g,cur,cs,e0,hb,h4,h5,h6,h7,h8⟩
 ·cases e
 ·injection e0 with e0
  injection e0 with e0 e1
  subst e0
  have hzl:=hz.len
  have hlen:=h8.len
  have hmul:(lo+zs.length)*ty.sz<=xs.length*ty.sz:=Nat.mul_le_mul_right _ hle
  have hmul2:xs.length*ty.sz<=c*ty.sz:=Nat.mul_le_mul_right _ h4
  rw [Nat.add_mul] at hmul
  have hst:=run_storeCells_at G.P b (lo*ty.sz) T es 0 cur w hb (by rw [h6,hzl]; omega) hz.one
  rw [Nat.add_zero] at hst
  have hcl:cur.toList.length=c*ty.sz:=by rw [Array.length_toList,h6]
  generalize hnc:(cur.toList.take (lo*ty.sz)++es++cur.toList.drop (lo*ty.sz+es.length))=nc at hst
  have hncl:nc.length=cur.size:=by rw [<- hnc]; simp; omega
  have hgr:w.grownBy (w.setRow b nc.toArray) (some b):=⟨rfl,rfl,rfl,by rw [setRow_size]; exact Nat.le_refl _,λk _ hk=>setRow_other _ _ _ _ (λe=>hk (by rw [e]))⟩
  refine ⟨_,hst,SS.grown hs hgr (λb e=>e) (λb' hb2=>⟨.inl hb2,?_⟩) ?_⟩
  ·rw [setRow_size]
   injection hb2 with hb2
   subst hb2
   exact (Array.getElem?_eq_some_iff.1 hb).1
  ·have hA: ∀ b',A b'->(w.setRow b nc.toArray).heap[b']?=w.heap[b']?:=λb' hA=>setRow_other _ _ _ _ (λe=>(hs.own _ (List.mem_singleton.2 rfl) b' (by subst e; rfl)).2 hA)
   have hnew:(xs.take lo++zs++xs.drop (lo+zs.length)).length=xs.length:=by simp; omega
   have hels:=(((h8.take lo).app hz).app (h8.drop (lo+zs.length))).st (λ_ h=>h) hA
   refine ⟨_,⟨hels.len,.inr ⟨b,c,nc.toArray,by rw [hnew],Nat.zero_le _,setRow_heap w b _ _ T (0,0) hb,by rw [hnew]; exact h4,h5,by simpa [hncl] using h6,?_⟩⟩,hels⟩
   rw [hnew,<- hnc,rX _ _ _ _ (by rw [hzl]; omega) (by rw [hcl]; exact hmul2),h7]
   simp only [Nat.add_mul,hzl]
theorem Ac.cp {t t2 T:Nat} {x y:Operand} {ti te:TI} (ho:o.op = .call { callee:= .builtin .copy,args:= #[x,y],argTypes:= #[t,t2] }) (hx:ev m x=some (.slice a0 xs.length c)) (hy:ev m y=some (.slice a1 ys.length c1)) (ht:bL G.τ t=some ti) (hk:ti.k = .slice T) (he:bL G.τ T=some te) (hsz:te.size=ty.sz) :
  Ac G n m o [Ch.arr ty T a0 c xs] [Im.sl ty a1 c1 ys] (λ_:Unit=> .int .i64 ((Nat.min ys.length xs.length:Nat):Int)) (λ_=>[Ch.arr ty T a0 c (cpy xs ys)]) (λ_=>[]):=by
 refine Ac.run (v:=λ_=>some (.int .i64 ((Nat.min ys.length xs.length:Nat):Int))) λA a w hf hs=> ?_
 obtain ⟨dd,f,z0,hdd,hfi,hkk,_⟩:=G.ok.info ht
 rw [hk] at hkk
 cases hkk
 have hok:=hs.ch _ (List.mem_singleton.2 rfl)
 have hym:=hs.im _ (List.mem_singleton.2 rfl)
 have e1:(execOp a.eval o).run G.P w=((Builtin.copy_ #[t,t2] o.type #[.slice a0 xs.length c,.slice a1 ys.length c1]).run G.P w).andThen λv w=> .ok (.value v) w:=by
  simp only [execOp,ho,resolve,invoke,builtin,Sem.run_bind,Sem.run_pure,Result.andThen_ok,List.map_toArray,List.map_cons,List.map_nil,hf.ev hx,hf.ev hy]
 rw [e1]
 have hstay:Nat.min ys.length xs.length=0->cpy xs ys=xs:=λh=>by
  unfold cpy
  rcases Nat.min_eq_zero_iff.1 h with h | h
  ·rw [List.eq_nil_of_length_eq_zero h]; simp
  ·rw [List.eq_nil_of_length_eq_zero h]; simp
 have hsame:SS ⟨w,A,Own [Ch.arr ty T a0 c xs]⟩ A [Ch.arr ty T a0 c xs] [] w:=SS.grown hs (ob:=none) ⟨rfl,rfl,rfl,Nat.le_refl _,λ_ _ _=>rfl⟩ (λ_ e=>nomatch e) (λb hb=>⟨.inl hb,(hs.own _ (List.mem_singleton.2 rfl) b hb).1⟩) hok
 have core: ∀ es:List Value,Els ty A w (ys.take xs.length) es->(Builtin.firstCells ty.sz (Nat.min ys.length xs.length) (.slice a1 ys.length c1)).run G.P w = .ok es.toArray w -> ∃ w',(Builtin.copy_ #[t,t2] o.type #[.slice a0 xs.length c,.slice a1 ys.length c1]).run G.P w = .ok (.int .i64 ((Nat.min ys.length xs.length:Nat):Int)) w'/\SS ⟨w,A,Own [Ch.arr ty T a0 c xs]⟩ A [Ch.arr ty T a0 c (cpy xs ys)] [] w':=by
  intro es hes hfc
  have hrun:(Builtin.copy_ #[t,t2] o.type #[.slice a0 xs.length c,.slice a1 ys.length c1]).run G.P w=(((match a0 with | some a=>storeCells a es | none=>pure ()):Sem Unit).run G.P w).andThen λ_ w=> .ok (.int .i64 ((Nat.min ys.length xs.length:Nat):Int)) w:=by
   simp only [Builtin.copy_,List.getElem?_toArray,List.getElem?_cons_zero,List.getElem?_cons_succ,Sem.run_bind,run_underlying hdd,Result.andThen_ok,Builtin.lenOf,Sem.run_pure,run_sizeOf G.ok he,hsz,hfc,goInt]
   cases a0 <;> simp [Sem.run_bind,Sem.run_pure]
  rw [hrun]
  rcases kF hok with ⟨rfl,rfl,rfl⟩ | ⟨g,cur,cs,rfl,_,_,_,_,_,_⟩
  ·refine ⟨w,by simp [Sem.run_pure],?_⟩
   rw [hstay (by simp)]
   exact hsame
  ·obtain ⟨w',h1,h2⟩:=zI (G:=G) (lo:=0) hs hes (by simp; omega)
   refine ⟨w',?_,?_⟩
   ·rw [Nat.zero_mul] at h1
    simp only [h1,Result.andThen_ok]
   ·have e:xs.take 0++ys.take xs.length++xs.drop (0+(ys.take xs.length).length)=cpy xs ys:=by
     unfold cpy
     rw [List.take_zero,List.nil_append,Nat.zero_add,List.length_take]
     congr 1
     rcases Nat.le_total xs.length ys.length with h | h
     ·rw [Nat.min_eq_left h,List.drop_of_length_le (Nat.le_refl _),List.drop_of_length_le h]
     ·rw [Nat.min_eq_right h]
    rw [<- e]
    exact h2
 have hfin: ∃ w',(Builtin.copy_ #[t,t2] o.type #[.slice a0 xs.length c,.slice a1 ys.length c1]).run G.P w = .ok (.int .i64 ((Nat.min ys.length xs.length:Nat):Int)) w'/\SS ⟨w,A,Own [Ch.arr ty T a0 c xs]⟩ A [Ch.arr ty T a0 c (cpy xs ys)] [] w':=by
  rcases hym.2 with rfl | ⟨b,o',es,rfl,hb,hes,hc⟩
  ·refine core [] (by simp; exact .nil) ?_
   cases a1 with
   | none=>simp [Builtin.firstCells,Sem.run_pure]
   | some ad =>
    have:=run_loadCells_list (P:=G.P) w ad [] (λj v h=>by simp at h)
    simpa [Builtin.firstCells] using this
  ·refine core (es.take (xs.length*ty.sz)) (hes.take xs.length) ?_
   have hl:(es.take (xs.length*ty.sz)).length=Nat.min ys.length xs.length*ty.sz:=by
    rw [(hes.take xs.length).len,List.length_take]
    rw [Nat.min_comm]
   have:=run_loadCells_list (P:=G.P) w ⟨b,o',none⟩ (es.take (xs.length*ty.sz)) (λj v h=>by
    rw [add_lit]
    refine hc j v ?_
    rw [List.getElem?_take] at h
    split at h
    ·exact h
    ·cases h)
   rw [hl] at this
   exact this
 obtain ⟨w',h1,h2⟩:=hfin
 exact ⟨(),w',A,by rw [h1]; rfl,h2⟩
theorem D.cap (i:Nat) {T:Nat} (hS:(C++V)[i]?=some (Ch.arr ty T a0 c xs)) (h:xs.length<=c->D G n K Q ops late l C m V I):D G n K Q ops late l C m V I:=λA a w fuel hfu hf hs=>h (gy (hs.st.ch _ (List.mem_of_getElem? hS))).1 A a w fuel hfu hf hs
theorem Yl.sv {t e:Nat} {x:Operand} {lo hi:Option Operand} {lv hv:Int} {ti te:TI} {u:Unit} (hle:xs.length<=c) (hk0:chk (eN lv hv xs.length)=some u) (ho:o.op = .slice t x lo hi none) (hx:ev m x=some (.slice a0 xs.length c)) (hlo:evb m lo 0=some lv) (hhi:evb m hi xs.length=some hv) (ht:bL G.τ t=some ti) (hk:ti.k = .slice e) (he:bL G.τ e=some te) (hsz:te.size=ty.sz) :
  Yl G n m S I o (.slice (lE a0 c lv ty.sz) (cut xs lv hv).length (c - lv.toNat)):=λA a w hf hS' _=>by
 obtain ⟨h0,h1,h2⟩:=fm hk0
 have hr:=ny (P:=G.P) (w:=w) G.ok hf ht hk he hlo hhi h0 h1 (by omega:hv<=(c:Int)) a0
 rw [iN ⟨h0,h1,h2⟩,lE,<- hsz]
 simp only [execOp,ho,hf.ev hx,Option.map_none,Sem.run_bind,hr,Result.andThen_ok,Sem.run_pure]
def uz (xs:List α) (lo:Nat):List α:=xs.take lo++(xs.take lo).take (xs.length - lo)++xs.drop (lo+min lo (xs.length - lo))
theorem BE {lv:Int} {u:Unit} (h:chk (eN lv xs.length xs.length)=some u):(uz xs lv.toNat).length=xs.length:=by
 obtain ⟨h0,h1,_⟩:=fm h
 unfold uz
 simp
 omega
theorem Ac.BF {t t2 T b:Nat} {x y:Operand} {lv:Int} {dc sc:Nat} {ti te:TI} {u:Unit} (hk0:chk (eN lv xs.length xs.length)=some u) (ho:o.op = .call { callee:= .builtin .copy,args:= #[x,y],argTypes:= #[t,t2] }) (hx:ev m x=some (.slice (lE (some ⟨b,0,none⟩) c lv ty.sz) (cut xs lv xs.length).length dc)) (hy:ev m y=some (.slice (lE (some ⟨b,0,none⟩) c 0 ty.sz) (cut xs 0 lv).length sc)) (ht:bL G.τ t=some ti) (hk:ti.k = .slice T) (he:bL G.τ T=some te) (hsz:te.size=ty.sz) :
  Ac G n m o [Ch.arr ty T (some ⟨b,0,none⟩) c xs] [] (λ_:Unit=> .int .i64 ((Nat.min lv.toNat (xs.length - lv.toNat):Nat):Int)) (λ_=>[Ch.arr ty T (some ⟨b,0,none⟩) c (uz xs lv.toNat)]) (λ_=>[]):=by
 obtain ⟨h0,h1,_⟩:=fm hk0
 refine Ac.run (v:=λ_=>some (.int .i64 ((Nat.min lv.toNat (xs.length - lv.toNat):Nat):Int))) λA a w hf hs=> ?_
 obtain ⟨dd,f,z0,hdd,hfi,hkk,_⟩:=G.ok.info ht
 rw [hk] at hkk
 cases hkk
 have hok:=hs.ch _ (List.mem_singleton.2 rfl)
 have hl1:(cut xs lv xs.length).length=xs.length - lv.toNat:=by rw [iN ⟨h0,h1,Int.le_refl _⟩,Int.toNat_natCast]
 have hl2:(cut xs 0 lv).length=lv.toNat:=by rw [iN ⟨Int.le_refl _,h0,h1⟩]; simp
 have ha2:lE (some ⟨b,0,none⟩) c 0 ty.sz=some ⟨b,0,none⟩:=by
  unfold lE
  simp [Addr.add]
 rw [hl1] at hx
 rw [hl2,ha2] at hy
 obtain ⟨hle,h2⟩:=gy hok
 have e1:(execOp a.eval o).run G.P w=((Builtin.copy_ #[t,t2] o.type #[.slice (lE (some ⟨b,0,none⟩) c lv ty.sz) (xs.length - lv.toNat) dc,.slice (some ⟨b,0,none⟩) lv.toNat sc]).run G.P w).andThen λv w=> .ok (.value v) w:=by
  simp only [execOp,ho,resolve,invoke,builtin,Sem.run_bind,Sem.run_pure,Result.andThen_ok,List.map_toArray,List.map_cons,List.map_nil,hf.ev hx,hf.ev hy]
 rw [e1]
 generalize hk':lv.toNat=k at *
 have hkl:k<=xs.length:=by omega
 have hread: ∃ es,Els ty A w ((xs.take k).take (xs.length - k)) es/\(Builtin.firstCells ty.sz (Nat.min k (xs.length - k)) (.slice (some ⟨b,0,none⟩) k sc)).run G.P w = .ok es.toArray w:=by
  rcases h2 with rfl | ⟨b1,cs,e2,hels,hc⟩
  ·refine ⟨[],by simp; exact .nil,?_⟩
   have:=run_loadCells_list (P:=G.P) w ⟨b,0,none⟩ [] (λj v h=>by simp at h)
   simpa [Builtin.firstCells] using this
  ·injection e2 with e2
   injection e2 with e2 _
   subst e2
   refine ⟨(cs.take (k*ty.sz)).take ((xs.length - k)*ty.sz),(hels.take k).take _,?_⟩
   have hl:((cs.take (k*ty.sz)).take ((xs.length - k)*ty.sz)).length=Nat.min k (xs.length - k)*ty.sz:=by
    rw [((hels.take k).take _).len,List.length_take,List.length_take,Nat.min_eq_left hkl,Nat.min_comm]
   have:=run_loadCells_list (P:=G.P) w ⟨b,0,none⟩ ((cs.take (k*ty.sz)).take ((xs.length - k)*ty.sz)) (λj v h=>by
    rw [add_lit,Nat.zero_add]
    refine hc j v ?_
    rw [List.getElem?_take,List.getElem?_take] at h
    split at h
    ·split at h
     ·exact h
     ·cases h
    ·cases h)
   rw [hl] at this
   exact this
 obtain ⟨es,hes,hfc⟩:=hread
 have hlen2:((xs.take k).take (xs.length - k)).length=min k (xs.length - k):=by
  rw [List.length_take,List.length_take,Nat.min_eq_left hkl,Nat.min_comm]
 obtain ⟨w',h3,h4⟩:=zI (G:=G) (lo:=k) hs hes (by rw [hlen2]; omega)
 rw [hlen2] at h4
 refine ⟨(),w',A,?_,h4⟩
 have hst:((match lE (some ⟨b,0,none⟩) c lv ty.sz with | some a=>storeCells a es | none=>pure ()):Sem Unit).run G.P w = .ok () w':=by
  unfold lE
  by_cases hcl:c=lv.toNat
  ·rw [if_pos hcl]
   have hz:xs.length - k=0:=by omega
   have hes0:es=[]:=by
    apply List.eq_nil_of_length_eq_zero
    rw [hes.len,hlen2,hz]
    simp
   subst hes0
   simp only [storeCells,Sem.run_pure,Result.ok.injEq,true_and] at h3 ⊢
   exact h3
  ·rw [if_neg hcl]
   simp only [Option.map_some,add_lit,Nat.zero_add,hk']
   exact h3
 have hrun:(Builtin.copy_ #[t,t2] o.type #[.slice (lE (some ⟨b,0,none⟩) c lv ty.sz) (xs.length - k) dc,.slice (some ⟨b,0,none⟩) k sc]).run G.P w=(((match lE (some ⟨b,0,none⟩) c lv ty.sz with | some a=>storeCells a es | none=>pure ()):Sem Unit).run G.P w).andThen λ_ w=> .ok (.int .i64 ((Nat.min k (xs.length - k):Nat):Int)) w:=by
  generalize lE (some ⟨b,0,none⟩) c lv ty.sz=a9
  simp only [Builtin.copy_,List.getElem?_toArray,List.getElem?_cons_zero,List.getElem?_cons_succ,Sem.run_bind,run_underlying hdd,Result.andThen_ok,Builtin.lenOf,Sem.run_pure,run_sizeOf G.ok he,hsz,hfc,goInt]
  cases a9 <;> simp [Sem.run_bind,Sem.run_pure]
 rw [hrun,hst]
 rfl
theorem Ac.cps {t t2 T:Nat} {x y:Operand} {lv:Int} {dc sc:Nat} {ti te:TI} {u:Unit} (hk0:chk (eN lv xs.length xs.length)=some u) (ho:o.op = .call { callee:= .builtin .copy,args:= #[x,y],argTypes:= #[t,t2] }) (hx:ev m x=some (.slice (lE a0 c lv ty.sz) (cut xs lv xs.length).length dc)) (hy:ev m y=some (.slice (lE a0 c 0 ty.sz) (cut xs 0 lv).length sc)) (ht:bL G.τ t=some ti) (hk:ti.k = .slice T) (he:bL G.τ T=some te) (hsz:te.size=ty.sz) :
  Ac G n m o [Ch.arr ty T a0 c xs] [] (λ_:Unit=> .int .i64 ((Nat.min lv.toNat (xs.length - lv.toNat):Nat):Int)) (λ_=>[Ch.arr ty T a0 c (uz xs lv.toNat)]) (λ_=>[]):=by
 intro A a w Kc Q hf hs hkc
 have hok:=hs.ch _ (List.mem_singleton.2 rfl)
 rcases kF hok with ⟨rfl,rfl,rfl⟩ | ⟨g,cur,cs,rfl,_⟩
 ·obtain ⟨h0,h1,_⟩:=fm hk0
  have hl0:lv=0:=by simp at h1; omega
  subst hl0
  obtain ⟨dd,f,z0,hdd,hfi,hkk,_⟩:=G.ok.info ht
  rw [hk] at hkk
  cases hkk
  have hsame:SS ⟨w,A,Own [Ch.arr ty T none 0 ([]:List α)]⟩ A [Ch.arr ty T none 0 (uz ([]:List α) (0:Int).toNat)] [] w:=SS.grown hs (ob:=none) ⟨rfl,rfl,rfl,Nat.le_refl _,λ_ _ _=>rfl⟩ (λ_ e=>nomatch e) (λb hb=>by cases hb) hok
  have hr:(execOp a.eval o).run G.P w = .ok (.value (.int .i64 0)) w:=by
   have e0:lE none 0 0 ty.sz=none:=rfl
   simp only [e0,cut,List.take_nil,List.drop_nil,List.length_nil] at hx hy
   simp [execOp,ho,resolve,invoke,builtin,hf.ev hx,hf.ev hy,Builtin.copy_,run_underlying hdd,Builtin.lenOf,run_sizeOf G.ok he,Builtin.firstCells,goInt]
  have:=hkc () w A hsame
  unfold Oper.wp Oper.wpIn
  rw [G.sem (s8 hr (by simp)),hr]
  rw [Oper.upon_value,Oper.uponIn_value]
  have h9:=by simpa using this
  exact ⟨h9,λf _=>G.fn f,h9⟩
 ·exact Ac.BF hk0 ho hx hy ht hk he hsz A a w Kc Q hf hs hkc
theorem Yl.G9 {t e:Nat} {x y:Operand} {kk:IntKind} {hv:Int} {ti te:TI} (hz:hv=0) (ho:o.op = .slice t x none (some y) none) (hx:ev m x=some (.slice none 0 0)) (hy:ev m y=some (.int kk hv)) (ht:bL G.τ t=some ti) (hk:ti.k = .slice e) (he:bL G.τ e=some te):Yl G n m S I o (.slice none 0 0):=λA a w hf _ _=>by
 subst hz
 have hr:=ny (P:=G.P) (w:=w) (lo:=none) (hi:=some y) (lv:=0) (hv:=0) (len:=0) (cap:=0) G.ok hf ht hk he rfl (by simp [evb,hy]) (Int.le_refl 0) (Int.le_refl 0) (Int.le_refl 0) none
 simp only [execOp,ho,hf.ev hx,Option.map_none,Sem.run_bind] at hr ⊢
 rw [hr]
 rfl
def FN (k:Int) (bytes:Nat):Bool:=decide (0 < k/\k*bytes<=big/\k<=big)
theorem Ac.gz (x0:α) (h0:ty.Hid) {t tn e:Nat} {x y:Operand} {kk kn:IntKind} {k:Int} {ti tin te:TI} {u:Unit} (hk0:chk (FN k te.bytes)=some u) (hfree: ∀ A w,∀ f∈ty.im x0 h0,f.ok A w) (hz0:te.zero=ty.cs x0 h0) (ho:o.op = .call { callee:= .builtin .append,args:= #[x,y],argTypes:= #[t,tn] }) (hx:ev m x=some (.slice none 0 0)) (hy:ev m y=some (.int kk k)) (ht:bL G.τ t=some ti) (hk:ti.k = .slice e) (htn:bL G.τ tn=some tin) (hkn:tin.k = .int kn) (he:bL G.τ e=some te) (hsz:(Nat.beq te.size ty.sz && Nat.blt 0 ty.sz)=true) :
  Ac G n m o [] [] (λz:Option Addr×Nat=> .slice z.1 (List.replicate k.toNat x0).length z.2) (λz=>[Ch.arr ty e z.1 z.2 (List.replicate k.toNat x0)]) (λ_=>[]):=by
 simp only [Bool.and_eq_true] at hsz
 obtain ⟨hs1,hs2⟩:=hsz
 have hs1:=Nat.eq_of_beq_eq_true hs1
 have hs2:=fW hs2
 have hk1:0 < k/\k*te.bytes<=big/\k<=big:=fm hk0
 have ebig:((big:Nat):Int)=140737488355328:=rfl
 obtain ⟨j,rfl⟩: ∃ j:Nat,k=j:=⟨k.toNat,by omega⟩
 refine Ac.run (v:=λz:Option Addr×Nat=>some (.slice z.1 (List.replicate (j:Int).toNat x0).length z.2)) λA a w hf hs=> ?_
 obtain ⟨dd,f,z0,hdd,hfi,hkk,_⟩:=G.ok.info ht
 rw [hk] at hkk
 cases hkk
 obtain ⟨dn,fn,zn,hdn,hfn,hkn',_⟩:=G.ok.info htn
 rw [hkn] at hkn'
 cases hkn'
 obtain ⟨de,fe,ze,hde,hfe,_,hfs,hfb,hfz,hzc,_⟩:=G.ok.info he
 have hj:0 < j:=by omega
 have hjb:j*fe.bytes<=281474976710656:=by
  rw [hfb]
  have:=hk1.2.1
  rw [<- Int.natCast_mul] at this
  omega
 have hr:=Go.Lib.run_append_nil_zeros (P:=G.P) w t tn o.type e fe ze kk kn hdd hdn hfe hfz j hj (by rw [hfs,hs1]; exact hs2) (by omega) hjb
 have hzl:ze.cells.size=ty.sz:=by rw [<- Array.length_toList,hzc,hz0,ty.len]
 have hzz: ∀ i,(Builtin.zeroCells ze.cells i).toList=(List.replicate i (ty.cs x0 h0)).flatten:=λi=>by
  rw [<- hz0,<- hzc]
  exact zy _ (by rw [hzl]; exact hs2) i
 have hge:=grownCap_ge w j 0 e
 have hle:=grownCap_le_maxLen w j 0 e (by simp only [maxLen]; omega)
 have hlen: ∀ i,((List.replicate i (ty.cs x0 h0)).flatten).length=i*ty.sz:=λi=>by
  induction i with
  | zero=>simp
  | succ i ih=>rw [List.replicate_succ,List.flatten_cons,List.length_append,ih,ty.len,Nat.succ_mul,Nat.add_comm]
 refine ⟨(some ⟨w.heap.size,0,none⟩,grownCap w j 0 e),w.drew.alloc (.cells (Builtin.zeroCells ze.cells j++Builtin.zeroCells ze.cells (grownCap w j 0 e - j)) e),A,?_,?_⟩
 ·simp only [execOp,ho,resolve,invoke,builtin,Sem.run_bind,Sem.run_pure,Result.andThen_ok,List.map_toArray,List.map_cons,List.map_nil,hf.ev hx,hf.ev hy,hr,nx,Int.toNat_natCast,List.length_replicate]
 ·refine SS.fresh (w':=w.drew.alloc (.cells (Builtin.zeroCells ze.cells j++Builtin.zeroCells ze.cells (grownCap w j 0 e - j)) e)) (o:= .cells (Builtin.zeroCells ze.cells j++Builtin.zeroCells ze.cells (grownCap w j 0 e - j)) e) hs.lt rfl rfl rfl rfl (Ch.arr ty e (some ⟨w.heap.size,0,none⟩) (grownCap w j 0 e) (List.replicate (j:Int).toNat x0)) (λb hb=>(Option.some.inj hb).symm) ?_
  refine ⟨(Builtin.zeroCells ze.cells j++Builtin.zeroCells ze.cells (grownCap w j 0 e - j)).toList.take ((List.replicate (j:Int).toNat x0).length*ty.sz),⟨?_,.inr ⟨w.heap.size,grownCap w j 0 e,Builtin.zeroCells ze.cells j++Builtin.zeroCells ze.cells (grownCap w j 0 e - j),by rw [List.length_replicate,Int.toNat_natCast],Nat.zero_le _,?_,?_,hle,?_,rfl⟩⟩,?_⟩
  ·simp only [List.length_replicate,Int.toNat_natCast,List.length_take,Array.toList_append,List.length_append,hzz,hlen]
   rw [Nat.min_eq_left (Nat.le_add_right _ _)]
  ·exact heap_alloc_new w.drew _
  ·rw [List.length_replicate,Int.toNat_natCast]
   exact hge
  ·rw [<- Array.length_toList,Array.toList_append,List.length_append,hzz,hzz,hlen,hlen,<- Nat.add_mul]
   congr 1
   omega
  ·rw [List.length_replicate,Int.toNat_natCast,Array.toList_append,hzz,List.take_append_of_le_length (by rw [hlen]; exact Nat.le_refl _),List.take_of_length_le (by rw [hlen]; exact Nat.le_refl _)]
   exact vt (hfree _ _) j
end
def Ch.dfs (ds:List Nat):Ch where
 blk:=λb=>b∈ds
 ok:=λ_ w=>ds.Nodup /\ ∀ D∈ds,w.heap[D]?=some (.deferred (some []))
 st:=λ_ _ hb h=>⟨h.1,λD hD=>(hb D hD).trans (h.2 D hD)⟩
theorem SS.ux {K:Key} {A:eL} {S S2:List Ch} {I I2:List Im} {w:World} (h:SS K A S I w) (hch: ∀ c∈S2,c.ok A w) (hown: ∀ b,Own S2 b->Own S b) (hdis:S2.Pairwise λc d=> ∀ b,c.blk b -> ¬ d.blk b) (him: ∀ f∈I2,f.ok A w):SS K A S2 I2 w:=by
 refine ⟨⟨h.st.lt,hch,?_,hdis,him⟩,⟨h.fx.os,h.fx.tape,h.fx.output,h.fx.size,h.fx.mR,h.fx.up,h.fx.dn,λb hb=>h.fx.own b (hown b hb)⟩⟩
 intro c hc b hb
 obtain ⟨d,hd,hb2⟩:=hown b ⟨c,hc,hb⟩
 exact h.st.own d hd b hb2
theorem SS.wZ {K:Key} {A:eL} {S:List Ch} {I:List Im} {w:World} (h:SS K A S I w):SS K A (Ch.dfs []::S) I w:=by
 refine h.ux ?_ ?_ ?_ h.st.im
 ·intro c hc
  rcases List.mem_cons.1 hc with rfl | hc
  ·exact ⟨List.nodup_nil,λD hD=>by cases hD⟩
  ·exact h.st.ch c hc
 ·rintro b ⟨c,hc,hb⟩
  rcases List.mem_cons.1 hc with rfl | hc
  ·cases hb
  ·exact ⟨c,hc,hb⟩
 ·exact List.pairwise_cons.2 ⟨λd _ b hb=>(by cases hb),h.st.dis⟩
theorem SS.put {K:Key} {A:eL} {c c':Ch} {R:List Ch} {I:List Im} {w:World} {D:Nat} {o:Obj} (h:SS K A (c::R) I w) (hD:c.blk D) (hb: ∀ b,c'.blk b->c.blk b) (hc:c'.ok A (w.putObj D o)):SS K A (c'::R) I (w.putObj D o):=by
 have h1:=h.st.own c (by simp) D hD
 have hA: ∀ b,A b->(w.putObj D o).heap[b]?=w.heap[b]?:=λb hb=>World.putObj_heap_other (λe=>h1.2 (e ▸ hb))
 have hdis:=List.pairwise_cons.1 h.st.dis
 have hR: ∀ d∈R,∀ b,d.blk b->(w.putObj D o).heap[b]?=w.heap[b]?:=λd hd b hb=>World.putObj_heap_other (λe=>hdis.1 d hd D hD (e ▸ hb))
 have hsz:(w.putObj D o).heap.size=w.heap.size:=World.putObj_size
 refine ⟨⟨by rw [hsz]; exact h.st.lt,?_,?_,?_,λi hi=>i.st (λ_ h=>h) hA (h.st.im i hi)⟩,⟨h.fx.os,h.fx.tape,h.fx.output,by rw [hsz]; exact h.fx.size,?_,h.fx.up,h.fx.dn,?_⟩⟩
 ·intro d hd
  rcases List.mem_cons.1 hd with rfl | hd
  ·exact hc
  ·exact d.st (λ_ h=>h) hA (hR d hd) (h.st.ch d (by simp [hd]))
 ·intro d hd b hb2
  rw [hsz]
  rcases List.mem_cons.1 hd with rfl | hd
  ·exact h.st.own c (by simp) b (hb b hb2)
  ·exact h.st.own d (by simp [hd]) b hb2
 ·exact List.pairwise_cons.2 ⟨λd hd b hb2=>hdis.1 d hd b (hb b hb2),hdis.2⟩
 ·intro b hbs hO
  refine (World.putObj_heap_other (λe=> ?_)).trans (h.fx.mR b hbs hO)
  subst e
  rcases h.fx.own b ⟨c,by simp,hD⟩ with h4 | h4
  ·exact hO h4
  ·omega
 ·rintro b ⟨d,hd,hb2⟩
  rcases List.mem_cons.1 hd with rfl | hd
  ·exact h.fx.own b ⟨c,by simp,hb b hb2⟩
  ·exact h.fx.own b ⟨d,by simp [hd],hb2⟩
theorem tB {G:Pg} {fn:Func} {tm:Array Value} {R:Ending->World->Prop} {K:Key} {A:eL} {S:List Ch} {I:List Im} (hR: ∀ w,SS K A S I w->LeavesInM G.F 0 G.P fn tm R [] .returning w): ∀ (ds:List Nat) (w:World),SS K A (Ch.dfs ds::S) I w->LeavesInM G.F 0 G.P fn tm R (ds.map mark) .returning w
 | [],w,h=>hR w (h.ux (λc hc=>h.st.ch c (by simp [hc])) (λb ⟨c,hc,hb⟩=>⟨c,by simp [hc],hb⟩) (List.pairwise_cons.1 h.st.dis).2 h.st.im)
 | D::ds,w,h=>by
  have hok:=h.st.ch _ (List.mem_cons_self ..)
  refine ⟨by simp,.inl ⟨D,w.putObj D (.deferred none),rfl,run_takeDeferred (hok.2 D (by simp)),?_⟩⟩
  refine tB hR ds _ (h.put (by show D∈D::ds; simp) (λb hb=>List.mem_cons_of_mem _ hb) ⟨(List.nodup_cons.1 hok.1).2,λD' hD'=> ?_⟩)
  rw [World.putObj_heap_other (k:=D') (r:=D) (λe=>(List.nodup_cons.1 hok.1).1 (by rw [<- e]; exact hD'))]
  exact hok.2 D' (by simp [hD'])
section
variable {G : Pg} {n : Nd} {K : Key} {Q : Exit -> Act -> World -> Prop} {m : Env} {S : List Ch} {I : List Im} {ops : Array Oper} {o : Oper} {l : List Oper}
theorem T.wZ {c:Code} (h:T G n K Q c m (Ch.dfs []::S) I):T G n K Q c m S I:=λA a w hf hs=>h A a w hf hs.wZ
theorem E.yB {k:Nat} {ds:List Nat} {fn:Func} {σ:Type} {val:σ->Value} {S':σ->List Ch} {I':σ->List Im} (x:σ) (i:Nat) (is js:List Nat) {vs:List Value} {R S0:List Ch} (hd:ext S [i]=some ([Ch.dfs ds],S0)) (hr:RVs G.τ m S0 fn.results.toList vs) (hv:tr vs=val x) (hS:ext S0 is=some (S' x,R)) (hJ:pick I js=some (I' x)):E ⟨k,ds⟩ K (nh G fn K val S' I') .ret m S I:=by
 intro A a w hf hs
 show LeavesInM _ _ _ _ _ _ a.defers _ _
 rw [hf.defers]
 have h2:=hs.perm (dC hd) (λi hi=>hi)
 refine tB (K:=K) (A:=A) (S:=S0) (I:=I) ?_ ds w h2
 intro w' h3
 refine ⟨tr vs,rW hf h3.st.ch hr,x,A,by rw [hv],?_⟩
 have h4:=h3.perm (dC hS) (λi hi=>hi)
 exact h4.drop (eF hJ)
end
def Ch.pk (S:List Ch) (I:List Im):Ch where
 blk:=Own S
 ok:=λA w=>(∀ c∈S,c.ok A w)/\(S.Pairwise λ(c d:Ch)=> ∀ b:Nat,c.blk b -> ¬ d.blk b) /\ ∀ f∈I,f.ok A w
 st:=λhA hw hb h=>⟨λc hc=>c.st hA hw (λb hb2=>hb b ⟨c,hc,hb2⟩) (h.1 c hc),h.2.1,λf hf=>f.st hA hw (h.2.2 f hf)⟩
theorem vu {S R:List Ch} {I:List Im} {b:Nat}:Own (Ch.pk S I::R) b↔Own (S++R) b:=by
 constructor
 ·rintro ⟨c,hc,hb⟩
  rcases List.mem_cons.1 hc with rfl | hc
  ·obtain ⟨d,hd,hb2⟩:=hb
   exact ⟨d,List.mem_append_left _ hd,hb2⟩
  ·exact ⟨c,List.mem_append_right _ hc,hb⟩
 ·rintro ⟨c,hc,hb⟩
  rcases List.mem_append.1 hc with hc | hc
  ·exact ⟨_,List.mem_cons_self ..,c,hc,hb⟩
  ·exact ⟨c,List.mem_cons_of_mem _ hc,hb⟩
theorem SS.pack {K:Key} {A:eL} {S R:List Ch} {I J:List Im} {w:World} (h:SS K A (S++R) (I++J) w):SS K A (Ch.pk S I::R) J w:=by
 have hd:=List.pairwise_append.1 h.st.dis
 refine h.ux ?_ (λb hb=>vu.1 hb) ?_ (λf hf=>h.st.im f (List.mem_append_right _ hf))
 ·intro c hc
  rcases List.mem_cons.1 hc with rfl | hc
  ·exact ⟨λc hc=>h.st.ch c (List.mem_append_left _ hc),hd.1,λf hf=>h.st.im f (List.mem_append_left _ hf)⟩
  ·exact h.st.ch c (List.mem_append_right _ hc)
 ·exact List.pairwise_cons.2 ⟨λd hd2 b ⟨c,hc,hb⟩ hb2=>hd.2.2 c hc d hd2 b hb hb2,hd.2.1⟩
theorem SS.unpack {K:Key} {A:eL} {S R:List Ch} {I J:List Im} {w:World} (h:SS K A (Ch.pk S I::R) J w):SS K A (S++R) (I++J) w:=by
 have hok:=h.st.ch _ (List.mem_cons_self ..)
 have hd:=List.pairwise_cons.1 h.st.dis
 refine h.ux ?_ (λb hb=>vu.2 hb) ?_ ?_
 ·intro c hc
  rcases List.mem_append.1 hc with hc | hc
  ·exact hok.1 c hc
  ·exact h.st.ch c (List.mem_cons_of_mem _ hc)
 ·exact List.pairwise_append.2 ⟨hok.2.1,hd.2,λc hc d hd2 b hb hb2=>hd.1 d hd2 b ⟨c,hc,hb⟩ hb2⟩
 ·intro f hf
  rcases List.mem_append.1 hf with hf | hf
  ·exact hok.2.2 f hf
  ·exact h.st.im f hf
def YT (G:Pg) (yl:Nat) (args:List Value) (S:List Ch) (I:List Im) {σ:Type} (val:σ->Value) (S':σ->List Ch) (I':σ->List Im):Prop :=
 ∀ A w,St A S I w -> ∃ fn tmps assign body,(Instr.yield yl args.toArray).run G.P w = .ok (.round yl fn tmps assign body) w/\RoundIn Fence.wide 0 G.P yl fn tmps assign body w λe w'=> ∃ x A',e = .returned (val x)/\SS ⟨w,A,Own S⟩ A' (S' x) (I' x) w'
section
variable {G : Pg} {n : Nd} {K : Key} {Q : Exit -> Act -> World -> Prop} {m : Env} {S : List Ch} {I : List Im} {ops : Array Oper} {o : Oper} {l : List Oper}
theorem L.yd (is js:List Nat) {d:Option Nat} {Sp R:List Ch} {J:List Im} {σ:Type} {yl:Nat} {fo:Operand} {as:Array Operand} {ts:Array Nat} {vs:List Value} {val:σ->Value} {S':σ->List Ch} {I':σ->List Im} (hC:YT G yl vs Sp J val S' I') (ho:o.op = .call { callee:= .value fo,args:=as,argTypes:=ts }) (hfo:ev m fo=some (.func (.yield yl) #[] #[])) (ha:evl m as.toList=some vs)
  (hw:wg ops.toList m o=some true) (hd:o.dst=d) (hn:dok d n.n=true) (hS:ext S is=some (Sp,R)) (hJ:pick I js=some J)
  (h: ∀ x,L G n K ops Q l (ma d (val x) m) (S' x++R) (I' x++I)):L G n K ops Q (o::l) m S I:=by
 intro A a w hf hs
 have hs':=hs.perm (dC hS) (λi hi=>hi)
 obtain ⟨fn,tmps,assign,body,hy,hR⟩:=hC A w (hs'.st.left (eF hJ))
 have harr:as.map a.eval=vs.toArray:=by
  apply Array.ext'
  have:=rA hf ha
  simp [this]
 have hr:(execOp a.eval o).run G.P w = .ok (.round yl fn tmps assign body) w:=by
  simp only [execOp,ho,resolve,Deferred.ofValue,hf.ev hfo,invoke,Sem.run_bind,Sem.run_pure,Result.andThen_ok,harr]
  simpa using hy
 have hR2:RoundIn G.F 0 G.P yl fn tmps assign body w λe w'=> ∃ x A',e = .returned (val x)/\SS ⟨w,A,Own Sp⟩ A' (S' x) (I' x) w':=by
  unfold Pg.F
  split
  ·exact hR
  ·exact hR
 unfold wpListIn
 rw [if_pos (kx hw hf)]
 refine ⟨λf _=>G.fn f,?_⟩
 rw [G.sem (s8 hr (by simp)),hr,Oper.uponIn_round]
 refine ⟨G.deep,hR2.mono ?_⟩
 rintro e w' ⟨x,A',rfl,h2⟩
 show wpListIn _ _ _ _ _ _ _ _
 rw [hd]
 exact h x A' _ w' (hf.sH hn _) (hs'.frame h2)
end
def Ch.lp (yl:Nat) (r:Loop):Ch where
 blk:=λb=>b=yl
 ok:=λ_ w=>w.heap[yl]?=some (.loop r)
 st:=λ_ _ hb h=>(hb yl rfl).trans h
theorem SS.alloc {K:Key} {A:eL} {S:List Ch} {I:List Im} {w:World} (h:SS K A S I w) (o:Obj) (c:Ch) (hb: ∀ b,c.blk b->b=w.heap.size) (hc:c.ok A (w.alloc o)):SS K A (c::S) I (w.alloc o) :=
 SS.frame (S:=[]) (S':=[c]) (I':=[]) h (SS.fresh (w':=w.alloc o) (o:=o) h.st.lt rfl rfl rfl rfl c hb hc)
theorem SS.tl {K:Key} {A:eL} {c:Ch} {S:List Ch} {I:List Im} {w:World} (h:SS K A (c::S) I w):SS K A S I w :=
 h.ux (λd hd=>h.st.ch d (by simp [hd])) (λb ⟨d,hd,hb⟩=>⟨d,by simp [hd],hb⟩) (List.pairwise_cons.1 h.st.dis).2 h.st.im
def pm:List Tmp->List Value->Env->Env
 | d::ds,v::vs,m=>pm ds vs ((d,v)::m)
 | _,_,m=>m
theorem Fr.pm {k:Nat}: ∀ {ds:List Tmp} {vs:List Value} {m:Env} {tm:Array Value},ds.all (λd=>Nat.blt d k)=true->Fr ⟨k,[]⟩ m ⟨tm,[]⟩->Fr ⟨k,[]⟩ (pm ds vs m) ⟨(ds.zip vs).foldl (λt (p:Nat×Value)=>t.setIfInBounds p.1 p.2) tm,[]⟩
 | [],_,_,_,_,h=>h
 | _::_,[],_,_,_,h=>h
 | d::ds,v::vs,m,tm,hd,h=>by
  simp only [List.all_cons,Bool.and_eq_true] at hd
  exact Fr.pm (ds:=ds) (vs:=vs) hd.2 (h.put v (fW hd.1))
section
variable {σ η : Type}
def RQ (SL:σ->η->List Ch) (IL:σ->η->List Im) (jp:σ->Option Code) (z:σ×Bool) (K:Key):Exit->Act->World->Prop
 | .normal,_,w=> ∃ h A,z.2=true/\jp z.1=none/\SS K A (SL z.1 h) (IL z.1 h) w
 | .ret,_,w=> ∃ h A,z.2=false/\jp z.1=some .ret/\SS K A (SL z.1 h) (IL z.1 h) w
 | .exit id,_,w=> ∃ h A,z.2=false/\jp z.1=some (.exit id)/\SS K A (SL z.1 h) (IL z.1 h) w
 | _,_,_=>False
def BG (G:Pg) (n:Nd) (SL:σ->η->List Ch) (IL:σ->η->List Im) (jp:σ->Option Code) (z:σ×Bool) (body:Code) (K:Key):Act->World->Prop :=
 λa w=> ∃ m S I A,Fr n m a/\SS K A S I w /\ ∀ K2,T G n K2 (RQ SL IL jp z K2) body m S I
def jx:Option Code->Exit
 | some .ret=> .ret
 | some (.exit id)=> .exit id
 | _=> .normal
def jok:Option Code->Bool
 | some .ret=>true
 | some (.exit _)=>true
 | none=>true
 | _=>false
variable {G : Pg} {n : Nd} {K : Key} {Q : Exit -> Act -> World -> Prop} {m : Env} {S : List Ch} {I : List Im} {SL : σ -> η -> List Ch} {IL : σ -> η -> List Im} {jp : σ -> Option Code} {z : σ × Bool} {body : Code}
theorem E.begin {Q0:Exit->Act->World->Prop} (h: ∀ K2,T G n K2 (RQ SL IL jp z K2) body m S I):E n K (Exit.then (BG G n SL IL jp z body K) Q0) .normal m S I:=λA a w hf hs=>⟨m,S,I,A,hf,hs,h⟩
theorem E.on (h:η) (is js:List Nat) {R:List Ch} (hz:z.2=true) (hj:jp z.1=none) (hS:ext S is=some (SL z.1 h,R)) (hJ:pick I js=some (IL z.1 h)):E n K (RQ SL IL jp z K) .normal m S I:=λA a w hf hs =>
 ⟨h,A,hz,hj,(hs.perm (dC hS) (λi hi=>hi)).drop (eF hJ)⟩
theorem w6 {ξ:Type} (Y:σ->ξ->Option (σ×Bool)) (av:ξ->List Value) (af:ξ->List Im) {ps:Array Tmp} {assign:Code} {k:Nat} {fn:FuncId} {tm:Array Value} {yl D0:Nat}
  (hm:Fr ⟨k,[]⟩ m ⟨tm,[]⟩) (hps: ∀ p,(av p).length=ps.size) (hpk:ps.toList.all (λd=>Nat.blt d k)=true) (hjy: ∀ s p z,Y s p=some z->jp s=none)
  (hround: ∀ yl K s h p z,Y s p=some z->T (G.at yl) ⟨k,[]⟩ K (Exit.then (BG (G.at yl) ⟨k,[]⟩ SL IL jp z body K) (λ_ _ _=>False)) assign (pm ps.toList (av p) m) (SL s h) (af p++IL s h))
  (rec:LoopState->Option Code->Loop) (hrec:rec=λst pe=>{ state:=st,pending:=pe,fn:=fn,tmps:=tm,params:=ps,assign:=assign,body:=body,defers:=D0 })
  (C:σ->η->Ch) (hCd:C=λs h=>Ch.pk (Ch.lp yl (rec (if (jp s).isNone then .ready else .done) (jp s))::SL s h) (IL s h)) :
  ∀ s h p z,Y s p=some z->YT G yl (av p) [C s h] (af p) (λ_:η=> .bool z.2) (λh'=>[C z.1 h']) (λ_=>[]):=by
 intro s h p z hz A w hst
 have hj:=hjy s p z hz
 have h0:=SS.start hst
 rw [hCd] at h0
 simp only [hj] at h0
 have h1:=SS.unpack (S:=_::_) (R:=[]) h0
 rw [List.append_nil] at h1
 have hl:w.heap[yl]?=some (.loop (rec .ready none)):=h1.st.ch _ (List.mem_cons_self ..)
 have hy:=run_yield (P:=G.P) (args:=(av p).toArray) hl (by rw [hrec]; simpa using hps p)
 rw [hrec] at hy
 refine ⟨fn,_,assign,body,hy,roundIn_of_wpIn trivial ?_⟩
 have hp1:(SL s h++[Ch.lp yl (rec .ready none)]).Perm (Ch.lp yl (rec .ready none)::SL s h):=List.perm_append_comm
 have h2:=h1.perm hp1 (I':=af p++IL s h) (λi hi=>by simp at hi ⊢; exact hi.symm)
 have hfr:=Fr.pm (vs:=av p) hpk hm
 have hT:=hround yl ⟨w,A,Own (SL s h)⟩ s h p z hz A _ w hfr (SS.start (h2.st.left (λi hi=>hi)))
 have e1:(G.at yl).F=Fence.wide.inRound yl:=rfl
 rw [e1] at hT
 have ez:(ps.zip (av p).toArray).foldl (λtmps (x:Nat×Value)=>tmps.setIfInBounds x.1 x.2) tm=(ps.toList.zip (av p)).foldl (λt (q:Nat×Value)=>t.setIfInBounds q.1 q.2) tm:=by
  rw [<- Array.foldl_toList,Array.toList_zip]
 rw [ez]
 refine Code.wpIn_mono ?_ hT
 intro e a1 w1 hq
 cases e with
 | normal =>
  obtain ⟨m1,S1,I1,A1,hf1,hs1,hb⟩:=hq
  have h3:=h2.frame hs1
  have h4:=h3.perm (S':=Ch.lp yl (rec .ready none)::S1) (I':=I1++(af p++IL s h)) (List.perm_append_comm (l₁:=[_])) (λi hi=>hi)
  have hl1:w1.heap[yl]?=some (.loop (rec .ready none)):=h4.st.ch _ (List.mem_cons_self ..)
  refine ⟨_,run_beginRound hl1 (by rw [hrec]),?_⟩
  obtain ⟨rb,hrb⟩: ∃ rb,({ rec .ready none with state:= .busy }:Loop)=rb:=⟨_,rfl⟩
  rw [hrb]
  have hlt:yl < w1.heap.size:=(Array.getElem?_eq_some_iff.1 hl1).1
  have h5:=h4.put (D:=yl) (o:= .loop rb) (c':=Ch.lp yl rb) rfl (λb hb=>hb) (World.putObj_heap_same hlt)
  have h6:=h5.perm (S':=S1++[Ch.lp yl rb]) (I':=I1) List.perm_append_comm (λi hi=>List.mem_append_left _ hi)
  have hB:=hb ⟨_,A1,Own S1⟩ A1 _ _ hf1 (SS.start (h6.st.left (λi hi=>hi)))
  rw [e1] at hB
  refine Code.wpIn_mono ?_ hB
  have fin: ∀ (jump:Option Code) (h':η) (A':eL) (w':World),z.2=jump.isNone->jp z.1=jump->SS ⟨w1.putObj yl (.loop rb),A1,Own S1⟩ A' (SL z.1 h') (IL z.1 h') w' -> ∃ v w4,(Instr.endRound yl jump).run G.P w' = .ok v w4 /\ ∃ (x:η) (A2:eL),Ending.returned v = .returned (.bool z.2)/\SS ⟨w,A,Own [C s h]⟩ A2 [C z.1 x] [] w4:=by
   intro jump h' A' w' hz2 hjz h7
   have h8:=h6.frame h7
   have h9:=h8.perm (S':=Ch.lp yl rb::SL z.1 h') (I':=IL z.1 h') (List.perm_append_comm (l₁:=[Ch.lp yl rb]) (l₂:=SL z.1 h')) (λi hi=>List.mem_append_left _ hi)
   have hl9:w'.heap[yl]?=some (.loop rb):=h9.st.ch _ (List.mem_cons_self ..)
   have hlt9:yl < w'.heap.size:=(Array.getElem?_eq_some_iff.1 hl9).1
   refine ⟨_,_,run_endRound jump hl9,h',A',by rw [hz2],?_⟩
   have e2:({ rb with state:=if jump.isNone then .ready else .done,pending:=jump }:Loop)=rec (if (jp z.1).isNone then .ready else .done) (jp z.1):=by
    rw [<- hrb,hjz,hrec]
   rw [e2]
   have h10:=h9.put (D:=yl) (o:= .loop (rec (if (jp z.1).isNone then .ready else .done) (jp z.1))) (c':=Ch.lp yl (rec (if (jp z.1).isNone then .ready else .done) (jp z.1))) rfl (λb hb=>hb) (World.putObj_heap_same hlt9)
   have h11:=SS.pack (S:=_::SL z.1 h') (R:=[]) (I:=IL z.1 h') (J:=[]) (by rw [List.append_nil,List.append_nil]; exact h10)
   rw [hCd] at hst ⊢
   simp only [hj] at h11 ⊢
   exact h11
  intro e2 a2 w2 hq2
  cases e2 with
  | normal=>obtain ⟨h',A',hz2,hjz,h7⟩:=hq2; exact fin none h' A' w2 hz2 hjz h7
  | ret=>obtain ⟨h',A',hz2,hjz,h7⟩:=hq2; exact fin (some .ret) h' A' w2 hz2 hjz h7
  | exit id=>obtain ⟨h',A',hz2,hjz,h7⟩:=hq2; exact fin (some (.exit id)) h' A' w2 hz2 hjz h7
  | goto t=>exact hq2.elim
  | panic c=>exact hq2.elim
  | outgrown=>exact hq2.elim
 | exit id=>exact hq.elim
 | goto t=>exact hq.elim
 | ret=>exact hq.elim
 | panic c=>exact hq.elim
 | outgrown=>exact hq.elim
theorem T.rf {ξ τ:Type} (Y:σ->ξ->Option (σ×Bool)) (av:ξ->List Value) (af:ξ->List Im) {g:Operand} {ps:Array Tmp} {assign:Code} {k:Nat} {ds:List Nat} {f:FuncId} {bs caps:Array Value} {val:τ->Value} {S':τ->List Ch} {I':τ->List Im} {Sp R S0:List Ch} {J:List Im} {s0 s1:σ} {h0:η} {hx:τ->η} (jp:σ->Option Code)
  (SL:σ->η->List Ch) (IL:σ->η->List Im) (di:Nat) (is jl js:List Nat)
  (hrd:G.rd=none) (hg:ev m g=some (.func (.func f) bs caps)) (hps: ∀ p,(av p).length=ps.size) (hpk:ps.toList.all (λd=>Nat.blt d k)=true)
  (hC: ∀ yl (C:σ->η->Ch),(∀ s h p z,Y s p=some z->YT G yl (av p) [C s h] (af p) (λ_:η=> .bool z.2) (λh'=>[C z.1 h']) (λ_=>[]))->CT G f (bs.toList ++ .func (.yield yl) #[] #[]::caps.toList) (C s0 h0::Sp) J val (λx=>C s1 (hx x)::S' x) I')
  (hjy: ∀ s p z,Y s p=some z->jp s=none) (hj0:jp s0=none)
  (hd:ext S [di]=some ([Ch.dfs ds],S0)) (hS:ext S0 is=some (SL s0 h0++Sp,R)) (hIL:pick I jl=some (IL s0 h0)) (hJ:pick I js=some J)
  (hround: ∀ yl K s h p z,Y s p=some z->T (G.at yl) ⟨k,[]⟩ K (Exit.then (BG (G.at yl) ⟨k,[]⟩ SL IL jp z body K) (λ_ _ _=>False)) assign (pm ps.toList (av p) m) (SL s h) (af p++IL s h))
  (hj1:jok (jp s1)=true)
  (h: ∀ x D,E ⟨k,D::ds⟩ K Q (jx (jp s1)) m (Ch.dfs (D::ds)::(SL s1 (hx x)++S' x++R)) (IL s1 (hx x)++I' x++I)) :
  T G ⟨k,ds⟩ K Q (.rangeFunc g ps assign body) m S I:=by
 intro A a w hf hs
 have hF:G.F=Fence.wide:=by unfold Pg.F; rw [hrd]
 refine wpIn_rangeFunc ?_
 intro fn _
 have hro:G.F.round=none:=by rw [G.round,hrd]
 rw [hro]
 obtain ⟨D0,hD0⟩: ∃ D0,w.heap.size=D0:=⟨_,rfl⟩
 obtain ⟨rec,hrec⟩: ∃ rec:LoopState->Option Code->Loop,rec=λst pe=>{ state:=st,pending:=pe,fn,tmps:=a.tmps,params:=ps,assign,body,defers:=D0 }:=⟨_,rfl⟩
 obtain ⟨C,hCd⟩: ∃ C:σ->η->Ch,C=λs h=>Ch.pk (Ch.lp (D0+1) (rec (if (jp s).isNone then .ready else .done) (jp s))::SL s h) (IL s h):=⟨_,rfl⟩
 have hm:Fr ⟨k,[]⟩ m ⟨a.tmps,[]⟩:=⟨hf.size,rfl,hf.at_⟩
 have hY:=w6 (G:=G) Y av af hm hps hpk hjy hround rec hrec C hCd
 obtain ⟨⟨fnc,hfnc,h1,h2⟩,hcalls⟩:=hC (D0+1) C hY
 -- the two blocks
 have a1:=(hs.perm (dC hd) (λi hi=>hi))
 have a2:=a1.alloc (.deferred (some [])) (Ch.dfs [D0]) (λb hb=>by rw [hD0]; exact List.mem_singleton.1 hb) ⟨by simp,λD hD=>by
  rw [List.mem_singleton.1 hD,<- hD0]; exact World.alloc_heap_new w _⟩
 have e2:(w.alloc (.deferred (some []))).heap.size=D0+1:=by rw [World.size_alloc,hD0]
 have a3:=a2.alloc (.loop (rec .ready none)) (Ch.lp (D0+1) (rec .ready none)) (λb hb=>by rw [e2]; exact hb) (by
  show (World.alloc _ _).heap[D0+1]?=_
  rw [<- e2]; exact World.alloc_heap_new _ _)
 obtain ⟨W,hW⟩: ∃ W,(w.alloc (.deferred (some []))).alloc (.loop (rec .ready none))=W:=⟨_,rfl⟩
 rw [hW] at a3
 -- marks together
 have a4:SS K A (Ch.dfs (D0::ds)::Ch.lp (D0+1) (rec .ready none)::S0) I W:=by
  have hd3:=List.pairwise_cons.1 a3.st.dis
  have hd4:=List.pairwise_cons.1 hd3.2
  have hd5:=List.pairwise_cons.1 hd4.2
  have hok1:=a3.st.ch (Ch.dfs [D0]) (by simp)
  have hok2:=a3.st.ch (Ch.dfs ds) (by simp)
  refine a3.ux ?_ ?_ ?_ a3.st.im
  ·intro c hc
   rcases List.mem_cons.1 hc with rfl | hc
   ·refine ⟨List.nodup_cons.2 ⟨λhmem=>hd4.1 (Ch.dfs ds) (by simp) D0 (List.mem_singleton.2 rfl) hmem,hok2.1⟩,λD hD=> ?_⟩
    rcases List.mem_cons.1 hD with rfl | hD
    ·exact hok1.2 D (by simp)
    ·exact hok2.2 D hD
   ·rcases List.mem_cons.1 hc with rfl | hc
    ·exact a3.st.ch _ (by simp)
    ·exact a3.st.ch _ (by simp [hc])
  ·rintro b ⟨c,hc,hb⟩
   rcases List.mem_cons.1 hc with rfl | hc
   ·rcases List.mem_cons.1 hb with rfl | hb
    ·exact ⟨Ch.dfs [b],by simp,List.mem_singleton.2 rfl⟩
    ·exact ⟨Ch.dfs ds,by simp,hb⟩
   ·rcases List.mem_cons.1 hc with rfl | hc
    ·exact ⟨Ch.lp (D0+1) (rec .ready none),by simp,hb⟩
    ·exact ⟨c,by simp [hc],hb⟩
  ·refine List.pairwise_cons.2 ⟨?_,List.pairwise_cons.2 ⟨λc hc=>hd3.1 c (by simp [hc]),hd5.2⟩⟩
   intro c hc b hb hb2
   have hb3:b=D0\/b∈ds:=List.mem_cons.1 hb
   rcases List.mem_cons.1 hc with hc | hc
   ·rw [hc] at hb2
    rcases hb3 with h3 | h3
    ·exact hd3.1 (Ch.dfs [D0]) (by simp) b hb2 (List.mem_singleton.2 h3)
    ·exact hd3.1 (Ch.dfs ds) (by simp) b hb2 h3
   ·rcases hb3 with h3 | h3
    ·exact hd4.1 c (by simp [hc]) b (List.mem_singleton.2 h3) hb2
    ·exact hd5.1 c hc b h3 hb2
 -- the pack
 have hpS:=dC hS
 have a5:SS K A ((Ch.lp (D0+1) (rec .ready none)::SL s0 h0)++(Sp++(Ch.dfs (D0::ds)::R))) (IL s0 h0++(J++I)) W:=by
  refine a4.perm ?_ ?_
  ·have p1:(Ch.dfs (D0::ds)::Ch.lp (D0+1) (rec .ready none)::((SL s0 h0++Sp)++R)).Perm (Ch.dfs (D0::ds)::Ch.lp (D0+1) (rec .ready none)::S0):=(hpS.cons _).cons _
   refine List.Perm.trans ?_ p1
   have p2:((Ch.lp (D0+1) (rec .ready none)::SL s0 h0)++(Sp++(Ch.dfs (D0::ds)::R))).Perm (Ch.dfs (D0::ds)::((Ch.lp (D0+1) (rec .ready none)::SL s0 h0)++(Sp++R))):=by
    have:(Sp++(Ch.dfs (D0::ds)::R)).Perm (Ch.dfs (D0::ds)::(Sp++R)):=List.perm_middle
    exact (this.append_left _).trans List.perm_middle
   refine p2.trans ?_
   simp
  ·intro i hi
   rcases List.mem_append.1 hi with hi | hi
   ·exact eF hIL i hi
   ·rcases List.mem_append.1 hi with hi | hi
    ·exact eF hJ i hi
    ·exact hi
 have a6:=SS.pack a5
 have eC0:Ch.pk (Ch.lp (D0+1) (rec .ready none)::SL s0 h0) (IL s0 h0)=C s0 h0:=by rw [hCd]; simp only [hj0]; rfl
 rw [eC0] at a6
 have hct:=hcalls A W ((SS.st (S:=(C s0 h0::Sp)++(Ch.dfs (D0::ds)::R)) (by simpa using a6)).left (λi hi=>List.mem_append_left _ hi))
 have hev:=hf.ev hg
 refine ⟨D0+1,[mark D0],W,{ target:= .fn (.func f) caps,args:=bs ++ #[.func (.yield (D0+1)) #[] #[]] },W,f,bs ++ #[.func (.yield (D0+1)) #[] #[]]++caps,W,?_,?_,?_,?_,G.deep,?_⟩
 ·rw [<- hW,hrec,<- hD0]; exact run_enterLoop_outer _ _ _ _ _
 ·simp [resolve,Deferred.ofValue,hev]
  rfl
 ·intro f' _; exact G.fn f'
 ·simp [invoke,nX hfnc h1 h2]
 ·refine G.calls ?_
  have earr:(bs.toList++Value.func (.yield (D0+1)) #[] #[]::caps.toList).toArray=bs ++ #[.func (.yield (D0+1)) #[] #[]]++caps:=by apply Array.ext'; simp
  rw [earr] at hct
  refine hct.mono ?_
  rintro e W2 ⟨x,A',rfl,h3⟩
  have b1:SS K A' ((C s1 (hx x)::S' x)++(Ch.dfs (D0::ds)::R)) (I' x++(J++I)) W2:=SS.frame (S:=C s0 h0::Sp) (R:=Ch.dfs (D0::ds)::R) (I:=J++I) (by simpa using a6) h3
  obtain ⟨r1,hr1⟩: ∃ r1,rec (if (jp s1).isNone then LoopState.ready else .done) (jp s1)=r1:=⟨_,rfl⟩
  have hnb:r1.state ≠ .busy:=by rw [<- hr1,hrec]; cases jp s1 <;> simp
  have ep:r1.pending=jp s1:=by rw [<- hr1,hrec]
  have eC1:C s1 (hx x)=Ch.pk (Ch.lp (D0+1) r1::SL s1 (hx x)) (IL s1 (hx x)):=by rw [<- hr1,hCd]
  rw [eC1] at b1
  have b2:SS K A' ((Ch.lp (D0+1) r1::SL s1 (hx x))++(S' x++(Ch.dfs (D0::ds)::R))) (IL s1 (hx x)++(I' x++(J++I))) W2:=SS.unpack b1
  have hl:W2.heap[D0+1]?=some (.loop r1):=b2.st.ch _ (List.mem_cons_self ..)
  have hlt:D0+1 < W2.heap.size:=(Array.getElem?_eq_some_iff.1 hl).1
  have hend:=run_endLoop (P:=G.P) hl hnb
  obtain ⟨r2,hr2⟩: ∃ r2,({ r1 with state:= .exhausted }:Loop)=r2:=⟨_,rfl⟩
  rw [hr2] at hend
  refine ⟨_,_,hend,?_⟩
  have b3:=SS.put (o:= .loop r2) (D:=D0+1) (c':=Ch.lp (D0+1) r2) (c:=Ch.lp (D0+1) r1) (R:=SL s1 (hx x)++(S' x++(Ch.dfs (D0::ds)::R))) b2 rfl (λb hb=>hb) (World.putObj_heap_same hlt)
  have b4:=b3.tl
  have b5:=b4.perm (S':=Ch.dfs (D0::ds)::(SL s1 (hx x)++S' x++R)) (I':=IL s1 (hx x)++I' x++I) (by
   have:(SL s1 (hx x)++(S' x++(Ch.dfs (D0::ds)::R))).Perm (Ch.dfs (D0::ds)::(SL s1 (hx x)++S' x++R)):=by
    rw [<- List.append_assoc]
    exact List.perm_middle
   exact this.symm) (λi hi=>by simp only [List.mem_append] at hi ⊢; rcases hi with (hi | hi) | hi <;> simp [hi])
  have hE:=h x D0 A' ⟨a.tmps,[mark D0]++a.defers⟩ _ ⟨hf.size,by simp [hf.defers],hf.at_⟩ b5
  rw [ep]
  generalize jp s1=j at hE hj1 ⊢
  cases j with
  | none=>exact hE
  | some c =>
   cases c <;> first | (cases hj1; done) | skip
   ·exact wpIn_exit hE
   ·exact wpIn_ret hE
end
section
variable {σ η X θ τ : Type} {G : Pg} {n : Nd} {K : Key} {Q : Exit -> Act -> World -> Prop} {m : Env} {S : List Ch} {I : List Im} {body : Code}
theorem T.rf2 {Y:σ->X->Option (σ×Bool)} {g:Operand} {ps:Array Tmp} {assign:Code} {k:Nat} {ds:List Nat} {f:FuncId} {bs caps:Array Value} {val:τ->Value} {S':τ->List Ch} {I':τ->List Im} {Sp R S0:List Ch} {J:List Im} {s0 s1:σ} {h0:η} {hx:τ->η} (av:X->θ->List Value) (af:X->θ->List Im) (jp:σ->Option Code)
  (SL:σ->η->List Ch) (IL:σ->η->List Im) (di:Nat) (is jl js:List Nat)
  (hrd:G.rd=none) (hg:ev m g=some (.func (.func f) bs caps)) (hps: ∀ x t,(av x t).length=ps.size) (hpk:ps.toList.all (λd=>Nat.blt d k)=true)
  (hC: ∀ yl (C:σ->η->Ch),(∀ s h x t z,Y s x=some z->YT G yl (av x t) [C s h] (af x t) (λ_:η=> .bool z.2) (λh'=>[C z.1 h']) (λ_=>[]))->CT G f (bs.toList ++ .func (.yield yl) #[] #[]::caps.toList) (C s0 h0::Sp) J val (λx=>C s1 (hx x)::S' x) I')
  (hjy: ∀ s x z,Y s x=some z->jp s=none) (hj0:jp s0=none)
  (hd:ext S [di]=some ([Ch.dfs ds],S0)) (hS:ext S0 is=some (SL s0 h0++Sp,R)) (hIL:pick I jl=some (IL s0 h0)) (hJ:pick I js=some J)
  (hround: ∀ yl K s h x t z,Y s x=some z->T (G.at yl) ⟨k,[]⟩ K (Exit.then (BG (G.at yl) ⟨k,[]⟩ SL IL jp z body K) (λ_ _ _=>False)) assign (pm ps.toList (av x t) m) (SL s h) (af x t++IL s h))
  (hj1:jok (jp s1)=true)
  (h: ∀ x D,E ⟨k,D::ds⟩ K Q (jx (jp s1)) m (Ch.dfs (D::ds)::(SL s1 (hx x)++S' x++R)) (IL s1 (hx x)++I' x++I)) :
  T G ⟨k,ds⟩ K Q (.rangeFunc g ps assign body) m S I :=
 T.rf (ξ:=X×θ) (λs p=>Y s p.1) (λp=>av p.1 p.2) (λp=>af p.1 p.2) jp SL IL di is jl js hrd hg (λp=>hps p.1 p.2) hpk (λyl C hY=>hC yl C λs h x t z hz=>hY s h (x,t) z hz) (λs p z hz=>hjy s p.1 z hz) hj0 hd hS hIL hJ
  (λyl K s h p z hz=>hround yl K s h p.1 p.2 z hz) hj1 h
end
section
variable {G : Pg} {k : Nat} {K : Key} {Q : Exit -> Act -> World -> Prop} {m : Env} {S : List Ch} {I : List Im} {ds : List Nat}
def BH (k:Nat) (K:Key) {η:Type} (φ:η->Prop) (N:η->List Nat) (M:η->Env) (S:η->List Ch) (I:η->List Im):Act->World->Prop:=λa w=> ∃ x A,φ x/\Fr ⟨k,N x⟩ (M x) a/\SS K A (S x) (I x) w
theorem T.BI {x y:Code} {η:Type} (φ:η->Prop) (N:η->List Nat) (M:η->Env) (S':η->List Ch) (I':η->List Im) (h1:T G ⟨k,ds⟩ K (Exit.then (BH k K φ N M S' I') Q) x m S I) (h2: ∀ z,φ z->T G ⟨k,N z⟩ K Q y (M z) (S' z) (I' z)):T G ⟨k,ds⟩ K (Exit.then (y.wpIn G.F 0 G.P Q) Q) x m S I:=by
 intro A a w hf hs
 refine Code.wpIn_mono ?_ (h1 A a w hf hs)
 intro e a' w' hq
 cases e with
 | normal =>
  obtain ⟨z,A',hz,hf',hs'⟩:=hq
  exact h2 z hz A' a' w' hf' hs'
 | exit id=>exact hq
 | goto id=>exact hq
 | ret=>exact hq
 | panic ch=>exact hq
 | outgrown=>exact hq
theorem T.FP {x:Code} {η:Type} (φ:η->Prop) (N:η->List Nat) (M:η->Env) (S':η->List Ch) (I':η->List Im) (h1:T G ⟨k,ds⟩ K (Exit.then (BH k K φ N M S' I') Q) x m S I) (h2: ∀ z,φ z->E ⟨k,N z⟩ K Q .normal (M z) (S' z) (I' z)):T G ⟨k,ds⟩ K Q x m S I:=by
 intro A a w hf hs
 refine Code.wpIn_mono ?_ (h1 A a w hf hs)
 intro e a' w' hq
 cases e with
 | normal =>
  obtain ⟨z,A',hz,hf',hs'⟩:=hq
  exact h2 z hz A' a' w' hf' hs'
 | exit id=>exact hq
 | goto id=>exact hq
 | ret=>exact hq
 | panic ch=>exact hq
 | outgrown=>exact hq
theorem T.ou {n:Nd} {x:Code} {η:Type} (φ:η->Prop) (M:η->Env) (S':η->List Ch) (I':η->List Im) (h1:T G n K (Exit.then (Mid n K φ M S' I') Q) x m S I) (h2: ∀ z,φ z->E n K Q .normal (M z) (S' z) (I' z)):T G n K Q x m S I:=by
 intro A a w hf hs
 refine Code.wpIn_mono ?_ (h1 A a w hf hs)
 intro e a' w' hq
 cases e with
 | normal =>
  obtain ⟨z,A',hz,hf',hs'⟩:=hq
  exact h2 z hz A' a' w' hf' hs'
 | exit id=>exact hq
 | goto id=>exact hq
 | ret=>exact hq
 | panic ch=>exact hq
 | outgrown=>exact hq
theorem E.off {fn:Func} {k:Nat} {ds:List Nat} {σ:Type} {val:σ->Value} {S':σ->List Ch} {I':σ->List Im} (h:E ⟨k,ds⟩ K (nh G fn K val S' I') .ret m S I):E ⟨k,ds⟩ K (nh G fn K val S' I') .normal m S I:=h
theorem E.rY {η:Type} {φ:η->Prop} {N:η->List Nat} {M:η->Env} {S':η->List Ch} {I':η->List Im} (z:η) (is js:List Nat) {R:List Ch} (hz:φ z) (hn:N z=ds) (hm:sF m (M z)) (hS:ext S is=some (S' z,R)) (hJ:pick I js=some (I' z)):E ⟨k,ds⟩ K (Exit.then (BH k K φ N M S' I') Q) .normal m S I:=by
 intro A a w hf hs
 have h2:=hs.perm (dC hS) (λi hi=>hi)
 exact ⟨z,A,hz,by rw [hn]; exact hf.sub (my hm),h2.drop (eF hJ)⟩
theorem T.GN {ρ σ:Type} {r:ρ} {c:Code} (l:Nat->σ->Option ρ) (N:σ->List Nat) (M:σ->Env) (SL:σ->List Ch) (IL:σ->List Im) (h0: ∀ s,l 0 s≠some r)
  (round: ∀ j s,l (j+1) s=some r->T G ⟨k,N s⟩ K (Exit.then (λa w=> ∃ s' A,l j s'=some r/\Fr ⟨k,N s'⟩ (M s') a/\SS K A (SL s') (IL s') w) Q) c (M s) (SL s) (IL s))
  {j:Nat} {s:σ} (h:l j s=some r):T G ⟨k,N s⟩ K Q (.loop c) (M s) (SL s) (IL s):=by
 intro A a w hf hs
 classical
 let R:Act->World->Nat->Prop:=λa w j=> ∃ s A,l j s=some r/\Fr ⟨k,N s⟩ (M s) a/\SS K A (SL s) (IL s) w
 refine wpIn_loop (λa w=> ∃ j,R a w j) (λa w=>if h: ∃ j,R a w j then Classical.choose (least h) else 0) ⟨j,s,A,h,hf,hs⟩ ?_
 rintro a1 w1 ⟨k1,hk1⟩
 have hex: ∃ j,R a1 w1 j:=⟨k1,hk1⟩
 have hmu:(if h: ∃ j,R a1 w1 j then Classical.choose (least h) else 0)=Classical.choose (least hex):=dif_pos hex
 obtain ⟨⟨s2,A2,hl,hf2,hs2⟩,hmin⟩:=Classical.choose_spec (least hex)
 rw [<- hmu] at hl hmin
 generalize (if h: ∃ j,R a1 w1 j then Classical.choose (least h) else 0)=mu at hl hmin ⊢
 cases mu with
 | zero=>exact absurd hl (h0 s2)
 | succ k2 =>
  refine Code.wpIn_mono ?_ (round k2 s2 hl A2 a1 w1 hf2 hs2)
  intro e a3 w3 hq
  cases e with
  | normal =>
   obtain ⟨s3,A3,hl3,hf3,hs3⟩:=hq
   refine ⟨⟨k2,s3,A3,hl3,hf3,hs3⟩,?_⟩
   have hex3: ∃ j,R a3 w3 j:=⟨k2,s3,A3,hl3,hf3,hs3⟩
   show (if h: ∃ j,R a3 w3 j then Classical.choose (least h) else 0) < k2+1
   rw [dif_pos hex3]
   exact Nat.lt_succ_of_le ((Classical.choose_spec (least hex3)).2 k2 ⟨s3,A3,hl3,hf3,hs3⟩)
  | exit id=>exact hq
  | goto id=>exact hq
  | ret=>exact hq
  | panic ch=>exact hq
  | outgrown=>exact hq
theorem T.itD {ρ σ η:Type} {r:ρ} {c:Code} {f:σ->Option (σ ⊕ ρ)} (N:σ->η->List Nat) (M:σ->η->Env) (SL:σ->η->List Ch) (IL:σ->η->List Im)
  (round: ∀ j s x z,f s=some z->(∀ s',z = .inl s'->iX f j s'=some r)->(∀ r',z = .inr r'->r'=r)->T G ⟨k,N s x⟩ K (Exit.then (BH k K (λp:σ×η=>iX f j p.1=some r) (λp=>N p.1 p.2) (λp=>M p.1 p.2) (λp=>SL p.1 p.2) (λp=>IL p.1 p.2)) Q) c (M s x) (SL s x) (IL s x))
  {s:σ} {x:η} (h:iter f s=some r):T G ⟨k,N s x⟩ K Q (.loop c) (M s x) (SL s x) (IL s x):=by
 obtain ⟨j,hk⟩:=nz h
 refine T.GN (σ:=σ×η) (λk p=>iX f k p.1) (λp=>N p.1 p.2) (λp=>M p.1 p.2) (λp=>SL p.1 p.2) (λp=>IL p.1 p.2) (λs e=>by cases e) ?_ (j:=j) (s:=(s,x)) hk
 rintro j ⟨s,x⟩ hs
 simp only [iX] at hs
 cases hz:f s with
 | none=>rw [hz] at hs; cases hs
 | some z =>
  rw [hz] at hs
  have h1:=round j s x z hz (λs' e=>by subst e; exact hs) (λr' e=>by subst e; exact Option.some.inj hs)
  intro A a w hf hss
  refine Code.wpIn_mono ?_ (h1 A a w hf hss)
  intro e a' w' hq
  cases e with
  | normal =>
   obtain ⟨p,A',hp,hf',hs'⟩:=hq
   exact ⟨p,A',hp,hf',hs'⟩
  | exit id=>exact hq
  | goto id=>exact hq
  | ret=>exact hq
  | panic ch=>exact hq
  | outgrown=>exact hq
theorem T.lpD {ρ σ η:Type} {r:ρ} {c:Code} {f:σ->Option (σ ⊕ ρ)} (N:σ->η->List Nat) (M:σ->η->Env) (SL:σ->η->List Ch) (IL:σ->η->List Im) {s:σ} (x:η) (is js:List Nat) {R:List Ch} (h:iter f s=some r) (hn:N s x=ds) (hm:sF m (M s x)) (hS:ext S is=some (SL s x,R)) (hJ:pick I js=some (IL s x))
  (round: ∀ j s x z,f s=some z->(∀ s',z = .inl s'->iX f j s'=some r)->(∀ r',z = .inr r'->r'=r)->T G ⟨k,N s x⟩ K (Exit.then (BH k K (λp:σ×η=>iX f j p.1=some r) (λp=>N p.1 p.2) (λp=>M p.1 p.2) (λp=>SL p.1 p.2) (λp=>IL p.1 p.2)) Q) c (M s x) (SL s x) (IL s x)):T G ⟨k,ds⟩ K Q (.loop c) m S I:=by
 subst hn
 exact T.GK is js hm hS hJ (T.itD N M SL IL round h)
end
section
variable {G : Pg} {n : Nd} {K : Key} {Q : Exit -> Act -> World -> Prop} {m : Env} {S : List Ch} {I : List Im} {ops : Array Oper} {o : Oper} {l : List Oper} {α : Type} {ty : Ty α} {xs ys : List α} {a0 a1 : Option Addr} {c c1 : Nat}
def Rd {α:Type} (d:Ty α) (a0:Option Addr) (c:Nat) (xs:List α) (A:eL) (w:World):Prop:=xs.length<=c/\(xs=[] \/ ∃ b o cs,a0=some ⟨b,o,none⟩/\Els d A w xs cs /\ ∀ j u,cs[j]?=some u->w.cell? ⟨b,o+j,none⟩=some u)
structure Vw {α:Type} (ty:Ty α) (xs:List α) (a0:Option Addr) (c:Nat) (A:Option Addr) (C:Nat) (lo hi:Int):Prop where
 lo0:0<=lo
 le:lo<=hi
 hi:hi<=xs.length
 cap:xs.length<=c
 C:C=c - lo.toNat
 A:lo.toNat < c->A=a0.map (·.add (lo.toNat*ty.sz))
theorem D6 {T:Nat} {A:eL} {w:World} {lv hv:Int} {a9:Option Addr} {c9:Nat} (hk0:Vw ty xs a0 c a9 c9 lv hv) (h:(Ch.arr ty T a0 c xs).ok A w):Rd ty a9 c9 (cut xs lv hv) A w:=by
 obtain ⟨h0,h1,h2,hcap,hC,hA⟩:=hk0
 obtain ⟨h5,h6⟩:=gy h
 refine ⟨by rw [iN ⟨h0,h1,h2⟩]; omega,?_⟩
 rcases h6 with rfl | ⟨b,cs,rfl,hels,hc⟩
 ·exact .inl (by simp [cut])
 ·by_cases hcl:lv.toNat < c
  ·refine .inr ⟨b,0+lv.toNat*ty.sz,_,by rw [hA hcl]; simp [add_lit],(hels.take hv.toNat).drop lv.toNat,λj u hu=> ?_⟩
   rw [Nat.zero_add]
   apply hc
   rw [List.getElem?_drop,List.getElem?_take] at hu
   split at hu
   ·exact hu
   ·cases hu
  ·left
   apply List.eq_nil_of_length_eq_zero
   rw [iN ⟨h0,h1,h2⟩]
   omega
theorem Ac.apR {Sx:List Ch} {t T:Nat} {x y:Operand} {ti te:TI} {u:Unit} (hR: ∀ A w,(∀ d∈Sx,d.ok A w)->Rd ty a1 c1 ys A w) (hlim:chk (cQ xs.length ys.length te.bytes)=some u) (ho:o.op = .call { callee:= .builtin .append,args:= #[x,y],argTypes:= #[t,t] }) (hx:ev m x=some (.slice a0 xs.length c)) (hy:ev m y=some (.slice a1 ys.length c1)) (ht:bL G.τ t=some ti) (hk:ti.k = .slice T) (he:bL G.τ T=some te) (hsz:(Nat.beq te.size ty.sz && Nat.beq te.zero.length ty.sz && Nat.blt 0 ty.sz && Nat.blt 0 te.bytes)=true) :
  Ac G n m o (Ch.arr ty T a0 c xs::Sx) [] (λz:Option Addr×Nat=> .slice z.1 (xs++ys).length z.2) (λz=>Ch.arr ty T z.1 z.2 (xs++ys)::Sx) (λ_=>[]):=by
 have hlim:(xs.length+ys.length)*te.bytes<=140737488355328:=fm hlim
 simp only [Bool.and_eq_true] at hsz
 obtain ⟨⟨⟨hs1,hs2⟩,hpos⟩,hby⟩:=hsz
 have hs1:=Nat.eq_of_beq_eq_true hs1
 have hs2:=Nat.eq_of_beq_eq_true hs2
 have hpos':0 < ty.sz:=fW hpos
 have hby':0 < te.bytes:=fW hby
 refine Ac.run (v:=λz:Option Addr×Nat=>some (.slice z.1 (xs++ys).length z.2)) λA a w hf hs00=> ?_
 have hs:St A [Ch.arr ty T a0 c xs] [] w:=St.left (R:=Sx) (S:=[_]) (I:=[]) hs00 (λi hi=>hi)
 have hfrm: ∀ (x:Option Addr×Nat) (w':World) (A':eL),SS ⟨w,A,Own [Ch.arr ty T a0 c xs]⟩ A' [Ch.arr ty T x.1 x.2 (xs++ys)] [] w'->SS ⟨w,A,Own (Ch.arr ty T a0 c xs::Sx)⟩ A' (Ch.arr ty T x.1 x.2 (xs++ys)::Sx) [] w':=λx w' A' h=>SS.frame (S:=[_]) (S':=[_]) (R:=Sx) (I:=[]) (I':=[]) (SS.start hs00) h
 obtain ⟨dd,f,z0,hdd,hfi,hkk,_⟩:=G.ok.info ht
 rw [hk] at hkk
 cases hkk
 obtain ⟨de,fe,ze,hde,hfe,_,hfs,hfb,hfz,hzc,_⟩:=G.ok.info he
 have hok:=hs.ch _ (List.mem_singleton.2 rfl)
 obtain ⟨cs,hown,hels⟩:=hok
 have hym:=hR A w (λd hd=>hs00.ch d (List.mem_cons_of_mem _ hd))
 have h63:xs.length+ys.length<=maxLen:=by
  have h1:(xs.length+ys.length)*1<=(xs.length+ys.length)*te.bytes:=Nat.mul_le_mul_left _ hby'
  simp only [maxLen]
  omega
 have hzs:ze.cells.size=ty.sz:=by rw [<- hs2,<- hzc,Array.length_toList]
 have key: ∀ (ad:Addr) (es:List Value),a1=some ad->Els ty A w ys es->(∀ j u,es[j]?=some u->w.cell? (ad.add j)=some u) -> ∃ (x:Option Addr×Nat) (w':World) (A':eL),(execOp a.eval o).run G.P w = .ok (nx (some (.slice x.1 (xs++ys).length x.2))) w'/\SS ⟨w,A,Own (Ch.arr ty T a0 c xs::Sx)⟩ A' (Ch.arr ty T x.1 x.2 (xs++ys)::Sx) [] w':=by
  rintro ad es rfl hes hcells
  obtain ⟨v',w',hr,hown',hgr,hat⟩:=BC (P:=G.P) w t o.type T fe ze ty.sz te.bytes hdd hfe hfz (hfs.trans hs1) hfb hzs hpos' (.slice a0 xs.length c) xs.length cs hown ad ys.length c1 es hes.len hcells hes.one h63 hlim
  have hv': ∃ a2 c2,v' = .slice a2 (xs.length+ys.length) c2:=by
   rcases hown'.2 with ⟨rfl,e⟩ | ⟨g,cap,cur,rfl,_⟩
   ·exact ⟨none,0,by rw [e]⟩
   ·exact ⟨_,_,rfl⟩
  obtain ⟨a2,c2,rfl⟩:=hv'
  have hblk:(Value.slice a0 xs.length c).ownBlock=a0.map (·.block):=by cases a0 <;> rfl
  have hblk2:(Value.slice a2 (xs.length+ys.length) c2).ownBlock=a2.map (·.block):=by cases a2 <;> rfl
  have hA: ∀ b,A b->w'.heap[b]?=w.heap[b]?:=λb hb=>hgr.block b (hs.lt b hb) (λe=>(hs.own _ (List.mem_singleton.2 rfl) b (hblk.symm.trans e.symm)).2 hb)
  rw [hblk2,hblk] at hat
  rw [<- List.length_append] at hown'
  refine ⟨(a2,c2),w',A,?_,hfrm (a2,c2) _ _ <| SS.grown hs (by rw [<- hblk]; exact hgr) (λb e=>e) hat ⟨_,hown',(hels.app hes).st (λ_ h=>h) hA⟩⟩
  simp only [execOp,ho,resolve,invoke,builtin,Sem.run_bind,Sem.run_pure,Result.andThen_ok,List.map_toArray,List.map_cons,List.map_nil,hf.ev hx,hf.ev hy,hr,nx,List.length_append]
 rcases hym.2 with rfl | ⟨b,o',es,ha1,hes,hc⟩
 ·cases a1 with
  | none =>
   refine ⟨(a0,c),w,A,?_,hfrm (a0,c) _ _ <| SS.grown hs (ob:=none) ⟨rfl,rfl,rfl,Nat.le_refl _,λ_ _ _=>rfl⟩ (λ_ e=>nomatch e) (λb hb=>⟨.inl hb,(hs.own _ (List.mem_singleton.2 rfl) b hb).1⟩) ⟨cs,by rw [List.append_nil]; exact hown,by rw [List.append_nil]; exact hels⟩⟩
   have hle:xs.length<=c:=(gy ⟨cs,hown,hels⟩).1
   simp only [execOp,ho,resolve,invoke,builtin,Sem.run_bind,Sem.run_pure,Result.andThen_ok,List.map_toArray,List.map_cons,List.map_nil,hf.ev hx,hf.ev hy,List.length_nil,tv w t o.type T fe hdd hfe a0 xs.length c hle,nx,List.append_nil]
  | some ad=>exact key ad [] rfl .nil (λj u hu=>by simp at hu)
 ·exact key _ es ha1 hes (λj u hu=>by rw [add_lit]; exact hc j u hu)
theorem Ac.apv {t T T2:Nat} {x y:Operand} {ti te:TI} {u:Unit} {lv hv:Int} {zs:List α} {a2:Option Addr} {c2:Nat} {a9:Option Addr} {c9:Nat} (hk0:Vw ty zs a2 c2 a9 c9 lv hv) (hlim:chk (cQ xs.length (cut zs lv hv).length te.bytes)=some u) (ho:o.op = .call { callee:= .builtin .append,args:= #[x,y],argTypes:= #[t,t] }) (hx:ev m x=some (.slice a0 xs.length c)) (hy:ev m y=some (.slice a9 (cut zs lv hv).length c9)) (ht:bL G.τ t=some ti) (hk:ti.k = .slice T) (he:bL G.τ T=some te) (hsz:(Nat.beq te.size ty.sz && Nat.beq te.zero.length ty.sz && Nat.blt 0 ty.sz && Nat.blt 0 te.bytes)=true) :
  Ac G n m o [Ch.arr ty T a0 c xs,Ch.arr ty T2 a2 c2 zs] [] (λz:Option Addr×Nat=> .slice z.1 (xs++cut zs lv hv).length z.2) (λz=>[Ch.arr ty T z.1 z.2 (xs++cut zs lv hv),Ch.arr ty T2 a2 c2 zs]) (λ_=>[]) :=
 Ac.apR (Sx:=[Ch.arr ty T2 a2 c2 zs]) (λA w h=>D6 (T:=T2) hk0 (h _ (List.mem_singleton.2 rfl))) hlim ho hx hy ht hk he hsz
theorem FQ {lv hv:Int} {u:Unit} (hk:chk (eN lv hv xs.length)=some u) (hle:xs.length<=c):Vw ty xs a0 c (lE a0 c lv ty.sz) (c - lv.toNat) lv hv:=by
 obtain ⟨h0,h1,h2⟩:=fm hk
 exact ⟨h0,h1,h2,hle,rfl,λh=>by rw [lE,if_neg (by omega)]⟩
theorem Yl.pn {t t2 e:Nat} {x y:Operand} {ad:Addr} {ti:TI} {op:BinOp} {b:Bool} (ho:o.op = .binOp op t x y t2) (hop:(match op with | .eql=>some false | .neq=>some true | _=>none)=some b) (hx:ev m x=some (.pointer (some ad))) (hy:ev m y=some (.pointer none)) (ht:bL G.τ t=some ti) (hk:ti.k = .pointer e):Yl G n m S I o (.bool b):=λA a w hf _ _=>by
 obtain ⟨dd,_,_,hdd,_,hkk,_⟩:=G.ok.info ht
 rw [hk] at hkk
 cases hkk
 have he: ∀ k,(Op.equalIn (k+1) t (.pointer (some ad)) (.pointer none)).run G.P w = .ok false w:=λk=>by
  simp [Op.equalIn,run_underlying hdd]
 have he2:(Op.equal t (.pointer (some ad)) (.pointer none)).run G.P w = .ok false w:=he 9999
 have hg:(eqGuard op t x y (.pointer (some ad)) (.pointer none)).run G.P w = .ok () w:=by
  unfold eqGuard
  split <;> rfl
 cases op <;> first | (cases hop; done) | skip
 ·cases hop
  simp only [execOp,ho,hf.ev hx,hf.ev hy,Sem.run_bind,hg,Result.andThen_ok,binOp,he2,Sem.run_pure]
 ·cases hop
  simp only [execOp,ho,hf.ev hx,hf.ev hy,Sem.run_bind,hg,Result.andThen_ok,binOp,he2,Sem.run_pure]
  rfl
end
def kG (n m:Nat):Bool:=decide (n+m<=4611686018427387904)
def dM (xs:List Int):ByteArray:=xs.foldl (λr n=>r.push (UInt8.ofNat n.toNat)) ByteArray.empty
def tC (s:ByteArray) (i:Int):Option Int:=bif decide (0<=i) then (s.data[i.toNat]?).map (λb=>(b.toNat:Int)) else none
def gG (s:ByteArray) (lo hi:Int):ByteArray:=s.extract lo.toNat hi.toNat
section
variable {G : Pg} {n : Nd} {K : Key} {Q : Exit -> Act -> World -> Prop} {m : Env} {S : List Ch} {I : List Im} {ops : Array Oper} {o : Oper} {l : List Oper} {xs : List Int} {a0 : Option Addr} {c : Nat}
theorem Yl.sa {t t2:Nat} {x y:Operand} {a b:ByteArray} {u:Unit} (h:chk (kG a.size b.size)=some u) (ho:o.op = .binOp .add t x y t2) (hx:ev m x=some (.string a)) (hy:ev m y=some (.string b)):Yl G n m S I o (.string (a++b)):=λA ac w hf _ _=>by
 have h1:a.size+b.size<=4611686018427387904:=fm h
 have hr:=run_string_add_sum (P:=G.P) (w:=w) a b (by omega)
 have hg:(eqGuard .add t x y (.string a) (.string b)).run G.P w = .ok () w:=by unfold eqGuard; rfl
 simp only [execOp,ho,hf.ev hx,hf.ev hy,Sem.run_bind,hg,Result.andThen_ok,binOp_string_add,hr,Sem.run_pure]
theorem Yl.si {t:Nat} {x y:Operand} {a:ByteArray} {k:IntKind} {i r:Int} {ti:TI} (h:tC a i=some r) (ho:o.op = .index t x y) (hx:ev m x=some (.string a)) (hy:ev m y=some (.int k i)) (ht:bL G.τ t=some ti) (hk:ti.k = .string):Yl G n m S I o (.int .u8 r):=λA ac w hf _ _=>by
 obtain ⟨dd,_,_,hdd,_,hkk,_⟩:=G.ok.info ht
 rw [hk] at hkk
 cases hkk
 unfold tC at h
 cases h0:decide (0<=i) with
 | false=>rw [h0] at h; cases h
 | true =>
  rw [h0] at h
  have h0:=of_decide_eq_true h0
  simp only [cond_true,Option.map_eq_some_iff] at h
  obtain ⟨b,hb,rfl⟩:=h
  have hlt:i.toNat < a.size:=(Array.getElem?_eq_some_iff.1 hb).1
  have hr:=run_index_string (P:=G.P) w t a k i hdd
  rw [dif_pos ⟨h0,by omega⟩] at hr
  have e:a[i.toNat]'hlt=b:=(Array.getElem?_eq_some_iff.1 hb).2
  simp only [execOp,ho,hf.ev hx,hf.ev hy,Sem.run_bind,hr,Result.andThen_ok,Sem.run_pure,e]
theorem Yl.sc {t:Nat} {x:Operand} {lo hi:Option Operand} {a:ByteArray} {lv hv:Int} {ti:TI} {u:Unit} (h:chk (eN lv hv a.size)=some u) (ho:o.op = .slice t x lo hi none) (hx:ev m x=some (.string a)) (hlo:evb m lo 0=some lv) (hhi:evb m hi a.size=some hv) (ht:bL G.τ t=some ti) (hk:ti.k = .string):Yl G n m S I o (.string (gG a lv hv)):=λA ac w hf _ _=>by
 obtain ⟨dd,_,_,hdd,_,hkk,_⟩:=G.ok.info ht
 rw [hk] at hkk
 cases hkk
 obtain ⟨h0,h1,h2⟩:=fm h
 have hr:=tu (P:=G.P) (w:=w) hf hlo hhi h0 h1 (cap:=a.size) h2 false
 simp only [execOp,ho,hf.ev hx,Option.map_none,Instr.sliceAt,Instr.slice,Sem.run_bind,run_underlying hdd,Result.andThen_ok,Option.isSome_none,Bool.false_eq_true,if_false,Sem.run_pure,hr]
 rfl
theorem yC {A:eL} {w:World}: ∀ {xs:List Int} {cs:List Value},Els (Ty.int .u8) A w xs cs->cs=xs.map (Value.int .u8)
 | _,_,.nil=>rfl
 | _,_,.cons _ _ hr=>by
  rw [yC hr]
  rfl
theorem FR {P:Program} {τ:Tab} (hτ:jz P τ) {A:eL} {w:World} {t t2 e:Nat} {ti ti2 te:TI} (hR:Rd (Ty.int .u8) a0 c xs A w) (ht:bL τ t=some ti) (hk:ti.k = .slice e) (he:bL τ e=some te) (hke:te.k = .int .u8) (ht2:bL τ t2=some ti2) (hk2:ti2.k = .string):(convert t t2 (.slice a0 xs.length c)).run P w = .ok (.string (dM xs)) w:=by
 obtain ⟨d1,_,_,hd1,_,hq1,_⟩:=hτ.info ht
 obtain ⟨d2,_,_,hd2,_,hq2,_⟩:=hτ.info he
 obtain ⟨d3,_,_,hd3,_,hq3,_⟩:=hτ.info ht2
 rw [hk] at hq1
 rw [hke] at hq2
 rw [hk2] at hq3
 cases hq1
 cases hq2
 cases hq3
 rw [run_convert_bytes_string w t t2 e a0 xs.length c hd1 hd2 hd3]
 rcases hR.2 with rfl | ⟨b,o',cs,rfl,hes,hc⟩
 ·cases a0 with
  | none=>rfl
  | some ad =>
   exact run_bytesToString w ad 0 c [] (by
    have:=run_loadCells_list (P:=P) w ad [] (λj v h=>by simp at h)
    simpa using this)
 ·rw [yC hes] at hc
  have:=run_loadCells_list (P:=P) w ⟨b,o',none⟩ (xs.map (Value.int .u8)) (λj v h=>by rw [add_lit]; exact hc j v h)
  rw [List.length_map] at this
  exact run_bytesToString w ⟨b,o',none⟩ xs.length c xs this
theorem FT {α:Type} {ty:Ty α} {ys:List α} {T:Nat} {A:eL} {w:World} (h:(Ch.arr ty T a0 c ys).ok A w):Rd ty a0 c ys A w:=by
 obtain ⟨h1,h2⟩:=gy h
 refine ⟨h1,h2.imp id λ⟨b,cs,e,h3,h4⟩=>⟨b,0,cs,e,h3,λj u hu=> ?_⟩⟩
 rw [Nat.zero_add]
 exact h4 j u hu
theorem Yl.bs (i:Nat) {t t2 e T:Nat} {x:Operand} {ti ti2 te:TI} (hS:S[i]?=some (Ch.arr (Ty.int .u8) T a0 c xs)) (ho:o.op = .convert t t2 x) (hx:ev m x=some (.slice a0 xs.length c)) (ht:bL G.τ t=some ti) (hk:ti.k = .slice e) (he:bL G.τ e=some te) (hke:te.k = .int .u8) (ht2:bL G.τ t2=some ti2) (hk2:ti2.k = .string):Yl G n m S I o (.string (dM xs)):=λA ac w hf hS' _=>by
 have hr:=FR (P:=G.P) (w:=w) G.ok (FT (hS' _ (List.mem_of_getElem? hS))) ht hk he hke ht2 hk2
 simp only [execOp,ho,hf.ev hx,Sem.run_bind,hr,Result.andThen_ok,Sem.run_pure]
end
end Go.Tw
namespace Go.Tw
open Go Go.Lib
def sbs (s:ByteArray):List Int:=s.data.toList.map λb=>(b.toNat:Int)
theorem bC (s:ByteArray):(sbs s).length=s.size:=by
 unfold sbs
 rw [List.length_map,Array.length_toList]
 rfl
def D7 (P:Program) (T:Nat):Bool:=match P.info? T with
 | some i=>match i.zero with
  | some (.int .u8 n)=>decide (n=0)
  | _=>false
 | none=>false
theorem FU {P:Program} {T:Nat} (h:D7 P T=true) {i:TypeInfo} (hi:P.info? T=some i):i.zero=some (.int .u8 0):=by
 unfold D7 at h
 rw [hi] at h
 dsimp only at h
 split at h
 ·rename_i n hz
  rw [hz,of_decide_eq_true h]
 ·cases h
theorem D8 {P:Program} (w:World) (t u ty e:TypeId) (i:TypeInfo) (ht:P.underlying t=some (.slice e)) (hu:P.underlying u=some .string) (hi:P.info? e=some i) (hz:i.zero=some (.int .u8 0)) (hsize:i.size=1) (hby:i.bytes=1)
  (v:Value) (n:Nat) (xs:List Value) (hown:w.ownsRow 0 e 1 v n xs) (s:ByteArray) (h63:n+s.size<=maxLen) (hbytes:n+s.size<=140737488355328) :
  ∃ v' w',(Builtin.append_ #[t,u] ty #[v,.string s]).run P w = .ok v' w'/\w'.ownsRow 0 e 1 v' (n+s.size) (xs++strCells s)/\w.grownBy w' v.ownBlock/\(∀ b,v'.ownBlock=some b->(v.ownBlock=some b\/w.heap.size<=b)/\b < w'.heap.size):=by
 obtain ⟨v',w',hr,h2,h3,h4⟩:=run_append_own_string (P:=P) w 0 t u ty e i ht hu hi hz hsize hby v n xs hown s h63 hbytes (Nat.zero_le _)
 refine ⟨v',w',hr,h2,h3,λb hb=>⟨?_,(h2.lt b hb).2⟩⟩
 simp only [maxLen] at h63
 rcases hown.2 with ⟨rfl,rfl⟩ | ⟨g,cap,cur,rfl,hbg,hg,hnc,hcm,hcs,htake⟩
 ·by_cases hm:s.size=0
  ·rw [h4.2 ⟨rfl,hm⟩] at hb
   cases hb
  ·have hr2:=run_append_nil_string (P:=P) w t u ty e i (.int .u8 0) ht hu hi hz s (by omega) (by omega) (by rw [hby]; omega)
   rw [hr] at hr2
   injection hr2 with hv
   rw [hv] at hb
   injection hb with hb
   exact .inr (Nat.le_of_eq hb)
 ·by_cases hroom:n+s.size<=cap
  ·have hr2:=run_append_room_string (P:=P) w t u ty e i ht hu hi hsize g n cap cur hg s hroom (by simp only [Nat.mul_one] at hcs; omega)
   rw [hr] at hr2
   injection hr2 with hv
   rw [hv] at hb
   exact .inl hb
  ·have hr2:=run_append_grow_string (P:=P) w t u ty e i (.int .u8 0) ht hu hi hz ⟨g,0,none⟩ n cap xs (by rw [hsize]; exact hown.1) (hown.cells (g:=g) rfl) s (by omega) (by omega) (by rw [hby]; exact growslice_fits (by omega) (by omega))
   rw [hr] at hr2
   injection hr2 with hv
   rw [hv] at hb
   injection hb with hb
   exact .inr (Nat.le_of_eq hb)
theorem D9 {A:eL} {w:World} (s:ByteArray):Els (Ty.int .u8) A w (sbs s) (strCells s):=by
 unfold sbs strCells
 induction s.data.toList with
 | nil=>exact .nil
 | cons b l ih=>exact .cons (d:=Ty.int .u8) () (λf hf=>by cases hf) ih
section
variable {G : Pg} {n : Nd} {m : Env} {o : Oper} {xs : List Int} {a0 : Option Addr} {c : Nat}
theorem Ac.aps {t t2 T:Nat} {x y:Operand} {ti te ti2:TI} {u:Unit} {s:ByteArray} (hlim:chk (cQ xs.length s.size te.bytes)=some u) (ho:o.op = .call { callee:= .builtin .append,args:= #[x,y],argTypes:= #[t,t2] }) (hx:ev m x=some (.slice a0 xs.length c)) (hy:ev m y=some (.string s)) (ht:bL G.τ t=some ti) (hk:ti.k = .slice T) (he:bL G.τ T=some te) (hsz:(Nat.beq te.size 1 && Nat.beq te.bytes 1)=true) (ht2:bL G.τ t2=some ti2) (hk2:ti2.k = .string) (hz:D7 G.P T=true) :
  Ac G n m o [Ch.arr (Ty.int .u8) T a0 c xs] [] (λz:Option Addr×Nat=> .slice z.1 (xs++sbs s).length z.2) (λz=>[Ch.arr (Ty.int .u8) T z.1 z.2 (xs++sbs s)]) (λ_=>[]):=by
 have hlim:(xs.length+s.size)*te.bytes<=140737488355328:=fm hlim
 simp only [Bool.and_eq_true] at hsz
 have hs1:=Nat.eq_of_beq_eq_true hsz.1
 have hs2:=Nat.eq_of_beq_eq_true hsz.2
 rw [hs2,Nat.mul_one] at hlim
 refine Ac.run (v:=λz:Option Addr×Nat=>some (.slice z.1 (xs++sbs s).length z.2)) λA a w hf hs=> ?_
 obtain ⟨dd,f,z0,hdd,hfi,hkk,_⟩:=G.ok.info ht
 rw [hk] at hkk
 cases hkk
 obtain ⟨d2,f2,z2,hdd2,hfi2,hkk2,_⟩:=G.ok.info ht2
 rw [hk2] at hkk2
 cases hkk2
 obtain ⟨de,fe,ze,hde,hfe,_,hfs,hfb,hfz,hzc,_⟩:=G.ok.info he
 have hok:=hs.ch _ (List.mem_singleton.2 rfl)
 obtain ⟨cs,hown,hels⟩:=hok
 have h63:xs.length+s.size<=maxLen:=by
  simp only [maxLen]
  omega
 obtain ⟨v',w',hr,hown',hgr,hat⟩:=D8 (P:=G.P) w t t2 o.type T fe hdd hdd2 hfe (FU hz hfe) (hfs.trans hs1) (hfb.trans hs2) (.slice a0 xs.length c) xs.length cs hown s h63 hlim
 have hv': ∃ a2 c2,v' = .slice a2 (xs.length+s.size) c2:=by
  rcases hown'.2 with ⟨rfl,e⟩ | ⟨g,cap,cur,rfl,_⟩
  ·exact ⟨none,0,by rw [e]⟩
  ·exact ⟨_,_,rfl⟩
 obtain ⟨a2,c2,rfl⟩:=hv'
 have hblk:(Value.slice a0 xs.length c).ownBlock=a0.map (·.block):=by cases a0 <;> rfl
 have hblk2:(Value.slice a2 (xs.length+s.size) c2).ownBlock=a2.map (·.block):=by cases a2 <;> rfl
 have hA: ∀ b,A b->w'.heap[b]?=w.heap[b]?:=λb hb=>hgr.block b (hs.lt b hb) (λe=>(hs.own _ (List.mem_singleton.2 rfl) b (hblk.symm.trans e.symm)).2 hb)
 rw [hblk2,hblk] at hat
 have hl:(xs++sbs s).length=xs.length+s.size:=by rw [List.length_append,bC]
 rw [<- hl] at hown'
 refine ⟨(a2,c2),w',A,?_,SS.grown hs (by rw [<- hblk]; exact hgr) (λb e=>e) hat ⟨_,hown',(hels.app (D9 s)).st (λ_ h=>h) hA⟩⟩
 simp only [execOp,ho,resolve,invoke,builtin,Sem.run_bind,Sem.run_pure,Result.andThen_ok,List.map_toArray,List.map_cons,List.map_nil,hf.ev hx,hf.ev hy,hr,nx,hl]
end
end Go.Tw

/-
  The statement of the law ClientMoves, proved for every input (where the row lists package tables: tied to the program text). It asks nothing besides.
-/
import Derived.Test.YtdhkangklnlnoaaGreatDoorCards
import Derived.Test.YtdhkangklnlnoaaGreatDoorTie
import Derived.Test.YtdhkangklnlnoaaGreatDoorWk2
import Derived.Test.YtdhkangklnlnoaaGreatDoorXq3
import Derived.WalkKit
import Derived.ProofKit
import Derived.OpenShut
import Derived.Deep.DeepHandedRow
import Derived.LaidLaws
set_option linter.unusedVariables false
set_option linter.unusedSimpArgs false
set_option maxRecDepth 100000
namespace Go.Tw.X.clientMoves
open Go Go.Tw Go.Tw.X Go.ChangeShapes Go.WideShapes Go.ChangeAt Go.RowKit Go.Proofs Go.Proofs.YtdhkangklnlnoaaGreatDoor
theorem own:ownKnob Tryz.prog.godebug=none:=by kernel_rfl
theorem laidOut:laidOutB Tryz.prog=true:=by kernel_rfl
theorem G7:uY Tryz.prog 6 296=true:=by kernel_rfl
theorem DW (H:Type) (enc:TypeId×Value->H) (W:World) (base:Nat) (args:Array Value) (ds gs:List (DataW H)) (before:List MemPlace)
  (hval: ∀ (j:Nat) t v,Tryz.f7.params[j]?=some t->args[j]?=some v->Value.okWide Tryz.prog W .any base t v)
  (hW:DataW.Whole enc Tryz.prog Tryz.f7.params.toList Rows.clientMovesSpec.vars false W args.toList ds gs before) (hL:laidMetH Tryz.prog Rows.clientMovesRow.laid W) :
  Calls Tryz.prog 7 args W λe W'=> ∃ v,e = .returned v/\Rows.clientMovesSpec.post enc Tryz.prog Tryz.f7 false true false false W args v W':=by
 have hW':=hW
 obtain ⟨p,q,hA0,hV,rfl,hfz,hnd⟩:=hW
 have hA:DataW.TrodAll enc Tryz.prog W 0 (λ_=>true) true Tryz.f7.params.toList args.toList ds p:=hA0
 rw [Tryz.params7] at hA hval
 obtain ⟨v0,vs0,d0,ds0,p0,q0,hargs,rfl,rfl,h0,r0⟩:=trodAll_cons hA
 obtain ⟨v1,vs1,d1,ds1,p1,q1,rfl,rfl,rfl,h1,r1⟩:=trodAll_cons r0
 obtain ⟨rfl,rfl,rfl⟩:=trodAll_nil r1
 obtain rfl:args = #[v0,v1]:=by cases args; simp_all
 obtain ⟨rfl,rfl⟩:=trodVars_none hV
 have k0:=h0
 obtain ⟨fu0,hf0⟩:=h0
 obtain ⟨x0,hid0,e0,w0,im0⟩:=G6 enc W _ _ _ _ _ hf0
 obtain ⟨a0,c0⟩:=hid0
 obtain ⟨aa0,len0,cap0,rfl⟩:=okWide_slice (e:=31) (by kernel_rfl) (hval 0 24 v0 rfl rfl)
 obtain ⟨ua0,ub0,uc0⟩:=Hf e0
 subst aa0 len0 cap0
 have lt0: ∀ x∈p0,x.block < W.heap.size:=by obtain ⟨m,hm⟩:=k0; exact DataW.trod_lt m _ _ _ hm
 have k1:=h1
 obtain ⟨fu1,hf1⟩:=h1
 obtain ⟨x1,hid1,e1,w1,im1⟩:=DV enc W _ _ _ _ _ hf1
 obtain ⟨n1,rfl⟩:=okWide_int (k:= .i64) (by kernel_rfl) (hval 1 3 v1 rfl rfl)
 have u1:=GS e1
 subst n1
 have lt1: ∀ x∈p1,x.block < W.heap.size:=by obtain ⟨m,hm⟩:=k1; exact DataW.trod_lt m _ _ _ hm
 obtain ⟨psl,hLV,_⟩:laidMet Tryz.prog Rows.clientMovesRow.laid W:=hL
 have tc0 := AM (name := "tidewrack/sum.half") (d := Rows.laid_tidewrack_sum_half) hLV (by simp [Rows.clientMovesRow]) (by kernel_rfl) (by kernel_rfl : (Tryz.prog.globals[0]?).map (·.type) = some 296) G7
 have tf0:(Im.sl (Ty.int .u32) (some ⟨0,0,none⟩) 16 dE).okW W:=FZ (n:=16) () (λ_=>rfl) tc0 (by kernel_rfl) (by decide) (F0 tc0 (Nat.le_of_ble_eq_true (by kernel_rfl)))
 have hI:St (λb=>b < W.heap.size) [] [Im.sl mN a0 c0 x0,Im.sl (Ty.int .u32) (some ⟨0,0,none⟩) 16 dE] W:=St.first (λf hf=>by
  simp only [List.mem_cons,List.not_mem_nil,or_false] at hf
  rcases hf with rfl | rfl
  ·exact im0 _ (.head _)
  ·exact tf0)
 obtain ⟨_,hc⟩:=pA (A0:=a0) (C0:=c0) (rR w0 w1)
 refine (hc (λb=>b < W.heap.size) W hI).mono ?_
 rintro e W' ⟨x,A',rfl,hs⟩
 have bel:=hs.below
 exact ⟨_,rfl,_,_,_,[],_,[],hW',trodAll_mk1 (shut_bool (by kernel_rfl) _),(trodAll_cons_mk (Below.trod laidOut (by kernel_rfl) (of_decide_eq_true (by kernel_rfl)) k0 bel lt0) (trodAll_cons_mk (Below.trod laidOut (by kernel_rfl) (of_decide_eq_true (by kernel_rfl)) k1 bel lt1) trodAll_mk0)),rfl,bel.frame _,λh=>by cases h⟩
noncomputable def rV (os:Os):World:={ World.holding Tryz.prog os ⟨#[],#[],[]⟩ with heap:=((World.holding Tryz.prog os ⟨#[],#[],[]⟩).heap.modify 0 (λ | .cells _ t frozen=> .cells #[.int .u32 0,.int .u32 498536548,.int .u32 997073096,.int .u32 651767980,.int .u32 1994146192,.int .u32 1802195444,.int .u32 1303535960,.int .u32 1342533948,.int .u32 3988292384,.int .u32 4027552580,.int .u32 3604390888,.int .u32 3412177804,.int .u32 2607071920,.int .u32 2262029012,.int .u32 2685067896,.int .u32 3183342108] t frozen | o=>o)) }
theorem DX (os:Os):laidMet Tryz.prog Rows.clientMovesRow.laid ((rV os).forCall (λ_ _=>0) ⟨#[],#[(.slice none 0 0:Value),.int .i64 0],[]⟩).memory :=
 laidMet_of_run' 8 (by kernel_rfl) (by kernel_rfl)
theorem reads (os:Os) {H:Type} (enc:TypeId×Value->H): ∃ places,DataW.whole enc Tryz.prog ((rV os).forCall (λ_ _=>0) ⟨#[],#[(.slice none 0 0:Value),.int .i64 0],[]⟩).memory Tryz.f7.params.toList Rows.clientMovesSpec.vars false #[(.slice none 0 0:Value),.int .i64 0].toList 8=some ([.nil,.lit (.int .i64 0)],[],places) :=
 ⟨[],by kernel_rfl⟩
theorem lifted (os:Os) (started:os.Started) (H:Type) (enc:TypeId×Value->H) (F:Stop.Interp) :
  ReturnsInHanded {} Tryz.checked os 7 .any ((OpenSpec.ofChange Rows.clientMovesSpec).preRow enc Tryz.prog Tryz.f7 Rows.clientMovesRow.domain false Rows.clientMovesRow.laid) (((OpenSpec.ofChange Rows.clientMovesSpec).at F).post enc Tryz.prog Tryz.f7 false true false false):=by
 obtain ⟨places,hx⟩:=reads os enc
 refine returnsInHanded_of_row (C:=Tryz.checked) (s:=(OpenSpec.ofChange Rows.clientMovesSpec)) own started (by kernel_rfl) Tryz.func7
  (witness_row_at (enc:=enc) (C:=Tryz.checked) false (rV os) #[(.slice none 0 0:Value),.int .i64 0] rfl (by kernel_rfl) (by kernel_rfl) (by kernel_rfl)
   (OpenSpec.preRow_of_cond 8 hx (by kernel_rfl) (λk hk=>by cases hk) (by kernel_rfl) (DX os))) ?_
 intro W base args ds gs before hval hW _ _ _ hL _ _
 exact DW H enc W base args ds gs before hval hW hL
theorem both {a b:Bool} (h:a=true) (k:b=true):(a && b)=true:=by rw [h,k]; rfl
theorem j0:(Rows.clientMovesRow.wf (OpenSpec.ofChange (OpenSpec.ofChange Rows.clientMovesSpec).bare))=true:=by kernel_rfl
theorem j1:(laidOutB Tryz.pinned.checked.prog)=true:=by kernel_rfl
theorem j2:(mapsRowed Tryz.pinned.checked.prog)=true:=by kernel_rfl
theorem j3:(Tryz.f7.params.all (Tryz.pinned.checked.prog.readableRec ·))=true:=by kernel_rfl
theorem j4:(namedTie Tryz.pinned.checked.prog Rows.clientMovesRow.named (OpenSpec.ofChange Rows.clientMovesSpec).bare.vars)=true:=by kernel_rfl
theorem j5:((Rows.clientMovesRow.stops == []))=true:=by kernel_rfl
theorem j6:((Tryz.pinned.checked.prog.stops == []))=true:=by kernel_rfl
theorem j7:((Rows.clientMovesRow.knobs == []))=true:=by kernel_rfl
theorem j8:((Tryz.pinned.checked.prog.stopKnobs == []))=true:=by kernel_rfl
theorem j9:((Rows.clientMovesRow.inPlace == Tryz.pinned.checked.prog.inPlace 7))=true:=by kernel_rfl
theorem j10:((Rows.clientMovesRow.unfollowed == Tryz.pinned.checked.prog.unfollowed 7))=true:=by kernel_rfl
theorem j11:((Rows.clientMovesRow.recurses == Tryz.pinned.checked.prog.recurses 7))=true:=by kernel_rfl
theorem j12:((Rows.clientMovesRow.named == Tryz.pinned.checked.prog.varsNamed 7))=true:=by kernel_rfl
theorem j13:((Rows.clientMovesRow.maps == (Tryz.f7.params.toList++(OpenSpec.ofChange Rows.clientMovesSpec).bare.plain.varTypes Tryz.pinned.checked.prog).any (Tryz.pinned.checked.prog.mapsRec ·)))=true:=by kernel_rfl
theorem j14:((Rows.clientMovesRow.ifaces == (Tryz.f7.params.toList++(OpenSpec.ofChange Rows.clientMovesSpec).bare.plain.varTypes Tryz.pinned.checked.prog).any (Tryz.pinned.checked.prog.ifacesRec ·)))=true:=by kernel_rfl
theorem j15:((Rows.clientMovesRow.mapsOut == Tryz.pinned.checked.prog.mapsAmong Tryz.f7.resultTypes.toList))=true:=by kernel_rfl
theorem j16:((Rows.clientMovesRow.loops == (Tryz.f7.params.toList++(OpenSpec.ofChange Rows.clientMovesSpec).bare.plain.varTypes Tryz.pinned.checked.prog).any (Tryz.pinned.checked.prog.loopsFrom ·)))=true:=by kernel_rfl
theorem j17:((Rows.clientMovesRow.wideKeys == (Tryz.f7.params.toList++(OpenSpec.ofChange Rows.clientMovesSpec).bare.plain.varTypes Tryz.pinned.checked.prog++Tryz.f7.resultTypes.toList).any (Tryz.pinned.checked.prog.wideKeysFrom ·)))=true:=by kernel_rfl
theorem j18:((OpenSpec.ofChange Rows.clientMovesSpec).bare.vars.all (Tryz.pinned.checked.prog.varReadable ·))=true:=by kernel_rfl
theorem j19:(Tryz.f7.resultTypes.all (λt=>Tryz.pinned.checked.prog.readableRec t && decide (t < Tryz.pinned.checked.prog.types.size)))=true:=by kernel_rfl
theorem j20:((Rows.clientMovesRow.ifacesOut == Tryz.f7.resultTypes.toList.any (Tryz.pinned.checked.prog.ifacesRec ·)))=true:=by kernel_rfl
theorem j21:((Rows.clientMovesRow.loopsOut == Tryz.f7.resultTypes.toList.any (Tryz.pinned.checked.prog.loopsFrom ·)))=true:=by kernel_rfl
theorem j22:((Rows.clientMovesRow.plainKeys == Tryz.pinned.checked.prog.plainKeys))=true:=by kernel_rfl
theorem j23:(Rows.clientMovesRow.shortTexts.isNone)=true:=by kernel_rfl
theorem j24:(Tryz.pinned.checked.prog.stopsHeard)=true:=by kernel_rfl
theorem j25:(Tryz.pinned.checked.prog.mayEnter)=true:=by kernel_rfl
theorem j26:((Rows.clientMovesRow.lifted == Tryz.pinned.checked.prog.liftsFinal))=true:=by kernel_rfl
theorem j27:((Tryz.pinned.checked.prog.make == some Rows.clientMovesRow.make))=true:=by kernel_rfl
theorem j28:((Rows.clientMovesRow.kinds == (if Rows.clientMovesRow.domain.isEmpty then [] else Tryz.f7.params.toList.map λt=>match Tryz.pinned.checked.prog.underlying t with | some (.int k)=>some k | _=>none)))=true:=by kernel_rfl
theorem j29:((Rows.clientMovesRow.pinned == Rows.clientMovesRow.pinnedBy))=true:=by kernel_rfl
theorem j30:((Rows.clientMovesRow.veiled == (Tryz.f7.params.toList++(OpenSpec.ofChange Rows.clientMovesSpec).bare.plain.varTypes Tryz.pinned.checked.prog++Tryz.f7.resultTypes.toList).any (Tryz.pinned.checked.prog.veiledRec ·)))=true:=by kernel_rfl
theorem j31:(Rows.clientMovesRow.veiledFits Tryz.pinned.checked.prog Tryz.f7.params.toList (Tryz.f7.params.toList++(OpenSpec.ofChange Rows.clientMovesSpec).bare.plain.varTypes Tryz.pinned.checked.prog++Tryz.f7.resultTypes.toList))=true:=by kernel_rfl
theorem closed:joinedFacts Tryz.pinned.checked.prog 7 Tryz.f7 (OpenSpec.ofChange Rows.clientMovesSpec).bare Rows.clientMovesRow=true:=(both (both (both (both (both (both (both (both (both (both (both (both (both (both (both (both (both (both (both (both (both (both (both (both (both (both (both (both (both (both (both j0 j1) j2) j3) j4) j5) j6) j7) j8) j9) j10) j11) j12) j13) j14) j15) j16) j17) j18) j19) j20) j21) j22) j23) j24) j25) j26) j27) j28) j29) j30) j31)
theorem said:Rows.ClientMovesSaid :=
 OpenClaim.holds_of_cond 7 Tryz.f7 rfl rfl rfl rfl rfl rfl rfl ⟨rfl,rfl,rfl,rfl,rfl⟩ rfl rfl rfl rfl rfl (by kernel_rfl) Tryz.func7 closed
  (of_decide_eq_true (by kernel_rfl)) (by unfold Func.isWrapper; first | (rw [if_pos (by decide +kernel)]; kernel_rfl) | (rw [if_neg (by decide +kernel)]; exact ⟨rfl,rfl⟩))
  (λos started H enc _ F=>by rw [OpenClaim.pre_eq_preRow]; exact lifted os started H enc F)
theorem plain (f : FuncId) (fn : Func) (hf : Tryz.pinned.checked.prog.funcNamed "tidewrack/tidewracklaw23.ClientMoves" = some f) (hfn : Tryz.pinned.checked.prog.funcs[f]? = some fn) :
  true=Tryz.pinned.checked.prog.looks [] /\ ∀ (j:Nat) t,fn.params[j]?=some t->Tryz.pinned.checked.prog.wantsStandIn t=false:=by
 obtain rfl : f = 7 := Option.some.inj ((show Tryz.prog.funcNamed "tidewrack/tidewracklaw23.ClientMoves" = some 7 by kernel_rfl).symm.trans hf) |>.symm
 obtain rfl:fn=Tryz.f7:=(Option.some.inj (Tryz.func7.symm.trans hfn)).symm
 refine ⟨by kernel_rfl,λj t ht=> ?_⟩
 rw [Tryz.params7] at ht
 have hm:=Array.mem_of_getElem? ht
 simp only [List.mem_toArray,List.mem_cons,List.not_mem_nil,or_false] at hm
 rcases hm with rfl | rfl
 ·exact (show Tryz.prog.wantsStandIn 24=false by kernel_rfl)
 ·exact (show Tryz.prog.wantsStandIn 3=false by kernel_rfl)
theorem card:Rows.ClientMovesCardSaid :=
 Claim7.holds_tied_plain_at .later [] _ _ _ _ said (λ_ h=>by cases h) (by kernel_rfl) (λ_ h=>by cases h) clientMoves_row_tie rfl ⟨rfl,rfl⟩ (by kernel_rfl) rfl plain (by kernel_rfl)
end Go.Tw.X.clientMoves
namespace Go.Proofs.YtdhkangklnlnoaaGreatDoor
theorem clientMoves_holds:Rows.ClientMovesCardSaid:=Go.Tw.X.clientMoves.card
#print axioms clientMoves_holds
end Go.Proofs.YtdhkangklnlnoaaGreatDoor

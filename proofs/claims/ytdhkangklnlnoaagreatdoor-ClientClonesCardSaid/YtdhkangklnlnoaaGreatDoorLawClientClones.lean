/-
  The statement of the law ClientClones, proved for every input (where the row lists package tables: tied to the program text). It asks nothing besides.
-/
import Derived.Test.YtdhkangklnlnoaaGreatDoorCards
import Derived.Test.YtdhkangklnlnoaaGreatDoorTie
import Derived.Test.YtdhkangklnlnoaaGreatDoorWk2
import Derived.Test.YtdhkangklnlnoaaGreatDoorXq3
import Derived.WalkKit
import Derived.ProofKit
import Derived.OpenShut
import Derived.Deep.DeepHandedRow
import Derived.LaidLaws
set_option linter.unusedVariables false
set_option linter.unusedSimpArgs false
set_option maxRecDepth 100000
namespace Go.Tw.X.clientClones
open Go Go.Tw Go.Tw.X Go.ChangeShapes Go.WideShapes Go.ChangeAt Go.RowKit Go.Proofs Go.Proofs.YtdhkangklnlnoaaGreatDoor
theorem own:ownKnob Tryz.prog.godebug=none:=by kernel_rfl
theorem laidOut:laidOutB Tryz.prog=true:=by kernel_rfl
theorem HW:v8 Tryz.prog 6 296=true:=by kernel_rfl
theorem EU (H:Type) (enc:TypeId×Value->H) (W:World) (base:Nat) (args:Array Value) (ds gs:List (DataW H)) (before:List MemPlace)
  (hval: ∀ (j:Nat) t v,Tryz.f6.params[j]?=some t->args[j]?=some v->Value.okWide Tryz.prog W .any base t v)
  (hW:DataW.Whole enc Tryz.prog Tryz.f6.params.toList Rows.clientClonesSpec.vars false W args.toList ds gs before) (hL:laidMetH Tryz.prog Rows.clientClonesRow.laid W) :
  Calls Tryz.prog 6 args W λe W'=> ∃ v,e = .returned v/\Rows.clientClonesSpec.post enc Tryz.prog Tryz.f6 false true false false W args v W':=by
 have hW':=hW
 obtain ⟨p,q,hA0,hV,rfl,hfz,hnd⟩:=hW
 have hA:DataW.TrodAll enc Tryz.prog W 0 (λ_=>true) true Tryz.f6.params.toList args.toList ds p:=hA0
 rw [Tryz.params6] at hA hval
 obtain ⟨v0,vs0,d0,ds0,p0,q0,hargs,rfl,rfl,h0,r0⟩:=trodAll_cons hA
 obtain ⟨v1,vs1,d1,ds1,p1,q1,rfl,rfl,rfl,h1,r1⟩:=trodAll_cons r0
 obtain ⟨rfl,rfl,rfl⟩:=trodAll_nil r1
 obtain rfl:args = #[v0,v1]:=by cases args; simp_all
 obtain ⟨rfl,rfl⟩:=trodVars_none hV
 have k0:=h0
 obtain ⟨fu0,hf0⟩:=h0
 obtain ⟨x0,hid0,e0,w0,im0⟩:=Gr enc W _ _ _ _ _ hf0
 obtain ⟨a0,c0⟩:=hid0
 obtain ⟨aa0,len0,cap0,rfl⟩:=okWide_slice (e:=31) (by kernel_rfl) (hval 0 24 v0 rfl rfl)
 obtain ⟨ua0,ub0,uc0⟩:=HJ e0
 subst aa0 len0 cap0
 have lt0: ∀ x∈p0,x.block < W.heap.size:=by obtain ⟨m,hm⟩:=k0; exact DataW.trod_lt m _ _ _ hm
 have k1:=h1
 obtain ⟨fu1,hf1⟩:=h1
 obtain ⟨x1,hid1,e1,w1,im1⟩:=Gr enc W _ _ _ _ _ hf1
 obtain ⟨a1,c1⟩:=hid1
 obtain ⟨aa1,len1,cap1,rfl⟩:=okWide_slice (e:=31) (by kernel_rfl) (hval 1 24 v1 rfl rfl)
 obtain ⟨ua1,ub1,uc1⟩:=HJ e1
 subst aa1 len1 cap1
 have lt1: ∀ x∈p1,x.block < W.heap.size:=by obtain ⟨m,hm⟩:=k1; exact DataW.trod_lt m _ _ _ hm
 obtain ⟨psl,hLV,_⟩:laidMet Tryz.prog Rows.clientClonesRow.laid W:=hL
 have tc0 := BL (name := "tidewrack/sum.half") (d := Rows.laid_tidewrack_sum_half) hLV (by simp [Rows.clientClonesRow]) (by kernel_rfl) (by kernel_rfl : (Tryz.prog.globals[0]?).map (·.type) = some 296) HW
 have tf0:(Im.sl (Ty.int .u32) (some ⟨0,0,none⟩) 16 dD).okW W:=GR (n:=16) () (λ_=>rfl) tc0 (by kernel_rfl) (by decide) (GS tc0 (Nat.le_of_ble_eq_true (by kernel_rfl)))
 have hI:St (λb=>b < W.heap.size) [] [Im.sl k8 a0 c0 x0,Im.sl k8 a1 c1 x1,Im.sl (Ty.int .u32) (some ⟨0,0,none⟩) 16 dD] W:=St.first (λf hf=>by
  simp only [List.mem_cons,List.not_mem_nil,or_false] at hf
  rcases hf with rfl | rfl | rfl
  ·exact im0 _ (.head _)
  ·exact im1 _ (.head _)
  ·exact tf0)
 obtain ⟨_,hc⟩:=pP (A0:=a0) (C0:=c0) (A1:=a1) (C1:=c1) (rQ w0 w1)
 refine (hc (λb=>b < W.heap.size) W hI).mono ?_
 rintro e W' ⟨x,A',rfl,hs⟩
 have bel:=hs.below
 exact ⟨_,rfl,_,_,_,[],_,[],hW',trodAll_mk1 (shut_bool (by kernel_rfl) _),(trodAll_cons_mk (Below.trod laidOut (by kernel_rfl) (of_decide_eq_true (by kernel_rfl)) k0 bel lt0) (trodAll_cons_mk (Below.trod laidOut (by kernel_rfl) (of_decide_eq_true (by kernel_rfl)) k1 bel lt1) trodAll_mk0)),rfl,bel.frame _,λh=>by cases h⟩
noncomputable def tf (os:Os):World:={ World.holding Tryz.prog os ⟨#[],#[],[]⟩ with heap:=((World.holding Tryz.prog os ⟨#[],#[],[]⟩).heap.modify 0 (λ | .cells _ t frozen=> .cells #[.int .u32 0,.int .u32 498536548,.int .u32 997073096,.int .u32 651767980,.int .u32 1994146192,.int .u32 1802195444,.int .u32 1303535960,.int .u32 1342533948,.int .u32 3988292384,.int .u32 4027552580,.int .u32 3604390888,.int .u32 3412177804,.int .u32 2607071920,.int .u32 2262029012,.int .u32 2685067896,.int .u32 3183342108] t frozen | o=>o)) }
theorem EV (os:Os):laidMet Tryz.prog Rows.clientClonesRow.laid ((tf os).forCall (λ_ _=>0) ⟨#[],#[(.slice none 0 0:Value),.slice none 0 0],[]⟩).memory :=
 laidMet_of_run' 8 (by kernel_rfl) (by kernel_rfl)
theorem reads (os:Os) {H:Type} (enc:TypeId×Value->H): ∃ places,DataW.whole enc Tryz.prog ((tf os).forCall (λ_ _=>0) ⟨#[],#[(.slice none 0 0:Value),.slice none 0 0],[]⟩).memory Tryz.f6.params.toList Rows.clientClonesSpec.vars false #[(.slice none 0 0:Value),.slice none 0 0].toList 8=some ([.nil,.nil],[],places) :=
 ⟨[],by kernel_rfl⟩
theorem lifted (os:Os) (started:os.Started) (H:Type) (enc:TypeId×Value->H) (F:Stop.Interp) :
  ReturnsInHanded {} Tryz.checked os 6 .any ((OpenSpec.ofChange Rows.clientClonesSpec).preRow enc Tryz.prog Tryz.f6 Rows.clientClonesRow.domain false Rows.clientClonesRow.laid) (((OpenSpec.ofChange Rows.clientClonesSpec).at F).post enc Tryz.prog Tryz.f6 false true false false):=by
 obtain ⟨places,hx⟩:=reads os enc
 refine returnsInHanded_of_row (C:=Tryz.checked) (s:=(OpenSpec.ofChange Rows.clientClonesSpec)) own started (by kernel_rfl) Tryz.func6
  (witness_row_at (enc:=enc) (C:=Tryz.checked) false (tf os) #[(.slice none 0 0:Value),.slice none 0 0] rfl (by kernel_rfl) (by kernel_rfl) (by kernel_rfl)
   (OpenSpec.preRow_of_cond 8 hx (by kernel_rfl) (λk hk=>by cases hk) (by kernel_rfl) (EV os))) ?_
 intro W base args ds gs before hval hW _ _ _ hL _ _
 exact EU H enc W base args ds gs before hval hW hL
theorem both {a b:Bool} (h:a=true) (k:b=true):(a && b)=true:=by rw [h,k]; rfl
theorem j0:(Rows.clientClonesRow.wf (OpenSpec.ofChange (OpenSpec.ofChange Rows.clientClonesSpec).bare))=true:=by kernel_rfl
theorem j1:(laidOutB Tryz.pinned.checked.prog)=true:=by kernel_rfl
theorem j2:(mapsRowed Tryz.pinned.checked.prog)=true:=by kernel_rfl
theorem j3:(Tryz.f6.params.all (Tryz.pinned.checked.prog.readableRec ·))=true:=by kernel_rfl
theorem j4:(namedTie Tryz.pinned.checked.prog Rows.clientClonesRow.named (OpenSpec.ofChange Rows.clientClonesSpec).bare.vars)=true:=by kernel_rfl
theorem j5:((Rows.clientClonesRow.stops == []))=true:=by kernel_rfl
theorem j6:((Tryz.pinned.checked.prog.stops == []))=true:=by kernel_rfl
theorem j7:((Rows.clientClonesRow.knobs == []))=true:=by kernel_rfl
theorem j8:((Tryz.pinned.checked.prog.stopKnobs == []))=true:=by kernel_rfl
theorem j9:((Rows.clientClonesRow.inPlace == Tryz.pinned.checked.prog.inPlace 6))=true:=by kernel_rfl
theorem j10:((Rows.clientClonesRow.unfollowed == Tryz.pinned.checked.prog.unfollowed 6))=true:=by kernel_rfl
theorem j11:((Rows.clientClonesRow.recurses == Tryz.pinned.checked.prog.recurses 6))=true:=by kernel_rfl
theorem j12:((Rows.clientClonesRow.named == Tryz.pinned.checked.prog.varsNamed 6))=true:=by kernel_rfl
theorem j13:((Rows.clientClonesRow.maps == (Tryz.f6.params.toList++(OpenSpec.ofChange Rows.clientClonesSpec).bare.plain.varTypes Tryz.pinned.checked.prog).any (Tryz.pinned.checked.prog.mapsRec ·)))=true:=by kernel_rfl
theorem j14:((Rows.clientClonesRow.ifaces == (Tryz.f6.params.toList++(OpenSpec.ofChange Rows.clientClonesSpec).bare.plain.varTypes Tryz.pinned.checked.prog).any (Tryz.pinned.checked.prog.ifacesRec ·)))=true:=by kernel_rfl
theorem j15:((Rows.clientClonesRow.mapsOut == Tryz.pinned.checked.prog.mapsAmong Tryz.f6.resultTypes.toList))=true:=by kernel_rfl
theorem j16:((Rows.clientClonesRow.loops == (Tryz.f6.params.toList++(OpenSpec.ofChange Rows.clientClonesSpec).bare.plain.varTypes Tryz.pinned.checked.prog).any (Tryz.pinned.checked.prog.loopsFrom ·)))=true:=by kernel_rfl
theorem j17:((Rows.clientClonesRow.wideKeys == (Tryz.f6.params.toList++(OpenSpec.ofChange Rows.clientClonesSpec).bare.plain.varTypes Tryz.pinned.checked.prog++Tryz.f6.resultTypes.toList).any (Tryz.pinned.checked.prog.wideKeysFrom ·)))=true:=by kernel_rfl
theorem j18:((OpenSpec.ofChange Rows.clientClonesSpec).bare.vars.all (Tryz.pinned.checked.prog.varReadable ·))=true:=by kernel_rfl
theorem j19:(Tryz.f6.resultTypes.all (λt=>Tryz.pinned.checked.prog.readableRec t && decide (t < Tryz.pinned.checked.prog.types.size)))=true:=by kernel_rfl
theorem j20:((Rows.clientClonesRow.ifacesOut == Tryz.f6.resultTypes.toList.any (Tryz.pinned.checked.prog.ifacesRec ·)))=true:=by kernel_rfl
theorem j21:((Rows.clientClonesRow.loopsOut == Tryz.f6.resultTypes.toList.any (Tryz.pinned.checked.prog.loopsFrom ·)))=true:=by kernel_rfl
theorem j22:((Rows.clientClonesRow.plainKeys == Tryz.pinned.checked.prog.plainKeys))=true:=by kernel_rfl
theorem j23:(Rows.clientClonesRow.shortTexts.isNone)=true:=by kernel_rfl
theorem j24:(Tryz.pinned.checked.prog.stopsHeard)=true:=by kernel_rfl
theorem j25:(Tryz.pinned.checked.prog.mayEnter)=true:=by kernel_rfl
theorem j26:((Rows.clientClonesRow.lifted == Tryz.pinned.checked.prog.liftsFinal))=true:=by kernel_rfl
theorem j27:((Tryz.pinned.checked.prog.make == some Rows.clientClonesRow.make))=true:=by kernel_rfl
theorem j28:((Rows.clientClonesRow.kinds == (if Rows.clientClonesRow.domain.isEmpty then [] else Tryz.f6.params.toList.map λt=>match Tryz.pinned.checked.prog.underlying t with | some (.int k)=>some k | _=>none)))=true:=by kernel_rfl
theorem j29:((Rows.clientClonesRow.pinned == Rows.clientClonesRow.pinnedBy))=true:=by kernel_rfl
theorem j30:((Rows.clientClonesRow.veiled == (Tryz.f6.params.toList++(OpenSpec.ofChange Rows.clientClonesSpec).bare.plain.varTypes Tryz.pinned.checked.prog++Tryz.f6.resultTypes.toList).any (Tryz.pinned.checked.prog.veiledRec ·)))=true:=by kernel_rfl
theorem j31:(Rows.clientClonesRow.veiledFits Tryz.pinned.checked.prog Tryz.f6.params.toList (Tryz.f6.params.toList++(OpenSpec.ofChange Rows.clientClonesSpec).bare.plain.varTypes Tryz.pinned.checked.prog++Tryz.f6.resultTypes.toList))=true:=by kernel_rfl
theorem closed:joinedFacts Tryz.pinned.checked.prog 6 Tryz.f6 (OpenSpec.ofChange Rows.clientClonesSpec).bare Rows.clientClonesRow=true:=(both (both (both (both (both (both (both (both (both (both (both (both (both (both (both (both (both (both (both (both (both (both (both (both (both (both (both (both (both (both (both j0 j1) j2) j3) j4) j5) j6) j7) j8) j9) j10) j11) j12) j13) j14) j15) j16) j17) j18) j19) j20) j21) j22) j23) j24) j25) j26) j27) j28) j29) j30) j31)
theorem said:Rows.ClientClonesSaid :=
 OpenClaim.holds_of_cond 6 Tryz.f6 rfl rfl rfl rfl rfl rfl rfl ⟨rfl,rfl,rfl,rfl,rfl⟩ rfl rfl rfl rfl rfl (by kernel_rfl) Tryz.func6 closed
  (of_decide_eq_true (by kernel_rfl)) (by unfold Func.isWrapper; first | (rw [if_pos (by decide +kernel)]; kernel_rfl) | (rw [if_neg (by decide +kernel)]; exact ⟨rfl,rfl⟩))
  (λos started H enc _ F=>by rw [OpenClaim.pre_eq_preRow]; exact lifted os started H enc F)
theorem plain (f : FuncId) (fn : Func) (hf : Tryz.pinned.checked.prog.funcNamed "tidewrack/tidewracklaw23.ClientClones" = some f) (hfn : Tryz.pinned.checked.prog.funcs[f]? = some fn) :
  true=Tryz.pinned.checked.prog.looks [] /\ ∀ (j:Nat) t,fn.params[j]?=some t->Tryz.pinned.checked.prog.wantsStandIn t=false:=by
 obtain rfl : f = 6 := Option.some.inj ((show Tryz.prog.funcNamed "tidewrack/tidewracklaw23.ClientClones" = some 6 by kernel_rfl).symm.trans hf) |>.symm
 obtain rfl:fn=Tryz.f6:=(Option.some.inj (Tryz.func6.symm.trans hfn)).symm
 refine ⟨by kernel_rfl,λj t ht=> ?_⟩
 rw [Tryz.params6] at ht
 have hm:=Array.mem_of_getElem? ht
 simp only [List.mem_toArray,List.mem_cons,List.not_mem_nil,or_false] at hm
 rcases hm with rfl | rfl
 ·exact (show Tryz.prog.wantsStandIn 24=false by kernel_rfl)
 ·exact (show Tryz.prog.wantsStandIn 24=false by kernel_rfl)
theorem card:Rows.ClientClonesCardSaid :=
 Claim7.holds_tied_plain_at .later [] _ _ _ _ said (λ_ h=>by cases h) (by kernel_rfl) (λ_ h=>by cases h) clientClones_row_tie rfl ⟨rfl,rfl⟩ (by kernel_rfl) rfl plain (by kernel_rfl)
end Go.Tw.X.clientClones
namespace Go.Proofs.YtdhkangklnlnoaaGreatDoor
theorem clientClones_holds:Rows.ClientClonesCardSaid:=Go.Tw.X.clientClones.card
#print axioms clientClones_holds
end Go.Proofs.YtdhkangklnlnoaaGreatDoor

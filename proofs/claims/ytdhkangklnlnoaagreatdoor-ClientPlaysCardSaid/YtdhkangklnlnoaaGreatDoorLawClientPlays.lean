/-
  The statement of the law ClientPlays, proved for every input (where the row lists package tables: tied to the program text). It asks nothing besides.
-/
import Derived.Test.YtdhkangklnlnoaaGreatDoorCards
import Derived.Test.YtdhkangklnlnoaaGreatDoorTie
import Derived.Test.YtdhkangklnlnoaaGreatDoorWk2
import Derived.Test.YtdhkangklnlnoaaGreatDoorXq3
import Derived.WalkKit
import Derived.ProofKit
import Derived.OpenShut
import Derived.Deep.DeepHandedRow
import Derived.LaidLaws
set_option linter.unusedVariables false
set_option linter.unusedSimpArgs false
set_option maxRecDepth 100000
namespace Go.Tw.X.clientPlays
open Go Go.Tw Go.Tw.X Go.ChangeShapes Go.WideShapes Go.ChangeAt Go.RowKit Go.Proofs Go.Proofs.YtdhkangklnlnoaaGreatDoor
theorem own:ownKnob Tryz.prog.godebug=none:=by kernel_rfl
theorem laidOut:laidOutB Tryz.prog=true:=by kernel_rfl
theorem Hh:u5 Tryz.prog 6 296=true:=by kernel_rfl
theorem D1 (H:Type) (enc:TypeId×Value->H) (W:World) (base:Nat) (args:Array Value) (ds gs:List (DataW H)) (before:List MemPlace)
  (hval: ∀ (j:Nat) t v,Tryz.f5.params[j]?=some t->args[j]?=some v->Value.okWide Tryz.prog W .any base t v)
  (hW:DataW.Whole enc Tryz.prog Tryz.f5.params.toList Rows.clientPlaysSpec.vars false W args.toList ds gs before) (hL:laidMetH Tryz.prog Rows.clientPlaysRow.laid W) :
  Calls Tryz.prog 5 args W λe W'=> ∃ v,e = .returned v/\Rows.clientPlaysSpec.post enc Tryz.prog Tryz.f5 false true false false W args v W':=by
 have hW':=hW
 obtain ⟨p,q,hA0,hV,rfl,hfz,hnd⟩:=hW
 have hA:DataW.TrodAll enc Tryz.prog W 0 (λ_=>true) true Tryz.f5.params.toList args.toList ds p:=hA0
 rw [Tryz.params5] at hA hval
 obtain ⟨v0,vs0,d0,ds0,p0,q0,hargs,rfl,rfl,h0,r0⟩:=trodAll_cons hA
 obtain ⟨v1,vs1,d1,ds1,p1,q1,rfl,rfl,rfl,h1,r1⟩:=trodAll_cons r0
 obtain ⟨rfl,rfl,rfl⟩:=trodAll_nil r1
 obtain rfl:args = #[v0,v1]:=by cases args; simp_all
 obtain ⟨rfl,rfl⟩:=trodVars_none hV
 have k0:=h0
 obtain ⟨fu0,hf0⟩:=h0
 obtain ⟨x0,hid0,e0,w0,im0⟩:=He enc W _ _ _ _ _ hf0
 obtain ⟨n0,rfl⟩:=yK (fs:=[(3,0),(3,1),(3,2)]) (by kernel_rfl) (hval 0 23 v0 rfl rfl)
 have u0:=G0 e0
 subst n0
 have lt0: ∀ x∈p0,x.block < W.heap.size:=by obtain ⟨m,hm⟩:=k0; exact DataW.trod_lt m _ _ _ hm
 have k1:=h1
 obtain ⟨fu1,hf1⟩:=h1
 obtain ⟨x1,hid1,e1,w1,im1⟩:=Hg enc W _ _ _ _ _ hf1
 obtain ⟨a1,c1⟩:=hid1
 obtain ⟨aa1,len1,cap1,rfl⟩:=okWide_slice (e:=31) (by kernel_rfl) (hval 1 24 v1 rfl rfl)
 obtain ⟨ua1,ub1,uc1⟩:=Hp e1
 subst aa1 len1 cap1
 have lt1: ∀ x∈p1,x.block < W.heap.size:=by obtain ⟨m,hm⟩:=k1; exact DataW.trod_lt m _ _ _ hm
 obtain ⟨psl,hLV,_⟩:laidMet Tryz.prog Rows.clientPlaysRow.laid W:=hL
 have tc0 := AU (name := "tidewrack/sum.half") (d := Rows.laid_tidewrack_sum_half) hLV (by simp [Rows.clientPlaysRow]) (by kernel_rfl) (by kernel_rfl : (Tryz.prog.globals[0]?).map (·.type) = some 296) Hh
 have tf0:(Im.sl (Ty.int .u32) (some ⟨0,0,none⟩) 16 dD).okW W:=F6 (n:=16) () (λ_=>rfl) tc0 (by kernel_rfl) (by decide) (F7 tc0 (Nat.le_of_ble_eq_true (by kernel_rfl)))
 have hI:St (λb=>b < W.heap.size) [] [Im.sl mL a1 c1 x1,Im.sl (Ty.int .u32) (some ⟨0,0,none⟩) 16 dD] W:=St.first (λf hf=>by
  simp only [List.mem_cons,List.not_mem_nil,or_false] at hf
  rcases hf with rfl | rfl
  ·exact im1 _ (.head _)
  ·exact tf0)
 obtain ⟨_,hc⟩:=pB (A0:=a1) (C0:=c1) (rU w0 w1)
 refine (hc (λb=>b < W.heap.size) W hI).mono ?_
 rintro e W' ⟨x,A',rfl,hs⟩
 have bel:=hs.below
 exact ⟨_,rfl,_,_,_,[],_,[],hW',trodAll_mk1 (shut_bool (by kernel_rfl) _),(trodAll_cons_mk (Below.trod laidOut (by kernel_rfl) (of_decide_eq_true (by kernel_rfl)) k0 bel lt0) (trodAll_cons_mk (Below.trod laidOut (by kernel_rfl) (of_decide_eq_true (by kernel_rfl)) k1 bel lt1) trodAll_mk0)),rfl,bel.frame _,λh=>by cases h⟩
noncomputable def rX (os:Os):World:={ World.holding Tryz.prog os ⟨#[],#[],[]⟩ with heap:=((World.holding Tryz.prog os ⟨#[],#[],[]⟩).heap.modify 0 (λ | .cells _ t frozen=> .cells #[.int .u32 0,.int .u32 498536548,.int .u32 997073096,.int .u32 651767980,.int .u32 1994146192,.int .u32 1802195444,.int .u32 1303535960,.int .u32 1342533948,.int .u32 3988292384,.int .u32 4027552580,.int .u32 3604390888,.int .u32 3412177804,.int .u32 2607071920,.int .u32 2262029012,.int .u32 2685067896,.int .u32 3183342108] t frozen | o=>o)) }
theorem D2 (os:Os):laidMet Tryz.prog Rows.clientPlaysRow.laid ((rX os).forCall (λ_ _=>0) ⟨#[],#[(.agg #[.int .i64 0,.int .i64 0,.int .i64 0]:Value),.slice none 0 0],[]⟩).memory :=
 laidMet_of_run' 8 (by kernel_rfl) (by kernel_rfl)
theorem reads (os:Os) {H:Type} (enc:TypeId×Value->H): ∃ places,DataW.whole enc Tryz.prog ((rX os).forCall (λ_ _=>0) ⟨#[],#[(.agg #[.int .i64 0,.int .i64 0,.int .i64 0]:Value),.slice none 0 0],[]⟩).memory Tryz.f5.params.toList Rows.clientPlaysSpec.vars false #[(.agg #[.int .i64 0,.int .i64 0,.int .i64 0]:Value),.slice none 0 0].toList 8=some ([.agg [.lit (.int .i64 0),.lit (.int .i64 0),.lit (.int .i64 0)],.nil],[],places) :=
 ⟨[],by kernel_rfl⟩
theorem lifted (os:Os) (started:os.Started) (H:Type) (enc:TypeId×Value->H) (F:Stop.Interp) :
  ReturnsInHanded {} Tryz.checked os 5 .any ((OpenSpec.ofChange Rows.clientPlaysSpec).preRow enc Tryz.prog Tryz.f5 Rows.clientPlaysRow.domain false Rows.clientPlaysRow.laid) (((OpenSpec.ofChange Rows.clientPlaysSpec).at F).post enc Tryz.prog Tryz.f5 false true false false):=by
 obtain ⟨places,hx⟩:=reads os enc
 refine returnsInHanded_of_row (C:=Tryz.checked) (s:=(OpenSpec.ofChange Rows.clientPlaysSpec)) own started (by kernel_rfl) Tryz.func5
  (witness_row_at (enc:=enc) (C:=Tryz.checked) false (rX os) #[(.agg #[.int .i64 0,.int .i64 0,.int .i64 0]:Value),.slice none 0 0] rfl (by kernel_rfl) (by kernel_rfl) (by kernel_rfl)
   (OpenSpec.preRow_of_cond 8 hx (by kernel_rfl) (λk hk=>by cases hk) (by kernel_rfl) (D2 os))) ?_
 intro W base args ds gs before hval hW _ _ _ hL _ _
 exact D1 H enc W base args ds gs before hval hW hL
theorem both {a b:Bool} (h:a=true) (k:b=true):(a && b)=true:=by rw [h,k]; rfl
theorem j0:(Rows.clientPlaysRow.wf (OpenSpec.ofChange (OpenSpec.ofChange Rows.clientPlaysSpec).bare))=true:=by kernel_rfl
theorem j1:(laidOutB Tryz.pinned.checked.prog)=true:=by kernel_rfl
theorem j2:(mapsRowed Tryz.pinned.checked.prog)=true:=by kernel_rfl
theorem j3:(Tryz.f5.params.all (Tryz.pinned.checked.prog.readableRec ·))=true:=by kernel_rfl
theorem j4:(namedTie Tryz.pinned.checked.prog Rows.clientPlaysRow.named (OpenSpec.ofChange Rows.clientPlaysSpec).bare.vars)=true:=by kernel_rfl
theorem j5:((Rows.clientPlaysRow.stops == []))=true:=by kernel_rfl
theorem j6:((Tryz.pinned.checked.prog.stops == []))=true:=by kernel_rfl
theorem j7:((Rows.clientPlaysRow.knobs == []))=true:=by kernel_rfl
theorem j8:((Tryz.pinned.checked.prog.stopKnobs == []))=true:=by kernel_rfl
theorem j9:((Rows.clientPlaysRow.inPlace == Tryz.pinned.checked.prog.inPlace 5))=true:=by kernel_rfl
theorem j10:((Rows.clientPlaysRow.unfollowed == Tryz.pinned.checked.prog.unfollowed 5))=true:=by kernel_rfl
theorem j11:((Rows.clientPlaysRow.recurses == Tryz.pinned.checked.prog.recurses 5))=true:=by kernel_rfl
theorem j12:((Rows.clientPlaysRow.named == Tryz.pinned.checked.prog.varsNamed 5))=true:=by kernel_rfl
theorem j13:((Rows.clientPlaysRow.maps == (Tryz.f5.params.toList++(OpenSpec.ofChange Rows.clientPlaysSpec).bare.plain.varTypes Tryz.pinned.checked.prog).any (Tryz.pinned.checked.prog.mapsRec ·)))=true:=by kernel_rfl
theorem j14:((Rows.clientPlaysRow.ifaces == (Tryz.f5.params.toList++(OpenSpec.ofChange Rows.clientPlaysSpec).bare.plain.varTypes Tryz.pinned.checked.prog).any (Tryz.pinned.checked.prog.ifacesRec ·)))=true:=by kernel_rfl
theorem j15:((Rows.clientPlaysRow.mapsOut == Tryz.pinned.checked.prog.mapsAmong Tryz.f5.resultTypes.toList))=true:=by kernel_rfl
theorem j16:((Rows.clientPlaysRow.loops == (Tryz.f5.params.toList++(OpenSpec.ofChange Rows.clientPlaysSpec).bare.plain.varTypes Tryz.pinned.checked.prog).any (Tryz.pinned.checked.prog.loopsFrom ·)))=true:=by kernel_rfl
theorem j17:((Rows.clientPlaysRow.wideKeys == (Tryz.f5.params.toList++(OpenSpec.ofChange Rows.clientPlaysSpec).bare.plain.varTypes Tryz.pinned.checked.prog++Tryz.f5.resultTypes.toList).any (Tryz.pinned.checked.prog.wideKeysFrom ·)))=true:=by kernel_rfl
theorem j18:((OpenSpec.ofChange Rows.clientPlaysSpec).bare.vars.all (Tryz.pinned.checked.prog.varReadable ·))=true:=by kernel_rfl
theorem j19:(Tryz.f5.resultTypes.all (λt=>Tryz.pinned.checked.prog.readableRec t && decide (t < Tryz.pinned.checked.prog.types.size)))=true:=by kernel_rfl
theorem j20:((Rows.clientPlaysRow.ifacesOut == Tryz.f5.resultTypes.toList.any (Tryz.pinned.checked.prog.ifacesRec ·)))=true:=by kernel_rfl
theorem j21:((Rows.clientPlaysRow.loopsOut == Tryz.f5.resultTypes.toList.any (Tryz.pinned.checked.prog.loopsFrom ·)))=true:=by kernel_rfl
theorem j22:((Rows.clientPlaysRow.plainKeys == Tryz.pinned.checked.prog.plainKeys))=true:=by kernel_rfl
theorem j23:(Rows.clientPlaysRow.shortTexts.isNone)=true:=by kernel_rfl
theorem j24:(Tryz.pinned.checked.prog.stopsHeard)=true:=by kernel_rfl
theorem j25:(Tryz.pinned.checked.prog.mayEnter)=true:=by kernel_rfl
theorem j26:((Rows.clientPlaysRow.lifted == Tryz.pinned.checked.prog.liftsFinal))=true:=by kernel_rfl
theorem j27:((Tryz.pinned.checked.prog.make == some Rows.clientPlaysRow.make))=true:=by kernel_rfl
theorem j28:((Rows.clientPlaysRow.kinds == (if Rows.clientPlaysRow.domain.isEmpty then [] else Tryz.f5.params.toList.map λt=>match Tryz.pinned.checked.prog.underlying t with | some (.int k)=>some k | _=>none)))=true:=by kernel_rfl
theorem j29:((Rows.clientPlaysRow.pinned == Rows.clientPlaysRow.pinnedBy))=true:=by kernel_rfl
theorem j30:((Rows.clientPlaysRow.veiled == (Tryz.f5.params.toList++(OpenSpec.ofChange Rows.clientPlaysSpec).bare.plain.varTypes Tryz.pinned.checked.prog++Tryz.f5.resultTypes.toList).any (Tryz.pinned.checked.prog.veiledRec ·)))=true:=by kernel_rfl
theorem j31:(Rows.clientPlaysRow.veiledFits Tryz.pinned.checked.prog Tryz.f5.params.toList (Tryz.f5.params.toList++(OpenSpec.ofChange Rows.clientPlaysSpec).bare.plain.varTypes Tryz.pinned.checked.prog++Tryz.f5.resultTypes.toList))=true:=by kernel_rfl
theorem closed:joinedFacts Tryz.pinned.checked.prog 5 Tryz.f5 (OpenSpec.ofChange Rows.clientPlaysSpec).bare Rows.clientPlaysRow=true:=(both (both (both (both (both (both (both (both (both (both (both (both (both (both (both (both (both (both (both (both (both (both (both (both (both (both (both (both (both (both (both j0 j1) j2) j3) j4) j5) j6) j7) j8) j9) j10) j11) j12) j13) j14) j15) j16) j17) j18) j19) j20) j21) j22) j23) j24) j25) j26) j27) j28) j29) j30) j31)
theorem said:Rows.ClientPlaysSaid :=
 OpenClaim.holds_of_cond 5 Tryz.f5 rfl rfl rfl rfl rfl rfl rfl ⟨rfl,rfl,rfl,rfl,rfl⟩ rfl rfl rfl rfl rfl (by kernel_rfl) Tryz.func5 closed
  (of_decide_eq_true (by kernel_rfl)) (by unfold Func.isWrapper; first | (rw [if_pos (by decide +kernel)]; kernel_rfl) | (rw [if_neg (by decide +kernel)]; exact ⟨rfl,rfl⟩))
  (λos started H enc _ F=>by rw [OpenClaim.pre_eq_preRow]; exact lifted os started H enc F)
theorem plain (f : FuncId) (fn : Func) (hf : Tryz.pinned.checked.prog.funcNamed "tidewrack/tidewracklaw23.ClientPlays" = some f) (hfn : Tryz.pinned.checked.prog.funcs[f]? = some fn) :
  true=Tryz.pinned.checked.prog.looks [] /\ ∀ (j:Nat) t,fn.params[j]?=some t->Tryz.pinned.checked.prog.wantsStandIn t=false:=by
 obtain rfl : f = 5 := Option.some.inj ((show Tryz.prog.funcNamed "tidewrack/tidewracklaw23.ClientPlays" = some 5 by kernel_rfl).symm.trans hf) |>.symm
 obtain rfl:fn=Tryz.f5:=(Option.some.inj (Tryz.func5.symm.trans hfn)).symm
 refine ⟨by kernel_rfl,λj t ht=> ?_⟩
 rw [Tryz.params5] at ht
 have hm:=Array.mem_of_getElem? ht
 simp only [List.mem_toArray,List.mem_cons,List.not_mem_nil,or_false] at hm
 rcases hm with rfl | rfl
 ·exact (show Tryz.prog.wantsStandIn 23=false by kernel_rfl)
 ·exact (show Tryz.prog.wantsStandIn 24=false by kernel_rfl)
theorem card:Rows.ClientPlaysCardSaid :=
 Claim7.holds_tied_plain_at .later [] _ _ _ _ said (λ_ h=>by cases h) (by kernel_rfl) (λ_ h=>by cases h) clientPlays_row_tie rfl ⟨rfl,rfl⟩ (by kernel_rfl) rfl plain (by kernel_rfl)
end Go.Tw.X.clientPlays
namespace Go.Proofs.YtdhkangklnlnoaaGreatDoor
theorem clientPlays_holds:Rows.ClientPlaysCardSaid:=Go.Tw.X.clientPlays.card
#print axioms clientPlays_holds
end Go.Proofs.YtdhkangklnlnoaaGreatDoor

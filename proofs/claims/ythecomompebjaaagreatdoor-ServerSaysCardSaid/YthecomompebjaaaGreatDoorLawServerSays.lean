/-
  The statement of the law ServerSays, proved for every input (where the row lists package tables: tied to the program text). It asks nothing besides.
-/
import Derived.Test.YthecomompebjaaaGreatDoorCards
import Derived.Test.YthecomompebjaaaGreatDoorTie
import Derived.Test.YthecomompebjaaaGreatDoorWk2
import Derived.Test.YthecomompebjaaaGreatDoorXq3
import Derived.WalkKit
import Derived.ProofKit
import Derived.OpenShut
import Derived.Deep.DeepHandedRow
import Derived.LaidLaws
set_option linter.unusedVariables false
set_option linter.unusedSimpArgs false
set_option maxRecDepth 100000
namespace Go.Tw.X.serverSays
open Go Go.Tw Go.Tw.X Go.ChangeShapes Go.WideShapes Go.ChangeAt Go.RowKit Go.Proofs Go.Proofs.YthecomompebjaaaGreatDoor
theorem own:ownKnob Tryz.prog.godebug=none:=by kernel_rfl
theorem laidOut:laidOutB Tryz.prog=true:=by kernel_rfl
theorem NY:tU Tryz.prog 6 312=true:=by kernel_rfl
theorem NZ:tU Tryz.prog 6 377=true:=by kernel_rfl
theorem N7:tU Tryz.prog 6 378=true:=by kernel_rfl
theorem N8:tU Tryz.prog 6 411=true:=by kernel_rfl
theorem IA (H:Type) (enc:TypeId×Value->H) (W:World) (base:Nat) (args:Array Value) (ds gs:List (DataW H)) (before:List MemPlace)
  (hval: ∀ (j:Nat) t v,Tryz.f3.params[j]?=some t->args[j]?=some v->Value.okWide Tryz.prog W .any base t v)
  (hW:DataW.Whole enc Tryz.prog Tryz.f3.params.toList Rows.serverSaysSpec.vars false W args.toList ds gs before) (hL:laidMetH Tryz.prog Rows.serverSaysRow.laid W) :
  Calls Tryz.prog 3 args W λe W'=> ∃ v,e = .returned v/\Rows.serverSaysSpec.post enc Tryz.prog Tryz.f3 false true false false W args v W':=by
 have hW':=hW
 obtain ⟨p,q,hA0,hV,rfl,hfz,hnd⟩:=hW
 have hA:DataW.TrodAll enc Tryz.prog W 0 (λ_=>true) true Tryz.f3.params.toList args.toList ds p:=hA0
 rw [Tryz.params3] at hA hval
 obtain ⟨v0,vs0,d0,ds0,p0,q0,hargs,rfl,rfl,h0,r0⟩:=trodAll_cons hA
 obtain ⟨v1,vs1,d1,ds1,p1,q1,rfl,rfl,rfl,h1,r1⟩:=trodAll_cons r0
 obtain ⟨rfl,rfl,rfl⟩:=trodAll_nil r1
 obtain rfl:args = #[v0,v1]:=by cases args; simp_all
 obtain ⟨rfl,rfl⟩:=trodVars_none hV
 have k0:=h0
 obtain ⟨fu0,hf0⟩:=h0
 obtain ⟨x0,hid0,e0,w0,im0⟩:=NT enc W _ _ _ _ _ hf0
 obtain ⟨n0,rfl⟩:=BS (fs:=[(3,0),(3,1),(3,2),(3,3),(23,4)]) (by kernel_rfl) (hval 0 25 v0 rfl rfl)
 have u0:=MS e0
 subst n0
 have lt0: ∀ x∈p0,x.block < W.heap.size:=by obtain ⟨m,hm⟩:=k0; exact DataW.trod_lt m _ _ _ hm
 have k1:=h1
 obtain ⟨fu1,hf1⟩:=h1
 obtain ⟨x1,hid1,e1,w1,im1⟩:=NX enc W _ _ _ _ _ hf1
 obtain ⟨a1,c1⟩:=hid1
 obtain ⟨aa1,len1,cap1,rfl⟩:=okWide_slice (e:=38) (by kernel_rfl) (hval 1 26 v1 rfl rfl)
 obtain ⟨ua1,ub1,uc1⟩:=Og e1
 subst aa1 len1 cap1
 have lt1: ∀ x∈p1,x.block < W.heap.size:=by obtain ⟨m,hm⟩:=k1; exact DataW.trod_lt m _ _ _ hm
 obtain ⟨psl,hLV,_⟩:laidMet Tryz.prog Rows.serverSaysRow.laid W:=hL
 have tc0 := rS (name := "tidewrack/sum.half") (d := Rows.laid_tidewrack_sum_half) hLV (by simp [Rows.serverSaysRow]) (by kernel_rfl) (by kernel_rfl : (Tryz.prog.globals[0]?).map (·.type) = some 312) NY
 have tf0:(Im.sl (Ty.int .u32) (some ⟨0,0,none⟩) 16 cB).okW W:=zl (n:=16) () (λ_=>rfl) tc0 (by kernel_rfl) (by decide) (zm tc0 (Nat.le_of_ble_eq_true (by kernel_rfl)))
 have tc1 := rS (name := "tidewrack/wide.nones") (d := Rows.laid_tidewrack_wide_nones) hLV (by simp [Rows.serverSaysRow]) (by kernel_rfl) (by kernel_rfl : (Tryz.prog.globals[1]?).map (·.type) = some 377) NZ
 have tf1:(Im.sl cD (some ⟨1,0,none⟩) 13 cT).okW W:=zl (n:=13) () (λ_=>rfl) tc1 (by kernel_rfl) (by decide) (zm tc1 (Nat.le_of_ble_eq_true (by kernel_rfl)))
 have tc2 := rS (name := "tidewrack/wide.twos") (d := Rows.laid_tidewrack_wide_twos) hLV (by simp [Rows.serverSaysRow]) (by kernel_rfl) (by kernel_rfl : (Tryz.prog.globals[2]?).map (·.type) = some 378) N7
 have tf2:(Im.sl cD (some ⟨2,0,none⟩) 14 dD).okW W:=zl (n:=14) () (λ_=>rfl) tc2 (by kernel_rfl) (by decide) (zm tc2 (Nat.le_of_ble_eq_true (by kernel_rfl)))
 have tc3 := rS (name := "tidewrack/glyph.leads") (d := Rows.laid_tidewrack_glyph_leads) hLV (by simp [Rows.serverSaysRow]) (by kernel_rfl) (by kernel_rfl : (Tryz.prog.globals[3]?).map (·.type) = some 411) N8
 have tf3:(Im.sl dQ (some ⟨3,0,none⟩) 8 bX).okW W:=zl (n:=8) () (λ_=>rfl) tc3 (by kernel_rfl) (by decide) (zm tc3 (Nat.le_of_ble_eq_true (by kernel_rfl)))
 have hI:St (λb=>b < W.heap.size) [] [Im.sl nh a1 c1 x1,Im.sl (Ty.int .u32) (some ⟨0,0,none⟩) 16 cB,Im.sl cD (some ⟨1,0,none⟩) 13 cT,Im.sl cD (some ⟨2,0,none⟩) 14 dD,Im.sl dQ (some ⟨3,0,none⟩) 8 bX] W:=St.first (λf hf=>by
  simp only [List.mem_cons,List.not_mem_nil,or_false] at hf
  rcases hf with rfl | rfl | rfl | rfl | rfl
  ·exact im1 _ (.head _)
  ·exact tf0
  ·exact tf1
  ·exact tf2
  ·exact tf3)
 obtain ⟨_,hc⟩:=tO (A0:=a1) (C0:=c1) (we w0 w1)
 refine (hc (λb=>b < W.heap.size) W hI).mono ?_
 rintro e W' ⟨x,A',rfl,hs⟩
 have bel:=hs.below
 exact ⟨_,rfl,_,_,_,[],_,[],hW',trodAll_mk1 (shut_bool (by kernel_rfl) _),(trodAll_cons_mk (Below.trod laidOut (by kernel_rfl) (of_decide_eq_true (by kernel_rfl)) k0 bel lt0) (trodAll_cons_mk (Below.trod laidOut (by kernel_rfl) (of_decide_eq_true (by kernel_rfl)) k1 bel lt1) trodAll_mk0)),rfl,bel.frame _,λh=>by cases h⟩
noncomputable def vD (os:Os):World:={ World.holding Tryz.prog os ⟨#[],#[],[]⟩ with heap:=(((((World.holding Tryz.prog os ⟨#[],#[],[]⟩).heap.modify 0 (λ | .cells _ t frozen=> .cells #[.int .u32 0,.int .u32 498536548,.int .u32 997073096,.int .u32 651767980,.int .u32 1994146192,.int .u32 1802195444,.int .u32 1303535960,.int .u32 1342533948,.int .u32 3988292384,.int .u32 4027552580,.int .u32 3604390888,.int .u32 3412177804,.int .u32 2607071920,.int .u32 2262029012,.int .u32 2685067896,.int .u32 3183342108] t frozen | o=>o)).modify 1 (λ | .cells _ t frozen=> .cells #[.int .i32 (-2147483648),.int .i32 31,.int .i32 127,.int .i32 159,.int .i32 768,.int .i32 879,.int .i32 6832,.int .i32 6911,.int .i32 7616,.int .i32 7679,.int .i32 8203,.int .i32 8207,.int .i32 8400,.int .i32 8447,.int .i32 55296,.int .i32 57343,.int .i32 65024,.int .i32 65039,.int .i32 65056,.int .i32 65071,.int .i32 65279,.int .i32 65279,.int .i32 917760,.int .i32 917999,.int .i32 1114112,.int .i32 2147483647] t frozen | o=>o)).modify 2 (λ | .cells _ t frozen=> .cells #[.int .i32 4352,.int .i32 4447,.int .i32 11904,.int .i32 12350,.int .i32 12353,.int .i32 13311,.int .i32 13312,.int .i32 19903,.int .i32 19968,.int .i32 40959,.int .i32 40960,.int .i32 42191,.int .i32 44032,.int .i32 55203,.int .i32 63744,.int .i32 64255,.int .i32 65072,.int .i32 65135,.int .i32 65280,.int .i32 65376,.int .i32 65504,.int .i32 65510,.int .i32 127744,.int .i32 128591,.int .i32 129280,.int .i32 129535,.int .i32 131072,.int .i32 262141] t frozen | o=>o)).modify 3 (λ | .cells _ t frozen=> .cells #[.int .u8 194,.int .u8 223,.int .i64 1,.int .u8 128,.int .u8 191,.int .u8 224,.int .u8 224,.int .i64 2,.int .u8 160,.int .u8 191,.int .u8 225,.int .u8 236,.int .i64 2,.int .u8 128,.int .u8 191,.int .u8 237,.int .u8 237,.int .i64 2,.int .u8 128,.int .u8 159,.int .u8 238,.int .u8 239,.int .i64 2,.int .u8 128,.int .u8 191,.int .u8 240,.int .u8 240,.int .i64 3,.int .u8 144,.int .u8 191,.int .u8 241,.int .u8 243,.int .i64 3,.int .u8 128,.int .u8 191,.int .u8 244,.int .u8 244,.int .i64 3,.int .u8 128,.int .u8 143] t frozen | o=>o)) }
theorem IB (os:Os):laidMet Tryz.prog Rows.serverSaysRow.laid ((vD os).forCall (λ_ _=>0) ⟨#[],#[(.agg #[.int .i64 0,.int .i64 0,.int .i64 0,.int .i64 0,.int .i64 0,.int .i64 0,.int .i64 0]:Value),.slice none 0 0],[]⟩).memory :=
 laidMet_of_run' 8 (by kernel_rfl) (by kernel_rfl)
theorem reads (os:Os) {H:Type} (enc:TypeId×Value->H): ∃ places,DataW.whole enc Tryz.prog ((vD os).forCall (λ_ _=>0) ⟨#[],#[(.agg #[.int .i64 0,.int .i64 0,.int .i64 0,.int .i64 0,.int .i64 0,.int .i64 0,.int .i64 0]:Value),.slice none 0 0],[]⟩).memory Tryz.f3.params.toList Rows.serverSaysSpec.vars false #[(.agg #[.int .i64 0,.int .i64 0,.int .i64 0,.int .i64 0,.int .i64 0,.int .i64 0,.int .i64 0]:Value),.slice none 0 0].toList 8=some ([.agg [.lit (.int .i64 0),.lit (.int .i64 0),.lit (.int .i64 0),.lit (.int .i64 0),.agg [.lit (.int .i64 0),.lit (.int .i64 0),.lit (.int .i64 0)]],.nil],[],places) :=
 ⟨[],by kernel_rfl⟩
theorem lifted (os:Os) (started:os.Started) (H:Type) (enc:TypeId×Value->H) (F:Stop.Interp) :
  ReturnsInHanded {} Tryz.checked os 3 .any ((OpenSpec.ofChange Rows.serverSaysSpec).preRow enc Tryz.prog Tryz.f3 Rows.serverSaysRow.domain false Rows.serverSaysRow.laid) (((OpenSpec.ofChange Rows.serverSaysSpec).at F).post enc Tryz.prog Tryz.f3 false true false false):=by
 obtain ⟨places,hx⟩:=reads os enc
 refine returnsInHanded_of_row (C:=Tryz.checked) (s:=(OpenSpec.ofChange Rows.serverSaysSpec)) own started (by kernel_rfl) Tryz.func3
  (witness_row_at (enc:=enc) (C:=Tryz.checked) false (vD os) #[(.agg #[.int .i64 0,.int .i64 0,.int .i64 0,.int .i64 0,.int .i64 0,.int .i64 0,.int .i64 0]:Value),.slice none 0 0] rfl (by kernel_rfl) (by kernel_rfl) (by kernel_rfl)
   (OpenSpec.preRow_of_cond 8 hx (by kernel_rfl) (λk hk=>by cases hk) (by kernel_rfl) (IB os))) ?_
 intro W base args ds gs before hval hW _ _ _ hL _ _
 exact IA H enc W base args ds gs before hval hW hL
theorem both {a b:Bool} (h:a=true) (k:b=true):(a && b)=true:=by rw [h,k]; rfl
theorem j0:(Rows.serverSaysRow.wf (OpenSpec.ofChange (OpenSpec.ofChange Rows.serverSaysSpec).bare))=true:=by kernel_rfl
theorem j1:(laidOutB Tryz.pinned.checked.prog)=true:=by kernel_rfl
theorem j2:(mapsRowed Tryz.pinned.checked.prog)=true:=by kernel_rfl
theorem j3:(Tryz.f3.params.all (Tryz.pinned.checked.prog.readableRec ·))=true:=by kernel_rfl
theorem j4:(namedTie Tryz.pinned.checked.prog Rows.serverSaysRow.named (OpenSpec.ofChange Rows.serverSaysSpec).bare.vars)=true:=by kernel_rfl
theorem j5:((Rows.serverSaysRow.stops == []))=true:=by kernel_rfl
theorem j6:((Tryz.pinned.checked.prog.stops == []))=true:=by kernel_rfl
theorem j7:((Rows.serverSaysRow.knobs == []))=true:=by kernel_rfl
theorem j8:((Tryz.pinned.checked.prog.stopKnobs == []))=true:=by kernel_rfl
theorem j9:((Rows.serverSaysRow.inPlace == Tryz.pinned.checked.prog.inPlace 3))=true:=by kernel_rfl
theorem j10:((Rows.serverSaysRow.unfollowed == Tryz.pinned.checked.prog.unfollowed 3))=true:=by kernel_rfl
theorem j11:((Rows.serverSaysRow.recurses == Tryz.pinned.checked.prog.recurses 3))=true:=by kernel_rfl
theorem j12:((Rows.serverSaysRow.named == Tryz.pinned.checked.prog.varsNamed 3))=true:=by kernel_rfl
theorem j13:((Rows.serverSaysRow.maps == (Tryz.f3.params.toList++(OpenSpec.ofChange Rows.serverSaysSpec).bare.plain.varTypes Tryz.pinned.checked.prog).any (Tryz.pinned.checked.prog.mapsRec ·)))=true:=by kernel_rfl
theorem j14:((Rows.serverSaysRow.ifaces == (Tryz.f3.params.toList++(OpenSpec.ofChange Rows.serverSaysSpec).bare.plain.varTypes Tryz.pinned.checked.prog).any (Tryz.pinned.checked.prog.ifacesRec ·)))=true:=by kernel_rfl
theorem j15:((Rows.serverSaysRow.mapsOut == Tryz.pinned.checked.prog.mapsAmong Tryz.f3.resultTypes.toList))=true:=by kernel_rfl
theorem j16:((Rows.serverSaysRow.loops == (Tryz.f3.params.toList++(OpenSpec.ofChange Rows.serverSaysSpec).bare.plain.varTypes Tryz.pinned.checked.prog).any (Tryz.pinned.checked.prog.loopsFrom ·)))=true:=by kernel_rfl
theorem j17:((Rows.serverSaysRow.wideKeys == (Tryz.f3.params.toList++(OpenSpec.ofChange Rows.serverSaysSpec).bare.plain.varTypes Tryz.pinned.checked.prog++Tryz.f3.resultTypes.toList).any (Tryz.pinned.checked.prog.wideKeysFrom ·)))=true:=by kernel_rfl
theorem j18:((OpenSpec.ofChange Rows.serverSaysSpec).bare.vars.all (Tryz.pinned.checked.prog.varReadable ·))=true:=by kernel_rfl
theorem j19:(Tryz.f3.resultTypes.all (λt=>Tryz.pinned.checked.prog.readableRec t && decide (t < Tryz.pinned.checked.prog.types.size)))=true:=by kernel_rfl
theorem j20:((Rows.serverSaysRow.ifacesOut == Tryz.f3.resultTypes.toList.any (Tryz.pinned.checked.prog.ifacesRec ·)))=true:=by kernel_rfl
theorem j21:((Rows.serverSaysRow.loopsOut == Tryz.f3.resultTypes.toList.any (Tryz.pinned.checked.prog.loopsFrom ·)))=true:=by kernel_rfl
theorem j22:((Rows.serverSaysRow.plainKeys == Tryz.pinned.checked.prog.plainKeys))=true:=by kernel_rfl
theorem j23:(Rows.serverSaysRow.shortTexts.isNone)=true:=by kernel_rfl
theorem j24:(Tryz.pinned.checked.prog.stopsHeard)=true:=by kernel_rfl
theorem j25:(Tryz.pinned.checked.prog.mayEnter)=true:=by kernel_rfl
theorem j26:((Rows.serverSaysRow.lifted == Tryz.pinned.checked.prog.liftsFinal))=true:=by kernel_rfl
theorem j27:((Tryz.pinned.checked.prog.make == some Rows.serverSaysRow.make))=true:=by kernel_rfl
theorem j28:((Rows.serverSaysRow.kinds == (if Rows.serverSaysRow.domain.isEmpty then [] else Tryz.f3.params.toList.map λt=>match Tryz.pinned.checked.prog.underlying t with | some (.int k)=>some k | _=>none)))=true:=by kernel_rfl
theorem j29:((Rows.serverSaysRow.pinned == Rows.serverSaysRow.pinnedBy))=true:=by kernel_rfl
theorem j30:((Rows.serverSaysRow.veiled == (Tryz.f3.params.toList++(OpenSpec.ofChange Rows.serverSaysSpec).bare.plain.varTypes Tryz.pinned.checked.prog++Tryz.f3.resultTypes.toList).any (Tryz.pinned.checked.prog.veiledRec ·)))=true:=by kernel_rfl
theorem j31:(Rows.serverSaysRow.veiledFits Tryz.pinned.checked.prog Tryz.f3.params.toList (Tryz.f3.params.toList++(OpenSpec.ofChange Rows.serverSaysSpec).bare.plain.varTypes Tryz.pinned.checked.prog++Tryz.f3.resultTypes.toList))=true:=by kernel_rfl
theorem closed:joinedFacts Tryz.pinned.checked.prog 3 Tryz.f3 (OpenSpec.ofChange Rows.serverSaysSpec).bare Rows.serverSaysRow=true:=(both (both (both (both (both (both (both (both (both (both (both (both (both (both (both (both (both (both (both (both (both (both (both (both (both (both (both (both (both (both (both j0 j1) j2) j3) j4) j5) j6) j7) j8) j9) j10) j11) j12) j13) j14) j15) j16) j17) j18) j19) j20) j21) j22) j23) j24) j25) j26) j27) j28) j29) j30) j31)
theorem said:Rows.ServerSaysSaid :=
 OpenClaim.holds_of_cond 3 Tryz.f3 rfl rfl rfl rfl rfl rfl rfl ⟨rfl,rfl,rfl,rfl,rfl⟩ rfl rfl rfl rfl rfl (by kernel_rfl) Tryz.func3 closed
  (of_decide_eq_true (by kernel_rfl)) (by unfold Func.isWrapper; first | (rw [if_pos (by decide +kernel)]; kernel_rfl) | (rw [if_neg (by decide +kernel)]; exact ⟨rfl,rfl⟩))
  (λos started H enc _ F=>by rw [OpenClaim.pre_eq_preRow]; exact lifted os started H enc F)
theorem plain (f : FuncId) (fn : Func) (hf : Tryz.pinned.checked.prog.funcNamed "tidewrack/tidewracklaw22.ServerSays" = some f) (hfn : Tryz.pinned.checked.prog.funcs[f]? = some fn) :
  false=Tryz.pinned.checked.prog.looks [] /\ ∀ (j:Nat) t,fn.params[j]?=some t->Tryz.pinned.checked.prog.wantsStandIn t=false:=by
 obtain rfl : f = 3 := Option.some.inj ((show Tryz.prog.funcNamed "tidewrack/tidewracklaw22.ServerSays" = some 3 by kernel_rfl).symm.trans hf) |>.symm
 obtain rfl:fn=Tryz.f3:=(Option.some.inj (Tryz.func3.symm.trans hfn)).symm
 refine ⟨by kernel_rfl,λj t ht=> ?_⟩
 rw [Tryz.params3] at ht
 have hm:=Array.mem_of_getElem? ht
 simp only [List.mem_toArray,List.mem_cons,List.not_mem_nil,or_false] at hm
 rcases hm with rfl | rfl
 ·exact (show Tryz.prog.wantsStandIn 25=false by kernel_rfl)
 ·exact (show Tryz.prog.wantsStandIn 26=false by kernel_rfl)
theorem card:Rows.ServerSaysCardSaid :=
 Claim7.holds_tied_plain_at .later [] _ _ _ _ said (λ_ h=>by cases h) (by kernel_rfl) (λ_ h=>by cases h) serverSays_row_tie rfl ⟨rfl,rfl⟩ (by kernel_rfl) rfl plain (by kernel_rfl)
end Go.Tw.X.serverSays
namespace Go.Proofs.YthecomompebjaaaGreatDoor
theorem serverSays_holds:Rows.ServerSaysCardSaid:=Go.Tw.X.serverSays.card
#print axioms serverSays_holds
end Go.Proofs.YthecomompebjaaaGreatDoor

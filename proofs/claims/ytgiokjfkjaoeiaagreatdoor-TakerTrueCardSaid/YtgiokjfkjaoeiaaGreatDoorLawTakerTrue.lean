/-
  The statement of the law TakerTrue, proved for every input (where the row lists package tables: tied to the program text). It asks nothing besides.
-/
import Derived.Test.YtgiokjfkjaoeiaaGreatDoorCards
import Derived.Test.YtgiokjfkjaoeiaaGreatDoorTie
import Derived.Test.YtgiokjfkjaoeiaaGreatDoorWk2
import Derived.Test.YtgiokjfkjaoeiaaGreatDoorXq3
import Derived.WalkKit
import Derived.ProofKit
import Derived.OpenShut
import Derived.Deep.DeepHandedRow
import Derived.LaidLaws
set_option linter.unusedVariables false
set_option linter.unusedSimpArgs false
set_option maxRecDepth 100000
namespace Go.Tw.X.takerTrue
open Go Go.Tw Go.Tw.X Go.ChangeShapes Go.WideShapes Go.ChangeAt Go.RowKit Go.Proofs Go.Proofs.YtgiokjfkjaoeiaaGreatDoor
theorem own:ownKnob Tryz.prog.godebug=none:=by kernel_rfl
theorem laidOut:laidOutB Tryz.prog=true:=by kernel_rfl
theorem QO:vz Tryz.prog 6 245=true:=by kernel_rfl
theorem QP:vz Tryz.prog 6 246=true:=by kernel_rfl
theorem QQ:vz Tryz.prog 6 259=true:=by kernel_rfl
theorem QR:vz Tryz.prog 6 276=true:=by kernel_rfl
theorem KW (H:Type) (enc:TypeId×Value->H) (W:World) (base:Nat) (args:Array Value) (ds gs:List (DataW H)) (before:List MemPlace)
  (hval: ∀ (j:Nat) t v,Tryz.f5.params[j]?=some t->args[j]?=some v->Value.okWide Tryz.prog W .any base t v)
  (hW:DataW.Whole enc Tryz.prog Tryz.f5.params.toList Rows.takerTrueSpec.vars false W args.toList ds gs before) (hL:laidMetH Tryz.prog Rows.takerTrueRow.laid W) :
  Calls Tryz.prog 5 args W λe W'=> ∃ v,e = .returned v/\Rows.takerTrueSpec.post enc Tryz.prog Tryz.f5 false true false false W args v W':=by
 have hW':=hW
 obtain ⟨p,q,hA0,hV,rfl,hfz,hnd⟩:=hW
 have hA:DataW.TrodAll enc Tryz.prog W 0 (λ_=>true) true Tryz.f5.params.toList args.toList ds p:=hA0
 rw [Tryz.params5] at hA hval
 obtain ⟨v0,vs0,d0,ds0,p0,q0,hargs,rfl,rfl,h0,r0⟩:=trodAll_cons hA
 obtain ⟨v1,vs1,d1,ds1,p1,q1,rfl,rfl,rfl,h1,r1⟩:=trodAll_cons r0
 obtain ⟨v2,vs2,d2,ds2,p2,q2,rfl,rfl,rfl,h2,r2⟩:=trodAll_cons r1
 obtain ⟨rfl,rfl,rfl⟩:=trodAll_nil r2
 obtain rfl:args = #[v0,v1,v2]:=by cases args; simp_all
 obtain ⟨rfl,rfl⟩:=trodVars_none hV
 have k0:=h0
 obtain ⟨fu0,hf0⟩:=h0
 obtain ⟨x0,hid0,e0,w0,im0⟩:=QN enc W _ _ _ _ _ hf0
 obtain ⟨a0,c0⟩:=hid0
 obtain ⟨aa0,Mc,cap0,rfl⟩:=okWide_slice (e:=60) (by kernel_rfl) (hval 0 58 v0 rfl rfl)
 obtain ⟨ua0,ub0,uc0⟩:=PQ e0
 subst aa0 Mc cap0
 have lt0: ∀ x∈p0,x.block < W.heap.size:=by obtain ⟨m,hm⟩:=k0; exact DataW.trod_lt m _ _ _ hm
 have k1:=h1
 obtain ⟨fu1,hf1⟩:=h1
 obtain ⟨x1,hid1,e1,w1,im1⟩:=QL enc W _ _ _ _ _ hf1
 obtain ⟨a1,c1⟩:=hid1
 obtain ⟨aa1,len1,cap1,rfl⟩:=okWide_slice (e:=3) (by kernel_rfl) (hval 1 23 v1 rfl rfl)
 obtain ⟨ua1,ub1,uc1⟩:=PQ e1
 subst aa1 len1 cap1
 have lt1: ∀ x∈p1,x.block < W.heap.size:=by obtain ⟨m,hm⟩:=k1; exact DataW.trod_lt m _ _ _ hm
 have k2:=h2
 obtain ⟨fu2,hf2⟩:=h2
 obtain ⟨x2,hid2,e2,w2,im2⟩:=KV enc W _ _ _ _ _ hf2
 obtain ⟨n2,rfl⟩:=okWide_int (k:= .i64) (by kernel_rfl) (hval 2 3 v2 rfl rfl)
 have u2:=PO e2
 subst n2
 have lt2: ∀ x∈p2,x.block < W.heap.size:=by obtain ⟨m,hm⟩:=k2; exact DataW.trod_lt m _ _ _ hm
 obtain ⟨psl,hLV,_⟩:laidMet Tryz.prog Rows.takerTrueRow.laid W:=hL
 have tc0 := tN (name := "tidewrack/wide.nones") (d := Rows.laid_tidewrack_wide_nones) hLV (by simp [Rows.takerTrueRow]) (by kernel_rfl) (by kernel_rfl : (Tryz.prog.globals[0]?).map (·.type) = some 245) QO
 have tf0:(Im.sl cL (some ⟨0,0,none⟩) 13 dC).okW W:=Bo (n:=13) () (λ_=>rfl) tc0 (by kernel_rfl) (by decide) (Bp tc0 (Nat.le_of_ble_eq_true (by kernel_rfl)))
 have tc1 := tN (name := "tidewrack/wide.twos") (d := Rows.laid_tidewrack_wide_twos) hLV (by simp [Rows.takerTrueRow]) (by kernel_rfl) (by kernel_rfl : (Tryz.prog.globals[1]?).map (·.type) = some 246) QP
 have tf1:(Im.sl cL (some ⟨1,0,none⟩) 14 dK).okW W:=Bo (n:=14) () (λ_=>rfl) tc1 (by kernel_rfl) (by decide) (Bp tc1 (Nat.le_of_ble_eq_true (by kernel_rfl)))
 have tc2 := tN (name := "tidewrack/sum.half") (d := Rows.laid_tidewrack_sum_half) hLV (by simp [Rows.takerTrueRow]) (by kernel_rfl) (by kernel_rfl : (Tryz.prog.globals[2]?).map (·.type) = some 259) QQ
 have tf2:(Im.sl (Ty.int .u32) (some ⟨2,0,none⟩) 16 dA).okW W:=Bo (n:=16) () (λ_=>rfl) tc2 (by kernel_rfl) (by decide) (Bp tc2 (Nat.le_of_ble_eq_true (by kernel_rfl)))
 have tc3 := tN (name := "tidewrack/glyph.leads") (d := Rows.laid_tidewrack_glyph_leads) hLV (by simp [Rows.takerTrueRow]) (by kernel_rfl) (by kernel_rfl : (Tryz.prog.globals[3]?).map (·.type) = some 276) QR
 have tf3:(Im.sl eQ (some ⟨3,0,none⟩) 8 bX).okW W:=Bo (n:=8) () (λ_=>rfl) tc3 (by kernel_rfl) (by decide) (Bp tc3 (Nat.le_of_ble_eq_true (by kernel_rfl)))
 have hI:St (λb=>b < W.heap.size) [] [Im.sl n9 a0 c0 x0,Im.sl (Ty.int .i64) a1 c1 x1,Im.sl cL (some ⟨0,0,none⟩) 13 dC,Im.sl cL (some ⟨1,0,none⟩) 14 dK,Im.sl (Ty.int .u32) (some ⟨2,0,none⟩) 16 dA,Im.sl eQ (some ⟨3,0,none⟩) 8 bX] W:=St.first (λf hf=>by
  simp only [List.mem_cons,List.not_mem_nil,or_false] at hf
  rcases hf with rfl | rfl | rfl | rfl | rfl | rfl
  ·exact im0 _ (.head _)
  ·exact im1 _ (.head _)
  ·exact tf0
  ·exact tf1
  ·exact tf2
  ·exact tf3)
 obtain ⟨_,hc⟩:=wO (A0:=a0) (C0:=c0) (A1:=a1) (C1:=c1) (z3 w0 w1 w2)
 refine (hc (λb=>b < W.heap.size) W hI).mono ?_
 rintro e W' ⟨x,A',rfl,hs⟩
 have bel:=hs.below
 exact ⟨_,rfl,_,_,_,[],_,[],hW',trodAll_mk1 (shut_bool (by kernel_rfl) _),(trodAll_cons_mk (Below.trod laidOut (by kernel_rfl) (of_decide_eq_true (by kernel_rfl)) k0 bel lt0) (trodAll_cons_mk (Below.trod laidOut (by kernel_rfl) (of_decide_eq_true (by kernel_rfl)) k1 bel lt1) (trodAll_cons_mk (Below.trod laidOut (by kernel_rfl) (of_decide_eq_true (by kernel_rfl)) k2 bel lt2) trodAll_mk0))),rfl,bel.frame _,λh=>by cases h⟩
noncomputable def xG (os:Os):World:={ World.holding Tryz.prog os ⟨#[],#[],[]⟩ with heap:=(((((World.holding Tryz.prog os ⟨#[],#[],[]⟩).heap.modify 0 (λ | .cells _ t frozen=> .cells #[.int .i32 (-2147483648),.int .i32 31,.int .i32 127,.int .i32 159,.int .i32 768,.int .i32 879,.int .i32 6832,.int .i32 6911,.int .i32 7616,.int .i32 7679,.int .i32 8203,.int .i32 8207,.int .i32 8400,.int .i32 8447,.int .i32 55296,.int .i32 57343,.int .i32 65024,.int .i32 65039,.int .i32 65056,.int .i32 65071,.int .i32 65279,.int .i32 65279,.int .i32 917760,.int .i32 917999,.int .i32 1114112,.int .i32 2147483647] t frozen | o=>o)).modify 1 (λ | .cells _ t frozen=> .cells #[.int .i32 4352,.int .i32 4447,.int .i32 11904,.int .i32 12350,.int .i32 12353,.int .i32 13311,.int .i32 13312,.int .i32 19903,.int .i32 19968,.int .i32 40959,.int .i32 40960,.int .i32 42191,.int .i32 44032,.int .i32 55203,.int .i32 63744,.int .i32 64255,.int .i32 65072,.int .i32 65135,.int .i32 65280,.int .i32 65376,.int .i32 65504,.int .i32 65510,.int .i32 127744,.int .i32 128591,.int .i32 129280,.int .i32 129535,.int .i32 131072,.int .i32 262141] t frozen | o=>o)).modify 2 (λ | .cells _ t frozen=> .cells #[.int .u32 0,.int .u32 498536548,.int .u32 997073096,.int .u32 651767980,.int .u32 1994146192,.int .u32 1802195444,.int .u32 1303535960,.int .u32 1342533948,.int .u32 3988292384,.int .u32 4027552580,.int .u32 3604390888,.int .u32 3412177804,.int .u32 2607071920,.int .u32 2262029012,.int .u32 2685067896,.int .u32 3183342108] t frozen | o=>o)).modify 3 (λ | .cells _ t frozen=> .cells #[.int .u8 194,.int .u8 223,.int .i64 1,.int .u8 128,.int .u8 191,.int .u8 224,.int .u8 224,.int .i64 2,.int .u8 160,.int .u8 191,.int .u8 225,.int .u8 236,.int .i64 2,.int .u8 128,.int .u8 191,.int .u8 237,.int .u8 237,.int .i64 2,.int .u8 128,.int .u8 159,.int .u8 238,.int .u8 239,.int .i64 2,.int .u8 128,.int .u8 191,.int .u8 240,.int .u8 240,.int .i64 3,.int .u8 144,.int .u8 191,.int .u8 241,.int .u8 243,.int .i64 3,.int .u8 128,.int .u8 191,.int .u8 244,.int .u8 244,.int .i64 3,.int .u8 128,.int .u8 143] t frozen | o=>o)) }
theorem KX (os:Os):laidMet Tryz.prog Rows.takerTrueRow.laid ((xG os).forCall (λ_ _=>0) ⟨#[],#[(.slice none 0 0:Value),.slice none 0 0,.int .i64 0],[]⟩).memory :=
 laidMet_of_run' 8 (by kernel_rfl) (by kernel_rfl)
theorem reads (os:Os) {H:Type} (enc:TypeId×Value->H): ∃ places,DataW.whole enc Tryz.prog ((xG os).forCall (λ_ _=>0) ⟨#[],#[(.slice none 0 0:Value),.slice none 0 0,.int .i64 0],[]⟩).memory Tryz.f5.params.toList Rows.takerTrueSpec.vars false #[(.slice none 0 0:Value),.slice none 0 0,.int .i64 0].toList 8=some ([.nil,.nil,.lit (.int .i64 0)],[],places) :=
 ⟨[],by kernel_rfl⟩
theorem lifted (os:Os) (started:os.Started) (H:Type) (enc:TypeId×Value->H) (F:Stop.Interp) :
  ReturnsInHanded {} Tryz.checked os 5 .any ((OpenSpec.ofChange Rows.takerTrueSpec).preRow enc Tryz.prog Tryz.f5 Rows.takerTrueRow.domain false Rows.takerTrueRow.laid) (((OpenSpec.ofChange Rows.takerTrueSpec).at F).post enc Tryz.prog Tryz.f5 false true false false):=by
 obtain ⟨places,hx⟩:=reads os enc
 refine returnsInHanded_of_row (C:=Tryz.checked) (s:=(OpenSpec.ofChange Rows.takerTrueSpec)) own started (by kernel_rfl) Tryz.func5
  (witness_row_at (enc:=enc) (C:=Tryz.checked) false (xG os) #[(.slice none 0 0:Value),.slice none 0 0,.int .i64 0] rfl (by kernel_rfl) (by kernel_rfl) (by kernel_rfl)
   (OpenSpec.preRow_of_cond 8 hx (by kernel_rfl) (λk hk=>by cases hk) (by kernel_rfl) (KX os))) ?_
 intro W base args ds gs before hval hW _ _ _ hL _ _
 exact KW H enc W base args ds gs before hval hW hL
theorem both {a b:Bool} (h:a=true) (k:b=true):(a && b)=true:=by rw [h,k]; rfl
theorem j0:(Rows.takerTrueRow.wf (OpenSpec.ofChange (OpenSpec.ofChange Rows.takerTrueSpec).bare))=true:=by kernel_rfl
theorem j1:(laidOutB Tryz.pinned.checked.prog)=true:=by kernel_rfl
theorem j2:(mapsRowed Tryz.pinned.checked.prog)=true:=by kernel_rfl
theorem j3:(Tryz.f5.params.all (Tryz.pinned.checked.prog.readableRec ·))=true:=by kernel_rfl
theorem j4:(namedTie Tryz.pinned.checked.prog Rows.takerTrueRow.named (OpenSpec.ofChange Rows.takerTrueSpec).bare.vars)=true:=by kernel_rfl
theorem j5:((Rows.takerTrueRow.stops == []))=true:=by kernel_rfl
theorem j6:((Tryz.pinned.checked.prog.stops == []))=true:=by kernel_rfl
theorem j7:((Rows.takerTrueRow.knobs == []))=true:=by kernel_rfl
theorem j8:((Tryz.pinned.checked.prog.stopKnobs == []))=true:=by kernel_rfl
theorem j9:((Rows.takerTrueRow.inPlace == Tryz.pinned.checked.prog.inPlace 5))=true:=by kernel_rfl
theorem j10:((Rows.takerTrueRow.unfollowed == Tryz.pinned.checked.prog.unfollowed 5))=true:=by kernel_rfl
theorem j11:((Rows.takerTrueRow.recurses == Tryz.pinned.checked.prog.recurses 5))=true:=by kernel_rfl
theorem j12:((Rows.takerTrueRow.named == Tryz.pinned.checked.prog.varsNamed 5))=true:=by kernel_rfl
theorem j13:((Rows.takerTrueRow.maps == (Tryz.f5.params.toList++(OpenSpec.ofChange Rows.takerTrueSpec).bare.plain.varTypes Tryz.pinned.checked.prog).any (Tryz.pinned.checked.prog.mapsRec ·)))=true:=by kernel_rfl
theorem j14:((Rows.takerTrueRow.ifaces == (Tryz.f5.params.toList++(OpenSpec.ofChange Rows.takerTrueSpec).bare.plain.varTypes Tryz.pinned.checked.prog).any (Tryz.pinned.checked.prog.ifacesRec ·)))=true:=by kernel_rfl
theorem j15:((Rows.takerTrueRow.mapsOut == Tryz.pinned.checked.prog.mapsAmong Tryz.f5.resultTypes.toList))=true:=by kernel_rfl
theorem j16:((Rows.takerTrueRow.loops == (Tryz.f5.params.toList++(OpenSpec.ofChange Rows.takerTrueSpec).bare.plain.varTypes Tryz.pinned.checked.prog).any (Tryz.pinned.checked.prog.loopsFrom ·)))=true:=by kernel_rfl
theorem j17:((Rows.takerTrueRow.wideKeys == (Tryz.f5.params.toList++(OpenSpec.ofChange Rows.takerTrueSpec).bare.plain.varTypes Tryz.pinned.checked.prog++Tryz.f5.resultTypes.toList).any (Tryz.pinned.checked.prog.wideKeysFrom ·)))=true:=by kernel_rfl
theorem j18:((OpenSpec.ofChange Rows.takerTrueSpec).bare.vars.all (Tryz.pinned.checked.prog.varReadable ·))=true:=by kernel_rfl
theorem j19:(Tryz.f5.resultTypes.all (λt=>Tryz.pinned.checked.prog.readableRec t && decide (t < Tryz.pinned.checked.prog.types.size)))=true:=by kernel_rfl
theorem j20:((Rows.takerTrueRow.ifacesOut == Tryz.f5.resultTypes.toList.any (Tryz.pinned.checked.prog.ifacesRec ·)))=true:=by kernel_rfl
theorem j21:((Rows.takerTrueRow.loopsOut == Tryz.f5.resultTypes.toList.any (Tryz.pinned.checked.prog.loopsFrom ·)))=true:=by kernel_rfl
theorem j22:((Rows.takerTrueRow.plainKeys == Tryz.pinned.checked.prog.plainKeys))=true:=by kernel_rfl
theorem j23:(Rows.takerTrueRow.shortTexts.isNone)=true:=by kernel_rfl
theorem j24:(Tryz.pinned.checked.prog.stopsHeard)=true:=by kernel_rfl
theorem j25:(Tryz.pinned.checked.prog.mayEnter)=true:=by kernel_rfl
theorem j26:((Rows.takerTrueRow.lifted == Tryz.pinned.checked.prog.liftsFinal))=true:=by kernel_rfl
theorem j27:((Tryz.pinned.checked.prog.make == some Rows.takerTrueRow.make))=true:=by kernel_rfl
theorem j28:((Rows.takerTrueRow.kinds == (if Rows.takerTrueRow.domain.isEmpty then [] else Tryz.f5.params.toList.map λt=>match Tryz.pinned.checked.prog.underlying t with | some (.int k)=>some k | _=>none)))=true:=by kernel_rfl
theorem j29:((Rows.takerTrueRow.pinned == Rows.takerTrueRow.pinnedBy))=true:=by kernel_rfl
theorem j30:((Rows.takerTrueRow.veiled == (Tryz.f5.params.toList++(OpenSpec.ofChange Rows.takerTrueSpec).bare.plain.varTypes Tryz.pinned.checked.prog++Tryz.f5.resultTypes.toList).any (Tryz.pinned.checked.prog.veiledRec ·)))=true:=by kernel_rfl
theorem j31:(Rows.takerTrueRow.veiledFits Tryz.pinned.checked.prog Tryz.f5.params.toList (Tryz.f5.params.toList++(OpenSpec.ofChange Rows.takerTrueSpec).bare.plain.varTypes Tryz.pinned.checked.prog++Tryz.f5.resultTypes.toList))=true:=by kernel_rfl
theorem closed:joinedFacts Tryz.pinned.checked.prog 5 Tryz.f5 (OpenSpec.ofChange Rows.takerTrueSpec).bare Rows.takerTrueRow=true:=(both (both (both (both (both (both (both (both (both (both (both (both (both (both (both (both (both (both (both (both (both (both (both (both (both (both (both (both (both (both (both j0 j1) j2) j3) j4) j5) j6) j7) j8) j9) j10) j11) j12) j13) j14) j15) j16) j17) j18) j19) j20) j21) j22) j23) j24) j25) j26) j27) j28) j29) j30) j31)
theorem said:Rows.TakerTrueSaid :=
 OpenClaim.holds_of_cond 5 Tryz.f5 rfl rfl rfl rfl rfl rfl rfl ⟨rfl,rfl,rfl,rfl,rfl⟩ rfl rfl rfl rfl rfl (by kernel_rfl) Tryz.func5 closed
  (of_decide_eq_true (by kernel_rfl)) (by unfold Func.isWrapper; first | (rw [if_pos (by decide +kernel)]; kernel_rfl) | (rw [if_neg (by decide +kernel)]; exact ⟨rfl,rfl⟩))
  (λos started H enc _ F=>by rw [OpenClaim.pre_eq_preRow]; exact lifted os started H enc F)
theorem plain (f : FuncId) (fn : Func) (hf : Tryz.pinned.checked.prog.funcNamed "tidewrack/tidewracklaw20.TakerTrue" = some f) (hfn : Tryz.pinned.checked.prog.funcs[f]? = some fn) :
  false=Tryz.pinned.checked.prog.looks [] /\ ∀ (j:Nat) t,fn.params[j]?=some t->Tryz.pinned.checked.prog.wantsStandIn t=false:=by
 obtain rfl : f = 5 := Option.some.inj ((show Tryz.prog.funcNamed "tidewrack/tidewracklaw20.TakerTrue" = some 5 by kernel_rfl).symm.trans hf) |>.symm
 obtain rfl:fn=Tryz.f5:=(Option.some.inj (Tryz.func5.symm.trans hfn)).symm
 refine ⟨by kernel_rfl,λj t ht=> ?_⟩
 rw [Tryz.params5] at ht
 have hm:=Array.mem_of_getElem? ht
 simp only [List.mem_toArray,List.mem_cons,List.not_mem_nil,or_false] at hm
 rcases hm with rfl | rfl | rfl
 ·exact (show Tryz.prog.wantsStandIn 58=false by kernel_rfl)
 ·exact (show Tryz.prog.wantsStandIn 23=false by kernel_rfl)
 ·exact (show Tryz.prog.wantsStandIn 3=false by kernel_rfl)
theorem card:Rows.TakerTrueCardSaid :=
 Claim7.holds_tied_plain_at .later [] _ _ _ _ said (λ_ h=>by cases h) (by kernel_rfl) (λ_ h=>by cases h) takerTrue_row_tie rfl ⟨rfl,rfl⟩ (by kernel_rfl) rfl plain (by kernel_rfl)
end Go.Tw.X.takerTrue
namespace Go.Proofs.YtgiokjfkjaoeiaaGreatDoor
theorem takerTrue_holds:Rows.TakerTrueCardSaid:=Go.Tw.X.takerTrue.card
#print axioms takerTrue_holds
end Go.Proofs.YtgiokjfkjaoeiaaGreatDoor

/- What is proved: 'laws.FnWorldLost' returns true for every input that can be read, and leaves its arguments as they were. Conditions: none but those of the row (package-level variables of the library start as its text lays them). -/
import Derived.Test.YtopfccpgdldcdaaGreatDoorWvF
import Derived.Test.YtopfccpgdldcdaaGreatDoorCards
import Derived.Test.YtopfccpgdldcdaaGreatDoorTie
namespace Go.Proofs.YtopfccpgdldcdaaGreatDoor.fnWorldLost
set_option linter.unusedSimpArgs false
set_option linter.unusedVariables false
open Go Go.RowKit Go.WideShapes Go.ChangeShapes Go.ChangeAt Go.Proofs.YtopfccpgdldcdaaGreatDoor
set_option maxRecDepth 100000 in
theorem contract (H:Type) (enc:TypeId × Value→H) (W:World) (base:Nat) (args:Array Value) (ds gs:List (DataW H)) (before:List MemPlace)
  (hval:∀ (j:Nat) t v,Tryz.f7.params[j]? = some t→args[j]? = some v→Value.okWide Tryz.prog W .any base t v)
  (hW:DataW.Whole enc Tryz.prog Tryz.f7.params.toList Rows.fnWorldLostSpec.vars false W args.toList ds gs before) (hs:W.ShapedOpen Tryz.prog) :
  Calls Tryz.prog 7 args W fun e W'=>∃ v,e = .returned v∧Rows.fnWorldLostSpec.post enc Tryz.prog Tryz.f7 false true false false W args v W':=by
 have hW':=hW;obtain ⟨p,q,hA,hV,rfl,hfz,hnd⟩:=hW;rw [Tryz.params7] at hA hval;obtain ⟨v0,vs0,d0,ds0,p0,q0,hargs,rfl,rfl,h0,r0⟩:=trodAll_cons hA;obtain ⟨rfl,rfl,rfl⟩:=trodAll_nil r0;obtain ⟨rfl,rfl⟩:=trodVars_none hV;obtain rfl:args=#[v0]:=by cases args; simp_all
 obtain ⟨a0,ha0⟩:=zht (base:=0) zqZ (fun _ _=>by simp [qy]) (zhs (hval 0 22 v0 rfl rfl)) h0;refine (zpN (vs:=#[v0]) (zn3 W hs a0) (And.intro ha0 trivial)).mono fun e W' ⟨he,hbel⟩=>⟨_,he,?_⟩
 exact zqw (tb:=4) laidOut (by kernel_rfl) (by kernel_rfl) (by kernel_rfl) rfl hW' rfl hbel
theorem laid_met (os:Os):laidMet Tryz.prog Rows.fnWorldLostRow.laid ((laidW Tryz.prog os).forCall (fun _ _=>0) ⟨#[],#[.slice none 0 0],[]⟩).memory :=
 laidMet_of_run' 8 (by kernel_rfl) (by kernel_rfl)
theorem reads (os:Os) {H:Type} (enc:TypeId × Value→H):∃ places,DataW.whole enc Tryz.prog ((laidW Tryz.prog os).forCall (fun _ _=>0) ⟨#[],#[.slice none 0 0],[]⟩).memory Tryz.f7.params.toList Rows.fnWorldLostSpec.vars false (#[.slice none 0 0]:Array Value).toList 8=some ([.nil],[],places) :=
 ⟨[],by kernel_rfl⟩
set_option maxRecDepth 100000 in
theorem lifted (os:Os) (started:os.Started) (H:Type) (enc:TypeId × Value→H) (F:Stop.Interp) :
  ReturnsInHanded {} Tryz.checked os 7 .any ((OpenSpec.ofChange Rows.fnWorldLostSpec).preRow enc Tryz.prog Tryz.f7 Rows.fnWorldLostRow.domain false Rows.fnWorldLostRow.laid) (((OpenSpec.ofChange Rows.fnWorldLostSpec).at F).post enc Tryz.prog Tryz.f7 false true false false):=by
 obtain ⟨places,hx⟩:=reads os enc;refine returnsInHanded_of_row (C:=Tryz.checked) (s:=OpenSpec.ofChange Rows.fnWorldLostSpec) ownK started (by kernel_rfl) Tryz.func7
  (witness_row_at (enc:=enc) (C:=Tryz.checked) false (laidW Tryz.prog os) #[.slice none 0 0] rfl (by kernel_rfl) (by kernel_rfl) (by kernel_rfl)
   (OpenSpec.preRow_of_cond 8 hx (by kernel_rfl) (fun k hk=>by cases hk) (by kernel_rfl) (laid_met os))) ?_
 intro W base args ds gs before hval hW _ _ _ _ hs _;exact contract H enc W base args ds gs before hval hW hs
theorem k0:Rows.fnWorldLostRow.domain.isEmpty=true:=by kernel_rfl
theorem k1:(Rows.fnWorldLostRow.wf (OpenSpec.ofChange Rows.fnWorldLostSpec))=true:=by kernel_rfl
theorem k2:(laidOutB Tryz.pinned.checked.prog)=true:=by kernel_rfl
theorem k3:(mapsRowed Tryz.pinned.checked.prog)=true:=by kernel_rfl
theorem k4:(Tryz.f7.params.all (Tryz.pinned.checked.prog.readableRec ·))=true:=by kernel_rfl
theorem k5:(namedTie Tryz.pinned.checked.prog Rows.fnWorldLostRow.named Rows.fnWorldLostSpec.vars)=true:=by kernel_rfl
theorem k6:((Rows.fnWorldLostRow.stops==[]))=true:=by kernel_rfl
theorem k7:((Tryz.pinned.checked.prog.stops==[]))=true:=by kernel_rfl
theorem k8:((Rows.fnWorldLostRow.knobs==[]))=true:=by kernel_rfl
theorem k9:((Tryz.pinned.checked.prog.stopKnobs==[]))=true:=by kernel_rfl
theorem k10:((Rows.fnWorldLostRow.inPlace==Tryz.pinned.checked.prog.inPlace 7))=true:=by kernel_rfl
theorem k11:((Rows.fnWorldLostRow.unfollowed==Tryz.pinned.checked.prog.unfollowed 7))=true:=by kernel_rfl
theorem k12:((Rows.fnWorldLostRow.recurses==Tryz.pinned.checked.prog.recurses 7))=true:=by kernel_rfl
theorem k13:((Rows.fnWorldLostRow.named==Tryz.pinned.checked.prog.varsNamed 7))=true:=by kernel_rfl
theorem k14:((Rows.fnWorldLostRow.maps==(Tryz.f7.params.toList++Rows.fnWorldLostSpec.plain.varTypes Tryz.pinned.checked.prog).any (Tryz.pinned.checked.prog.mapsRec ·)))=true:=by kernel_rfl
theorem k15:((Rows.fnWorldLostRow.ifaces==(Tryz.f7.params.toList++Rows.fnWorldLostSpec.plain.varTypes Tryz.pinned.checked.prog).any (Tryz.pinned.checked.prog.ifacesRec ·)))=true:=by kernel_rfl
theorem k16:((Rows.fnWorldLostRow.mapsOut==Tryz.pinned.checked.prog.mapsAmong Tryz.f7.resultTypes.toList))=true:=by kernel_rfl
theorem k17:((Rows.fnWorldLostRow.loops==(Tryz.f7.params.toList++Rows.fnWorldLostSpec.plain.varTypes Tryz.pinned.checked.prog).any (Tryz.pinned.checked.prog.loopsFrom ·)))=true:=by kernel_rfl
theorem k18:((Rows.fnWorldLostRow.wideKeys==(Tryz.f7.params.toList++Rows.fnWorldLostSpec.plain.varTypes Tryz.pinned.checked.prog++Tryz.f7.resultTypes.toList).any (Tryz.pinned.checked.prog.wideKeysFrom ·)))=true:=by kernel_rfl
theorem k19:(Rows.fnWorldLostSpec.vars.all (Tryz.pinned.checked.prog.varReadable ·))=true:=by kernel_rfl
theorem k20:(Tryz.f7.resultTypes.all (fun t=>Tryz.pinned.checked.prog.readableRec t&&decide (t < Tryz.pinned.checked.prog.types.size)))=true:=by kernel_rfl
theorem k21:((Rows.fnWorldLostRow.ifacesOut==Tryz.f7.resultTypes.toList.any (Tryz.pinned.checked.prog.ifacesRec ·)))=true:=by kernel_rfl
theorem k22:((Rows.fnWorldLostRow.loopsOut==Tryz.f7.resultTypes.toList.any (Tryz.pinned.checked.prog.loopsFrom ·)))=true:=by kernel_rfl
theorem k23:((Rows.fnWorldLostRow.plainKeys==Tryz.pinned.checked.prog.plainKeys))=true:=by kernel_rfl
theorem k24:(Rows.fnWorldLostRow.shortTexts.isNone)=true:=by kernel_rfl
theorem k25:(Tryz.pinned.checked.prog.stopsHeard)=true:=by kernel_rfl
theorem k26:(Tryz.pinned.checked.prog.mayEnter)=true:=by kernel_rfl
theorem k27:((Rows.fnWorldLostRow.lifted==Tryz.pinned.checked.prog.liftsFinal))=true:=by kernel_rfl
theorem k28:((Tryz.pinned.checked.prog.make==some Rows.fnWorldLostRow.make))=true:=by kernel_rfl
theorem k29:(Rows.fnWorldLostRow.kinds==[])=true:=by kernel_rfl
theorem k30:((Rows.fnWorldLostRow.pinned==Rows.fnWorldLostRow.pinnedBy))=true:=by kernel_rfl
theorem k31:((Rows.fnWorldLostRow.veiled==(Tryz.f7.params.toList++Rows.fnWorldLostSpec.plain.varTypes Tryz.pinned.checked.prog++Tryz.f7.resultTypes.toList).any (Tryz.pinned.checked.prog.veiledRec ·)))=true:=by kernel_rfl
theorem k32:(Rows.fnWorldLostRow.veiledFits Tryz.pinned.checked.prog Tryz.f7.params.toList (Tryz.f7.params.toList++Rows.fnWorldLostSpec.plain.varTypes Tryz.pinned.checked.prog++Tryz.f7.resultTypes.toList))=true:=by kernel_rfl
set_option maxRecDepth 100000 in
theorem closed:joinedFacts Tryz.pinned.checked.prog 7 Tryz.f7 Rows.fnWorldLostSpec Rows.fnWorldLostRow=true :=
 zqo k1 k2 k3 k4 k5 k6 k7 k8 k9 k10 k11 k12 k13 k14 k15 k16 k17 k18 k19 k20 k21 k22 k23 k24 k25 k26 k27 k28 k29 k30 k31 k32 k0
theorem wrapper:Tryz.f7.isWrapper Tryz.pinned.checked.prog Rows.fnWorldLostRow.wrapper Rows.fnWorldLostRow.mainSum:=(by unfold Func.isWrapper; first | (rw [if_pos (by decide +kernel)]; kernel_rfl) | (rw [if_neg (by decide +kernel)]; exact ⟨rfl,rfl⟩))
theorem named:Tryz.pinned.checked.prog.funcNamed Rows.fnWorldLostRow.func=some 7:=by kernel_rfl
theorem instanced:Tryz.f7.isInstance Tryz.pinned.checked.prog Rows.fnWorldLostRow.origin Rows.fnWorldLostRow.targs:=of_decide_eq_true (by kernel_rfl)
set_option maxRecDepth 100000 in
theorem said:Rows.FnWorldLostSaid :=
 OpenClaim.holds_of_cond 7 Tryz.f7 rfl rfl rfl rfl rfl rfl rfl ⟨rfl,rfl,rfl,rfl,rfl⟩ rfl rfl rfl rfl rfl named Tryz.func7 closed instanced wrapper
  (fun os started H enc _ F=>by rw [OpenClaim.pre_eq_preRow]; exact lifted os started H enc F)
theorem byText:Rows.fnWorldLostRow.wfByText (OpenSpec.ofChange Rows.fnWorldLostSpec)=true:=by kernel_rfl
theorem mainOf:Tryz.pinned.checked.prog.mainIs=some (Rows.fnWorldLostCard.stood.harness.1,Rows.fnWorldLostCard.stood.harness.2.toList):=by kernel_rfl
theorem goesBy:false=Rows.fnWorldLostRow.goesBy Tryz.pinned.checked.prog:=by kernel_rfl
theorem plain (f:FuncId) (fn:Func) (hf:Tryz.pinned.checked.prog.funcNamed Rows.fnWorldLostRow.func=some f) (hfn:Tryz.pinned.checked.prog.funcs[f]? = some fn) :
  false=Tryz.pinned.checked.prog.looks []∧∀ (j:Nat) t,fn.params[j]? = some t→Tryz.pinned.checked.prog.wantsStandIn t=false:=by
 obtain rfl:f=7:=Option.some.inj ((show Tryz.prog.funcNamed Rows.fnWorldLostRow.func=some 7 by kernel_rfl).symm.trans hf) |>.symm;obtain rfl:fn=Tryz.f7:=(Option.some.inj (Tryz.func7.symm.trans hfn)).symm;refine ⟨by kernel_rfl,fun j t ht=>?_⟩;rw [Tryz.params7] at ht;have hm:=Array.mem_of_getElem? ht;simp only [List.mem_toArray,List.mem_cons,List.not_mem_nil,or_false] at hm;subst hm
 ·exact (show Tryz.prog.wantsStandIn 22=false by kernel_rfl)
theorem proved:Rows.FnWorldLostCardSaid :=
 Claim7.holds_tied_plain_at .later [] _ _ _ _ said (fun _ h=>by cases h) byText (fun _ h=>by cases h) fnWorldLost_row_tie rfl ⟨rfl,rfl⟩ mainOf rfl plain goesBy
end Go.Proofs.YtopfccpgdldcdaaGreatDoor.fnWorldLost

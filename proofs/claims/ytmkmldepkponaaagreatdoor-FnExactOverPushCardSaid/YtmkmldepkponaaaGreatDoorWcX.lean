/- What is proved: 'laws.FnExactOverPush' returns true for every input that can be read, and leaves its arguments as they were. Conditions: none but those of the row (package-level variables of the library start as its text lays them). -/
import Derived.Test.YtmkmldepkponaaaGreatDoorWcE
import Derived.Test.YtmkmldepkponaaaGreatDoorCards
import Derived.Test.YtmkmldepkponaaaGreatDoorTie
namespace Go.Proofs.YtmkmldepkponaaaGreatDoor.fnExactOverPush
set_option linter.unusedSimpArgs false
set_option linter.unusedVariables false
open Go Go.RowKit Go.WideShapes Go.ChangeShapes Go.ChangeAt Go.Proofs.YtmkmldepkponaaaGreatDoor
set_option maxRecDepth 100000 in
theorem contract (H:Type) (enc:TypeId × Value→H) (W:World) (base:Nat) (args:Array Value) (ds gs:List (DataW H)) (before:List MemPlace)
  (hval:∀ (j:Nat) t v,Tryz.f8.params[j]? = some t→args[j]? = some v→Value.okWide Tryz.prog W .any base t v)
  (hW:DataW.Whole enc Tryz.prog Tryz.f8.params.toList Rows.fnExactOverPushSpec.vars false W args.toList ds gs before) (hs:W.ShapedOpen Tryz.prog) :
  Calls Tryz.prog 8 args W fun e W'=>∃ v,e = .returned v∧Rows.fnExactOverPushSpec.post enc Tryz.prog Tryz.f8 false true false false W args v W':=by
 have hW':=hW;obtain ⟨p,q,hA,hV,rfl,hfz,hnd⟩:=hW;rw [Tryz.params8] at hA hval;obtain ⟨v0,vs0,d0,ds0,p0,q0,hargs,rfl,rfl,h0,r0⟩:=trodAll_cons hA;obtain ⟨rfl,rfl,rfl⟩:=trodAll_nil r0;obtain ⟨rfl,rfl⟩:=trodVars_none hV;obtain rfl:args=#[v0]:=by cases args; simp_all
 obtain ⟨a0,ha0⟩:=Y9 (g:=fun o=>[zh o.base,zJ o.layers,ze o.upper]) (base:=0) Tryz.underlying40 zbr (fun _=>rfl) (hval 0 40 v0 rfl rfl) h0;refine (zaM (vs:=#[v0]) (zkj W hs a0) (And.intro ha0 trivial)).mono fun e W' ⟨he,hbel⟩=>⟨_,he,?_⟩
 exact za2 (tb:=4) za1 (by kernel_rfl) (by kernel_rfl) (by kernel_rfl) rfl hW' rfl hbel
theorem laid_met (os:Os):laidMet Tryz.prog Rows.fnExactOverPushRow.laid ((yR Tryz.prog os).forCall (fun _ _=>0) ⟨#[],#[.agg #[.slice none 0 0,.slice none 0 0,.slice none 0 0]],[]⟩).memory :=
 laidMet_of_run' 8 (by kernel_rfl) (by kernel_rfl)
theorem reads (os:Os) {H:Type} (enc:TypeId × Value→H):∃ places,DataW.whole enc Tryz.prog ((yR Tryz.prog os).forCall (fun _ _=>0) ⟨#[],#[.agg #[.slice none 0 0,.slice none 0 0,.slice none 0 0]],[]⟩).memory Tryz.f8.params.toList Rows.fnExactOverPushSpec.vars false (#[.agg #[.slice none 0 0,.slice none 0 0,.slice none 0 0]]:Array Value).toList 8=some ([.agg [.nil,.nil,.nil]],[],places) :=
 ⟨[],by kernel_rfl⟩
set_option maxRecDepth 100000 in
theorem lifted (os:Os) (started:os.Started) (H:Type) (enc:TypeId × Value→H) (F:Stop.Interp) :
  ReturnsInHanded {} Tryz.checked os 8 .any ((OpenSpec.ofChange Rows.fnExactOverPushSpec).preRow enc Tryz.prog Tryz.f8 Rows.fnExactOverPushRow.domain false Rows.fnExactOverPushRow.laid) (((OpenSpec.ofChange Rows.fnExactOverPushSpec).at F).post enc Tryz.prog Tryz.f8 false true false false):=by
 obtain ⟨places,hx⟩:=reads os enc;refine returnsInHanded_of_row (C:=Tryz.checked) (s:=OpenSpec.ofChange Rows.fnExactOverPushSpec) ownK started (by kernel_rfl) Tryz.func8
  (witness_row_at (enc:=enc) (C:=Tryz.checked) false (yR Tryz.prog os) #[.agg #[.slice none 0 0,.slice none 0 0,.slice none 0 0]] rfl (by kernel_rfl) (by kernel_rfl) (by kernel_rfl)
   (OpenSpec.preRow_of_cond 8 hx (by kernel_rfl) (fun k hk=>by cases hk) (by kernel_rfl) (laid_met os))) ?_
 intro W base args ds gs before hval hW _ _ _ _ hs _;exact contract H enc W base args ds gs before hval hW hs
theorem k0:Rows.fnExactOverPushRow.domain.isEmpty=true:=by kernel_rfl
theorem k1:(Rows.fnExactOverPushRow.wf (OpenSpec.ofChange Rows.fnExactOverPushSpec))=true:=by kernel_rfl
theorem k2:(laidOutB Tryz.pinned.checked.prog)=true:=by kernel_rfl
theorem k3:(mapsRowed Tryz.pinned.checked.prog)=true:=by kernel_rfl
theorem k4:(Tryz.f8.params.all (Tryz.pinned.checked.prog.readableRec ·))=true:=by kernel_rfl
theorem k5:(namedTie Tryz.pinned.checked.prog Rows.fnExactOverPushRow.named Rows.fnExactOverPushSpec.vars)=true:=by kernel_rfl
theorem k6:((Rows.fnExactOverPushRow.stops==[]))=true:=by kernel_rfl
theorem k7:((Tryz.pinned.checked.prog.stops==[]))=true:=by kernel_rfl
theorem k8:((Rows.fnExactOverPushRow.knobs==[]))=true:=by kernel_rfl
theorem k9:((Tryz.pinned.checked.prog.stopKnobs==[]))=true:=by kernel_rfl
theorem k10:((Rows.fnExactOverPushRow.inPlace==Tryz.pinned.checked.prog.inPlace 8))=true:=by kernel_rfl
theorem k11:((Rows.fnExactOverPushRow.unfollowed==Tryz.pinned.checked.prog.unfollowed 8))=true:=by kernel_rfl
theorem k12:((Rows.fnExactOverPushRow.recurses==Tryz.pinned.checked.prog.recurses 8))=true:=by kernel_rfl
theorem k13:((Rows.fnExactOverPushRow.named==Tryz.pinned.checked.prog.varsNamed 8))=true:=by kernel_rfl
theorem k14:((Rows.fnExactOverPushRow.maps==(Tryz.f8.params.toList++Rows.fnExactOverPushSpec.plain.varTypes Tryz.pinned.checked.prog).any (Tryz.pinned.checked.prog.mapsRec ·)))=true:=by kernel_rfl
theorem k15:((Rows.fnExactOverPushRow.ifaces==(Tryz.f8.params.toList++Rows.fnExactOverPushSpec.plain.varTypes Tryz.pinned.checked.prog).any (Tryz.pinned.checked.prog.ifacesRec ·)))=true:=by kernel_rfl
theorem k16:((Rows.fnExactOverPushRow.mapsOut==Tryz.pinned.checked.prog.mapsAmong Tryz.f8.resultTypes.toList))=true:=by kernel_rfl
theorem k17:((Rows.fnExactOverPushRow.loops==(Tryz.f8.params.toList++Rows.fnExactOverPushSpec.plain.varTypes Tryz.pinned.checked.prog).any (Tryz.pinned.checked.prog.loopsFrom ·)))=true:=by kernel_rfl
theorem k18:((Rows.fnExactOverPushRow.wideKeys==(Tryz.f8.params.toList++Rows.fnExactOverPushSpec.plain.varTypes Tryz.pinned.checked.prog++Tryz.f8.resultTypes.toList).any (Tryz.pinned.checked.prog.wideKeysFrom ·)))=true:=by kernel_rfl
theorem k19:(Rows.fnExactOverPushSpec.vars.all (Tryz.pinned.checked.prog.varReadable ·))=true:=by kernel_rfl
theorem k20:(Tryz.f8.resultTypes.all (fun t=>Tryz.pinned.checked.prog.readableRec t&&decide (t < Tryz.pinned.checked.prog.types.size)))=true:=by kernel_rfl
theorem k21:((Rows.fnExactOverPushRow.ifacesOut==Tryz.f8.resultTypes.toList.any (Tryz.pinned.checked.prog.ifacesRec ·)))=true:=by kernel_rfl
theorem k22:((Rows.fnExactOverPushRow.loopsOut==Tryz.f8.resultTypes.toList.any (Tryz.pinned.checked.prog.loopsFrom ·)))=true:=by kernel_rfl
theorem k23:((Rows.fnExactOverPushRow.plainKeys==Tryz.pinned.checked.prog.plainKeys))=true:=by kernel_rfl
theorem k24:(Rows.fnExactOverPushRow.shortTexts.isNone)=true:=by kernel_rfl
theorem k25:(Tryz.pinned.checked.prog.stopsHeard)=true:=by kernel_rfl
theorem k26:(Tryz.pinned.checked.prog.mayEnter)=true:=by kernel_rfl
theorem k27:((Rows.fnExactOverPushRow.lifted==Tryz.pinned.checked.prog.liftsFinal))=true:=by kernel_rfl
theorem k28:((Tryz.pinned.checked.prog.make==some Rows.fnExactOverPushRow.make))=true:=by kernel_rfl
theorem k29:(Rows.fnExactOverPushRow.kinds==[])=true:=by kernel_rfl
theorem k30:((Rows.fnExactOverPushRow.pinned==Rows.fnExactOverPushRow.pinnedBy))=true:=by kernel_rfl
theorem k31:((Rows.fnExactOverPushRow.veiled==(Tryz.f8.params.toList++Rows.fnExactOverPushSpec.plain.varTypes Tryz.pinned.checked.prog++Tryz.f8.resultTypes.toList).any (Tryz.pinned.checked.prog.veiledRec ·)))=true:=by kernel_rfl
theorem k32:(Rows.fnExactOverPushRow.veiledFits Tryz.pinned.checked.prog Tryz.f8.params.toList (Tryz.f8.params.toList++Rows.fnExactOverPushSpec.plain.varTypes Tryz.pinned.checked.prog++Tryz.f8.resultTypes.toList))=true:=by kernel_rfl
set_option maxRecDepth 100000 in
theorem closed:joinedFacts Tryz.pinned.checked.prog 8 Tryz.f8 Rows.fnExactOverPushSpec Rows.fnExactOverPushRow=true :=
 zaW k1 k2 k3 k4 k5 k6 k7 k8 k9 k10 k11 k12 k13 k14 k15 k16 k17 k18 k19 k20 k21 k22 k23 k24 k25 k26 k27 k28 k29 k30 k31 k32 k0
theorem wrapper:Tryz.f8.isWrapper Tryz.pinned.checked.prog Rows.fnExactOverPushRow.wrapper Rows.fnExactOverPushRow.mainSum:=(by unfold Func.isWrapper; first | (rw [if_pos (by decide +kernel)]; kernel_rfl) | (rw [if_neg (by decide +kernel)]; exact ⟨rfl,rfl⟩))
theorem named:Tryz.pinned.checked.prog.funcNamed Rows.fnExactOverPushRow.func=some 8:=by kernel_rfl
theorem instanced:Tryz.f8.isInstance Tryz.pinned.checked.prog Rows.fnExactOverPushRow.origin Rows.fnExactOverPushRow.targs:=of_decide_eq_true (by kernel_rfl)
set_option maxRecDepth 100000 in
theorem said:Rows.FnExactOverPushSaid :=
 OpenClaim.holds_of_cond 8 Tryz.f8 rfl rfl rfl rfl rfl rfl rfl ⟨rfl,rfl,rfl,rfl,rfl⟩ rfl rfl rfl rfl rfl named Tryz.func8 closed instanced wrapper
  (fun os started H enc _ F=>by rw [OpenClaim.pre_eq_preRow]; exact lifted os started H enc F)
theorem byText:Rows.fnExactOverPushRow.wfByText (OpenSpec.ofChange Rows.fnExactOverPushSpec)=true:=by kernel_rfl
theorem mainOf:Tryz.pinned.checked.prog.mainIs=some (Rows.fnExactOverPushCard.stood.harness.1,Rows.fnExactOverPushCard.stood.harness.2.toList):=by kernel_rfl
theorem goesBy:false=Rows.fnExactOverPushRow.goesBy Tryz.pinned.checked.prog:=by kernel_rfl
theorem plain (f:FuncId) (fn:Func) (hf:Tryz.pinned.checked.prog.funcNamed Rows.fnExactOverPushRow.func=some f) (hfn:Tryz.pinned.checked.prog.funcs[f]? = some fn) :
  false=Tryz.pinned.checked.prog.looks []∧∀ (j:Nat) t,fn.params[j]? = some t→Tryz.pinned.checked.prog.wantsStandIn t=false:=by
 obtain rfl:f=8:=Option.some.inj ((show Tryz.prog.funcNamed Rows.fnExactOverPushRow.func=some 8 by kernel_rfl).symm.trans hf) |>.symm;obtain rfl:fn=Tryz.f8:=(Option.some.inj (Tryz.func8.symm.trans hfn)).symm;refine ⟨by kernel_rfl,fun j t ht=>?_⟩;rw [Tryz.params8] at ht;have hm:=Array.mem_of_getElem? ht;simp only [List.mem_toArray,List.mem_cons,List.not_mem_nil,or_false] at hm;subst hm
 ·exact (show Tryz.prog.wantsStandIn 40=false by kernel_rfl)
theorem proved:Rows.FnExactOverPushCardSaid :=
 Claim7.holds_tied_plain_at .later [] _ _ _ _ said (fun _ h=>by cases h) byText (fun _ h=>by cases h) fnExactOverPush_row_tie rfl ⟨rfl,rfl⟩ mainOf rfl plain goesBy
end Go.Proofs.YtmkmldepkponaaaGreatDoor.fnExactOverPush

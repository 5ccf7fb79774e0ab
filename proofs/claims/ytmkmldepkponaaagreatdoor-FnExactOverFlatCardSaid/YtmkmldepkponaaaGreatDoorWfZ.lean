/- What is proved: 'laws.FnExactOverFlat' returns true for every input that can be read, and leaves its arguments as they were. Conditions: none but those of the row (package-level variables of the library start as its text lays them). -/
import Derived.Test.YtmkmldepkponaaaGreatDoorWfE
import Derived.Test.YtmkmldepkponaaaGreatDoorCards
import Derived.Test.YtmkmldepkponaaaGreatDoorTie
namespace Go.Proofs.YtmkmldepkponaaaGreatDoor.fnExactOverFlat
set_option linter.unusedSimpArgs false
set_option linter.unusedVariables false
open Go Go.RowKit Go.WideShapes Go.ChangeShapes Go.ChangeAt Go.Proofs.YtmkmldepkponaaaGreatDoor
set_option maxRecDepth 100000 in
theorem contract (H:Type) (enc:TypeId × Value→H) (W:World) (base:Nat) (args:Array Value) (ds gs:List (DataW H)) (before:List MemPlace)
  (hval:∀ (j:Nat) t v,Tryz.f9.params[j]? = some t→args[j]? = some v→Value.okWide Tryz.prog W .any base t v)
  (hW:DataW.Whole enc Tryz.prog Tryz.f9.params.toList Rows.fnExactOverFlatSpec.vars false W args.toList ds gs before) (hs:W.ShapedOpen Tryz.prog) :
  Calls Tryz.prog 9 args W fun e W'=>∃ v,e = .returned v∧Rows.fnExactOverFlatSpec.post enc Tryz.prog Tryz.f9 false true false false W args v W':=by
 have hW':=hW;obtain ⟨p,q,hA,hV,rfl,hfz,hnd⟩:=hW;rw [Tryz.params9] at hA hval;obtain ⟨v0,vs0,d0,ds0,p0,q0,hargs,rfl,rfl,h0,r0⟩:=trodAll_cons hA;obtain ⟨rfl,rfl,rfl⟩:=trodAll_nil r0;obtain ⟨rfl,rfl⟩:=trodVars_none hV;obtain rfl:args=#[v0]:=by cases args; simp_all
 obtain ⟨a0,ha0⟩:=zgz (g:=fun o=>[zj o.base,zT o.layers,zd o.upper]) (base:=0) Tryz.underlying40 zmC (fun _=>rfl) (hval 0 40 v0 rfl rfl) h0;refine (zls (vs:=#[v0]) (zkq W hs a0) (And.intro ha0 trivial)).mono fun e W' ⟨he,hbel⟩=>⟨_,he,?_⟩
 exact zl7 (tb:=4) laidOut (by kernel_rfl) (by kernel_rfl) (by kernel_rfl) rfl hW' rfl hbel
theorem laid_met (os:Os):laidMet Tryz.prog Rows.fnExactOverFlatRow.laid ((laidW Tryz.prog os).forCall (fun _ _=>0) ⟨#[],#[.agg #[.slice none 0 0,.slice none 0 0,.slice none 0 0]],[]⟩).memory :=
 laidMet_of_run' 8 (by kernel_rfl) (by kernel_rfl)
theorem reads (os:Os) {H:Type} (enc:TypeId × Value→H):∃ places,DataW.whole enc Tryz.prog ((laidW Tryz.prog os).forCall (fun _ _=>0) ⟨#[],#[.agg #[.slice none 0 0,.slice none 0 0,.slice none 0 0]],[]⟩).memory Tryz.f9.params.toList Rows.fnExactOverFlatSpec.vars false (#[.agg #[.slice none 0 0,.slice none 0 0,.slice none 0 0]]:Array Value).toList 8=some ([.agg [.nil,.nil,.nil]],[],places) :=
 ⟨[],by kernel_rfl⟩
set_option maxRecDepth 100000 in
theorem lifted (os:Os) (started:os.Started) (H:Type) (enc:TypeId × Value→H) (F:Stop.Interp) :
  ReturnsInHanded {} Tryz.checked os 9 .any ((OpenSpec.ofChange Rows.fnExactOverFlatSpec).preRow enc Tryz.prog Tryz.f9 Rows.fnExactOverFlatRow.domain false Rows.fnExactOverFlatRow.laid) (((OpenSpec.ofChange Rows.fnExactOverFlatSpec).at F).post enc Tryz.prog Tryz.f9 false true false false):=by
 obtain ⟨places,hx⟩:=reads os enc;refine returnsInHanded_of_row (C:=Tryz.checked) (s:=OpenSpec.ofChange Rows.fnExactOverFlatSpec) ownK started (by kernel_rfl) Tryz.func9
  (witness_row_at (enc:=enc) (C:=Tryz.checked) false (laidW Tryz.prog os) #[.agg #[.slice none 0 0,.slice none 0 0,.slice none 0 0]] rfl (by kernel_rfl) (by kernel_rfl) (by kernel_rfl)
   (OpenSpec.preRow_of_cond 8 hx (by kernel_rfl) (fun k hk=>by cases hk) (by kernel_rfl) (laid_met os))) ?_
 intro W base args ds gs before hval hW _ _ _ _ hs _;exact contract H enc W base args ds gs before hval hW hs
theorem k0:Rows.fnExactOverFlatRow.domain.isEmpty=true:=by kernel_rfl
theorem k1:(Rows.fnExactOverFlatRow.wf (OpenSpec.ofChange Rows.fnExactOverFlatSpec))=true:=by kernel_rfl
theorem k2:(laidOutB Tryz.pinned.checked.prog)=true:=by kernel_rfl
theorem k3:(mapsRowed Tryz.pinned.checked.prog)=true:=by kernel_rfl
theorem k4:(Tryz.f9.params.all (Tryz.pinned.checked.prog.readableRec ·))=true:=by kernel_rfl
theorem k5:(namedTie Tryz.pinned.checked.prog Rows.fnExactOverFlatRow.named Rows.fnExactOverFlatSpec.vars)=true:=by kernel_rfl
theorem k6:((Rows.fnExactOverFlatRow.stops==[]))=true:=by kernel_rfl
theorem k7:((Tryz.pinned.checked.prog.stops==[]))=true:=by kernel_rfl
theorem k8:((Rows.fnExactOverFlatRow.knobs==[]))=true:=by kernel_rfl
theorem k9:((Tryz.pinned.checked.prog.stopKnobs==[]))=true:=by kernel_rfl
theorem k10:((Rows.fnExactOverFlatRow.inPlace==Tryz.pinned.checked.prog.inPlace 9))=true:=by kernel_rfl
theorem k11:((Rows.fnExactOverFlatRow.unfollowed==Tryz.pinned.checked.prog.unfollowed 9))=true:=by kernel_rfl
theorem k12:((Rows.fnExactOverFlatRow.recurses==Tryz.pinned.checked.prog.recurses 9))=true:=by kernel_rfl
theorem k13:((Rows.fnExactOverFlatRow.named==Tryz.pinned.checked.prog.varsNamed 9))=true:=by kernel_rfl
theorem k14:((Rows.fnExactOverFlatRow.maps==(Tryz.f9.params.toList++Rows.fnExactOverFlatSpec.plain.varTypes Tryz.pinned.checked.prog).any (Tryz.pinned.checked.prog.mapsRec ·)))=true:=by kernel_rfl
theorem k15:((Rows.fnExactOverFlatRow.ifaces==(Tryz.f9.params.toList++Rows.fnExactOverFlatSpec.plain.varTypes Tryz.pinned.checked.prog).any (Tryz.pinned.checked.prog.ifacesRec ·)))=true:=by kernel_rfl
theorem k16:((Rows.fnExactOverFlatRow.mapsOut==Tryz.pinned.checked.prog.mapsAmong Tryz.f9.resultTypes.toList))=true:=by kernel_rfl
theorem k17:((Rows.fnExactOverFlatRow.loops==(Tryz.f9.params.toList++Rows.fnExactOverFlatSpec.plain.varTypes Tryz.pinned.checked.prog).any (Tryz.pinned.checked.prog.loopsFrom ·)))=true:=by kernel_rfl
theorem k18:((Rows.fnExactOverFlatRow.wideKeys==(Tryz.f9.params.toList++Rows.fnExactOverFlatSpec.plain.varTypes Tryz.pinned.checked.prog++Tryz.f9.resultTypes.toList).any (Tryz.pinned.checked.prog.wideKeysFrom ·)))=true:=by kernel_rfl
theorem k19:(Rows.fnExactOverFlatSpec.vars.all (Tryz.pinned.checked.prog.varReadable ·))=true:=by kernel_rfl
theorem k20:(Tryz.f9.resultTypes.all (fun t=>Tryz.pinned.checked.prog.readableRec t&&decide (t < Tryz.pinned.checked.prog.types.size)))=true:=by kernel_rfl
theorem k21:((Rows.fnExactOverFlatRow.ifacesOut==Tryz.f9.resultTypes.toList.any (Tryz.pinned.checked.prog.ifacesRec ·)))=true:=by kernel_rfl
theorem k22:((Rows.fnExactOverFlatRow.loopsOut==Tryz.f9.resultTypes.toList.any (Tryz.pinned.checked.prog.loopsFrom ·)))=true:=by kernel_rfl
theorem k23:((Rows.fnExactOverFlatRow.plainKeys==Tryz.pinned.checked.prog.plainKeys))=true:=by kernel_rfl
theorem k24:(Rows.fnExactOverFlatRow.shortTexts.isNone)=true:=by kernel_rfl
theorem k25:(Tryz.pinned.checked.prog.stopsHeard)=true:=by kernel_rfl
theorem k26:(Tryz.pinned.checked.prog.mayEnter)=true:=by kernel_rfl
theorem k27:((Rows.fnExactOverFlatRow.lifted==Tryz.pinned.checked.prog.liftsFinal))=true:=by kernel_rfl
theorem k28:((Tryz.pinned.checked.prog.make==some Rows.fnExactOverFlatRow.make))=true:=by kernel_rfl
theorem k29:(Rows.fnExactOverFlatRow.kinds==[])=true:=by kernel_rfl
theorem k30:((Rows.fnExactOverFlatRow.pinned==Rows.fnExactOverFlatRow.pinnedBy))=true:=by kernel_rfl
theorem k31:((Rows.fnExactOverFlatRow.veiled==(Tryz.f9.params.toList++Rows.fnExactOverFlatSpec.plain.varTypes Tryz.pinned.checked.prog++Tryz.f9.resultTypes.toList).any (Tryz.pinned.checked.prog.veiledRec ·)))=true:=by kernel_rfl
theorem k32:(Rows.fnExactOverFlatRow.veiledFits Tryz.pinned.checked.prog Tryz.f9.params.toList (Tryz.f9.params.toList++Rows.fnExactOverFlatSpec.plain.varTypes Tryz.pinned.checked.prog++Tryz.f9.resultTypes.toList))=true:=by kernel_rfl
set_option maxRecDepth 100000 in
theorem closed:joinedFacts Tryz.pinned.checked.prog 9 Tryz.f9 Rows.fnExactOverFlatSpec Rows.fnExactOverFlatRow=true :=
 zl1 k1 k2 k3 k4 k5 k6 k7 k8 k9 k10 k11 k12 k13 k14 k15 k16 k17 k18 k19 k20 k21 k22 k23 k24 k25 k26 k27 k28 k29 k30 k31 k32 k0
theorem wrapper:Tryz.f9.isWrapper Tryz.pinned.checked.prog Rows.fnExactOverFlatRow.wrapper Rows.fnExactOverFlatRow.mainSum:=(by unfold Func.isWrapper; first | (rw [if_pos (by decide +kernel)]; kernel_rfl) | (rw [if_neg (by decide +kernel)]; exact ⟨rfl,rfl⟩))
theorem named:Tryz.pinned.checked.prog.funcNamed Rows.fnExactOverFlatRow.func=some 9:=by kernel_rfl
theorem instanced:Tryz.f9.isInstance Tryz.pinned.checked.prog Rows.fnExactOverFlatRow.origin Rows.fnExactOverFlatRow.targs:=of_decide_eq_true (by kernel_rfl)
set_option maxRecDepth 100000 in
theorem said:Rows.FnExactOverFlatSaid :=
 OpenClaim.holds_of_cond 9 Tryz.f9 rfl rfl rfl rfl rfl rfl rfl ⟨rfl,rfl,rfl,rfl,rfl⟩ rfl rfl rfl rfl rfl named Tryz.func9 closed instanced wrapper
  (fun os started H enc _ F=>by rw [OpenClaim.pre_eq_preRow]; exact lifted os started H enc F)
theorem byText:Rows.fnExactOverFlatRow.wfByText (OpenSpec.ofChange Rows.fnExactOverFlatSpec)=true:=by kernel_rfl
theorem mainOf:Tryz.pinned.checked.prog.mainIs=some (Rows.fnExactOverFlatCard.stood.harness.1,Rows.fnExactOverFlatCard.stood.harness.2.toList):=by kernel_rfl
theorem goesBy:false=Rows.fnExactOverFlatRow.goesBy Tryz.pinned.checked.prog:=by kernel_rfl
theorem plain (f:FuncId) (fn:Func) (hf:Tryz.pinned.checked.prog.funcNamed Rows.fnExactOverFlatRow.func=some f) (hfn:Tryz.pinned.checked.prog.funcs[f]? = some fn) :
  false=Tryz.pinned.checked.prog.looks []∧∀ (j:Nat) t,fn.params[j]? = some t→Tryz.pinned.checked.prog.wantsStandIn t=false:=by
 obtain rfl:f=9:=Option.some.inj ((show Tryz.prog.funcNamed Rows.fnExactOverFlatRow.func=some 9 by kernel_rfl).symm.trans hf) |>.symm;obtain rfl:fn=Tryz.f9:=(Option.some.inj (Tryz.func9.symm.trans hfn)).symm;refine ⟨by kernel_rfl,fun j t ht=>?_⟩;rw [Tryz.params9] at ht;have hm:=Array.mem_of_getElem? ht;simp only [List.mem_toArray,List.mem_cons,List.not_mem_nil,or_false] at hm;subst hm
 ·exact (show Tryz.prog.wantsStandIn 40=false by kernel_rfl)
theorem proved:Rows.FnExactOverFlatCardSaid :=
 Claim7.holds_tied_plain_at .later [] _ _ _ _ said (fun _ h=>by cases h) byText (fun _ h=>by cases h) fnExactOverFlat_row_tie rfl ⟨rfl,rfl⟩ mainOf rfl plain goesBy
end Go.Proofs.YtmkmldepkponaaaGreatDoor.fnExactOverFlat

/- What is proved: 'laws.FnWorldBent' returns true for every input that can be read, and leaves its arguments as they were. Conditions: none but those of the row (package-level variables of the library start as its text lays them). -/
import Derived.Test.YteheahbjaddooaaGreatDoorWqF
import Derived.Test.YteheahbjaddooaaGreatDoorCards
import Derived.Test.YteheahbjaddooaaGreatDoorTie
namespace Go.Proofs.YteheahbjaddooaaGreatDoor.fnWorldBent
set_option linter.unusedSimpArgs false
set_option linter.unusedVariables false
open Go Go.RowKit Go.WideShapes Go.ChangeShapes Go.ChangeAt Go.Proofs.YteheahbjaddooaaGreatDoor

set_option maxRecDepth 100000 in
theorem contract (H : Type) (enc : TypeId × Value → H) (W : World) (base : Nat) (args : Array Value) (ds gs : List (DataW H)) (before : List MemPlace)
    (hval : ∀ (j : Nat) t v, Go.Proofs.Tryz.f4.params[j]? = some t → args[j]? = some v → Value.okWide Go.Proofs.Tryz.prog W .any base t v)
    (hW : DataW.Whole enc Go.Proofs.Tryz.prog Go.Proofs.Tryz.f4.params.toList Rows.fnWorldBentSpec.vars false W args.toList ds gs before) (hs : W.ShapedOpen Go.Proofs.Tryz.prog) :
    Calls Go.Proofs.Tryz.prog 4 args W fun e W' => ∃ v, e = .returned v ∧ Rows.fnWorldBentSpec.post enc Go.Proofs.Tryz.prog Go.Proofs.Tryz.f4 false true false false W args v W' := by
  have hW' := hW
  obtain ⟨p, q, hA, hV, rfl, hfz, hnd⟩ := hW
  rw [Go.Proofs.Tryz.params4] at hA hval
  obtain ⟨v0, vs0, d0, ds0, p0, q0, hargs, rfl, rfl, h0, r0⟩ := trodAll_cons hA
  obtain ⟨rfl, rfl, rfl⟩ := trodAll_nil r0
  obtain ⟨rfl, rfl⟩ := trodVars_none hV
  obtain rfl : args = #[v0] := by cases args; simp_all
  obtain ⟨a0, ha0⟩ := ZA (base := 0) zj0 (fun _ _ => by simp [eCode]) (Zz (hval 0 22 v0 rfl rfl)) h0
  refine (zgS (vs := #[v0]) (zd6 W hs a0) (And.intro ha0 trivial)).mono fun e W' ⟨he, hbel⟩ => ⟨_, he, ?_⟩
  exact ziL (tb := 4) laidOut (by kernel_rfl) (by kernel_rfl) (by kernel_rfl) rfl hW' rfl hbel

theorem laid_met (os : Os) : laidMet Go.Proofs.Tryz.prog Rows.fnWorldBentRow.laid ((laidW Go.Proofs.Tryz.prog os).forCall (fun _ _ => 0) ⟨#[], #[.slice none 0 0], []⟩).memory :=
  laidMet_of_run' 8 (by kernel_rfl) (by kernel_rfl)
theorem reads (os : Os) {H : Type} (enc : TypeId × Value → H) : ∃ places, DataW.whole enc Go.Proofs.Tryz.prog ((laidW Go.Proofs.Tryz.prog os).forCall (fun _ _ => 0) ⟨#[], #[.slice none 0 0], []⟩).memory Go.Proofs.Tryz.f4.params.toList Rows.fnWorldBentSpec.vars false (#[.slice none 0 0] : Array Value).toList 8 = some ([.nil], [], places) :=
  ⟨[], by kernel_rfl⟩

set_option maxRecDepth 100000 in
theorem lifted (os : Os) (started : os.Started) (H : Type) (enc : TypeId × Value → H) (F : Stop.Interp) :
    ReturnsInHanded {} Go.Proofs.Tryz.checked os 4 .any ((OpenSpec.ofChange Rows.fnWorldBentSpec).preRow enc Go.Proofs.Tryz.prog Go.Proofs.Tryz.f4 Rows.fnWorldBentRow.domain false Rows.fnWorldBentRow.laid) (((OpenSpec.ofChange Rows.fnWorldBentSpec).at F).post enc Go.Proofs.Tryz.prog Go.Proofs.Tryz.f4 false true false false) := by
  obtain ⟨places, hx⟩ := reads os enc
  refine returnsInHanded_of_row (C := Go.Proofs.Tryz.checked) (s := OpenSpec.ofChange Rows.fnWorldBentSpec) ownK started (by kernel_rfl) Go.Proofs.Tryz.func4
    (witness_row_at (enc := enc) (C := Go.Proofs.Tryz.checked) false (laidW Go.Proofs.Tryz.prog os) #[.slice none 0 0] rfl (by kernel_rfl) (by kernel_rfl) (by kernel_rfl)
      (OpenSpec.preRow_of_cond 8 hx (by kernel_rfl) (fun k hk => by cases hk) (by kernel_rfl) (laid_met os))) ?_
  intro W base args ds gs before hval hW _ _ _ _ hs _
  exact contract H enc W base args ds gs before hval hW hs

theorem k0 : Rows.fnWorldBentRow.domain.isEmpty = true := by kernel_rfl
theorem k1 : (Rows.fnWorldBentRow.wf (OpenSpec.ofChange Rows.fnWorldBentSpec)) = true := by kernel_rfl
theorem k2 : (laidOutB Tryz.pinned.checked.prog) = true := by kernel_rfl
theorem k3 : (mapsRowed Tryz.pinned.checked.prog) = true := by kernel_rfl
theorem k4 : (Go.Proofs.Tryz.f4.params.all (Tryz.pinned.checked.prog.readableRec ·)) = true := by kernel_rfl
theorem k5 : (namedTie Tryz.pinned.checked.prog Rows.fnWorldBentRow.named Rows.fnWorldBentSpec.vars) = true := by kernel_rfl
theorem k6 : ((Rows.fnWorldBentRow.stops == [])) = true := by kernel_rfl
theorem k7 : ((Tryz.pinned.checked.prog.stops == [])) = true := by kernel_rfl
theorem k8 : ((Rows.fnWorldBentRow.knobs == [])) = true := by kernel_rfl
theorem k9 : ((Tryz.pinned.checked.prog.stopKnobs == [])) = true := by kernel_rfl
theorem k10 : ((Rows.fnWorldBentRow.inPlace == Tryz.pinned.checked.prog.inPlace 4)) = true := by kernel_rfl
theorem k11 : ((Rows.fnWorldBentRow.unfollowed == Tryz.pinned.checked.prog.unfollowed 4)) = true := by kernel_rfl
theorem k12 : ((Rows.fnWorldBentRow.recurses == Tryz.pinned.checked.prog.recurses 4)) = true := by kernel_rfl
theorem k13 : ((Rows.fnWorldBentRow.named == Tryz.pinned.checked.prog.varsNamed 4)) = true := by kernel_rfl
theorem k14 : ((Rows.fnWorldBentRow.maps == (Go.Proofs.Tryz.f4.params.toList ++ Rows.fnWorldBentSpec.plain.varTypes Tryz.pinned.checked.prog).any (Tryz.pinned.checked.prog.mapsRec ·))) = true := by kernel_rfl
theorem k15 : ((Rows.fnWorldBentRow.ifaces == (Go.Proofs.Tryz.f4.params.toList ++ Rows.fnWorldBentSpec.plain.varTypes Tryz.pinned.checked.prog).any (Tryz.pinned.checked.prog.ifacesRec ·))) = true := by kernel_rfl
theorem k16 : ((Rows.fnWorldBentRow.mapsOut == Tryz.pinned.checked.prog.mapsAmong Go.Proofs.Tryz.f4.resultTypes.toList)) = true := by kernel_rfl
theorem k17 : ((Rows.fnWorldBentRow.loops == (Go.Proofs.Tryz.f4.params.toList ++ Rows.fnWorldBentSpec.plain.varTypes Tryz.pinned.checked.prog).any (Tryz.pinned.checked.prog.loopsFrom ·))) = true := by kernel_rfl
theorem k18 : ((Rows.fnWorldBentRow.wideKeys == (Go.Proofs.Tryz.f4.params.toList ++ Rows.fnWorldBentSpec.plain.varTypes Tryz.pinned.checked.prog ++ Go.Proofs.Tryz.f4.resultTypes.toList).any (Tryz.pinned.checked.prog.wideKeysFrom ·))) = true := by kernel_rfl
theorem k19 : (Rows.fnWorldBentSpec.vars.all (Tryz.pinned.checked.prog.varReadable ·)) = true := by kernel_rfl
theorem k20 : (Go.Proofs.Tryz.f4.resultTypes.all (fun t => Tryz.pinned.checked.prog.readableRec t && decide (t < Tryz.pinned.checked.prog.types.size))) = true := by kernel_rfl
theorem k21 : ((Rows.fnWorldBentRow.ifacesOut == Go.Proofs.Tryz.f4.resultTypes.toList.any (Tryz.pinned.checked.prog.ifacesRec ·))) = true := by kernel_rfl
theorem k22 : ((Rows.fnWorldBentRow.loopsOut == Go.Proofs.Tryz.f4.resultTypes.toList.any (Tryz.pinned.checked.prog.loopsFrom ·))) = true := by kernel_rfl
theorem k23 : ((Rows.fnWorldBentRow.plainKeys == Tryz.pinned.checked.prog.plainKeys)) = true := by kernel_rfl
theorem k24 : (Rows.fnWorldBentRow.shortTexts.isNone) = true := by kernel_rfl
theorem k25 : (Tryz.pinned.checked.prog.stopsHeard) = true := by kernel_rfl
theorem k26 : (Tryz.pinned.checked.prog.mayEnter) = true := by kernel_rfl
theorem k27 : ((Rows.fnWorldBentRow.lifted == Tryz.pinned.checked.prog.liftsFinal)) = true := by kernel_rfl
theorem k28 : ((Tryz.pinned.checked.prog.make == some Rows.fnWorldBentRow.make)) = true := by kernel_rfl
theorem k29 : (Rows.fnWorldBentRow.kinds == []) = true := by kernel_rfl
theorem k30 : ((Rows.fnWorldBentRow.pinned == Rows.fnWorldBentRow.pinnedBy)) = true := by kernel_rfl
theorem k31 : ((Rows.fnWorldBentRow.veiled == (Go.Proofs.Tryz.f4.params.toList ++ Rows.fnWorldBentSpec.plain.varTypes Tryz.pinned.checked.prog ++ Go.Proofs.Tryz.f4.resultTypes.toList).any (Tryz.pinned.checked.prog.veiledRec ·))) = true := by kernel_rfl
theorem k32 : (Rows.fnWorldBentRow.veiledFits Tryz.pinned.checked.prog Go.Proofs.Tryz.f4.params.toList (Go.Proofs.Tryz.f4.params.toList ++ Rows.fnWorldBentSpec.plain.varTypes Tryz.pinned.checked.prog ++ Go.Proofs.Tryz.f4.resultTypes.toList)) = true := by kernel_rfl
set_option maxRecDepth 100000 in
theorem closed : joinedFacts Tryz.pinned.checked.prog 4 Go.Proofs.Tryz.f4 Rows.fnWorldBentSpec Rows.fnWorldBentRow = true :=
  ziy k1 k2 k3 k4 k5 k6 k7 k8 k9 k10 k11 k12 k13 k14 k15 k16 k17 k18 k19 k20 k21 k22 k23 k24 k25 k26 k27 k28 k29 k30 k31 k32 k0
theorem wrapper : Go.Proofs.Tryz.f4.isWrapper Tryz.pinned.checked.prog Rows.fnWorldBentRow.wrapper Rows.fnWorldBentRow.mainSum := (by unfold Func.isWrapper; first | (rw [if_pos (by decide +kernel)]; kernel_rfl) | (rw [if_neg (by decide +kernel)]; exact ⟨rfl, rfl⟩))
theorem named : Tryz.pinned.checked.prog.funcNamed Rows.fnWorldBentRow.func = some 4 := by kernel_rfl
theorem instanced : Go.Proofs.Tryz.f4.isInstance Tryz.pinned.checked.prog Rows.fnWorldBentRow.origin Rows.fnWorldBentRow.targs := of_decide_eq_true (by kernel_rfl)

set_option maxRecDepth 100000 in
theorem said : Rows.FnWorldBentSaid :=
  OpenClaim.holds_of_cond 4 Go.Proofs.Tryz.f4 rfl rfl rfl rfl rfl rfl rfl ⟨rfl, rfl, rfl, rfl, rfl⟩ rfl rfl rfl rfl rfl named Go.Proofs.Tryz.func4 closed instanced wrapper
    (fun os started H enc _ F => by rw [OpenClaim.pre_eq_preRow]; exact lifted os started H enc F)
theorem byText : Rows.fnWorldBentRow.wfByText (OpenSpec.ofChange Rows.fnWorldBentSpec) = true := by kernel_rfl
theorem mainOf : Tryz.pinned.checked.prog.mainIs = some (Rows.fnWorldBentCard.stood.harness.1, Rows.fnWorldBentCard.stood.harness.2.toList) := by kernel_rfl
theorem goesBy : false = Rows.fnWorldBentRow.goesBy Tryz.pinned.checked.prog := by kernel_rfl

theorem plain (f : FuncId) (fn : Func) (hf : Tryz.pinned.checked.prog.funcNamed Rows.fnWorldBentRow.func = some f) (hfn : Tryz.pinned.checked.prog.funcs[f]? = some fn) :
    false = Tryz.pinned.checked.prog.looks [] ∧ ∀ (j : Nat) t, fn.params[j]? = some t → Tryz.pinned.checked.prog.wantsStandIn t = false := by
  obtain rfl : f = 4 := Option.some.inj ((show Go.Proofs.Tryz.prog.funcNamed Rows.fnWorldBentRow.func = some 4 by kernel_rfl).symm.trans hf) |>.symm
  obtain rfl : fn = Go.Proofs.Tryz.f4 := (Option.some.inj (Go.Proofs.Tryz.func4.symm.trans hfn)).symm
  refine ⟨by kernel_rfl, fun j t ht => ?_⟩
  rw [Go.Proofs.Tryz.params4] at ht
  have hm := Array.mem_of_getElem? ht
  simp only [List.mem_toArray, List.mem_cons, List.not_mem_nil, or_false] at hm
  subst hm
  · exact (show Go.Proofs.Tryz.prog.wantsStandIn 22 = false by kernel_rfl)

theorem proved : Rows.FnWorldBentCardSaid :=
  Claim7.holds_tied_plain_at .later [] _ _ _ _ said (fun _ h => by cases h) byText (fun _ h => by cases h) fnWorldBent_row_tie rfl ⟨rfl, rfl⟩ mainOf rfl plain goesBy

end Go.Proofs.YteheahbjaddooaaGreatDoor.fnWorldBent

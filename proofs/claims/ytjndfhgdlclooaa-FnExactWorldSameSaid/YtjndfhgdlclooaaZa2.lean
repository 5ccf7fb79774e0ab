/- What is proved: 'laws.FnExactWorldSame' returns true for every input that can be read, and leaves its arguments as they were. Conditions: none. -/
import Derived.Test.YtjndfhgdlclooaaBm3
import Derived.Test.YtjndfhgdlclooaaDm1
namespace Go.Proofs.Ytjndfhgdlclooaa.fnExactWorldSame
set_option linter.unusedSimpArgs false
set_option linter.unusedVariables false
open Go Go.RowKit Go.WideShapes Go.ChangeShapes Go.ChangeAt Go.Proofs.Ytjndfhgdlclooaa

set_option maxRecDepth 100000 in
theorem contract (H : Type) (enc : TypeId × Value → H) (W : World) (base : Nat) (args : Array Value) (ds gs : List (DataW H)) (before : List MemPlace)
    (hval : ∀ (j : Nat) t v, Go.Proofs.Try.f4.params[j]? = some t → args[j]? = some v → Value.okWide Go.Proofs.Try.prog W .any base t v)
    (hW : DataW.Whole enc Go.Proofs.Try.prog Go.Proofs.Try.f4.params.toList Rows.fnExactWorldSameSpec.vars false W args.toList ds gs before) :
    Calls Go.Proofs.Try.prog 4 args W fun e W' => ∃ v, e = .returned v ∧ Rows.fnExactWorldSameSpec.post enc Go.Proofs.Try.prog Go.Proofs.Try.f4 false true false false W args v W' := by
  have hW' := hW
  obtain ⟨p, q, hA, hV, rfl, hfz, hnd⟩ := hW
  rw [Go.Proofs.Try.params4] at hA hval
  obtain ⟨v0, vs0, d0, ds0, p0, q0, hargs, rfl, rfl, h0, r0⟩ := trodAll_cons hA
  obtain ⟨v1, vs1, d1, ds1, p1, q1, rfl, rfl, rfl, h1, r1⟩ := trodAll_cons r0
  obtain ⟨rfl, rfl, rfl⟩ := trodAll_nil r1
  obtain ⟨rfl, rfl⟩ := trodVars_none hV
  obtain rfl : args = #[v0, v1] := by cases args; simp_all
  obtain ⟨a0, ha0⟩ := arg_agg (g := fun w => [eEnts w.over.base, eMarkss w.over.layers, eMarks w.over.upper, CI w.clock, CI w.count, eLeases w.leases, eHoldss w.holds, eInts w.floors, eMsgs w.net, CB w.waits, CI w.op.kind, CS w.op.path, CS w.op.dest, CS w.op.data]) (base := 0) Go.Proofs.Try.underlying43 o_Wld (fun _ => rfl) (hval 0 43 v0 rfl rfl) h0
  obtain ⟨a1, ha1⟩ := arg_agg (g := fun w => [eEnts w.over.base, eMarkss w.over.layers, eMarks w.over.upper, CI w.clock, CI w.count, eLeases w.leases, eHoldss w.holds, eInts w.floors, eMsgs w.net, CB w.waits, CI w.op.kind, CS w.op.path, CS w.op.dest, CS w.op.data]) (base := 0) Go.Proofs.Try.underlying43 o_Wld (fun _ => rfl) (hval 1 43 v1 rfl rfl) h1
  refine (fn_calls (vs := #[v0, v1]) (f_FnExactWorldSame W a0 a1) (And.intro ha0 (And.intro ha1 trivial))).mono fun e W' ⟨he, hbel⟩ => ⟨_, he, ?_⟩
  exact law_post (tb := 4) laidOut (by kernel_rfl) (by kernel_rfl) (by kernel_rfl) rfl hW' rfl hbel

set_option maxRecDepth 100000 in
theorem lifted (os : Os) (started : os.Started) (H : Type) (enc : TypeId × Value → H) :
    ReturnsInHanded {} Go.Proofs.Try.checked os 4 .any (Rows.fnExactWorldSameSpec.pre6 enc Go.Proofs.Try.prog Go.Proofs.Try.f4 Rows.fnExactWorldSameRow.domain false) (Rows.fnExactWorldSameSpec.post enc Go.Proofs.Try.prog Go.Proofs.Try.f4 false true false false) := by
  refine returnsInHanded_of_change (C := Go.Proofs.Try.checked) (s := Rows.fnExactWorldSameSpec) ownK started (by kernel_rfl) Go.Proofs.Try.func4
    (ChangeSpec.witness6 (enc := enc) (C := Go.Proofs.Try.checked) (s := Rows.fnExactWorldSameSpec) false ⟨#[], #[.agg #[.slice none 0 0, .slice none 0 0, .slice none 0 0, .int .i64 0, .int .i64 0, .slice none 0 0, .slice none 0 0, .slice none 0 0, .slice none 0 0, .bool false, .int .i64 0, .string ⟨#[]⟩, .string ⟨#[]⟩, .string ⟨#[]⟩], .agg #[.slice none 0 0, .slice none 0 0, .slice none 0 0, .int .i64 0, .int .i64 0, .slice none 0 0, .slice none 0 0, .slice none 0 0, .slice none 0 0, .bool false, .int .i64 0, .string ⟨#[]⟩, .string ⟨#[]⟩, .string ⟨#[]⟩]], []⟩ 8 (by kernel_rfl) (by kernel_rfl) (by kernel_rfl) (by kernel_rfl)) ?_
  intro W base args ds gs before hval hW _ _
  exact contract H enc W base args ds gs before hval hW

set_option maxRecDepth 100000 in
theorem proved : Rows.FnExactWorldSameSaid :=
  OpenClaim.holds_of_wide 4 Go.Proofs.Try.f4 rfl rfl rfl rfl rfl rfl rfl ⟨rfl, rfl, rfl, rfl, rfl⟩ rfl rfl rfl rfl rfl (by kernel_rfl) Go.Proofs.Try.func4 (by kernel_rfl)
    (of_decide_eq_true (by kernel_rfl)) (by unfold Func.isWrapper; first | (rw [if_pos (by decide +kernel)]; kernel_rfl) | (rw [if_neg (by decide +kernel)]; exact ⟨rfl, rfl⟩))
    (fun os started H enc _ => lifted os started H enc)

end Go.Proofs.Ytjndfhgdlclooaa.fnExactWorldSame

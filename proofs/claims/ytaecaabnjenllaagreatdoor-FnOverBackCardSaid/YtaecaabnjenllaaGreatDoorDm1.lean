/- The types of the laws' arguments, opened; the facts of this program that a row asks; no condition. -/
import Derived.Test.YtaecaabnjenllaaGreatDoorCm1
import Derived.Test.YtaecaabnjenllaaGreatDoorRows
namespace Go.Proofs.YtaecaabnjenllaaGreatDoor
set_option linter.unusedSimpArgs false
set_option linter.unusedVariables false
open Go Go.RowKit Go.WideShapes Go.ChangeShapes Go.ChangeAt

theorem laidOut : laidOutB Go.Proofs.Tryz.prog = true := by kernel_rfl
theorem ownK : ownKnob Go.Proofs.Tryz.prog.godebug = none := by kernel_rfl

section
variable {H : Type} {enc : TypeId × Value → H} {W : World}
theorem o_str : Opn enc Go.Proofs.Tryz.prog W 9 CS := opn_str (by kernel_rfl)
theorem o_bool : Opn enc Go.Proofs.Tryz.prog W 4 CB := opn_bool (by kernel_rfl)
theorem o_int : Opn enc Go.Proofs.Tryz.prog W 3 CI := opn_int (by kernel_rfl)

set_option maxRecDepth 100000 in
theorem arg_notstr {r : Reach} {b : Nat} {v : Value} (h : Value.okWide Go.Proofs.Tryz.prog W r b 9 v) : ∀ cs, v ≠ .agg cs := by
  rintro cs rfl
  unfold Value.okWide at h
  rw [Go.Proofs.Tryz.underlying9] at h
  unfold Cell.okWide at h
  rw [Go.Proofs.Tryz.underlying9] at h
  unfold Cell.ok at h
  rw [Go.Proofs.Tryz.underlying9] at h
  exact h
set_option maxRecDepth 100000 in
theorem arg_notcode {r : Reach} {b : Nat} {v : Value} (h : Value.okWide Go.Proofs.Tryz.prog W r b 22 v) : ∀ cs, v ≠ .agg cs := by
  rintro cs rfl
  unfold Value.okWide at h
  rw [Go.Proofs.Tryz.underlying22] at h
  unfold Cell.okWide at h
  rw [Go.Proofs.Tryz.underlying22] at h
  unfold Cell.ok at h
  rw [Go.Proofs.Tryz.underlying22] at h
  exact h
theorem o_Code : Opn enc Go.Proofs.Tryz.prog W 22 eCode := opn_slice (f := fun b : UInt8 => CU b.toNat) 1 (by kernel_rfl) (by kernel_rfl) (by decide) (fun _ => rfl) (opn_u8 (t := 5) (by kernel_rfl))


end

end Go.Proofs.YtaecaabnjenllaaGreatDoor

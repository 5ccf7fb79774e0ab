/- The types of the laws' arguments, opened; the facts of this program that a row asks; no condition. -/
import Derived.Test.YthblflnfhdnpdaaGreatDoorCm1
import Derived.Test.YthblflnfhdnpdaaGreatDoorRows
namespace Go.Proofs.YthblflnfhdnpdaaGreatDoor
set_option linter.unusedSimpArgs false
set_option linter.unusedVariables false
open Go Go.RowKit Go.WideShapes Go.ChangeShapes Go.ChangeAt

theorem laidOut : laidOutB Go.Proofs.Tryz.prog = true := by kernel_rfl
theorem ownK : ownKnob Go.Proofs.Tryz.prog.godebug = none := by kernel_rfl

section
variable {H : Type} {enc : TypeId × Value → H} {W : World}
theorem o_str : Opn enc Go.Proofs.Tryz.prog W 9 CS := opn_str (by kernel_rfl)
theorem o_bool : Opn enc Go.Proofs.Tryz.prog W 4 CB := opn_bool (by kernel_rfl)
theorem o_int : Opn enc Go.Proofs.Tryz.prog W 3 CI := opn_int (by kernel_rfl)

theorem o_Ent : Opn enc Go.Proofs.Tryz.prog W 210 eEnt := by
  refine opn_conv (opn_struct 3 Go.Proofs.Tryz.underlying210 (by kernel_rfl) (fopn_cons 1 rfl (by kernel_rfl) o_str (fopn_cons 1 rfl (by kernel_rfl) o_bool (fopn_cons 1 rfl (by kernel_rfl) o_str (fopn_nil (by decide))))))
    (fun p => ⟨p.1, p.2.1, p.2.2.1⟩) fun _ => rfl
theorem o_Mark : Opn enc Go.Proofs.Tryz.prog W 251 eMark := by
  refine opn_conv (opn_struct 3 Go.Proofs.Tryz.underlying251 (by kernel_rfl) (fopn_cons 1 rfl (by kernel_rfl) o_str (fopn_cons 1 rfl (by kernel_rfl) o_int (fopn_cons 1 rfl (by kernel_rfl) o_str (fopn_nil (by decide))))))
    (fun p => ⟨p.1, p.2.1, p.2.2.1⟩) fun _ => rfl
theorem o_Ents : Opn enc Go.Proofs.Tryz.prog W 84 eEnts := opn_slice 3 (by kernel_rfl) (by kernel_rfl) (by decide) (fun _ => rfl) o_Ent
theorem o_Marks : Opn enc Go.Proofs.Tryz.prog W 86 eMarks := opn_slice 3 (by kernel_rfl) (by kernel_rfl) (by decide) (fun _ => rfl) o_Mark
theorem o_Markss : Opn enc Go.Proofs.Tryz.prog W 85 eMarkss := opn_slice 1 (by kernel_rfl) (by kernel_rfl) (by decide) (fun _ => rfl) o_Marks
theorem o_Over : Opn enc Go.Proofs.Tryz.prog W 88 eOver := by
  refine opn_conv (opn_struct 3 Go.Proofs.Tryz.underlying88 (by kernel_rfl) (fopn_cons 1 rfl (by kernel_rfl) o_Ents (fopn_cons 1 rfl (by kernel_rfl) o_Markss (fopn_cons 1 rfl (by kernel_rfl) o_Marks (fopn_nil (by decide))))))
    (fun p => ⟨p.1, p.2.1, p.2.2.1⟩) fun _ => rfl


set_option maxRecDepth 100000 in
theorem arg_notstr {r : Reach} {b : Nat} {v : Value} (h : Value.okWide Go.Proofs.Tryz.prog W r b 9 v) : ∀ cs, v ≠ .agg cs := by
  rintro cs rfl
  unfold Value.okWide at h
  rw [Go.Proofs.Tryz.underlying9] at h
  unfold Cell.okWide at h
  rw [Go.Proofs.Tryz.underlying9] at h
  unfold Cell.ok at h
  rw [Go.Proofs.Tryz.underlying9] at h
  exact h
set_option maxRecDepth 100000 in
theorem arg_notcode {r : Reach} {b : Nat} {v : Value} (h : Value.okWide Go.Proofs.Tryz.prog W r b 22 v) : ∀ cs, v ≠ .agg cs := by
  rintro cs rfl
  unfold Value.okWide at h
  rw [Go.Proofs.Tryz.underlying22] at h
  unfold Cell.okWide at h
  rw [Go.Proofs.Tryz.underlying22] at h
  unfold Cell.ok at h
  rw [Go.Proofs.Tryz.underlying22] at h
  exact h
theorem o_Code : Opn enc Go.Proofs.Tryz.prog W 22 eCode := opn_slice (f := fun b : UInt8 => CU b.toNat) 1 (by kernel_rfl) (by kernel_rfl) (by decide) (fun _ => rfl) (opn_u8 (t := 5) (by kernel_rfl))


end

end Go.Proofs.YthblflnfhdnpdaaGreatDoor

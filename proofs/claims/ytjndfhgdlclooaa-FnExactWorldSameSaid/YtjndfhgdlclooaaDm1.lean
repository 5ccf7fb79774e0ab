/- The types of the laws' arguments, opened; the facts of this program that a row asks; no condition. -/
import Derived.Test.YtjndfhgdlclooaaCm1
import Derived.Test.YtjndfhgdlclooaaRows
namespace Go.Proofs.Ytjndfhgdlclooaa
set_option linter.unusedSimpArgs false
set_option linter.unusedVariables false
open Go Go.RowKit Go.WideShapes Go.ChangeShapes Go.ChangeAt

theorem laidOut : laidOutB Go.Proofs.Try.prog = true := by kernel_rfl
theorem ownK : ownKnob Go.Proofs.Try.prog.godebug = none := by kernel_rfl

section
variable {H : Type} {enc : TypeId × Value → H} {W : World}
theorem o_str : Opn enc Go.Proofs.Try.prog W 9 CS := opn_str (by kernel_rfl)
theorem o_bool : Opn enc Go.Proofs.Try.prog W 4 CB := opn_bool (by kernel_rfl)
theorem o_int : Opn enc Go.Proofs.Try.prog W 3 CI := opn_int (by kernel_rfl)
theorem o_Ent : Opn enc Go.Proofs.Try.prog W 102 eEnt := by
  refine opn_conv (opn_struct 3 Go.Proofs.Try.underlying102 (by kernel_rfl) (fopn_cons 1 rfl (by kernel_rfl) o_str (fopn_cons 1 rfl (by kernel_rfl) o_bool (fopn_cons 1 rfl (by kernel_rfl) o_str (fopn_nil (by decide))))))
    (fun p => ⟨p.1, p.2.1, p.2.2.1⟩) fun _ => rfl
theorem o_Mark : Opn enc Go.Proofs.Try.prog W 105 eMark := by
  refine opn_conv (opn_struct 3 Go.Proofs.Try.underlying105 (by kernel_rfl) (fopn_cons 1 rfl (by kernel_rfl) o_str (fopn_cons 1 rfl (by kernel_rfl) o_int (fopn_cons 1 rfl (by kernel_rfl) o_str (fopn_nil (by decide))))))
    (fun p => ⟨p.1, p.2.1, p.2.2.1⟩) fun _ => rfl
theorem o_Ents : Opn enc Go.Proofs.Try.prog W 22 eEnts := opn_slice 3 (by kernel_rfl) (by kernel_rfl) (by decide) (fun _ => rfl) o_Ent
theorem o_Marks : Opn enc Go.Proofs.Try.prog W 24 eMarks := opn_slice 3 (by kernel_rfl) (by kernel_rfl) (by decide) (fun _ => rfl) o_Mark
theorem o_Markss : Opn enc Go.Proofs.Try.prog W 23 eMarkss := opn_slice 1 (by kernel_rfl) (by kernel_rfl) (by decide) (fun _ => rfl) o_Marks
theorem o_Over : Opn enc Go.Proofs.Try.prog W 26 eOver := by
  refine opn_conv (opn_struct 3 Go.Proofs.Try.underlying26 (by kernel_rfl) (fopn_cons 1 rfl (by kernel_rfl) o_Ents (fopn_cons 1 rfl (by kernel_rfl) o_Markss (fopn_cons 1 rfl (by kernel_rfl) o_Marks (fopn_nil (by decide))))))
    (fun p => ⟨p.1, p.2.1, p.2.2.1⟩) fun _ => rfl


theorem o_Op : Opn enc Go.Proofs.Try.prog W 41 eOp := by
  refine opn_conv (opn_struct 4 Go.Proofs.Try.underlying41 (by kernel_rfl) (fopn_cons 1 rfl (by kernel_rfl) o_int (fopn_cons 1 rfl (by kernel_rfl) o_str (fopn_cons 1 rfl (by kernel_rfl) o_str (fopn_cons 1 rfl (by kernel_rfl) o_str (fopn_nil (by decide)))))))
    (fun p => ⟨p.1, p.2.1, p.2.2.1, p.2.2.2.1⟩) fun _ => rfl
theorem o_Lease : Opn enc Go.Proofs.Try.prog W 112 eLease := by
  refine opn_conv (opn_struct 4 Go.Proofs.Try.underlying112 (by kernel_rfl) (fopn_cons 1 rfl (by kernel_rfl) o_int (fopn_cons 1 rfl (by kernel_rfl) o_str (fopn_cons 1 rfl (by kernel_rfl) o_int (fopn_cons 1 rfl (by kernel_rfl) o_int (fopn_nil (by decide)))))))
    (fun p => ⟨p.1, p.2.1, p.2.2.1, p.2.2.2.1⟩) fun _ => rfl
theorem o_Hold : Opn enc Go.Proofs.Try.prog W 117 eHold := by
  refine opn_conv (opn_struct 7 Go.Proofs.Try.underlying117 (by kernel_rfl) (fopn_cons 1 rfl (by kernel_rfl) o_str (fopn_cons 1 rfl (by kernel_rfl) o_bool (fopn_cons 3 rfl (by kernel_rfl) o_Ent (fopn_cons 1 rfl (by kernel_rfl) o_int (fopn_cons 1 rfl (by kernel_rfl) o_int (fopn_nil (by decide))))))))
    (fun p => ⟨p.1, p.2.1, p.2.2.1, p.2.2.2.1, p.2.2.2.2.1⟩) fun _ => rfl
theorem o_Msg : Opn enc Go.Proofs.Try.prog W 119 eMsg := by
  refine opn_conv (opn_struct 9 Go.Proofs.Try.underlying119 (by kernel_rfl) (fopn_cons 1 rfl (by kernel_rfl) o_int (fopn_cons 1 rfl (by kernel_rfl) o_int (fopn_cons 7 rfl (by kernel_rfl) o_Hold (fopn_nil (by decide))))))
    (fun p => ⟨p.1, p.2.1, p.2.2.1⟩) fun _ => rfl
theorem o_Leases : Opn enc Go.Proofs.Try.prog W 36 eLeases := opn_slice 4 (by kernel_rfl) (by kernel_rfl) (by decide) (fun _ => rfl) o_Lease
theorem o_Holds : Opn enc Go.Proofs.Try.prog W 114 eHolds := opn_slice 7 (by kernel_rfl) (by kernel_rfl) (by decide) (fun _ => rfl) o_Hold
theorem o_Holdss : Opn enc Go.Proofs.Try.prog W 37 eHoldss := opn_slice 1 (by kernel_rfl) (by kernel_rfl) (by decide) (fun _ => rfl) o_Holds
theorem o_Msgs : Opn enc Go.Proofs.Try.prog W 39 eMsgs := opn_slice 9 (by kernel_rfl) (by kernel_rfl) (by decide) (fun _ => rfl) o_Msg
theorem o_Ints : Opn enc Go.Proofs.Try.prog W 38 eInts := opn_slice 1 (by kernel_rfl) (by kernel_rfl) (by decide) (fun _ => rfl) o_int
theorem o_Wld : Opn enc Go.Proofs.Try.prog W 43 eWld := by
  refine opn_conv (opn_struct 14 Go.Proofs.Try.underlying43 (by kernel_rfl) (fopn_cons 3 rfl (by kernel_rfl) o_Over (fopn_cons 1 rfl (by kernel_rfl) o_int (fopn_cons 1 rfl (by kernel_rfl) o_int (fopn_cons 1 rfl (by kernel_rfl) o_Leases
    (fopn_cons 1 rfl (by kernel_rfl) o_Holdss (fopn_cons 1 rfl (by kernel_rfl) o_Ints (fopn_cons 1 rfl (by kernel_rfl) o_Msgs (fopn_cons 1 rfl (by kernel_rfl) o_bool (fopn_cons 4 rfl (by kernel_rfl) o_Op (fopn_nil (by decide))))))))))))
    (fun p => ⟨p.1, p.2.1, p.2.2.1, p.2.2.2.1, p.2.2.2.2.1, p.2.2.2.2.2.1, p.2.2.2.2.2.2.1, p.2.2.2.2.2.2.2.1, p.2.2.2.2.2.2.2.2.1⟩) fun _ => rfl


end

end Go.Proofs.Ytjndfhgdlclooaa

/- Contracts: what is done to a tree (reference); no condition. -/
import Derived.Test.YthblflnfhdnpdaaGreatDoorPa4
import Derived.Test.YthblflnfhdnpdaaGreatDoorPb3
namespace Go.Proofs.YthblflnfhdnpdaaGreatDoor
set_option linter.unusedSimpArgs false
set_option linter.unusedVariables false
open Go Go.RowKit


def c_spec_OpOk : XC := (.s (.r [.ex 1 (.box (.t 0)), .ex 2 (.mv .n)]) (.s (.s (.r [.ex 3 (.fa 0 (.t 1)), .ex 4 (.ld false 1 (.t 3)), .ex 5 (.bin .lss (.t 4) (.i 1)), .mv 6 5, .gf 7 (.fa 0 (.t 1)) 6, .gf 8 (.ld false 1 (.t 7)) 6, .gf 9 (.bin .gtr (.t 8) (.i 5)) 6, .ex 10 (.pick (.t 6) .y (.t 9)), .mv 11 10, .gf 12 (.fa 1 (.t 1)) 11, .gf 13 (.ld false 1 (.t 12)) 11, .gf 14 (.call 175 [(.t 13)]) 11, .gf 15 (.un .not (.t 14)) 11, .ex 16 (.pick (.t 11) .y (.t 15))]) (.cnd (.t 16) (.s (.r [.ex 2 (.mv .n)]) .ret) .skip)) (.s (.s (.r [.ex 17 (.fa 0 (.t 1)), .ex 18 (.ld false 1 (.t 17)), .ex 19 (.bin .eql (.t 18) (.i 5))]) (.cnd (.t 19) (.s (.r [.ex 20 (.fa 2 (.t 1)), .ex 21 (.ld false 1 (.t 20)), .ex 22 (.call 175 [(.t 21)]), .mv 23 22, .gt 24 (.fa 3 (.t 1)) 23, .gt 25 (.ld false 1 (.t 24)) 23, .gt 26 (.bin .eql (.t 25) (.s [])) 23, .ex 27 (.pick (.t 23) (.t 26) .n), .mv 2 27]) .ret) .skip)) (.s (.r [.ex 28 (.fa 2 (.t 1)), .ex 29 (.ld false 1 (.t 28)), .ex 30 (.bin .eql (.t 29) (.s [])), .mv 31 30, .gt 32 (.fa 3 (.t 1)) 31, .gt 33 (.ld false 1 (.t 32)) 31, .gt 34 (.call 220 [(.t 33)]) 31, .ex 35 (.pick (.t 31) (.t 34) .n), .mv 36 35, .gt 37 (.fa 0 (.t 1)) 36, .gt 38 (.ld false 1 (.t 37)) 36, .gt 39 (.bin .eql (.t 38) (.i 2)) 36, .gt 40 (.mv (.t 39)) 36, .gf 41 (.fa 3 (.t 1)) 40, .gf 42 (.ld false 1 (.t 41)) 40, .gf 43 (.bin .eql (.t 42) (.s [])) 40, .gt 44 (.pick (.t 40) .y (.t 43)) 36, .ex 45 (.pick (.t 36) (.t 44) .n), .mv 2 45]) .ret))))
theorem c_spec_OpOk_eq : compF Go.Proofs.Tryz.prog [] 161 = some (c_spec_OpOk.ac, [(.t 2)], 46) := by kernel_rfl

theorem f_spec_OpOk (W0 : World) (op : Op) : Fn Go.Proofs.Tryz.prog W0 161 [eOp op] (.c (CB (opOkB op))) [] := by
  refine fnX (c := c_spec_OpOk) mixed c_spec_OpOk_eq (by simp) rfl fun hg => ?_
  refine dr ?_
  refine cP (fun h1 => ?_) (fun h1 => ?_)
  · refine dr ?_
    exact bF (by simp [opOkB]; omega)
  refine dr ?_
  refine cP (fun h2 => ?_) (fun h2 => ?_)
  · refine dr ?_
    exact bF (by simp [opOkB]; omega)
  refine dr ?_
  repeat (refine c0 (f_spec_PathOk W0 _) rfl ?_; first | refine dr ?_ | exact dz)
  refine cP (fun h3 => ?_) (fun h3 => ?_)
  · refine dr ?_
    exact bF (by simp [opOkB, h3])
  have hk : (decide (1 ≤ op.kind) && decide (op.kind ≤ 5)) = true := by simp; omega
  refine dr ?_
  refine cP (fun h4 => ?_) (fun h4 => ?_)
  · refine dEr ?_
    repeat (refine c0 (f_spec_PathOk W0 _) rfl ?_; first | refine dEr ?_ | exact dz)
    have e : opOkB op = (pOk op.dest && op.data == []) := by rw [opOkB, hk, h3, if_pos h4] <;> rfl
    rw [e]
    refine cP (fun h5 => ?_) (fun h5 => ?_)
    · refine dr ?_
      refine congrArg CB ?_
      rw [Bool.eq_iff_iff]; simp [h5, eqS_d]
    · refine dr ?_
      exact bF (by simp [h5])
  have e : opOkB op = (op.dest == [] && (dataOk op.data && (op.kind == 2 || op.data == []))) := by rw [opOkB, hk, h3, if_neg h4] <;> rfl
  rw [e]
  refine dr ?_
  refine cP (fun h5 => ?_) (fun h5 => ?_)
  · refine dEr ?_
    repeat (refine c0 (f_l2Data W0 _) rfl ?_; first | refine dEr ?_ | exact dz)
    refine cP (fun h6 => ?_) (fun h6 => ?_)
    · refine dr ?_
      refine cP (fun h7 => ?_) (fun h7 => ?_)
      · refine dr ?_
        exact bT (by simp [h5, h6, h7])
      · refine dr ?_
        refine congrArg CB ?_
        rw [Bool.eq_iff_iff]; simp [h5, h6, h7, eqS_d]
    · refine dr ?_
      exact bF (by simp [h6])
  · refine dr ?_
    exact bF (by simp [h5])


def c_spec_l2Kids : XC := (.s (.r [.ex 4 (.asn (.k .nil) 1 9)]) (.s (.r [.ex 7 .bsl0, .ex 5 (.asn (.t 7) 1 9)]) (.s (.s (.r [.ex 6 (.mv (.i 0))]) (.blk 0 (.loop (.s (.s (.r [.mv 8 6, .mv 9 0, .ex 10 (.len false (.t 9)), .ex 11 (.bin .lss (.t 8) (.t 10))]) (.cnd (.t 11) .skip (.exit 0))) (.s (.blk 1 (.s (.r [.mv 14 0, .mv 15 6, .ex 16 (.ia 3 (.t 14) (.t 15)), .ex 17 (.fa 0 (.t 16)), .ex 18 (.ld false 1 (.t 17)), .ex 19 (.call 167 [(.t 18)]), .mv 20 1, .ex 21 (.bin .eql (.t 19) (.t 20))]) (.cnd (.t 21) (.r [.mv 22 5, .mv 23 0, .mv 24 6, .ex 25 (.ia 3 (.t 23) (.t 24)), .ex 26 (.fa 0 (.t 25)), .ex 27 (.ld false 1 (.t 26)), .ex 28 (.call 309 [(.t 27)]), .ex 29 (.bsl 1 9 [(.t 28)]), .ex 30 (.app false 1 16 9 (.t 22) (.t 29)), .ex 5 (.asn (.t 30) 1 9)]) .skip))) (.r [.mv 12 6, .ex 13 (.bin .add (.t 12) (.i 1)), .mv 6 13])))))) (.s (.r [.mv 31 5, .ex 4 (.asn (.t 31) 1 9)]) .ret))))
theorem c_spec_l2Kids_eq : compF Go.Proofs.Tryz.prog [] 278 = some (c_spec_l2Kids.ac, [(.t 4)], 32) := by kernel_rfl

theorem f_l2Kids (W0 : World) (t : List Ent) (p : Str) (ht : t.length ≤ 1000000) : Fn Go.Proofs.Tryz.prog W0 278 [eEnts t, CS p] (.c (eStrs (kids t p))) [] := by
  refine fnX (c := c_spec_l2Kids) mixed c_spec_l2Kids_eq (by simp) rfl fun hg => ?_
  refine dr ?_
  refine lp2 (fun (k : Nat) (out : List Ent) => [(0, .c (eEnts t)), (1, .c (CS p)), (5, .own 80 out.length), (6, I k)]) (fun _ out => [(80, .row (out.map fun e => CS (pName e.path)) 1 9)]) (fun k out => k ≤ t.length ∧ out = (t.take k).filter (fun e => pUp e.path == p) ∧ out.length ≤ k) (fun k _ => t.length - k) 0 [] ⟨by simp, rfl, by simp⟩ ?_ ?_
  · refine dr ?_
    trivial
  rintro k out ⟨hk, ho, hle⟩
  refine dr ?_
  refine cP (fun h1 => ?_) (fun h1 => ?_)
  · have hk' : k < t.length := by omega
    refine dEr ?_
    repeat (refine c0 (f_spec_PathUp W0 _) rfl ?_; first | refine dEr ?_ | exact dz)
    refine cP (fun h2 => ?_) (fun h2 => ?_)
    · refine dEr ?_
      repeat ((first | refine c0 (f_spec_PathName W0 _) rfl ?_ | refine oB (by simp; omega) ?_ | refine oB (by simp) ?_); first | refine dEr ?_ | exact dz)
      refine ⟨k + 1, out ++ [t[k]], ⟨by omega, by rw [filt_t hk' (by simp [h2]), ho], by simp; omega⟩, by omega, ?_⟩
      refine dr ?_
      repeat (refine oB (by simp <;> rfl) ?_; first | refine dr ?_ | exact dz)
      trivial
    · refine dr ?_
      refine ⟨k + 1, out, ⟨by omega, by rw [filt_f hk' (by simp [h2]), ho], by omega⟩, by omega, ?_⟩
      refine dr ?_
      trivial
  have hkl : k = t.length := by omega
  rw [hkl, List.take_length] at ho
  refine dr ?_
  repeat (refine oB (by simp) ?_; first | refine dr ?_ | exact dz)
  rw [kids, ← ho]; simp [eStrs]


def c_spec_l2Up : XC := (.s (.r [.ex 4 (.mv (.i 0))]) (.s (.r [.mv 8 0, .mv 9 1, .ex 10 (.call 167 [(.t 9)]), .ex 11 (.call 165 [(.t 8), (.t 10)]), .mv 7 11, .ex 12 (.ext (.t 7) 0), .ex 13 (.ext (.t 7) 1), .ex 5 (.alloc [(.c (.sc (.string ⟨#[]⟩))), (.c (.sc (.bool false))), (.c (.sc (.string ⟨#[]⟩)))]), .nu (.st 3 (.t 5) (.t 12)), .mv 6 13]) (.s (.blk 0 (.s (.r [.mv 15 6, .ex 16 (.un .not (.t 15)), .mv 14 16]) (.cnd (.t 14) (.s (.r [.ex 4 (.mv (.i 2))]) .ret) (.s (.r [.ex 18 (.fa 1 (.t 5)), .ex 19 (.ld false 1 (.t 18)), .ex 20 (.un .not (.t 19)), .mv 17 20]) (.cnd (.t 17) (.s (.r [.ex 4 (.mv (.i 3))]) .ret) .skip))))) (.s (.r [.ex 4 (.mv (.i 0))]) .ret))))
theorem c_spec_l2Up_eq : compF Go.Proofs.Tryz.prog [] 276 = some (c_spec_l2Up.ac, [(.t 4)], 21) := by kernel_rfl

theorem f_l2Up (W0 : World) (t : List Ent) (p : Str) : Fn Go.Proofs.Tryz.prog W0 276 [eEnts t, CS p] (.c (CI (upC t p))) [] := by
  refine fnX (c := c_spec_l2Up) mixed c_spec_l2Up_eq (by simp) rfl fun hg => ?_
  have hc := f_l2Get W0 t (pUp p)
  cases hx : get t (pUp p) with
  | none =>
    rw [hx] at hc
    refine dEr ?_
    repeat ((first | refine c0 (f_spec_PathUp W0 _) rfl ?_ | refine c0 hc rfl ?_); first | refine dEr ?_ | exact dz)
    rw [upC, hx] <;> rfl
  | some e =>
    rw [hx] at hc
    refine dEr ?_
    repeat ((first | refine c0 (f_spec_PathUp W0 _) rfl ?_ | refine c0 hc rfl ?_); first | refine dEr ?_ | exact dz)
    refine cP (fun h1 => ?_) (fun h1 => ?_)
    · refine dr ?_
      rw [upC, hx]; exact congrArg CI (by simp [h1])
    · refine dr ?_
      rw [upC, hx]; exact congrArg CI (by simp [h1])


def c_spec_l2New : XC := (.s (.r [.ex 4 (.mv (.i 0))]) (.s (.r [.mv 8 0, .mv 9 1, .ex 10 (.call 276 [(.t 8), (.t 9)]), .mv 5 10]) (.s (.r [.mv 12 0, .mv 13 1, .ex 14 (.call 165 [(.t 12), (.t 13)]), .mv 11 14, .ex 15 (.ext (.t 11) 0), .ex 16 (.ext (.t 11) 1), .ex 6 (.alloc [(.c (.sc (.string ⟨#[]⟩))), (.c (.sc (.bool false))), (.c (.sc (.string ⟨#[]⟩)))]), .nu (.st 3 (.t 6) (.t 15)), .mv 7 16]) (.s (.blk 0 (.s (.r [.mv 18 5, .ex 19 (.bin .neq (.t 18) (.i 0)), .mv 17 19]) (.cnd (.t 17) (.s (.r [.mv 20 5, .mv 4 20]) .ret) (.s (.r [.mv 22 7, .mv 21 22]) (.cnd (.t 21) (.s (.r [.ex 4 (.mv (.i 4))]) .ret) (.s (.r [.mv 24 0, .ex 25 (.len false (.t 24)), .ex 26 (.bin .geq (.t 25) (.i 16)), .mv 23 26]) (.cnd (.t 23) (.s (.r [.ex 4 (.mv (.i 8))]) .ret) .skip))))))) (.s (.r [.ex 4 (.mv (.i 0))]) .ret)))))
theorem c_spec_l2New_eq : compF Go.Proofs.Tryz.prog [] 235 = some (c_spec_l2New.ac, [(.t 4)], 27) := by kernel_rfl

theorem f_l2New (W0 : World) (t : List Ent) (p : Str) : Fn Go.Proofs.Tryz.prog W0 235 [eEnts t, CS p] (.c (CI (newC t p))) [] := by
  refine fnX (c := c_spec_l2New) mixed c_spec_l2New_eq (by simp) rfl fun hg => ?_
  have hc := f_l2Get W0 t p
  rw [eEntO_eq] at hc
  refine dEr ?_
  repeat ((first | refine c0 (f_l2Up W0 _ _) rfl ?_ | refine c0 hc rfl ?_); first | refine dEr ?_ | exact dz)
  refine cP (fun h1 => ?_) (fun h1 => ?_)
  · refine dr ?_
    rw [newC, if_pos h1]
  have h1' : ¬ upC t p ≠ 0 := fun h => h h1
  refine dr ?_
  refine cP (fun h2 => ?_) (fun h2 => ?_)
  · refine dr ?_
    rw [newC, if_neg h1', if_pos h2] <;> rfl
  have h2' : ¬ (get t p).isSome = true := by simp [h2]
  refine dr ?_
  refine cP (fun h3 => ?_) (fun h3 => ?_)
  · refine dr ?_
    rw [newC, if_neg h1', if_neg h2', if_pos (by omega)] <;> rfl
  · refine dr ?_
    rw [newC, if_neg h1', if_neg h2', if_neg (by omega)] <;> rfl


def c_spec_l2PutCode : XC := (.s (.r [.ex 4 (.mv (.i 0))]) (.s (.r [.mv 8 0, .mv 9 1, .ex 10 (.call 235 [(.t 8), (.t 9)]), .mv 5 10]) (.s (.r [.mv 12 0, .mv 13 1, .ex 14 (.call 165 [(.t 12), (.t 13)]), .mv 11 14, .ex 15 (.ext (.t 11) 0), .ex 16 (.ext (.t 11) 1), .ex 6 (.alloc [(.c (.sc (.string ⟨#[]⟩))), (.c (.sc (.bool false))), (.c (.sc (.string ⟨#[]⟩)))]), .nu (.st 3 (.t 6) (.t 15)), .mv 7 16]) (.s (.s (.r [.mv 17 5, .ex 18 (.bin .eql (.t 17) (.i 4)), .mv 19 18, .gt 20 (.fa 1 (.t 6)) 19, .gt 21 (.ld false 1 (.t 20)) 19, .ex 22 (.pick (.t 19) (.t 21) .n)]) (.cnd (.t 22) (.s (.r [.ex 4 (.mv (.i 5))]) .ret) .skip)) (.s (.s (.r [.mv 23 5, .ex 24 (.bin .eql (.t 23) (.i 4))]) (.cnd (.t 24) (.s (.r [.ex 4 (.mv (.i 0))]) .ret) .skip)) (.s (.r [.mv 25 5, .mv 4 25]) .ret))))))
theorem c_spec_l2PutCode_eq : compF Go.Proofs.Tryz.prog [] 236 = some (c_spec_l2PutCode.ac, [(.t 4)], 26) := by kernel_rfl

theorem f_l2PutCode (W0 : World) (t : List Ent) (p : Str) : Fn Go.Proofs.Tryz.prog W0 236 [eEnts t, CS p] (.c (CI (putC t p))) [] := by
  refine fnX (c := c_spec_l2PutCode) mixed c_spec_l2PutCode_eq (by simp) rfl fun hg => ?_
  have hc := f_l2Get W0 t p
  rw [eEntO_eq] at hc
  refine dEr ?_
  repeat ((first | refine c0 (f_l2New W0 _ _) rfl ?_ | refine c0 hc rfl ?_); first | refine dEr ?_ | exact dz)
  refine cP (fun h1 => ?_) (fun h1 => ?_)
  · refine dr ?_
    refine cP (fun h2 => ?_) (fun h2 => ?_)
    · refine dr ?_
      rw [putC, if_pos h1, if_pos h2] <;> rfl
    · refine dr ?_
      refine cP (fun h3 => ?_) (fun h3 => ?_)
      · refine dr ?_
        rw [putC, if_pos h1, if_neg (by simp [h2])] <;> rfl
      · exact absurd h1 h3
  · refine dr ?_
    refine cP (fun h3 => ?_) (fun h3 => ?_)
    · exact absurd h3 h1
    · refine dr ?_
      rw [putC, if_neg h1]


def c_spec_l2OffCode : XC := (.s (.r [.ex 3 (.box (.t 1)), .ex 4 (.mv (.i 0))]) (.s (.r [.mv 8 0, .ex 9 (.fa 1 (.t 3)), .ex 10 (.ld false 1 (.t 9)), .ex 11 (.call 165 [(.t 8), (.t 10)]), .mv 7 11, .ex 12 (.ext (.t 7) 0), .ex 13 (.ext (.t 7) 1), .ex 5 (.alloc [(.c (.sc (.string ⟨#[]⟩))), (.c (.sc (.bool false))), (.c (.sc (.string ⟨#[]⟩)))]), .nu (.st 3 (.t 5) (.t 12)), .mv 6 13]) (.s (.blk 0 (.s (.r [.mv 15 6, .ex 16 (.un .not (.t 15)), .mv 14 16]) (.cnd (.t 14) (.s (.r [.ex 4 (.mv (.i 2))]) .ret) (.s (.r [.ex 18 (.fa 0 (.t 3)), .ex 19 (.ld false 1 (.t 18)), .ex 20 (.bin .eql (.t 19) (.i 3)), .mv 21 20, .gt 22 (.fa 1 (.t 5)) 21, .gt 23 (.ld false 1 (.t 22)) 21, .ex 24 (.pick (.t 21) (.t 23) .n), .mv 17 24]) (.cnd (.t 17) (.s (.r [.ex 4 (.mv (.i 5))]) .ret) (.s (.r [.ex 26 (.fa 0 (.t 3)), .ex 27 (.ld false 1 (.t 26)), .ex 28 (.bin .eql (.t 27) (.i 4)), .mv 29 28, .gt 30 (.fa 1 (.t 5)) 29, .gt 31 (.ld false 1 (.t 30)) 29, .gt 32 (.un .not (.t 31)) 29, .ex 33 (.pick (.t 29) (.t 32) .n), .mv 25 33]) (.cnd (.t 25) (.s (.r [.ex 4 (.mv (.i 3))]) .ret) (.s (.r [.mv 35 0, .ex 36 (.fa 1 (.t 3)), .ex 37 (.ld false 1 (.t 36)), .ex 38 (.call 278 [(.t 35), (.t 37)]), .ex 39 (.len false (.t 38)), .ex 40 (.bin .gtr (.t 39) (.i 0)), .mv 34 40]) (.cnd (.t 34) (.s (.r [.ex 4 (.mv (.i 6))]) .ret) .skip))))))))) (.s (.r [.ex 4 (.mv (.i 0))]) .ret))))
theorem c_spec_l2OffCode_eq : compF Go.Proofs.Tryz.prog [] 238 = some (c_spec_l2OffCode.ac, [(.t 4)], 41) := by kernel_rfl

theorem f_l2OffCode (W0 : World) (t : List Ent) (op : Op) (ht : t.length ≤ 1000000) : Fn Go.Proofs.Tryz.prog W0 238 [eEnts t, eOp op] (.c (CI (offC t op))) [] := by
  refine fnX (c := c_spec_l2OffCode) mixed c_spec_l2OffCode_eq (by simp) rfl fun hg => ?_
  have hc := f_l2Get W0 t op.path
  cases hx : get t op.path with
  | none =>
    rw [hx] at hc
    refine dEr ?_
    repeat (refine c0 hc rfl ?_; first | refine dEr ?_ | exact dz)
    rw [offC, hx] <;> rfl
  | some e =>
    rw [hx] at hc
    have e0 : offC t op = if op.kind = 3 ∧ e.dir = true then 5 else if op.kind = 4 ∧ e.dir = false then 3 else if 0 < (kids t op.path).length then 6 else 0 := by rw [offC, hx]
    rw [e0]
    have rest : ∀ {A : Prop}, A → A := fun a => a
    refine dEr ?_
    repeat (refine c0 hc rfl ?_; first | refine dEr ?_ | exact dz)
    refine cP (fun h1 => ?_) (fun h1 => ?_)
    · refine dr ?_
      refine cP (fun h2 => ?_) (fun h2 => ?_)
      · refine dr ?_
        rw [if_pos ⟨h1, h2⟩] <;> rfl
      · have n1 : ¬ (op.kind = 3 ∧ e.dir = true) := by simp [h2]
        have n2 : ¬ (op.kind = 4 ∧ e.dir = false) := by omega
        rw [if_neg n1, if_neg n2]
        refine dr ?_
        refine cP (fun h3 => ?_) (fun h3 => ?_)
        · omega
        · refine dEr ?_
          repeat (refine c0 (f_l2Kids W0 _ _ ht) rfl ?_; first | refine dEr ?_ | exact dz)
          refine cP (fun h4 => ?_) (fun h4 => ?_)
          · refine dr ?_
            rw [if_pos (by omega)] <;> rfl
          · refine dr ?_
            rw [if_neg (by omega)] <;> rfl
    · have n1 : ¬ (op.kind = 3 ∧ e.dir = true) := fun h => h1 h.1
      rw [if_neg n1]
      refine dr ?_
      refine cP (fun h3 => ?_) (fun h3 => ?_)
      · refine dr ?_
        refine cP (fun h2 => ?_) (fun h2 => ?_)
        · refine dr ?_
          rw [if_pos ⟨h3, by simpa using h2⟩] <;> rfl
        · rw [if_neg (fun h => by rw [h.2] at h2; simp at h2)]
          refine dEr ?_
          repeat (refine c0 (f_l2Kids W0 _ _ ht) rfl ?_; first | refine dEr ?_ | exact dz)
          refine cP (fun h4 => ?_) (fun h4 => ?_)
          · refine dr ?_
            rw [if_pos (by omega)] <;> rfl
          · refine dr ?_
            rw [if_neg (by omega)] <;> rfl
      · rw [if_neg (fun h => h3 h.1)]
        refine dEr ?_
        repeat (refine c0 (f_l2Kids W0 _ _ ht) rfl ?_; first | refine dEr ?_ | exact dz)
        refine cP (fun h4 => ?_) (fun h4 => ?_)
        · refine dr ?_
          rw [if_pos (by omega)] <;> rfl
        · refine dr ?_
          rw [if_neg (by omega)] <;> rfl


def c_spec_l2MoveCode : XC := (.s (.r [.ex 3 (.box (.t 1)), .ex 4 (.mv (.i 0))]) (.s (.r [.mv 14 0, .ex 15 (.fa 1 (.t 3)), .ex 16 (.ld false 1 (.t 15)), .ex 17 (.call 165 [(.t 14), (.t 16)]), .mv 13 17, .ex 18 (.ext (.t 13) 0), .ex 19 (.ext (.t 13) 1), .ex 5 (.alloc [(.c (.sc (.string ⟨#[]⟩))), (.c (.sc (.bool false))), (.c (.sc (.string ⟨#[]⟩)))]), .nu (.st 3 (.t 5) (.t 18)), .mv 6 19]) (.s (.r [.mv 20 0, .ex 21 (.fa 2 (.t 3)), .ex 22 (.ld false 1 (.t 21)), .ex 23 (.call 276 [(.t 20), (.t 22)]), .mv 7 23]) (.s (.r [.mv 25 0, .ex 26 (.fa 2 (.t 3)), .ex 27 (.ld false 1 (.t 26)), .ex 28 (.call 165 [(.t 25), (.t 27)]), .mv 24 28, .ex 29 (.ext (.t 24) 0), .ex 30 (.ext (.t 24) 1), .ex 8 (.alloc [(.c (.sc (.string ⟨#[]⟩))), (.c (.sc (.bool false))), (.c (.sc (.string ⟨#[]⟩)))]), .nu (.st 3 (.t 8) (.t 29)), .mv 9 30]) (.s (.blk 0 (.s (.r [.mv 32 6, .ex 33 (.un .not (.t 32)), .mv 31 33]) (.cnd (.t 31) (.s (.r [.ex 4 (.mv (.i 2))]) .ret) (.s (.r [.mv 35 7, .ex 36 (.bin .neq (.t 35) (.i 0)), .mv 34 36]) (.cnd (.t 34) (.s (.r [.mv 37 7, .mv 4 37]) .ret) (.s (.r [.mv 39 9, .mv 38 39]) (.cnd (.t 38) (.s (.r [.ex 4 (.mv (.i 4))]) .ret) (.s (.r [.ex 41 (.fa 2 (.t 3)), .ex 42 (.ld false 1 (.t 41)), .ex 43 (.fa 1 (.t 3)), .ex 44 (.ld false 1 (.t 43)), .ex 45 (.call 270 [(.t 42), (.t 44)]), .mv 40 45]) (.cnd (.t 40) (.s (.r [.ex 4 (.mv (.i 7))]) .ret) .skip))))))))) (.s (.s (.r [.ex 10 (.mv (.i 0))]) (.blk 1 (.loop (.s (.s (.r [.mv 46 10, .mv 47 0, .ex 48 (.len false (.t 47)), .ex 49 (.bin .lss (.t 46) (.t 48))]) (.cnd (.t 49) .skip (.exit 1))) (.s (.blk 2 (.s (.d [.mv 53 0, .mv 54 10, .ex 55 (.ia 3 (.t 53) (.t 54)), .ex 56 (.fa 0 (.t 55)), .ex 57 (.ld false 1 (.t 56)), .ex 58 (.fa 1 (.t 3)), .ex 59 (.ld false 1 (.t 58)), .ex 60 (.fa 2 (.t 3)), .ex 61 (.ld false 1 (.t 60)), .ex 62 (.call 277 [(.t 57), (.t 59), (.t 61)]), .mv 52 62, .ex 63 (.ext (.t 52) 0), .ex 64 (.ext (.t 52) 1), .mv 11 63, .mv 12 64]) (.s (.r [.mv 65 12, .ex 66 (.un .not (.t 65))]) (.cnd (.t 66) (.s (.r [.ex 4 (.mv (.i 8))]) .ret) .skip)))) (.r [.mv 50 10, .ex 51 (.bin .add (.t 50) (.i 1)), .mv 10 51])))))) (.s (.r [.ex 4 (.mv (.i 0))]) .ret)))))))
theorem c_spec_l2MoveCode_eq : compF Go.Proofs.Tryz.prog [] 237 = some (c_spec_l2MoveCode.ac, [(.t 4)], 67) := by kernel_rfl

theorem f_l2MoveCode (W0 : World) (t : List Ent) (op : Op) (ht : t.length ≤ 1000000) : Fn Go.Proofs.Tryz.prog W0 237 [eEnts t, eOp op] (.c (CI (movC t op))) [] := by
  refine fnX (c := c_spec_l2MoveCode) mixed c_spec_l2MoveCode_eq (by simp) rfl fun hg => ?_
  have hc := f_l2Get W0 t op.path
  rw [eEntO_eq] at hc
  have hc2 := f_l2Get W0 t op.dest
  rw [eEntO_eq] at hc2
  refine dEr ?_
  repeat ((first | refine c0 hc rfl ?_ | refine c0 hc2 rfl ?_ | refine c0 (f_l2Up W0 _ _) rfl ?_); first | refine dEr ?_ | exact dz)
  refine cP (fun h1 => ?_) (fun h1 => ?_)
  rotate_left
  · have h1' : (get t op.path).isSome = true := by simpa using h1
    refine dr ?_
    refine cP (fun h2 => ?_) (fun h2 => ?_)
    · refine dr ?_
      rw [movC, if_neg (by simp [h1']), if_pos h2]
    have h2' : ¬ upC t op.dest ≠ 0 := fun h => h h2
    refine dr ?_
    refine cP (fun h3 => ?_) (fun h3 => ?_)
    · refine dr ?_
      rw [movC, if_neg (by simp [h1']), if_neg h2', if_pos h3] <;> rfl
    refine dEr ?_
    repeat (refine c0 (f_l1Under W0 _ _) rfl ?_; first | refine dEr ?_ | exact dz)
    refine cP (fun h4 => ?_) (fun h4 => ?_)
    · refine dr ?_
      rw [movC, if_neg (by simp [h1']), if_neg h2', if_neg (by simp [h3]), if_pos h4] <;> rfl
    have e : movC t op = if t.all (fun e => (pMove e.path op.path op.dest).isSome) = true then 0 else 8 := by rw [movC, if_neg (by simp [h1']), if_neg h2', if_neg (by simp [h3]), if_neg (by simp [h4])]
    rw [e]
    refine dr ?_
    refine lp (σ := Nat) (fun k => [(0, .c (eEnts t)), (3, .ptr 48 0), (10, I k)]) (fun _ => [(48, .box [.c (CI op.kind), .c (CS op.path), .c (CS op.dest), .c (CS op.data)])]) (fun k => k ≤ t.length ∧ (t.take k).all (fun e => (pMove e.path op.path op.dest).isSome) = true) (fun k => t.length - k) 0 ⟨by simp, by simp⟩ ?_ ?_
    · refine dr ?_
      trivial
    rintro k ⟨hk, ha⟩
    refine dr ?_
    refine cP (fun h5 => ?_) (fun h5 => ?_)
    · have hk' : k < t.length := by omega
      have hp := f_spec_PathMove W0 t[k].path op.path op.dest
      rw [eOpt_eq] at hp
      refine dEr ?_
      repeat (refine c0 hp rfl ?_; first | refine dEr ?_ | exact dz)
      refine cP (fun h6 => ?_) (fun h6 => ?_)
      · refine dr ?_
        rw [if_neg (by rw [all_no hk' (by simpa using h6)]; simp)] <;> rfl
      · refine dr ?_
        refine ⟨k + 1, ⟨by omega, take_all hk' ha (by simpa using h6)⟩, by omega, ?_⟩
        refine dr ?_
        trivial
    · have hkl : k = t.length := by omega
      rw [hkl, List.take_length] at ha
      refine dr ?_
      rw [if_pos ha] <;> rfl
  · refine dr ?_
    rw [movC, if_pos (by simpa using h1)] <;> rfl


def c_spec_l2Code : XC := (.s (.r [.ex 3 (.box (.t 1)), .ex 4 (.mv (.i 0))]) (.s (.s (.r [.ex 5 (.fa 0 (.t 3)), .ex 6 (.ld false 1 (.t 5))]) (.blk 0 (.s (.r [.ex 8 (.bin .eql (.t 6) (.i 1)), .mv 7 8]) (.cnd (.t 7) (.s (.r [.mv 9 0, .ex 10 (.fa 1 (.t 3)), .ex 11 (.ld false 1 (.t 10)), .ex 12 (.call 235 [(.t 9), (.t 11)]), .mv 4 12]) .ret) (.s (.r [.ex 14 (.bin .eql (.t 6) (.i 2)), .mv 13 14]) (.cnd (.t 13) (.s (.r [.mv 15 0, .ex 16 (.fa 1 (.t 3)), .ex 17 (.ld false 1 (.t 16)), .ex 18 (.call 236 [(.t 15), (.t 17)]), .mv 4 18]) .ret) (.s (.r [.ex 20 (.bin .eql (.t 6) (.i 5)), .mv 19 20]) (.cnd (.t 19) (.s (.r [.mv 21 0, .ex 22 (.ld true 4 (.t 3)), .ex 23 (.call 237 [(.t 21), (.t 22)]), .mv 4 23]) .ret) .skip)))))))) (.s (.r [.mv 24 0, .ex 25 (.ld true 4 (.t 3)), .ex 26 (.call 238 [(.t 24), (.t 25)]), .mv 4 26]) .ret)))
theorem c_spec_l2Code_eq : compF Go.Proofs.Tryz.prog [] 162 = some (c_spec_l2Code.ac, [(.t 4)], 27) := by kernel_rfl

theorem f_l2Code (W0 : World) (t : List Ent) (op : Op) (ht : t.length ≤ 1000000) : Fn Go.Proofs.Tryz.prog W0 162 [eEnts t, eOp op] (.c (CI (codeT t op))) [] := by
  refine fnX (c := c_spec_l2Code) mixed c_spec_l2Code_eq (by simp) rfl fun hg => ?_
  refine dr ?_
  refine cP (fun h1 => ?_) (fun h1 => ?_)
  · refine dEr ?_
    repeat (refine c0 (f_l2New W0 _ _) rfl ?_; first | refine dEr ?_ | exact dz)
    rw [codeT, if_pos h1]
  refine dr ?_
  refine cP (fun h2 => ?_) (fun h2 => ?_)
  · refine dEr ?_
    repeat (refine c0 (f_l2PutCode W0 _ _) rfl ?_; first | refine dEr ?_ | exact dz)
    rw [codeT, if_neg h1, if_pos h2]
  refine dr ?_
  refine cP (fun h3 => ?_) (fun h3 => ?_)
  · refine dEr ?_
    repeat (refine c0 (f_l2MoveCode W0 _ op ht) rfl ?_; first | refine dEr ?_ | exact dz)
    rw [codeT, if_neg h1, if_neg h2, if_pos h3]
  refine dEr ?_
  repeat (refine c0 (f_l2OffCode W0 _ op ht) rfl ?_; first | refine dEr ?_ | exact dz)
  rw [codeT, if_neg h1, if_neg h2, if_neg h3]


end Go.Proofs.YthblflnfhdnpdaaGreatDoor

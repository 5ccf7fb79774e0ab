/- Contracts: what the program does to a tree: its codes; no condition but one on a package variable that start-up code lays. -/
import Derived.Test.YthblflnfhdnpdaaGreatDoorIb4
import Derived.Test.YthblflnfhdnpdaaGreatDoorQa7
namespace Go.Proofs.YthblflnfhdnpdaaGreatDoor
set_option linter.unusedSimpArgs false
set_option linter.unusedVariables false
open Go Go.RowKit


def c_impl_OpOk : XC := (.s (.r [.ex 1 (.box (.t 0)), .ex 2 (.mv .n)]) (.s (.s (.r [.ex 3 (.fa 1 (.t 1)), .ex 4 (.ld false 1 (.t 3)), .ex 5 (.call 112 [(.t 4)]), .ex 6 (.un .not (.t 5))]) (.cnd (.t 6) (.s (.r [.ex 2 (.mv .n)]) .ret) .skip)) (.s (.s (.r [.ex 7 (.fa 0 (.t 1)), .ex 8 (.ld false 1 (.t 7))]) (.blk 0 (.s (.r [.ex 10 (.bin .eql (.t 8) (.i 5)), .mv 9 10]) (.cnd (.t 9) (.s (.r [.ex 11 (.fa 2 (.t 1)), .ex 12 (.ld false 1 (.t 11)), .ex 13 (.call 112 [(.t 12)]), .mv 14 13, .gt 15 (.fa 3 (.t 1)) 14, .gt 16 (.ld false 1 (.t 15)) 14, .gt 17 (.bin .eql (.t 16) (.s [])) 14, .ex 18 (.pick (.t 14) (.t 17) .n), .mv 2 18]) .ret) (.s (.r [.ex 20 (.bin .eql (.t 8) (.i 2)), .mv 19 20]) (.cnd (.t 19) (.s (.r [.ex 21 (.fa 2 (.t 1)), .ex 22 (.ld false 1 (.t 21)), .ex 23 (.bin .eql (.t 22) (.s [])), .mv 24 23, .gt 25 (.fa 3 (.t 1)) 24, .gt 26 (.ld false 1 (.t 25)) 24, .gt 27 (.call 174 [(.t 26)]) 24, .ex 28 (.pick (.t 24) (.t 27) .n), .mv 2 28]) .ret) (.s (.s (.r [.ex 30 (.bin .eql (.t 8) (.i 1)), .mv 29 30]) (.cnd (.t 29) .skip (.s (.r [.ex 31 (.bin .eql (.t 8) (.i 3)), .mv 29 31]) (.cnd (.t 29) .skip (.r [.ex 32 (.bin .eql (.t 8) (.i 4)), .mv 29 32]))))) (.cnd (.t 29) (.s (.r [.ex 33 (.fa 2 (.t 1)), .ex 34 (.ld false 1 (.t 33)), .ex 35 (.bin .eql (.t 34) (.s [])), .mv 36 35, .gt 37 (.fa 3 (.t 1)) 36, .gt 38 (.ld false 1 (.t 37)) 36, .gt 39 (.bin .eql (.t 38) (.s [])) 36, .ex 40 (.pick (.t 36) (.t 39) .n), .mv 2 40]) .ret) .skip)))))))) (.s (.r [.ex 2 (.mv .n)]) .ret))))
theorem c_impl_OpOk_eq : compF Go.Proofs.Tryz.prog [] 226 = some (c_impl_OpOk.ac, [(.t 2)], 41) := by kernel_rfl

theorem f_impl_OpOk (W0 : World) (hM : HM W0) (op : Op) : Fn Go.Proofs.Tryz.prog W0 226 [eOp op] (.c (CB (opOkB op))) [] := by
  refine fnX (c := c_impl_OpOk) mixed c_impl_OpOk_eq (by simp) rfl fun hg => ?_
  have ht : ∀ b : Bool, b = opOkB op → CB b = CB (opOkB op) := fun b h => by rw [h]
  refine dEr ?_
  repeat (refine c0 (f_impl_PathOk W0 hM _) rfl ?_; first | refine dEr ?_ | exact dz)
  refine cP (fun h1 => ?_) (fun h1 => ?_)
  · refine dr ?_
    exact ht _ (by simp [opOkB, h1])
  refine dr ?_
  refine cP (fun h2 => ?_) (fun h2 => ?_)
  · refine dEr ?_
    repeat (refine c0 (f_impl_PathOk W0 hM _) rfl ?_; first | refine dEr ?_ | exact dz)
    refine cP (fun h3 => ?_) (fun h3 => ?_)
    · refine dr ?_
      exact ht _ (by rw [eqS_d]; simp [opOkB, h1, h2, h3])
    · refine dr ?_
      exact ht _ (by simp [opOkB, h2, h3])
  refine dr ?_
  refine cP (fun h3 => ?_) (fun h3 => ?_)
  · refine dr ?_
    refine cP (fun h4 => ?_) (fun h4 => ?_)
    · refine dEr ?_
      repeat (refine c0 (f_dataOk W0 _) rfl ?_; first | refine dEr ?_ | exact dz)
      exact ht _ (by simp [opOkB, h1, h3, h4])
    · refine dr ?_
      exact ht _ (by simp [opOkB, h3, h4])
  refine dr ?_
  refine cP (fun h4 => ?_) (fun h4 => ?_)
  · refine dr ?_
    refine cP (fun h8 => ?_) (fun h8 => ?_)
    rotate_left
    · exact absurd h4 h8
    refine dr ?_
    refine cP (fun h9 => ?_) (fun h9 => ?_)
    · refine dr ?_
      exact ht _ (by rw [eqS_d]; simp [opOkB, h1, h8, h9]; intro hd; rw [hd]; decide)
    · refine dr ?_
      exact ht _ (by simp [opOkB, h8, h9])
  refine dr ?_
  refine cP (fun h5 => ?_) (fun h5 => ?_)
  · refine dr ?_
    refine cP (fun h8 => ?_) (fun h8 => ?_)
    rotate_left
    · exact absurd h5 h8
    refine dr ?_
    refine cP (fun h9 => ?_) (fun h9 => ?_)
    · refine dr ?_
      exact ht _ (by rw [eqS_d]; simp [opOkB, h1, h8, h9]; intro hd; rw [hd]; decide)
    · refine dr ?_
      exact ht _ (by simp [opOkB, h8, h9])
  refine dr ?_
  refine cP (fun h8 => ?_) (fun h8 => ?_)
  · refine dr ?_
    refine cP (fun h9 => ?_) (fun h9 => ?_)
    · refine dr ?_
      exact ht _ (by rw [eqS_d]; simp [opOkB, h1, h8, h9]; intro hd; rw [hd]; decide)
    · refine dr ?_
      exact ht _ (by simp [opOkB, h8, h9])
  refine dr ?_
  exact ht _ (by
    have : ¬ (1 ≤ op.kind ∧ op.kind ≤ 5) := by omega
    unfold opOkB
    by_cases h8 : 1 ≤ op.kind
    · have : ¬ op.kind ≤ 5 := by omega
      simp [this]
    · simp [h8])


def c_impl_makeCode : XC := (.s (.r [.ex 3 (.box (.t 1)), .ex 4 (.mv (.i 0))]) (.s (.s (.r [.mv 8 0, .ex 9 (.fa 1 (.t 3)), .ex 10 (.ld false 1 (.t 9)), .ex 11 (.call 157 [(.t 8), (.t 10)]), .mv 5 11]) (.s (.r [.mv 12 5, .ex 13 (.bin .neq (.t 12) (.i 0))]) (.cnd (.t 13) (.s (.r [.mv 14 5, .mv 4 14]) .ret) .skip))) (.s (.s (.r [.mv 16 0, .ex 17 (.fa 1 (.t 3)), .ex 18 (.ld false 1 (.t 17)), .ex 19 (.call 99 [(.t 16), (.t 18)]), .mv 15 19, .ex 20 (.ext (.t 15) 0), .ex 21 (.ext (.t 15) 1), .ex 6 (.alloc [(.c (.sc (.string ⟨#[]⟩))), (.c (.sc (.bool false))), (.c (.sc (.string ⟨#[]⟩)))]), .nu (.st 3 (.t 6) (.t 20)), .mv 7 21]) (.s (.r [.mv 22 7]) (.cnd (.t 22) (.s (.r [.ex 4 (.mv (.i 4))]) .ret) .skip))) (.s (.s (.r [.mv 23 0, .ex 24 (.len false (.t 23)), .ex 25 (.bin .geq (.t 24) (.i 16))]) (.cnd (.t 25) (.s (.r [.ex 4 (.mv (.i 8))]) .ret) .skip)) (.s (.r [.ex 4 (.mv (.i 0))]) .ret)))))
theorem c_impl_makeCode_eq : compF Go.Proofs.Tryz.prog [] 227 = some (c_impl_makeCode.ac, [(.t 4)], 26) := by kernel_rfl

theorem f_makeCode (W0 : World) (hM : HM W0) (t : List Ent) (op : Op) (hp : pOk op.path = true) : Fn Go.Proofs.Tryz.prog W0 227 [eEnts t, eOp op] (.c (CI (newC t op.path))) [] := by
  refine fnX (c := c_impl_makeCode) mixed c_impl_makeCode_eq (by simp) rfl fun hg => ?_
  have h0 := f_upCode W0 hM t op.path
  rw [upC2_eq] at h0
  have h1 := f_entAt W0 t op.path
  rw [eEntO_eq] at h1
  have e : newC t op.path = if upC t op.path ≠ 0 then upC t op.path else if (find t op.path).isSome = true then 4 else if 16 ≤ t.length then 8 else 0 := by rw [← get_find hp]; rfl
  refine dEr ?_
  repeat (refine c0 h0 rfl ?_; first | refine dEr ?_ | exact dz)
  refine cP (fun h2 => ?_) (fun h2 => ?_)
  · refine dr ?_
    rw [e, if_pos h2]
  refine dEr ?_
  repeat (refine c0 h1 rfl ?_; first | refine dEr ?_ | exact dz)
  refine cP (fun h3 => ?_) (fun h3 => ?_)
  · refine dr ?_
    rw [e, if_neg (by simp [h2]), if_pos h3]
  refine dr ?_
  refine cP (fun h4 => ?_) (fun h4 => ?_)
  · refine dr ?_
    rw [e, if_neg (by simp [h2]), if_neg (by simp [h3]), if_pos (by omega)]
  · refine dr ?_
    rw [e, if_neg (by simp [h2]), if_neg (by simp [h3]), if_neg (by omega)]


def c_impl_putCode : XC := (.s (.r [.ex 3 (.box (.t 1)), .ex 4 (.mv (.i 0))]) (.s (.s (.r [.mv 8 0, .ex 9 (.fa 1 (.t 3)), .ex 10 (.ld false 1 (.t 9)), .ex 11 (.call 157 [(.t 8), (.t 10)]), .mv 5 11]) (.s (.r [.mv 12 5, .ex 13 (.bin .neq (.t 12) (.i 0))]) (.cnd (.t 13) (.s (.r [.mv 14 5, .mv 4 14]) .ret) .skip))) (.s (.r [.mv 16 0, .ex 17 (.fa 1 (.t 3)), .ex 18 (.ld false 1 (.t 17)), .ex 19 (.call 99 [(.t 16), (.t 18)]), .mv 15 19, .ex 20 (.ext (.t 15) 0), .ex 21 (.ext (.t 15) 1), .ex 6 (.alloc [(.c (.sc (.string ⟨#[]⟩))), (.c (.sc (.bool false))), (.c (.sc (.string ⟨#[]⟩)))]), .nu (.st 3 (.t 6) (.t 20)), .mv 7 21]) (.s (.s (.r [.mv 22 7, .mv 23 22, .gt 24 (.fa 1 (.t 6)) 23, .gt 25 (.ld false 1 (.t 24)) 23, .ex 26 (.pick (.t 23) (.t 25) .n)]) (.cnd (.t 26) (.s (.r [.ex 4 (.mv (.i 5))]) .ret) .skip)) (.s (.s (.r [.mv 27 7, .ex 28 (.un .not (.t 27)), .mv 29 28, .gt 30 (.mv (.t 0)) 29, .gt 31 (.len false (.t 30)) 29, .gt 32 (.bin .geq (.t 31) (.i 16)) 29, .ex 33 (.pick (.t 29) (.t 32) .n)]) (.cnd (.t 33) (.s (.r [.ex 4 (.mv (.i 8))]) .ret) .skip)) (.s (.r [.ex 4 (.mv (.i 0))]) .ret))))))
theorem c_impl_putCode_eq : compF Go.Proofs.Tryz.prog [] 228 = some (c_impl_putCode.ac, [(.t 4)], 34) := by kernel_rfl

theorem f_putCode (W0 : World) (hM : HM W0) (t : List Ent) (op : Op) (hp : pOk op.path = true) : Fn Go.Proofs.Tryz.prog W0 228 [eEnts t, eOp op] (.c (CI (putC t op.path))) [] := by
  refine fnX (c := c_impl_putCode) mixed c_impl_putCode_eq (by simp) rfl fun hg => ?_
  have h0 := f_upCode W0 hM t op.path
  rw [upC2_eq] at h0
  have h1 := f_entAt W0 t op.path
  rw [eEntO_eq] at h1
  have e : newC t op.path = if upC t op.path ≠ 0 then upC t op.path else if (find t op.path).isSome = true then 4 else if 16 ≤ t.length then 8 else 0 := by rw [← get_find hp]; rfl
  have hu : upC t op.path ≠ 4 := by unfold upC; split <;> (try split) <;> omega
  have e2 : putC t op.path = if upC t op.path ≠ 0 then upC t op.path else if (find t op.path).isSome = true then (if ((find t op.path).getD noE).dir = true then 5 else 0) else if 16 ≤ t.length then 8 else 0 := by
    unfold putC
    rw [e, get_find hp]
    by_cases h2 : upC t op.path ≠ 0
    · rw [if_pos h2, if_pos h2, if_neg hu]
    · rw [if_neg h2, if_neg h2]
      by_cases h3 : (find t op.path).isSome = true
      · rw [if_pos h3, if_pos h3, if_pos rfl]
      · rw [if_neg h3, if_neg h3, if_neg (by split <;> omega)]
  rw [e2]
  refine dEr ?_
  repeat (refine c0 h0 rfl ?_; first | refine dEr ?_ | exact dz)
  refine cP (fun h2 => ?_) (fun h2 => ?_)
  · refine dr ?_
    rw [if_pos h2]
  rw [if_neg (by simp [h2])]
  refine dEr ?_
  repeat (refine c0 h1 rfl ?_; first | refine dEr ?_ | exact dz)
  refine cP (fun h3 => ?_) (fun h3 => ?_)
  · rw [if_pos h3]
    refine dr ?_
    refine cP (fun h4 => ?_) (fun h4 => ?_)
    · refine dr ?_
      rw [if_pos h4]
    · rw [if_neg (by simp [h4])]
      refine dr ?_
      refine cP (fun h5 => ?_) (fun h5 => ?_)
      · rw [h3] at h5; cases h5
      · exact dz
  · rw [if_neg (by simp [h3])]
    refine dr ?_
    refine cP (fun h5 => ?_) (fun h5 => ?_)
    · refine dr ?_
      refine cP (fun h6 => ?_) (fun h6 => ?_)
      · refine dr ?_
        rw [if_pos (by omega)]
      · refine dr ?_
        rw [if_neg (by omega)]
    · rw [h3] at h5; cases h5


def c_impl_rmCode : XC := (.s (.r [.ex 3 (.box (.t 1)), .ex 4 (.mv (.i 0))]) (.s (.r [.mv 8 0, .ex 9 (.fa 1 (.t 3)), .ex 10 (.ld false 1 (.t 9)), .ex 11 (.call 99 [(.t 8), (.t 10)]), .mv 7 11, .ex 12 (.ext (.t 7) 0), .ex 13 (.ext (.t 7) 1), .ex 5 (.alloc [(.c (.sc (.string ⟨#[]⟩))), (.c (.sc (.bool false))), (.c (.sc (.string ⟨#[]⟩)))]), .nu (.st 3 (.t 5) (.t 12)), .mv 6 13]) (.s (.s (.r [.mv 14 6, .ex 15 (.un .not (.t 14))]) (.cnd (.t 15) (.s (.r [.ex 4 (.mv (.i 2))]) .ret) .skip)) (.s (.s (.r [.ex 16 (.fa 1 (.t 5)), .ex 17 (.ld false 1 (.t 16))]) (.cnd (.t 17) (.s (.r [.ex 4 (.mv (.i 5))]) .ret) .skip)) (.s (.r [.ex 4 (.mv (.i 0))]) .ret)))))
theorem c_impl_rmCode_eq : compF Go.Proofs.Tryz.prog [] 229 = some (c_impl_rmCode.ac, [(.t 4)], 18) := by kernel_rfl

theorem f_rmCode (W0 : World) (t : List Ent) (op : Op) : Fn Go.Proofs.Tryz.prog W0 229 [eEnts t, eOp op] (.c (CI (match find t op.path with | none => 2 | some e => if e.dir = true then 5 else 0))) [] := by
  refine fnX (c := c_impl_rmCode) mixed c_impl_rmCode_eq (by simp) rfl fun hg => ?_
  have h1 := f_entAt W0 t op.path
  cases hf : find t op.path with
  | none =>
    rw [hf] at h1
    refine dEr ?_
    repeat (refine c0 h1 rfl ?_; first | refine dEr ?_ | exact dz)
    try trivial
  | some e =>
    rw [hf] at h1
    refine dEr ?_
    repeat (refine c0 h1 rfl ?_; first | refine dEr ?_ | exact dz)
    refine cP (fun h2 => ?_) (fun h2 => ?_)
    · refine dr ?_
      simp [h2]
    · refine dr ?_
      simp [h2]


def c_impl_PathMove : XC := (.s (.r [.ex 6 (.mv (.s [])), .ex 7 (.mv .n)]) (.s (.s (.r [.mv 9 0, .ex 10 (.call 112 [(.t 9)]), .ex 11 (.un .not (.t 10)), .mv 12 11, .gf 13 (.mv (.t 1)) 12, .gf 14 (.call 112 [(.t 13)]) 12, .gf 15 (.un .not (.t 14)) 12, .ex 16 (.pick (.t 12) .y (.t 15)), .mv 17 16, .gf 18 (.mv (.t 2)) 17, .gf 19 (.call 112 [(.t 18)]) 17, .gf 20 (.un .not (.t 19)) 17, .ex 21 (.pick (.t 17) .y (.t 20))]) (.cnd (.t 21) (.s (.r [.ex 6 (.mv (.s [])), .ex 7 (.mv .n)]) .ret) .skip)) (.s (.s (.r [.mv 22 0, .mv 23 1, .ex 24 (.bin .neq (.t 22) (.t 23)), .mv 25 24, .gt 26 (.mv (.t 0)) 25, .gt 27 (.mv (.t 1)) 25, .gt 28 (.call 216 [(.t 26), (.t 27)]) 25, .gt 29 (.un .not (.t 28)) 25, .ex 30 (.pick (.t 25) (.t 29) .n)]) (.cnd (.t 30) (.s (.r [.mv 31 0, .mv 6 31, .ex 7 (.mv .y)]) .ret) .skip)) (.s (.r [.mv 32 2, .mv 33 0, .mv 34 1, .ex 35 (.len true (.t 34)), .ex 36 (.sls (.t 33) (.some (.t 35)) .none), .ex 37 (.bin .add (.t 32) (.t 36)), .mv 8 37]) (.s (.s (.r [.mv 38 8, .ex 39 (.call 112 [(.t 38)]), .ex 40 (.un .not (.t 39))]) (.cnd (.t 40) (.s (.r [.ex 6 (.mv (.s [])), .ex 7 (.mv .n)]) .ret) .skip)) (.s (.r [.mv 41 8, .mv 6 41, .ex 7 (.mv .y)]) .ret))))))
theorem c_impl_PathMove_eq : compF Go.Proofs.Tryz.prog [] 154 = some (c_impl_PathMove.ac, [(.t 6), (.t 7)], 42) := by kernel_rfl

theorem f_impl_PathMove (W0 : World) (hM : HM W0) (s f t : Str) : Fn Go.Proofs.Tryz.prog W0 154 [CS s, CS f, CS t] (.c (eOpt (pMove s f t))) [] := by
  refine fnX (c := c_impl_PathMove) mixed c_impl_PathMove_eq (by simp) rfl fun hg => ?_
  have q1 := f_impl_PathOk W0 hM s
  have q2 := f_impl_PathOk W0 hM f
  have q3 := f_impl_PathOk W0 hM t
  cases h1 : pOk s with
  | false =>
    rw [h1] at q1
    refine dEr ?_
    repeat (refine c0 q1 rfl ?_; first | refine dEr ?_ | exact dz)
    rw [pMove, if_neg (by simp [h1])] <;> rfl
  | true =>
  rw [h1] at q1
  cases h2 : pOk f with
  | false =>
    rw [h2] at q2
    refine dEr ?_
    repeat ((first | refine c0 q1 rfl ?_ | refine c0 q2 rfl ?_); first | refine dEr ?_ | exact dz)
    rw [pMove, if_neg (by simp [h2])] <;> rfl
  | true =>
  rw [h2] at q2
  cases h3 : pOk t with
  | false =>
    rw [h3] at q3
    refine dEr ?_
    repeat ((first | refine c0 q1 rfl ?_ | refine c0 q2 rfl ?_ | refine c0 q3 rfl ?_); first | refine dEr ?_ | exact dz)
    rw [pMove, if_neg (by simp [h3])] <;> rfl
  | true =>
  rw [h3] at q3
  have hl1 := (pOk_len h1).2.1
  have hl3 := (pOk_len h3).2.1
  refine dEr ?_
  repeat ((first | refine c0 q1 rfl ?_ | refine c0 q2 rfl ?_ | refine c0 q3 rfl ?_); first | refine dEr ?_ | exact dz)
  refine cP (fun h4 => ?_) (fun h4 => ?_)
  · have q4 := f_impl_PathUnder W0 hM s f
    rw [und2_eq h1 h2] at q4
    refine dEr ?_
    repeat (refine c0 q4 rfl ?_; first | refine dEr ?_ | exact dz)
    refine cP (fun h5 => ?_) (fun h5 => ?_)
    · refine dr ?_
      rw [pMove, if_pos (by simp [h1, h2, h3]), if_pos (by simp [h4, h5])] <;> rfl
    · have hle : f.length ≤ s.length := by
        obtain ⟨r, hr⟩ := und_split (ok_ne_root h2) h5
        rw [hr]; simp
      have hu : ¬ (s != f && !und s f) = true := by simp [h5]
      refine dEr ?_
      repeat ((first | refine sLo f.length rfl hle ?_ | refine oB (by simp; omega) ?_ | refine c0 (f_impl_PathOk W0 hM _) rfl ?_); first | refine dEr ?_ | exact dz)
      refine cP (fun h9 => ?_) (fun h9 => ?_)
      · refine dr ?_
        rw [pMove, if_pos (by simp [h1, h2, h3]), if_neg hu, if_neg (by simp [h9])] <;> rfl
      · refine dr ?_
        rw [pMove, if_pos (by simp [h1, h2, h3]), if_neg hu, if_pos h9] <;> rfl
  · have hle : f.length ≤ s.length := by rw [h4]; exact Nat.le_refl _
    have hu : ¬ (s != f && !und s f) = true := by simp [h4]
    refine dEr ?_
    repeat ((first | refine sLo f.length rfl hle ?_ | refine oB (by simp; omega) ?_ | refine c0 (f_impl_PathOk W0 hM _) rfl ?_); first | refine dEr ?_ | exact dz)
    refine cP (fun h9 => ?_) (fun h9 => ?_)
    · refine dr ?_
      rw [pMove, if_pos (by simp [h1, h2, h3]), if_neg hu, if_neg (by simp [h9])] <;> rfl
    · refine dr ?_
      rw [pMove, if_pos (by simp [h1, h2, h3]), if_neg hu, if_pos h9] <;> rfl


def c_impl_rmdirCode : XC := (.s (.r [.ex 3 (.box (.t 1)), .ex 4 (.mv (.i 0))]) (.s (.r [.mv 10 0, .ex 11 (.fa 1 (.t 3)), .ex 12 (.ld false 1 (.t 11)), .ex 13 (.call 99 [(.t 10), (.t 12)]), .mv 9 13, .ex 14 (.ext (.t 9) 0), .ex 15 (.ext (.t 9) 1), .ex 5 (.alloc [(.c (.sc (.string ⟨#[]⟩))), (.c (.sc (.bool false))), (.c (.sc (.string ⟨#[]⟩)))]), .nu (.st 3 (.t 5) (.t 14)), .mv 6 15]) (.s (.s (.r [.mv 16 6, .ex 17 (.un .not (.t 16))]) (.cnd (.t 17) (.s (.r [.ex 4 (.mv (.i 2))]) .ret) .skip)) (.s (.s (.r [.ex 18 (.fa 1 (.t 5)), .ex 19 (.ld false 1 (.t 18)), .ex 20 (.un .not (.t 19))]) (.cnd (.t 20) (.s (.r [.ex 4 (.mv (.i 3))]) .ret) .skip)) (.s (.s (.r [.mv 21 0, .ex 22 (.len false (.t 21)), .ex 23 (.mv (.i 0))]) (.blk 0 (.loop (.s (.r [.ex 24 (.bin .lss (.t 23) (.t 22))]) (.s (.cnd (.t 24) .skip (.exit 0)) (.s (.blk 1 (.s (.r [.ex 25 (.ia 3 (.t 21) (.t 23)), .ex 26 (.ld true 3 (.t 25)), .ex 8 (.alloc [(.c (.sc (.string ⟨#[]⟩))), (.c (.sc (.bool false))), (.c (.sc (.string ⟨#[]⟩)))]), .nu (.st 3 (.t 8) (.t 26))]) (.s (.r [.ex 27 (.fa 0 (.t 8)), .ex 28 (.ld false 1 (.t 27)), .ex 29 (.fa 1 (.t 3)), .ex 30 (.ld false 1 (.t 29)), .ex 31 (.call 216 [(.t 28), (.t 30)])]) (.cnd (.t 31) (.s (.r [.ex 4 (.mv (.i 6))]) .ret) .skip)))) (.r [.ex 32 (.bin .add (.t 23) (.i 1)), .mv 23 32]))))))) (.s (.r [.ex 4 (.mv (.i 0))]) .ret))))))
theorem c_impl_rmdirCode_eq : compF Go.Proofs.Tryz.prog [] 230 = some (c_impl_rmdirCode.ac, [(.t 4)], 33) := by kernel_rfl

theorem f_rmdirCode (W0 : World) (hM : HM W0) (t : List Ent) (op : Op) : Fn Go.Proofs.Tryz.prog W0 230 [eEnts t, eOp op] (.c (CI (match find t op.path with | none => 2 | some e => if e.dir = false then 3 else if t.any (fun e => und2 e.path op.path) = true then 6 else 0))) [] := by
  refine fnX (c := c_impl_rmdirCode) mixed c_impl_rmdirCode_eq (by simp) rfl fun hg => ?_
  have g1 := goodRow (hg _ (by simp : eEnts t ∈ _))
  have h1 := f_entAt W0 t op.path
  cases hf : find t op.path with
  | none =>
    rw [hf] at h1
    refine dEr ?_
    repeat (refine c0 h1 rfl ?_; first | refine dEr ?_ | exact dz)
    try trivial
  | some e =>
    rw [hf] at h1
    refine dEr ?_
    repeat (refine c0 h1 rfl ?_; first | refine dEr ?_ | exact dz)
    refine cP (fun h2 => ?_) (fun h2 => ?_)
    · refine dr ?_
      simp [h2]
    refine dr ?_
    refine lp (σ := Nat) (fun k => [(3, .ptr 48 0), (21, .c (eEnts t)), (22, I t.length), (23, I k)]) (fun _ => [(48, .box [.c (CI op.kind), .c (CS op.path), .c (CS op.dest), .c (CS op.data)])]) (fun k => k ≤ t.length ∧ ∀ i (h' : i < t.length), i < k → und2 t[i].path op.path = false) (fun k => t.length - k) 0 ⟨by simp, by simp⟩ ?_ ?_
    · refine dr ?_
      trivial
    rintro k ⟨hk, ha⟩
    refine dr ?_
    refine cP (fun h3 => ?_) (fun h3 => ?_)
    · have hk' : k < t.length := by omega
      refine dEr ?_
      repeat (refine c0 (f_impl_PathUnder W0 hM _ _) rfl ?_; first | refine dEr ?_ | exact dz)
      refine cP (fun h4 => ?_) (fun h4 => ?_)
      · refine dr ?_
        simp only [h2, Bool.true_eq_false, if_false]
        rw [if_pos]
        exact List.any_eq_true.2 ⟨_, List.getElem_mem hk', h4⟩
      · refine dr ?_
        refine ⟨k + 1, ⟨by omega, fun i h' hi => ?_⟩, by omega, ?_⟩
        · by_cases e : i = k
          · subst e; exact h4
          · exact ha i h' (by omega)
        · refine dr ?_
          trivial
    · refine dr ?_
      simp only [h2, Bool.true_eq_false, if_false]
      rw [if_neg]
      simp only [List.any_eq_true, not_exists, not_and]
      intro x hx
      obtain ⟨i, hi, rfl⟩ := List.mem_iff_getElem.1 hx
      simp [ha i hi (by omega)]


def c_impl_moveCode : XC := (.s (.r [.ex 3 (.box (.t 1)), .ex 4 (.mv (.i 0))]) (.s (.s (.r [.mv 15 0, .ex 16 (.fa 1 (.t 3)), .ex 17 (.ld false 1 (.t 16)), .ex 18 (.call 99 [(.t 15), (.t 17)]), .mv 14 18, .ex 19 (.ext (.t 14) 0), .ex 20 (.ext (.t 14) 1), .ex 5 (.alloc [(.c (.sc (.string ⟨#[]⟩))), (.c (.sc (.bool false))), (.c (.sc (.string ⟨#[]⟩)))]), .nu (.st 3 (.t 5) (.t 19)), .mv 6 20]) (.s (.r [.mv 21 6, .ex 22 (.un .not (.t 21))]) (.cnd (.t 22) (.s (.r [.ex 4 (.mv (.i 2))]) .ret) .skip))) (.s (.s (.r [.mv 23 0, .ex 24 (.fa 2 (.t 3)), .ex 25 (.ld false 1 (.t 24)), .ex 26 (.call 157 [(.t 23), (.t 25)]), .mv 7 26]) (.s (.r [.mv 27 7, .ex 28 (.bin .neq (.t 27) (.i 0))]) (.cnd (.t 28) (.s (.r [.mv 29 7, .mv 4 29]) .ret) .skip))) (.s (.s (.r [.mv 31 0, .ex 32 (.fa 2 (.t 3)), .ex 33 (.ld false 1 (.t 32)), .ex 34 (.call 99 [(.t 31), (.t 33)]), .mv 30 34, .ex 35 (.ext (.t 30) 0), .ex 36 (.ext (.t 30) 1), .ex 8 (.alloc [(.c (.sc (.string ⟨#[]⟩))), (.c (.sc (.bool false))), (.c (.sc (.string ⟨#[]⟩)))]), .nu (.st 3 (.t 8) (.t 35)), .mv 9 36]) (.s (.r [.mv 37 9]) (.cnd (.t 37) (.s (.r [.ex 4 (.mv (.i 4))]) .ret) .skip))) (.s (.s (.r [.ex 38 (.fa 2 (.t 3)), .ex 39 (.ld false 1 (.t 38)), .ex 40 (.fa 1 (.t 3)), .ex 41 (.ld false 1 (.t 40)), .ex 42 (.call 216 [(.t 39), (.t 41)])]) (.cnd (.t 42) (.s (.r [.ex 4 (.mv (.i 7))]) .ret) .skip)) (.s (.s (.r [.mv 43 0, .ex 44 (.len false (.t 43)), .ex 45 (.mv (.i 0))]) (.blk 0 (.loop (.s (.r [.ex 46 (.bin .lss (.t 45) (.t 44))]) (.s (.cnd (.t 46) .skip (.exit 0)) (.s (.blk 1 (.s (.r [.ex 47 (.ia 3 (.t 43) (.t 45)), .ex 48 (.ld true 3 (.t 47)), .ex 11 (.alloc [(.c (.sc (.string ⟨#[]⟩))), (.c (.sc (.bool false))), (.c (.sc (.string ⟨#[]⟩)))]), .nu (.st 3 (.t 11) (.t 48))]) (.s (.r [.ex 50 (.fa 0 (.t 11)), .ex 51 (.ld false 1 (.t 50)), .ex 52 (.fa 1 (.t 3)), .ex 53 (.ld false 1 (.t 52)), .ex 54 (.fa 2 (.t 3)), .ex 55 (.ld false 1 (.t 54)), .ex 56 (.call 154 [(.t 51), (.t 53), (.t 55)]), .mv 49 56, .ex 57 (.ext (.t 49) 0), .ex 58 (.ext (.t 49) 1), .mv 12 57, .mv 13 58]) (.s (.r [.mv 59 13, .ex 60 (.un .not (.t 59))]) (.cnd (.t 60) (.s (.r [.ex 4 (.mv (.i 8))]) .ret) .skip))))) (.r [.ex 61 (.bin .add (.t 45) (.i 1)), .mv 45 61]))))))) (.s (.r [.ex 4 (.mv (.i 0))]) .ret)))))))
theorem c_impl_moveCode_eq : compF Go.Proofs.Tryz.prog [] 231 = some (c_impl_moveCode.ac, [(.t 4)], 62) := by kernel_rfl

theorem f_moveCode (W0 : World) (hM : HM W0) (t : List Ent) (op : Op) (hp : pOk op.path = true) (hq : pOk op.dest = true) : Fn Go.Proofs.Tryz.prog W0 231 [eEnts t, eOp op] (.c (CI (movC2 t op))) [] := by
  refine fnX (c := c_impl_moveCode) mixed c_impl_moveCode_eq (by simp) rfl fun hg => ?_
  have g1 := goodRow (hg _ (by simp : eEnts t ∈ _))
  have h1 := f_entAt W0 t op.path
  have h2 := f_upCode W0 hM t op.dest
  have h3 := f_entAt W0 t op.dest
  have h4 := f_impl_PathUnder W0 hM op.dest op.path
  rw [eEntO_eq] at h1 h3
  rw [upC2_eq] at h2
  rw [und2_eq hq hp] at h4
  unfold movC2
  refine dEr ?_
  repeat (refine c0 h1 rfl ?_; first | refine dEr ?_ | exact dz)
  refine cP (fun k1 => ?_) (fun k1 => ?_)
  · refine dr ?_
    rw [if_pos k1] <;> rfl
  rw [if_neg (by simp [k1])]
  refine dEr ?_
  repeat (refine c0 h2 rfl ?_; first | refine dEr ?_ | exact dz)
  refine cP (fun k2 => ?_) (fun k2 => ?_)
  · refine dr ?_
    rw [if_pos k2] <;> rfl
  rw [if_neg (by simp [k2])]
  refine dEr ?_
  repeat (refine c0 h3 rfl ?_; first | refine dEr ?_ | exact dz)
  refine cP (fun k3 => ?_) (fun k3 => ?_)
  · refine dr ?_
    rw [if_pos k3] <;> rfl
  rw [if_neg (by simp [k3])]
  refine dEr ?_
  repeat (refine c0 h4 rfl ?_; first | refine dEr ?_ | exact dz)
  refine cP (fun k4 => ?_) (fun k4 => ?_)
  · refine dr ?_
    rw [if_pos k4] <;> rfl
  rw [if_neg (by simp [k4])]
  refine dr ?_
  refine lp (σ := Nat) (fun k => [(3, .ptr 48 0), (43, .c (eEnts t)), (44, I t.length), (45, I k)]) (fun _ => [(48, .box [.c (CI op.kind), .c (CS op.path), .c (CS op.dest), .c (CS op.data)])]) (fun k => k ≤ t.length ∧ ∀ i (h' : i < t.length), i < k → (pMove t[i].path op.path op.dest).isSome = true) (fun k => t.length - k) 0 ⟨by simp, by simp⟩ ?_ ?_
  · refine dr ?_
    trivial
  rintro k ⟨hk, ha⟩
  refine dr ?_
  refine cP (fun h5 => ?_) (fun h5 => ?_)
  · have hk' : k < t.length := by omega
    have q := f_impl_PathMove W0 hM t[k].path op.path op.dest
    rw [eOpt_eq] at q
    refine dEr ?_
    repeat (refine c0 q rfl ?_; first | refine dEr ?_ | exact dz)
    refine cP (fun h6 => ?_) (fun h6 => ?_)
    · refine dr ?_
      rw [if_neg]
      intro hall
      have := List.all_eq_true.1 hall _ (List.getElem_mem hk')
      rw [h6] at this; cases this
    · refine dr ?_
      refine ⟨k + 1, ⟨by omega, fun i h' hi => ?_⟩, by omega, ?_⟩
      · by_cases e : i = k
        · subst e; exact h6
        · exact ha i h' (by omega)
      · refine dr ?_
        trivial
  · refine dr ?_
    rw [if_pos]
    rw [List.all_eq_true]
    intro x hx
    obtain ⟨i, hi, rfl⟩ := List.mem_iff_getElem.1 hx
    exact ha i hi (by omega)


def c_impl_opCode : XC := (.s (.r [.ex 3 (.box (.t 1)), .ex 4 (.mv (.i 0))]) (.s (.s (.r [.ex 5 (.ld true 4 (.t 3)), .ex 6 (.call 226 [(.t 5)]), .ex 7 (.un .not (.t 6))]) (.cnd (.t 7) (.s (.r [.ex 4 (.mv (.i 1))]) .ret) .skip)) (.s (.s (.r [.ex 8 (.fa 0 (.t 3)), .ex 9 (.ld false 1 (.t 8))]) (.blk 0 (.s (.r [.ex 11 (.bin .eql (.t 9) (.i 1)), .mv 10 11]) (.cnd (.t 10) (.s (.r [.mv 12 0, .ex 13 (.ld true 4 (.t 3)), .ex 14 (.call 227 [(.t 12), (.t 13)]), .mv 4 14]) .ret) (.s (.r [.ex 16 (.bin .eql (.t 9) (.i 2)), .mv 15 16]) (.cnd (.t 15) (.s (.r [.mv 17 0, .ex 18 (.ld true 4 (.t 3)), .ex 19 (.call 228 [(.t 17), (.t 18)]), .mv 4 19]) .ret) (.s (.r [.ex 21 (.bin .eql (.t 9) (.i 3)), .mv 20 21]) (.cnd (.t 20) (.s (.r [.mv 22 0, .ex 23 (.ld true 4 (.t 3)), .ex 24 (.call 229 [(.t 22), (.t 23)]), .mv 4 24]) .ret) (.s (.r [.ex 26 (.bin .eql (.t 9) (.i 4)), .mv 25 26]) (.cnd (.t 25) (.s (.r [.mv 27 0, .ex 28 (.ld true 4 (.t 3)), .ex 29 (.call 230 [(.t 27), (.t 28)]), .mv 4 29]) .ret) .skip)))))))))) (.s (.r [.mv 30 0, .ex 31 (.ld true 4 (.t 3)), .ex 32 (.call 231 [(.t 30), (.t 31)]), .mv 4 32]) .ret))))
theorem c_impl_opCode_eq : compF Go.Proofs.Tryz.prog [] 153 = some (c_impl_opCode.ac, [(.t 4)], 33) := by kernel_rfl

theorem f_opCode (W0 : World) (hM : HM W0) (t : List Ent) (op : Op) (ht : TG t) : Fn Go.Proofs.Tryz.prog W0 153 [eEnts t, eOp op] (.c (CI (if opOkB op = true then codeT t op else 1))) [] := by
  refine fnX (c := c_impl_opCode) mixed c_impl_opCode_eq (by simp) rfl fun hg => ?_
  refine dEr ?_
  repeat (refine c0 (f_impl_OpOk W0 hM _) rfl ?_; first | refine dEr ?_ | exact dz)
  refine cP (fun h1 => ?_) (fun h1 => ?_)
  · refine dr ?_
    rw [if_neg (by simp [h1])] <;> rfl
  rw [if_pos h1]
  have hp := op_path h1
  have hk := op_kind h1
  unfold codeT
  refine dr ?_
  refine cP (fun h2 => ?_) (fun h2 => ?_)
  · rw [if_pos h2]
    refine dEr ?_
    repeat (refine c0 (f_makeCode W0 hM t op hp) rfl ?_; first | refine dEr ?_ | exact dz)
    try rfl
  rw [if_neg h2]
  refine dr ?_
  refine cP (fun h3 => ?_) (fun h3 => ?_)
  · rw [if_pos h3]
    refine dEr ?_
    repeat (refine c0 (f_putCode W0 hM t op hp) rfl ?_; first | refine dEr ?_ | exact dz)
    try rfl
  rw [if_neg h3]
  refine dr ?_
  refine cP (fun h4 => ?_) (fun h4 => ?_)
  · rw [if_neg (by omega)]
    have e : offC t op = (match find t op.path with | none => 2 | some e => if e.dir = true then 5 else 0) := by
      unfold offC
      rw [get_find hp]
      cases hf : find t op.path with
      | none => rfl
      | some e =>
        simp only
        by_cases hd : e.dir = true
        · rw [if_pos ⟨h4, hd⟩, if_pos hd]
        · have hkn : kids t op.path = [] := kids_nil ht hp (by
            unfold isDir
            rw [get_find hp, hf]
            simpa using hd)
          rw [if_neg (by simp [hd]), if_neg (by omega), if_neg (by simp [hkn]), if_neg hd]
    rw [e]
    refine dEr ?_
    repeat (refine c0 (f_rmCode W0 t op) rfl ?_; first | refine dEr ?_ | exact dz)
    try rfl
  refine dr ?_
  refine cP (fun h5 => ?_) (fun h5 => ?_)
  · rw [if_neg (by omega)]
    have e : offC t op = (match find t op.path with | none => 2 | some e => if e.dir = false then 3 else if t.any (fun e => und2 e.path op.path) = true then 6 else 0) := by
      unfold offC
      rw [get_find hp]
      cases hf : find t op.path with
      | none => rfl
      | some e =>
        simp only
        rw [if_neg (by omega)]
        by_cases hd : e.dir = false
        · rw [if_pos ⟨h5, hd⟩, if_pos hd]
        · rw [if_neg (by simp [hd]), if_neg hd]
          have hkb := kids_below ht hp
          have ha : (t.any (fun e => und2 e.path op.path) = true) ↔ ∃ e ∈ t, und e.path op.path = true := by
            rw [List.any_eq_true]
            constructor
            · rintro ⟨x, hx, h⟩; exact ⟨x, hx, by rw [← und2_eq (ht.path hx) hp]; exact h⟩
            · rintro ⟨x, hx, h⟩; exact ⟨x, hx, by rw [und2_eq (ht.path hx) hp]; exact h⟩
          by_cases hx : kids t op.path = []
          · rw [if_neg (by simp [hx]), if_neg]
            rw [ha, ← hkb]; simp [hx]
          · rw [if_pos (List.length_pos_iff.2 hx), if_pos]
            rw [ha, ← hkb]; exact hx
    rw [e]
    refine dEr ?_
    repeat (refine c0 (f_rmdirCode W0 hM t op) rfl ?_; first | refine dEr ?_ | exact dz)
    try rfl
  have h6 : op.kind = 5 := by omega
  rw [if_pos h6]
  have hq := (op_5 h1 h6).1
  have e : movC t op = movC2 t op := by
    unfold movC movC2
    rw [get_find hp, get_find hq]
  rw [e]
  refine dEr ?_
  repeat (refine c0 (f_moveCode W0 hM t op hp hq) rfl ?_; first | refine dEr ?_ | exact dz)
  try rfl


def c_impl_TreeDo : XC := (.s (.r [.ex 3 (.box (.t 1)), .ex 4 (.asn (.k .nil) 3 59), .ex 5 (.mv (.i 0))]) (.s (.s (.r [.mv 10 0, .ex 11 (.call 98 [(.t 10)]), .ex 12 (.un .not (.t 11))]) (.cnd (.t 12) (.s (.r [.ex 4 (.asn (.k .nil) 3 59), .ex 5 (.mv (.i 1))]) .ret) .skip)) (.s (.s (.r [.mv 13 0, .ex 14 (.ld true 4 (.t 3)), .ex 15 (.call 153 [(.t 13), (.t 14)]), .mv 6 15]) (.s (.r [.mv 16 6, .ex 17 (.bin .neq (.t 16) (.i 0))]) (.cnd (.t 17) (.s (.r [.mv 18 0, .ex 19 (.call 144 [(.t 18)]), .mv 20 6, .ex 4 (.asn (.t 19) 3 59), .mv 5 20]) .ret) .skip))) (.s (.r [.ex 7 (.asn (.k .nil) 3 59)]) (.s (.s (.r [.mv 21 0, .ex 22 (.len false (.t 21)), .ex 23 (.mv (.i 0))]) (.blk 0 (.loop (.s (.r [.ex 24 (.bin .lss (.t 23) (.t 22))]) (.s (.cnd (.t 24) .skip (.exit 0)) (.s (.blk 1 (.s (.r [.ex 25 (.ia 3 (.t 21) (.t 23)), .ex 26 (.ld true 3 (.t 25)), .ex 9 (.alloc [(.c (.sc (.string ⟨#[]⟩))), (.c (.sc (.bool false))), (.c (.sc (.string ⟨#[]⟩)))]), .nu (.st 3 (.t 9) (.t 26))]) (.s (.s (.r [.ex 27 (.fa 0 (.t 3)), .ex 28 (.ld false 1 (.t 27)), .ex 29 (.bin .eql (.t 28) (.i 5))]) (.cnd (.t 29) (.r [.ex 31 (.fa 0 (.t 9)), .ex 32 (.ld false 1 (.t 31)), .ex 33 (.fa 1 (.t 3)), .ex 34 (.ld false 1 (.t 33)), .ex 35 (.fa 2 (.t 3)), .ex 36 (.ld false 1 (.t 35)), .ex 37 (.call 154 [(.t 32), (.t 34), (.t 36)]), .mv 30 37, .ex 38 (.ext (.t 30) 0), .ex 39 (.ext (.t 30) 1), .ex 40 (.fa 0 (.t 9)), .nu (.st 1 (.t 40) (.t 38))]) (.s (.r [.ex 41 (.fa 0 (.t 9)), .ex 42 (.ld false 1 (.t 41)), .ex 43 (.fa 1 (.t 3)), .ex 44 (.ld false 1 (.t 43)), .ex 45 (.bin .eql (.t 42) (.t 44))]) (.cnd (.t 45) (.exit 1) .skip)))) (.r [.mv 46 7, .ex 47 (.ld true 3 (.t 9)), .ex 48 (.bsl 3 59 [(.t 47)]), .ex 49 (.app false 3 40 59 (.t 46) (.t 48)), .ex 7 (.asn (.t 49) 3 59)])))) (.r [.ex 50 (.bin .add (.t 23) (.i 1)), .mv 23 50]))))))) (.s (.s (.r [.ex 51 (.fa 0 (.t 3)), .ex 52 (.ld false 1 (.t 51)), .ex 53 (.bin .eql (.t 52) (.i 1)), .mv 54 53, .gf 55 (.fa 0 (.t 3)) 54, .gf 56 (.ld false 1 (.t 55)) 54, .gf 57 (.bin .eql (.t 56) (.i 2)) 54, .ex 58 (.pick (.t 54) .y (.t 57))]) (.cnd (.t 58) (.r [.mv 59 7, .ex 60 (.fa 1 (.t 3)), .ex 61 (.ld false 1 (.t 60)), .ex 62 (.fa 0 (.t 3)), .ex 63 (.ld false 1 (.t 62)), .ex 64 (.bin .eql (.t 63) (.i 1)), .ex 65 (.fa 3 (.t 3)), .ex 66 (.ld false 1 (.t 65)), .ex 67 (.build [(.c (.sc (.string ⟨#[]⟩))), (.c (.sc (.bool false))), (.c (.sc (.string ⟨#[]⟩)))] [(0, (1, (.t 61))), (1, (1, (.t 64))), (2, (1, (.t 66)))]), .ex 68 (.bsl 3 59 [(.t 67)]), .ex 69 (.app false 3 40 59 (.t 59) (.t 68)), .ex 7 (.asn (.t 69) 3 59)]) .skip)) (.s (.r [.mv 70 7, .ex 71 (.opn 155 [(.t 70)])]) (.s (.r [.mv 72 7, .ex 4 (.asn (.t 72) 3 59), .ex 5 (.mv (.i 0))]) .ret))))))))
theorem c_impl_TreeDo_eq : compF Go.Proofs.Tryz.prog [155] 68 = some (c_impl_TreeDo.ac, [(.t 4), (.t 5)], 73) := by kernel_rfl

theorem f_impl_TreeDo (W0 : World) (hM : HM W0) (t : List Ent) (op : Op) : Fn Go.Proofs.Tryz.prog W0 68 [eEnts t, eOp op] (.c (eTD (treeDo t op))) [] := by
  refine fnX (c := c_impl_TreeDo) mixed c_impl_TreeDo_eq (by simp) rfl fun hg => ?_
  refine dEr ?_
  repeat (refine c0 (f_impl_TreeOk W0 hM _) rfl ?_; first | refine dEr ?_ | exact dz)
  refine cP (fun h1 => ?_) (fun h1 => ?_)
  · refine dr ?_
    rw [treeDo, if_neg (by simp [h1])] <;> rfl
  have gt := TG.of h1
  have hl := gt.len
  rw [treeDo, if_pos h1]
  refine dEr ?_
  repeat (refine c0 (f_opCode W0 hM t op gt) rfl ?_; first | refine dEr ?_ | exact dz)
  refine cP (fun h2 => ?_) (fun h2 => ?_)
  · refine dEr ?_
    repeat (refine c0 (f_copyEnts W0 t (by omega)) rfl ?_; first | refine dEr ?_ | exact dz)
    by_cases h3 : opOkB op = true
    · rw [if_pos h3] at h2 ⊢
      rw [if_neg h2, if_pos h3] <;> rfl
    · rw [if_neg h3, if_neg h3] <;> rfl
  have h3 : opOkB op = true := by
    by_cases h3 : opOkB op = true
    · exact h3
    · rw [if_neg h3] at h2; omega
  rw [if_pos h3] at h2
  rw [if_pos h3, if_pos h2]
  refine dr ?_
  refine lp2 (fun (k : Nat) (out : List Ent) => [(3, .ptr 48 0), (7, .own 112 out.length), (21, .c (eEnts t)), (22, I t.length), (23, I k)]) (fun _ out => [(48, .box [.c (CI op.kind), .c (CS op.path), .c (CS op.dest), .c (CS op.data)]), (112, .row (out.map eEnt) 3 59)]) (fun k out => k ≤ t.length ∧ out = (if op.kind = 5 then (t.take k).map (movE op.path op.dest) else (t.take k).filter fun e => e.path != op.path) ∧ out.length ≤ k) (fun k _ => t.length - k) 0 [] ⟨by simp, by simp, by simp⟩ ?_ ?_
  · refine dr ?_
    trivial
  rintro k out ⟨hk, ho, hle⟩
  refine dr ?_
  refine cP (fun h4 => ?_) (fun h4 => ?_)
  · have hk' : k < t.length := by omega
    refine dr ?_
    refine cP (fun h5 => ?_) (fun h5 => ?_)
    · have hm := MV.of gt h3 h5 (by unfold codeT at h2; rw [if_neg (by omega), if_neg (by omega), if_pos h5] at h2; exact h2)
      have hs := hm.all _ (List.getElem_mem hk')
      have q := f_impl_PathMove W0 hM t[k].path op.path op.dest
      rw [eOpt_eq] at q
      refine dEr ?_
      repeat ((first | refine c0 q rfl ?_ | refine oB (by simp; omega) ?_ | refine oB (by simp) ?_); first | refine dEr ?_ | exact dz)
      refine ⟨k + 1, out ++ [movE op.path op.dest t[k]], ⟨by omega, ?_, by simp; omega⟩, by omega, ?_⟩
      · rw [if_pos h5] at ho ⊢
        rw [List.take_succ_eq_append_getElem hk', List.map_append, ho] <;> rfl
      · refine dr ?_
        repeat (refine oB (by simp <;> rfl) ?_; first | refine dr ?_ | exact dz)
        trivial
    · refine dr ?_
      refine cP (fun h6 => ?_) (fun h6 => ?_)
      · refine dr ?_
        refine ⟨k + 1, out, ⟨by omega, ?_, by omega⟩, by omega, ?_⟩
        · rw [if_neg h5] at ho ⊢
          rw [filt_f hk' (by simp [h6]), ho]
        · refine dr ?_
          trivial
      · refine dr ?_
        repeat ((first | refine oB (by simp; omega) ?_ | refine oB (by simp) ?_); first | refine dr ?_ | exact dz)
        refine ⟨k + 1, out ++ [t[k]], ⟨by omega, ?_, by simp; omega⟩, by omega, ?_⟩
        · rw [if_neg h5] at ho ⊢
          rw [filt_t hk' (by simp [h6]), ho]
        · refine dr ?_
          repeat (refine oB (by simp <;> rfl) ?_; first | refine dr ?_ | exact dz)
          trivial
  have hkl : k = t.length := by omega
  rw [hkl, List.take_length] at ho
  have hb : eqI op.kind 1 = (op.kind == 1) := by rw [Bool.eq_iff_iff, eqI_t]; simp
  have hX : out.map eEnt ++ [CV.agg [CS op.path, CB (eqI op.kind 1), CS op.data]] = (out ++ [(⟨op.path, op.kind == 1, op.data⟩ : Ent)]).map eEnt := by rw [hb, List.map_append] <;> rfl
  have hn : out.length + 1 = (out ++ [(⟨op.path, op.kind == 1, op.data⟩ : Ent)]).length := by simp
  have fin : ∀ S, Sorts Ent.path (doX t op) S → S = doT t op := fun S hS => doX_sorts gt h3 h2 hS
  refine dr ?_
  refine cP (fun h5 => ?_) (fun h5 => ?_)
  · have e : doX t op = out ++ [⟨op.path, op.kind == 1, op.data⟩] := by
      unfold doX; rw [if_neg (by omega), if_pos (.inl h5), ho, if_neg (by omega)]
    rw [e] at fin
    refine dr ?_
    repeat ((first | refine oB (by simp; omega) ?_ | refine oB (by simp) ?_); first | refine dr ?_ | exact dz)
    refine oW ((f_sortEnts_1 W0 (out ++ [⟨op.path, op.kind == 1, op.data⟩]) (by simp; omega)).swp 1 112) (congrArg (fun n => [PV.own 112 n]) hn) ⟨congrArg (fun r => some (XB.row r 3 59)) hX, trivial⟩ rfl rfl sorts_ex fun S hS => ⟨rfl, ?_⟩
    refine dEr ?_
    repeat (refine oB (by simp [hS.len]) ?_; first | refine dEr ?_ | exact dz)
    rw [fin S hS] <;> rfl
  · refine dr ?_
    refine cP (fun h6 => ?_) (fun h6 => ?_)
    · have e : doX t op = out ++ [⟨op.path, op.kind == 1, op.data⟩] := by
        unfold doX; rw [if_neg (by omega), if_pos (.inr h6), ho, if_neg (by omega)]
      rw [e] at fin
      refine dr ?_
      repeat ((first | refine oB (by simp; omega) ?_ | refine oB (by simp) ?_); first | refine dr ?_ | exact dz)
      refine oW ((f_sortEnts_1 W0 (out ++ [⟨op.path, op.kind == 1, op.data⟩]) (by simp; omega)).swp 1 112) (congrArg (fun n => [PV.own 112 n]) hn) ⟨congrArg (fun r => some (XB.row r 3 59)) hX, trivial⟩ rfl rfl sorts_ex fun S hS => ⟨rfl, ?_⟩
      refine dEr ?_
      repeat (refine oB (by simp [hS.len]) ?_; first | refine dEr ?_ | exact dz)
      rw [fin S hS] <;> rfl
    · have e : doX t op = out := by
        unfold doX
        by_cases h7 : op.kind = 5
        · rw [if_pos h7] at ho ⊢; exact ho.symm
        · rw [if_neg h7] at ho ⊢; rw [if_neg (by omega)]; exact ho.symm
      rw [e] at fin
      refine dr ?_
      refine oW ((f_sortEnts_1 W0 out (by omega)).swp 1 112) rfl ⟨rfl, trivial⟩ rfl rfl sorts_ex fun S hS => ⟨rfl, ?_⟩
      refine dEr ?_
      repeat (refine oB (by simp [hS.len]) ?_; first | refine dEr ?_ | exact dz)
      rw [fin S hS] <;> rfl


end Go.Proofs.YthblflnfhdnpdaaGreatDoor

/- Contracts: the reference's layers; no condition. -/
import Derived.Test.YthblflnfhdnpdaaGreatDoorPb3
namespace Go.Proofs.YthblflnfhdnpdaaGreatDoor
set_option linter.unusedSimpArgs false
set_option linter.unusedVariables false
open Go Go.RowKit


def c_spec_l3Find : XC := (.s (.r [.ex 4 (.mv (.i 0))]) (.s (.s (.r [.ex 5 (.mv (.i 0))]) (.blk 0 (.loop (.s (.s (.r [.mv 6 5, .mv 7 0, .ex 8 (.len false (.t 7)), .ex 9 (.bin .lss (.t 6) (.t 8))]) (.cnd (.t 9) .skip (.exit 0))) (.s (.blk 1 (.s (.r [.mv 12 0, .mv 13 5, .ex 14 (.ia 3 (.t 12) (.t 13)), .ex 15 (.fa 0 (.t 14)), .ex 16 (.ld false 1 (.t 15)), .mv 17 1, .ex 18 (.bin .eql (.t 16) (.t 17))]) (.cnd (.t 18) (.s (.r [.mv 19 5, .mv 4 19]) .ret) .skip))) (.r [.mv 10 5, .ex 11 (.bin .add (.t 10) (.i 1)), .mv 5 11])))))) (.s (.r [.ex 4 (.mv (.k (.c (.sc (.int .i64 (.negSucc 0))))))]) .ret)))
theorem c_spec_l3Find_eq : compF Go.Proofs.Tryz.prog [] 271 = some (c_spec_l3Find.ac, [(.t 4)], 20) := by kernel_rfl

theorem f_l3Find (W0 : World) (t : List Mark) (p : Str) : Fn Go.Proofs.Tryz.prog W0 271 [eMarks t, CS p] (.c (CI (midx t p))) [] := by
  refine fnX (c := c_spec_l3Find) mixed c_spec_l3Find_eq (by simp) rfl fun hg => ?_
  have g1 := goodRow (hg _ (by simp : eMarks t ∈ _))
  refine dr ?_
  refine lp (σ := Nat) (fun k => [(0, .c (eMarks t)), (1, .c (CS p)), (5, I k)]) (fun _ => []) (fun k => k ≤ t.length ∧ ∀ i (h' : i < t.length), i < k → t[i].path ≠ p) (fun k => t.length - k) 0 ⟨by simp, by simp⟩ ?_ ?_
  · refine dr ?_
    trivial
  rintro k ⟨hk, ha⟩
  refine dr ?_
  refine cP (fun h1 => ?_) (fun h1 => ?_)
  · refine dr ?_
    refine cP (fun h2 => ?_) (fun h2 => ?_)
    · refine dr ?_
      rw [midx_of_first (by omega) h2 ha]
    · refine dr ?_
      refine ⟨k + 1, ⟨by omega, fun i h' hi => ?_⟩, by omega, ?_⟩
      · by_cases e : i = k
        · subst e; exact h2
        · exact ha i h' (by omega)
      · refine dr ?_
        trivial
  · refine dr ?_
    rw [midx_of_none fun i h' => ha i h' (by omega)]; rfl


def c_spec_l3Kind : XC := (.s (.r [.ex 4 (.mv (.i 0))]) (.s (.r [.mv 6 0, .mv 7 1, .ex 8 (.call 271 [(.t 6), (.t 7)]), .mv 5 8]) (.s (.s (.r [.mv 9 5, .ex 10 (.bin .lss (.t 9) (.i 0))]) (.cnd (.t 10) (.s (.r [.ex 4 (.mv (.i 0))]) .ret) .skip)) (.s (.r [.mv 11 0, .mv 12 5, .ex 13 (.ia 3 (.t 11) (.t 12)), .ex 14 (.fa 1 (.t 13)), .ex 15 (.ld false 1 (.t 14)), .mv 4 15]) .ret))))
theorem c_spec_l3Kind_eq : compF Go.Proofs.Tryz.prog [] 224 = some (c_spec_l3Kind.ac, [(.t 4)], 16) := by kernel_rfl

theorem f_l3Kind (W0 : World) (t : List Mark) (p : Str) : Fn Go.Proofs.Tryz.prog W0 224 [eMarks t, CS p] (.c (CI (kind t p))) [] := by
  refine fnX (c := c_spec_l3Kind) mixed c_spec_l3Kind_eq (by simp) rfl fun hg => ?_
  refine dr ?_
  repeat (refine c0 (f_l3Find W0 t p) rfl ?_; first | refine dr ?_ | exact dz)
  intro hg1
  rcases midx_cases t p with ⟨e1, e2, _⟩ | ⟨j, hj, e1, e2, _⟩
  · rw [kind, e1, e2]
    refine dr ?_
    refine cP (fun h2 => ?_) (fun h2 => ?_)
    · exact dz
    · omega
  · rw [kind, e1, e2]
    refine dr ?_
    refine cP (fun h2 => ?_) (fun h2 => ?_)
    · omega
    · exact dz


def c_spec_l3Bare : XC := (.s (.r [.ex 4 (.mv .n)]) (.s (.s (.r [.ex 5 (.mv (.i 0))]) (.blk 0 (.loop (.s (.s (.r [.mv 6 5, .mv 7 0, .ex 8 (.len false (.t 7)), .ex 9 (.bin .lss (.t 6) (.t 8))]) (.cnd (.t 9) .skip (.exit 0))) (.s (.blk 1 (.s (.r [.mv 12 0, .mv 13 5, .ex 14 (.ia 3 (.t 12) (.t 13)), .ex 15 (.fa 1 (.t 14)), .ex 16 (.ld false 1 (.t 15)), .ex 17 (.bin .eql (.t 16) (.i 4)), .mv 18 17, .gt 19 (.mv (.t 1)) 18, .gt 20 (.mv (.t 0)) 18, .gt 21 (.mv (.t 5)) 18, .gt 22 (.ia 3 (.t 20) (.t 21)) 18, .gt 23 (.fa 0 (.t 22)) 18, .gt 24 (.ld false 1 (.t 23)) 18, .gt 25 (.call 270 [(.t 19), (.t 24)]) 18, .ex 26 (.pick (.t 18) (.t 25) .n)]) (.cnd (.t 26) (.s (.r [.ex 4 (.mv .y)]) .ret) .skip))) (.r [.mv 10 5, .ex 11 (.bin .add (.t 10) (.i 1)), .mv 5 11])))))) (.s (.r [.ex 4 (.mv .n)]) .ret)))
theorem c_spec_l3Bare_eq : compF Go.Proofs.Tryz.prog [] 222 = some (c_spec_l3Bare.ac, [(.t 4)], 27) := by kernel_rfl

theorem f_l3Bare (W0 : World) (t : List Mark) (p : Str) : Fn Go.Proofs.Tryz.prog W0 222 [eMarks t, CS p] (.c (CB (bare t p))) [] := by
  refine fnX (c := c_spec_l3Bare) mixed c_spec_l3Bare_eq (by simp) rfl fun hg => ?_
  have g1 := goodRow (hg _ (by simp : eMarks t ∈ _))
  refine dr ?_
  refine lp (σ := Nat) (fun k => [(0, .c (eMarks t)), (1, .c (CS p)), (5, I k)]) (fun _ => []) (fun k => k ≤ t.length ∧ bare (t.take k) p = false) (fun k => t.length - k) 0 ⟨by simp, by simp [bare]⟩ ?_ ?_
  · refine dr ?_
    trivial
  rintro k ⟨hk, ha⟩
  refine dr ?_
  refine cP (fun h1 => ?_) (fun h1 => ?_)
  · have hk' : k < t.length := by omega
    have no : (t[k].kind == 4 && und p t[k].path) = false → bare (t.take (k + 1)) p = false := fun h => by
      rw [bare] at ha ⊢
      rw [List.take_succ_eq_append_getElem hk', List.any_append, ha]; simpa using h
    have yes : (t[k].kind == 4 && und p t[k].path) = true → CB true = CB (bare t p) := fun h => bT (by
      rw [bare, List.any_eq_true]; exact ⟨t[k], List.getElem_mem hk', h⟩)
    refine dr ?_
    refine cP (fun h2 => ?_) (fun h2 => ?_)
    · refine dEr ?_
      repeat (refine c0 (f_l1Under W0 _ _) rfl ?_; first | refine dEr ?_ | exact dz)
      refine cP (fun h3 => ?_) (fun h3 => ?_)
      · refine dr ?_
        exact yes (by simp [h2, h3])
      · refine dr ?_
        refine ⟨k + 1, ⟨by omega, no (by simp [h3])⟩, by omega, ?_⟩
        refine dr ?_
        trivial
    · refine dr ?_
      refine ⟨k + 1, ⟨by omega, no (by simp [h2])⟩, by omega, ?_⟩
      refine dr ?_
      trivial
  · refine dr ?_
    have : k = t.length := by omega
    subst this
    rw [List.take_length] at ha
    rw [ha]


def c_spec_l3In : XC := (.s (.r [.ex 4 (.mv .n)]) (.s (.r [.mv 7 1, .ex 8 (.call 167 [(.t 7)]), .mv 5 8]) (.s (.r [.mv 9 0, .mv 10 5, .ex 11 (.call 224 [(.t 9), (.t 10)]), .mv 6 11]) (.s (.r [.mv 12 5, .ex 13 (.bin .eql (.t 12) (.s [47])), .mv 14 13, .gf 15 (.mv (.t 6)) 14, .gf 16 (.bin .eql (.t 15) (.i 2)) 14, .ex 17 (.pick (.t 14) .y (.t 16)), .mv 18 17, .gf 19 (.mv (.t 6)) 18, .gf 20 (.bin .eql (.t 19) (.i 4)) 18, .ex 21 (.pick (.t 18) .y (.t 20)), .mv 4 21]) .ret))))
theorem c_spec_l3In_eq : compF Go.Proofs.Tryz.prog [] 221 = some (c_spec_l3In.ac, [(.t 4)], 22) := by kernel_rfl

theorem f_l3In (W0 : World) (t : List Mark) (p : Str) : Fn Go.Proofs.Tryz.prog W0 221 [eMarks t, CS p] (.c (CB (inD t p))) [] := by
  refine fnX (c := c_spec_l3In) mixed c_spec_l3In_eq (by simp) rfl fun hg => ?_
  refine dr ?_
  repeat (refine c0 (f_spec_PathUp W0 _) rfl ?_; first | refine dr ?_ | exact dz)
  intro hg1
  refine dr ?_
  repeat (refine c0 (f_l3Kind W0 _ _) rfl ?_; first | refine dr ?_ | exact dz)
  intro hg1
  refine dr ?_
  refine cP (fun h1 => ?_) (fun h1 => ?_)
  · refine dr ?_
    exact bT (by simp [inD, h1])
  · refine dr ?_
    refine cP (fun h2 => ?_) (fun h2 => ?_)
    · refine dr ?_
      exact bT (by simp [inD, h2])
    · refine dr ?_
      refine congrArg CB ?_
      rw [Bool.eq_iff_iff]; simp [inD, h1, h2, eqI_d]


def c_spec_l3Hides : XC := (.s (.r [.ex 4 (.mv .n)]) (.s (.s (.r [.ex 5 (.mv (.i 0))]) (.blk 0 (.loop (.s (.s (.r [.mv 6 5, .mv 7 0, .ex 8 (.len false (.t 7)), .ex 9 (.bin .lss (.t 6) (.t 8))]) (.cnd (.t 9) .skip (.exit 0))) (.s (.blk 1 (.s (.r [.mv 12 0, .mv 13 5, .ex 14 (.ia 3 (.t 12) (.t 13)), .ex 15 (.fa 0 (.t 14)), .ex 16 (.ld false 1 (.t 15)), .mv 17 1, .ex 18 (.bin .eql (.t 16) (.t 17)), .mv 19 18, .gt 20 (.mv (.t 0)) 19, .gt 21 (.mv (.t 5)) 19, .gt 22 (.ia 3 (.t 20) (.t 21)) 19, .gt 23 (.fa 1 (.t 22)) 19, .gt 24 (.ld false 1 (.t 23)) 19, .gt 25 (.bin .neq (.t 24) (.i 2)) 19, .ex 26 (.pick (.t 19) (.t 25) .n), .mv 27 26, .gf 28 (.mv (.t 0)) 27, .gf 29 (.mv (.t 5)) 27, .gf 30 (.ia 3 (.t 28) (.t 29)) 27, .gf 31 (.fa 1 (.t 30)) 27, .gf 32 (.ld false 1 (.t 31)) 27, .gf 33 (.bin .neq (.t 32) (.i 2)) 27, .gf 34 (.mv (.t 33)) 27, .gt 35 (.mv (.t 1)) 34, .gt 36 (.mv (.t 0)) 34, .gt 37 (.mv (.t 5)) 34, .gt 38 (.ia 3 (.t 36) (.t 37)) 34, .gt 39 (.fa 0 (.t 38)) 34, .gt 40 (.ld false 1 (.t 39)) 34, .gt 41 (.call 270 [(.t 35), (.t 40)]) 34, .gf 42 (.pick (.t 34) (.t 41) .n) 27, .ex 43 (.pick (.t 27) .y (.t 42))]) (.cnd (.t 43) (.s (.r [.ex 4 (.mv .y)]) .ret) .skip))) (.r [.mv 10 5, .ex 11 (.bin .add (.t 10) (.i 1)), .mv 5 11])))))) (.s (.r [.ex 4 (.mv .n)]) .ret)))
theorem c_spec_l3Hides_eq : compF Go.Proofs.Tryz.prog [] 223 = some (c_spec_l3Hides.ac, [(.t 4)], 44) := by kernel_rfl

theorem f_l3Hides (W0 : World) (t : List Mark) (p : Str) : Fn Go.Proofs.Tryz.prog W0 223 [eMarks t, CS p] (.c (CB (hides t p))) [] := by
  refine fnX (c := c_spec_l3Hides) mixed c_spec_l3Hides_eq (by simp) rfl fun hg => ?_
  have g1 := goodRow (hg _ (by simp : eMarks t ∈ _))
  refine dr ?_
  refine lp (σ := Nat) (fun k => [(0, .c (eMarks t)), (1, .c (CS p)), (5, I k)]) (fun _ => []) (fun k => k ≤ t.length ∧ hides (t.take k) p = false) (fun k => t.length - k) 0 ⟨by simp, by simp [hides]⟩ ?_ ?_
  · refine dr ?_
    trivial
  rintro k ⟨hk, ha⟩
  refine dr ?_
  refine cP (fun h1 => ?_) (fun h1 => ?_)
  · have hk' : k < t.length := by omega
    have no : hidP p t[k] = false → hides (t.take (k + 1)) p = false := fun h => by
      rw [hides] at ha ⊢
      rw [List.take_succ_eq_append_getElem hk', List.any_append, ha]; simpa using h
    have yes : hidP p t[k] = true → CB true = CB (hides t p) := fun h => bT (by
      rw [hides, List.any_eq_true]; exact ⟨t[k], List.getElem_mem hk', h⟩)
    refine dr ?_
    have nx : hidP p t[k] = false → ∃ x', (x' ≤ t.length ∧ hides (t.take x') p = false) ∧ x' = k + 1 := fun h => ⟨k + 1, ⟨by omega, no h⟩, rfl⟩
    refine cP (fun h2 => ?_) (fun h2 => ?_)
    · refine dr ?_
      refine cP (fun h3 => ?_) (fun h3 => ?_)
      · refine dr ?_
        exact yes (by simp [hidP, h2, h3])
      · refine dr ?_
        refine cP (fun h4 => ?_) (fun h4 => ?_)
        · omega
        · refine dr ?_
          refine ⟨k + 1, ⟨by omega, no (by simp [hidP, h3])⟩, by omega, ?_⟩
          refine dr ?_
          trivial
    · refine dr ?_
      refine cP (fun h3 => ?_) (fun h3 => ?_)
      · refine dEr ?_
        repeat (refine c0 (f_l1Under W0 _ _) rfl ?_; first | refine dEr ?_ | exact dz)
        refine cP (fun h5 => ?_) (fun h5 => ?_)
        · refine dr ?_
          exact yes (by simp [hidP, h3, h5])
        · refine dr ?_
          refine ⟨k + 1, ⟨by omega, no (by simp [hidP, h2, h5])⟩, by omega, ?_⟩
          refine dr ?_
          trivial
      · refine dr ?_
        refine ⟨k + 1, ⟨by omega, no (by simp [hidP, h3])⟩, by omega, ?_⟩
        refine dr ?_
        trivial
  · refine dr ?_
    have : k = t.length := by omega
    subst this
    rw [List.take_length] at ha
    rw [ha]


def c_spec_LayerOk : XC := (.s (.r [.ex 2 (.mv .n)]) (.s (.s (.r [.ex 3 (.mv (.i 0))]) (.blk 0 (.loop (.s (.s (.r [.mv 5 3, .mv 6 0, .ex 7 (.len false (.t 6)), .ex 8 (.bin .lss (.t 5) (.t 7))]) (.cnd (.t 8) .skip (.exit 0))) (.s (.blk 1 (.s (.r [.mv 11 0, .mv 12 3, .ex 13 (.ia 3 (.t 11) (.t 12)), .ex 14 (.ld true 3 (.t 13)), .ex 4 (.alloc [(.c (.sc (.string ⟨#[]⟩))), (.c (.sc (.int .i64 0))), (.c (.sc (.string ⟨#[]⟩)))]), .nu (.st 3 (.t 4) (.t 14))]) (.s (.s (.r [.ex 15 (.fa 1 (.t 4)), .ex 16 (.ld false 1 (.t 15)), .ex 17 (.bin .lss (.t 16) (.i 1)), .mv 18 17, .gf 19 (.fa 1 (.t 4)) 18, .gf 20 (.ld false 1 (.t 19)) 18, .gf 21 (.bin .gtr (.t 20) (.i 4)) 18, .ex 22 (.pick (.t 18) .y (.t 21)), .mv 23 22, .gf 24 (.fa 0 (.t 4)) 23, .gf 25 (.ld false 1 (.t 24)) 23, .gf 26 (.call 175 [(.t 25)]) 23, .gf 27 (.un .not (.t 26)) 23, .ex 28 (.pick (.t 23) .y (.t 27)), .mv 29 28, .gf 30 (.fa 2 (.t 4)) 29, .gf 31 (.ld false 1 (.t 30)) 29, .gf 32 (.call 220 [(.t 31)]) 29, .gf 33 (.un .not (.t 32)) 29, .ex 34 (.pick (.t 29) .y (.t 33)), .mv 35 34, .gf 36 (.fa 1 (.t 4)) 35, .gf 37 (.ld false 1 (.t 36)) 35, .gf 38 (.bin .neq (.t 37) (.i 1)) 35, .gf 39 (.mv (.t 38)) 35, .gt 40 (.fa 2 (.t 4)) 39, .gt 41 (.ld false 1 (.t 40)) 39, .gt 42 (.bin .neq (.t 41) (.s [])) 39, .gf 43 (.pick (.t 39) (.t 42) .n) 35, .ex 44 (.pick (.t 35) .y (.t 43))]) (.cnd (.t 44) (.s (.r [.ex 2 (.mv .n)]) .ret) .skip)) (.s (.s (.d [.mv 45 3, .ex 46 (.bin .gtr (.t 45) (.i 0)), .mv 47 46, .gt 48 (.mv (.t 0)) 47, .gt 49 (.mv (.t 3)) 47, .gt 50 (.bin .sub (.t 49) (.i 1)) 47, .gt 51 (.ia 3 (.t 48) (.t 50)) 47, .gt 52 (.fa 0 (.t 51)) 47, .gt 53 (.ld false 1 (.t 52)) 47, .gt 54 (.fa 0 (.t 4)) 47, .gt 55 (.ld false 1 (.t 54)) 47, .gt 56 (.bin .geq (.t 53) (.t 55)) 47, .ex 57 (.pick (.t 47) (.t 56) .n), .mv 58 57, .gf 59 (.mv (.t 0)) 58, .gf 60 (.mv (.t 3)) 58, .gf 61 (.slr 3 (.t 59) .none (.some (.t 60))) 58, .gf 62 (.fa 0 (.t 4)) 58, .gf 63 (.ld false 1 (.t 62)) 58, .gf 64 (.call 221 [(.t 61), (.t 63)]) 58, .gf 65 (.un .not (.t 64)) 58, .ex 66 (.pick (.t 58) .y (.t 65))]) (.cnd (.t 66) (.s (.r [.ex 2 (.mv .n)]) .ret) .skip)) (.s (.d [.ex 67 (.fa 1 (.t 4)), .ex 68 (.ld false 1 (.t 67)), .ex 69 (.bin .gtr (.t 68) (.i 2)), .mv 70 69, .gt 71 (.mv (.t 0)) 70, .gt 72 (.mv (.t 3)) 70, .gt 73 (.slr 3 (.t 71) .none (.some (.t 72))) 70, .gt 74 (.fa 0 (.t 4)) 70, .gt 75 (.ld false 1 (.t 74)) 70, .gt 76 (.call 222 [(.t 73), (.t 75)]) 70, .ex 77 (.pick (.t 70) (.t 76) .n)]) (.cnd (.t 77) (.s (.r [.ex 2 (.mv .n)]) .ret) .skip)))))) (.r [.mv 9 3, .ex 10 (.bin .add (.t 9) (.i 1)), .mv 3 10])))))) (.s (.r [.mv 78 0, .ex 79 (.len false (.t 78)), .ex 80 (.bin .leq (.t 79) (.i 32)), .mv 2 80]) .ret)))
theorem c_spec_LayerOk_eq : compF Go.Proofs.Tryz.prog [] 149 = some (c_spec_LayerOk.ac, [(.t 2)], 81) := by kernel_rfl

theorem f_spec_LayerOk (W0 : World) (t : List Mark) : Fn Go.Proofs.Tryz.prog W0 149 [eMarks t] (.c (CB (lOk t))) [] := by
  refine fnX (c := c_spec_LayerOk) mixed c_spec_LayerOk_eq (by simp) rfl fun hg => ?_
  have g1 := goodRow (hg _ (by simp : eMarks t ∈ _))
  refine dr ?_
  refine lp (σ := Nat) (fun k => [(0, .c (eMarks t)), (3, I k)]) (fun _ => []) (fun k => k ≤ t.length ∧ ∀ j (h : j < t.length), j < k → mok1 (t.take j) t[j] = true) (fun k => t.length - k) 0 ⟨by simp, by simp⟩ ?_ ?_
  · refine dr ?_
    trivial
  rintro k ⟨hk, ha⟩
  refine dr ?_
  refine cP (fun h2 => ?_) (fun h2 => ?_)
  rotate_left
  · refine dr ?_
    refine congrArg CB ?_
    rw [lOk, mokA0.2 fun j h => ha j h (by omega), Bool.eq_iff_iff]; simp [leI_d]; omega
  have hk' : k < t.length := by omega
  have no : mok1 (t.take k) t[k] = false → CB false = CB (lOk t) := fun h => bF (by
    rw [lOk, Bool.and_eq_false_iff]; right
    rw [Bool.eq_false_iff]; intro e
    have := mokA0.1 e k hk'
    rw [h] at this; cases this)
  refine dr ?_
  refine cP (fun h3 => ?_) (fun h3 => ?_)
  · refine dr ?_
    exact no (by simp [mok1]; omega)
  refine dr ?_
  refine cP (fun h4 => ?_) (fun h4 => ?_)
  · refine dr ?_
    exact no (by simp [mok1]; omega)
  have h34 : (decide (1 ≤ t[k].kind) && decide (t[k].kind ≤ 4)) = true := by simp; omega
  refine dr ?_
  repeat (refine c0 (f_spec_PathOk W0 _) rfl ?_; first | refine dr ?_ | exact dz)
  refine cP (fun h5 => ?_) (fun h5 => ?_)
  · refine dr ?_
    exact no (by simp [mok1, h5])
  refine dr ?_
  repeat (refine c0 (f_l2Data W0 _) rfl ?_; first | refine dr ?_ | exact dz)
  refine cP (fun h6 => ?_) (fun h6 => ?_)
  · refine dr ?_
    exact no (by simp [mok1, h6])
  refine dr ?_
  refine cP (fun h70 => ?_) (fun h70 => ?_)
  · refine dr ?_
    refine cP (fun h71 => ?_) (fun h71 => ?_)
    · refine dr ?_
      exact no (by simp [mok1, h70, h71])
    · have h7 : (!(t[k].kind != 1 && t[k].data != [])) = true := by simp [h71]
      clear h71
      refine dr ?_
      refine cP (fun h8 => ?_) (fun h8 => ?_)
      · have hl : (t.take k).getLast? = some t[k - 1] := by
          rw [List.getLast?_take, if_neg (by omega), List.getElem?_eq_getElem (by omega)]
          rfl
        refine dr ?_
        repeat (refine aM (j := k - 1) (by omega) (by omega) ?_; first | refine dr ?_ | exact dz)
        cases hlt : ltS t[k - 1].path t[k].path
        · refine dr ?_
          exact no (by simp [mok1, mlast, hl, hlt])
        · have hlast : mlast (t.take k) t[k].path = true := by rw [mlast, hl]; exact hlt
          refine dEr ?_
          repeat ((first | refine sHiM k rfl (by omega) ?_ | refine c0 (f_l3In W0 (t.take k) _) rfl ?_); first | refine dEr ?_ | exact dz)
          refine cP (fun h9 => ?_) (fun h9 => ?_)
          · refine dr ?_
            exact no (by simp [mok1, h9])
          · refine dr ?_
            refine cP (fun h10 => ?_) (fun h10 => ?_)
            · refine dEr ?_
              repeat ((first | refine sHiM k rfl (by omega) ?_ | refine c0 (f_l3Bare W0 (t.take k) _) rfl ?_); first | refine dEr ?_ | exact dz)
              refine cP (fun h11 => ?_) (fun h11 => ?_)
              · refine dr ?_
                exact no (by simp [mok1, h10, h11])
              · refine dr ?_
                refine ⟨k + 1, ⟨by omega, fun j h hj => ?_⟩, by omega, ?_⟩
                · by_cases e : j = k
                  · subst e; rw [mok1, h34, h5, h6, h7, hlast, h9, h11]; simp
                  · exact ha j h (by omega)
                · refine dr ?_
                  trivial
            · refine dr ?_
              refine ⟨k + 1, ⟨by omega, fun j h hj => ?_⟩, by omega, ?_⟩
              · by_cases e : j = k
                · subst e; rw [mok1, h34, h5, h6, h7, hlast, h9]; simp; omega
                · exact ha j h (by omega)
              · refine dr ?_
                trivial
      · have hlast : mlast (t.take k) t[k].path = true := by
          have hk0 : k = 0 := by omega
          subst hk0; rfl
        refine dEr ?_
        repeat ((first | refine sHiM k rfl (by omega) ?_ | refine c0 (f_l3In W0 (t.take k) _) rfl ?_); first | refine dEr ?_ | exact dz)
        refine cP (fun h9 => ?_) (fun h9 => ?_)
        · refine dr ?_
          exact no (by simp [mok1, h9])
        · refine dr ?_
          refine cP (fun h10 => ?_) (fun h10 => ?_)
          · refine dEr ?_
            repeat ((first | refine sHiM k rfl (by omega) ?_ | refine c0 (f_l3Bare W0 (t.take k) _) rfl ?_); first | refine dEr ?_ | exact dz)
            refine cP (fun h11 => ?_) (fun h11 => ?_)
            · refine dr ?_
              exact no (by simp [mok1, h10, h11])
            · refine dr ?_
              refine ⟨k + 1, ⟨by omega, fun j h hj => ?_⟩, by omega, ?_⟩
              · by_cases e : j = k
                · subst e; rw [mok1, h34, h5, h6, h7, hlast, h9, h11]; simp
                · exact ha j h (by omega)
              · refine dr ?_
                trivial
          · refine dr ?_
            refine ⟨k + 1, ⟨by omega, fun j h hj => ?_⟩, by omega, ?_⟩
            · by_cases e : j = k
              · subst e; rw [mok1, h34, h5, h6, h7, hlast, h9]; simp; omega
              · exact ha j h (by omega)
            · refine dr ?_
              trivial
  · have h7 : (!(t[k].kind != 1 && t[k].data != [])) = true := by simp [h70]
    refine dr ?_
    refine cP (fun h8 => ?_) (fun h8 => ?_)
    · have hl : (t.take k).getLast? = some t[k - 1] := by
        rw [List.getLast?_take, if_neg (by omega), List.getElem?_eq_getElem (by omega)]
        rfl
      refine dr ?_
      repeat (refine aM (j := k - 1) (by omega) (by omega) ?_; first | refine dr ?_ | exact dz)
      cases hlt : ltS t[k - 1].path t[k].path
      · refine dr ?_
        exact no (by simp [mok1, mlast, hl, hlt])
      · have hlast : mlast (t.take k) t[k].path = true := by rw [mlast, hl]; exact hlt
        refine dEr ?_
        repeat ((first | refine sHiM k rfl (by omega) ?_ | refine c0 (f_l3In W0 (t.take k) _) rfl ?_); first | refine dEr ?_ | exact dz)
        refine cP (fun h9 => ?_) (fun h9 => ?_)
        · refine dr ?_
          exact no (by simp [mok1, h9])
        · refine dr ?_
          refine cP (fun h10 => ?_) (fun h10 => ?_)
          · refine dEr ?_
            repeat ((first | refine sHiM k rfl (by omega) ?_ | refine c0 (f_l3Bare W0 (t.take k) _) rfl ?_); first | refine dEr ?_ | exact dz)
            refine cP (fun h11 => ?_) (fun h11 => ?_)
            · refine dr ?_
              exact no (by simp [mok1, h10, h11])
            · refine dr ?_
              refine ⟨k + 1, ⟨by omega, fun j h hj => ?_⟩, by omega, ?_⟩
              · by_cases e : j = k
                · subst e; rw [mok1, h34, h5, h6, h7, hlast, h9, h11]; simp
                · exact ha j h (by omega)
              · refine dr ?_
                trivial
          · refine dr ?_
            refine ⟨k + 1, ⟨by omega, fun j h hj => ?_⟩, by omega, ?_⟩
            · by_cases e : j = k
              · subst e; rw [mok1, h34, h5, h6, h7, hlast, h9]; simp; omega
              · exact ha j h (by omega)
            · refine dr ?_
              trivial
    · have hlast : mlast (t.take k) t[k].path = true := by
        have hk0 : k = 0 := by omega
        subst hk0; rfl
      refine dEr ?_
      repeat ((first | refine sHiM k rfl (by omega) ?_ | refine c0 (f_l3In W0 (t.take k) _) rfl ?_); first | refine dEr ?_ | exact dz)
      refine cP (fun h9 => ?_) (fun h9 => ?_)
      · refine dr ?_
        exact no (by simp [mok1, h9])
      · refine dr ?_
        refine cP (fun h10 => ?_) (fun h10 => ?_)
        · refine dEr ?_
          repeat ((first | refine sHiM k rfl (by omega) ?_ | refine c0 (f_l3Bare W0 (t.take k) _) rfl ?_); first | refine dEr ?_ | exact dz)
          refine cP (fun h11 => ?_) (fun h11 => ?_)
          · refine dr ?_
            exact no (by simp [mok1, h10, h11])
          · refine dr ?_
            refine ⟨k + 1, ⟨by omega, fun j h hj => ?_⟩, by omega, ?_⟩
            · by_cases e : j = k
              · subst e; rw [mok1, h34, h5, h6, h7, hlast, h9, h11]; simp
              · exact ha j h (by omega)
            · refine dr ?_
              trivial
        · refine dr ?_
          refine ⟨k + 1, ⟨by omega, fun j h hj => ?_⟩, by omega, ?_⟩
          · by_cases e : j = k
            · subst e; rw [mok1, h34, h5, h6, h7, hlast, h9]; simp; omega
            · exact ha j h (by omega)
          · refine dr ?_
            trivial


end Go.Proofs.YthblflnfhdnpdaaGreatDoor

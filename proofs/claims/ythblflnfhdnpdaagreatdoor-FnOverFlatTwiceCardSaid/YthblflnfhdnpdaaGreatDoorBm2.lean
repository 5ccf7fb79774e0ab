/- Contracts: equality of the data by the program and by the reference; copies; no condition. -/
import Derived.Test.YthblflnfhdnpdaaGreatDoorBm1
namespace Go.Proofs.YthblflnfhdnpdaaGreatDoor
set_option linter.unusedSimpArgs false
set_option linter.unusedVariables false
open Go Go.RowKit

theorem over_ext {a b : Over} (h1 : a.base = b.base) (h2 : a.layers = b.layers) (h3 : a.upper = b.upper) : a = b := by cases a; cases b; simp_all


def c_laws_eqOver : XC := (.s (.r [.ex 2 (.box (.t 0)), .ex 3 (.box (.t 1)), .ex 4 (.mv .n)]) (.s (.s (.r [.ex 5 (.fa 0 (.t 2)), .ex 6 (.ld false 1 (.t 5)), .ex 7 (.fa 0 (.t 3)), .ex 8 (.ld false 1 (.t 7)), .ex 9 (.call 206 [(.t 6), (.t 8)]), .ex 10 (.un .not (.t 9))]) (.cnd (.t 10) (.s (.r [.ex 4 (.mv .n)]) .ret) .skip)) (.s (.s (.r [.ex 11 (.fa 1 (.t 2)), .ex 12 (.ld false 1 (.t 11)), .ex 13 (.fa 1 (.t 3)), .ex 14 (.ld false 1 (.t 13)), .ex 15 (.call 207 [(.t 12), (.t 14)]), .ex 16 (.un .not (.t 15))]) (.cnd (.t 16) (.s (.r [.ex 4 (.mv .n)]) .ret) .skip)) (.s (.s (.r [.ex 17 (.fa 2 (.t 2)), .ex 18 (.ld false 1 (.t 17)), .ex 19 (.fa 2 (.t 3)), .ex 20 (.ld false 1 (.t 19)), .ex 21 (.call 208 [(.t 18), (.t 20)]), .ex 22 (.un .not (.t 21))]) (.cnd (.t 22) (.s (.r [.ex 4 (.mv .n)]) .ret) .skip)) (.s (.r [.ex 4 (.mv .y)]) .ret)))))
theorem c_laws_eqOver_eq : compF Go.Proofs.Tryz.prog [] 130 = some (c_laws_eqOver.ac, [(.t 4)], 23) := by kernel_rfl

theorem f_eqOver (W0 : World) (a b : Over) : Fn Go.Proofs.Tryz.prog W0 130 [eOver a, eOver b] (.c (CB (decide (a = b)))) [] := by
  refine fnX (c := c_laws_eqOver) mixed c_laws_eqOver_eq (by simp) rfl fun hg => ?_
  refine dr ?_
  repeat (refine c0 (f_laws_eqEntS W0 a.base b.base) rfl ?_; first | refine dr ?_ | exact dz)
  refine cP (fun h1 => ?_) (fun h1 => ?_)
  · conv => whnf
    exact dF fun e => by simp [e] at h1
  refine dr ?_
  repeat (refine c0 (f_laws_eqMarkSS W0 a.layers b.layers) rfl ?_; first | refine dr ?_ | exact dz)
  refine cP (fun h2 => ?_) (fun h2 => ?_)
  · conv => whnf
    exact dF fun e => by simp [e] at h2
  refine dr ?_
  repeat (refine c0 (f_laws_eqMarkS W0 a.upper b.upper) rfl ?_; first | refine dr ?_ | exact dz)
  refine cP (fun h3 => ?_) (fun h3 => ?_)
  · conv => whnf
    exact dF fun e => by simp [e] at h3
  refine dr ?_
  exact dT (by cases a; cases b; simp_all)


def c_spec_TreeSame : XC := (.s (.r [.ex 4 (.mv .n)]) (.s (.s (.r [.mv 6 0, .ex 7 (.len false (.t 6)), .mv 8 1, .ex 9 (.len false (.t 8)), .ex 10 (.bin .neq (.t 7) (.t 9))]) (.cnd (.t 10) (.s (.r [.ex 4 (.mv .n)]) .ret) .skip)) (.s (.s (.r [.ex 5 (.mv (.i 0))]) (.blk 0 (.loop (.s (.s (.r [.mv 11 5, .mv 12 0, .ex 13 (.len false (.t 12)), .ex 14 (.bin .lss (.t 11) (.t 13))]) (.cnd (.t 14) .skip (.exit 0))) (.s (.blk 1 (.s (.d [.mv 17 0, .mv 18 5, .ex 19 (.ia 3 (.t 17) (.t 18)), .ex 20 (.ld true 3 (.t 19)), .mv 21 1, .mv 22 5, .ex 23 (.ia 3 (.t 21) (.t 22)), .ex 24 (.ld true 3 (.t 23)), .ex 25 (.beq true [.s, .b, .s] (.t 20) (.t 24))]) (.cnd (.t 25) (.s (.r [.ex 4 (.mv .n)]) .ret) .skip))) (.r [.mv 15 5, .ex 16 (.bin .add (.t 15) (.i 1)), .mv 5 16])))))) (.s (.r [.ex 4 (.mv .y)]) .ret))))
theorem c_spec_TreeSame_eq : compF Go.Proofs.Tryz.prog [] 77 = some (c_spec_TreeSame.ac, [(.t 4)], 26) := by kernel_rfl

theorem f_spec_TreeSame (W0 : World) (a b : List Ent) : Fn Go.Proofs.Tryz.prog W0 77 [eEnts a, eEnts b] (.c (CB (decide (a = b)))) [] := by
  refine fnX (c := c_spec_TreeSame) mixed c_spec_TreeSame_eq (by simp) rfl fun hg => ?_
  have g1 := goodRow (hg _ (by simp : eEnts a ∈ _))
  refine dr ?_
  refine cP (fun h1 => ?_) (fun h1 => ?_)
  · conv => whnf
    exact dF (ne_len (by omega))
  conv => whnf
  refine lp (σ := Nat) (fun k => [(0, .c (eEnts a)), (1, .c (eEnts b)), (5, I k)]) (fun _ => []) (fun k => k ≤ a.length ∧ a.take k = b.take k) (fun k => a.length - k) 0 ⟨by simp, by simp⟩ ?_ ?_
  · refine dr ?_
    trivial
  rintro k ⟨hk, he⟩
  refine dr ?_
  refine cP (fun h2 => ?_) (fun h2 => ?_)
  · refine dr ?_
    rw [bqEnt]
    refine cP (fun h3 => ?_) (fun h3 => ?_)
    rotate_left
    · refine dr ?_
      refine ⟨k + 1, ⟨by omega, take_next (by omega) (by omega) he (by simpa using h3)⟩, by omega, ?_⟩
      refine dr ?_
      trivial
    · conv => whnf
      exact dF (ne_at (k := k) (by omega) (by omega) (by simpa using h3))
  · refine dr ?_
    have : k = a.length := by omega
    subst this
    exact dT (eq_of_takes (by omega) he)


def c_spec_LayerSame : XC := (.s (.r [.ex 4 (.mv .n)]) (.s (.s (.r [.mv 6 0, .ex 7 (.len false (.t 6)), .mv 8 1, .ex 9 (.len false (.t 8)), .ex 10 (.bin .neq (.t 7) (.t 9))]) (.cnd (.t 10) (.s (.r [.ex 4 (.mv .n)]) .ret) .skip)) (.s (.s (.r [.ex 5 (.mv (.i 0))]) (.blk 0 (.loop (.s (.s (.r [.mv 11 5, .mv 12 0, .ex 13 (.len false (.t 12)), .ex 14 (.bin .lss (.t 11) (.t 13))]) (.cnd (.t 14) .skip (.exit 0))) (.s (.blk 1 (.s (.d [.mv 17 0, .mv 18 5, .ex 19 (.ia 3 (.t 17) (.t 18)), .ex 20 (.ld true 3 (.t 19)), .mv 21 1, .mv 22 5, .ex 23 (.ia 3 (.t 21) (.t 22)), .ex 24 (.ld true 3 (.t 23)), .ex 25 (.beq true [.s, (.i .i64), .s] (.t 20) (.t 24))]) (.cnd (.t 25) (.s (.r [.ex 4 (.mv .n)]) .ret) .skip))) (.r [.mv 15 5, .ex 16 (.bin .add (.t 15) (.i 1)), .mv 5 16])))))) (.s (.r [.ex 4 (.mv .y)]) .ret))))
theorem c_spec_LayerSame_eq : compF Go.Proofs.Tryz.prog [] 73 = some (c_spec_LayerSame.ac, [(.t 4)], 26) := by kernel_rfl

theorem f_spec_LayerSame (W0 : World) (a b : List Mark) : Fn Go.Proofs.Tryz.prog W0 73 [eMarks a, eMarks b] (.c (CB (decide (a = b)))) [] := by
  refine fnX (c := c_spec_LayerSame) mixed c_spec_LayerSame_eq (by simp) rfl fun hg => ?_
  have g1 := goodRow (hg _ (by simp : eMarks a ∈ _))
  refine dr ?_
  refine cP (fun h1 => ?_) (fun h1 => ?_)
  · conv => whnf
    exact dF (ne_len (by omega))
  conv => whnf
  refine lp (σ := Nat) (fun k => [(0, .c (eMarks a)), (1, .c (eMarks b)), (5, I k)]) (fun _ => []) (fun k => k ≤ a.length ∧ a.take k = b.take k) (fun k => a.length - k) 0 ⟨by simp, by simp⟩ ?_ ?_
  · refine dr ?_
    trivial
  rintro k ⟨hk, he⟩
  refine dr ?_
  refine cP (fun h2 => ?_) (fun h2 => ?_)
  · refine dr ?_
    rw [bqMark]
    refine cP (fun h3 => ?_) (fun h3 => ?_)
    rotate_left
    · refine dr ?_
      refine ⟨k + 1, ⟨by omega, take_next (by omega) (by omega) he (by simpa using h3)⟩, by omega, ?_⟩
      refine dr ?_
      trivial
    · conv => whnf
      exact dF (ne_at (k := k) (by omega) (by omega) (by simpa using h3))
  · refine dr ?_
    have : k = a.length := by omega
    subst this
    exact dT (eq_of_takes (by omega) he)


def c_spec_l5Holds : XC := (.s (.r [.ex 4 (.mv .n)]) (.s (.s (.r [.mv 6 0, .ex 7 (.len false (.t 6)), .mv 8 1, .ex 9 (.len false (.t 8)), .ex 10 (.bin .neq (.t 7) (.t 9))]) (.cnd (.t 10) (.s (.r [.ex 4 (.mv .n)]) .ret) .skip)) (.s (.s (.r [.ex 5 (.mv (.i 0))]) (.blk 0 (.loop (.s (.s (.r [.mv 11 5, .mv 12 0, .ex 13 (.len false (.t 12)), .ex 14 (.bin .lss (.t 11) (.t 13))]) (.cnd (.t 14) .skip (.exit 0))) (.s (.blk 1 (.s (.d [.mv 17 0, .mv 18 5, .ex 19 (.ia 7 (.t 17) (.t 18)), .ex 20 (.ld true 7 (.t 19)), .mv 21 1, .mv 22 5, .ex 23 (.ia 7 (.t 21) (.t 22)), .ex 24 (.ld true 7 (.t 23)), .ex 25 (.beq true [.s, .b, .s, .b, .s, (.i .i64), (.i .i64)] (.t 20) (.t 24))]) (.cnd (.t 25) (.s (.r [.ex 4 (.mv .n)]) .ret) .skip))) (.r [.mv 15 5, .ex 16 (.bin .add (.t 15) (.i 1)), .mv 5 16])))))) (.s (.r [.ex 4 (.mv .y)]) .ret))))
theorem c_spec_l5Holds_eq : compF Go.Proofs.Tryz.prog [] 102 = some (c_spec_l5Holds.ac, [(.t 4)], 26) := by kernel_rfl

theorem f_spec_l5Holds (W0 : World) (a b : List Hold) : Fn Go.Proofs.Tryz.prog W0 102 [eHolds a, eHolds b] (.c (CB (decide (a = b)))) [] := by
  refine fnX (c := c_spec_l5Holds) mixed c_spec_l5Holds_eq (by simp) rfl fun hg => ?_
  have g1 := goodRow (hg _ (by simp : eHolds a ∈ _))
  refine dr ?_
  refine cP (fun h1 => ?_) (fun h1 => ?_)
  · conv => whnf
    exact dF (ne_len (by omega))
  conv => whnf
  refine lp (σ := Nat) (fun k => [(0, .c (eHolds a)), (1, .c (eHolds b)), (5, I k)]) (fun _ => []) (fun k => k ≤ a.length ∧ a.take k = b.take k) (fun k => a.length - k) 0 ⟨by simp, by simp⟩ ?_ ?_
  · refine dr ?_
    trivial
  rintro k ⟨hk, he⟩
  refine dr ?_
  refine cP (fun h2 => ?_) (fun h2 => ?_)
  · refine dr ?_
    rw [bqHold]
    refine cP (fun h3 => ?_) (fun h3 => ?_)
    rotate_left
    · refine dr ?_
      refine ⟨k + 1, ⟨by omega, take_next (by omega) (by omega) he (by simpa using h3)⟩, by omega, ?_⟩
      refine dr ?_
      trivial
    · conv => whnf
      exact dF (ne_at (k := k) (by omega) (by omega) (by simpa using h3))
  · refine dr ?_
    have : k = a.length := by omega
    subst this
    exact dT (eq_of_takes (by omega) he)


def c_EqEnt : XC := (.s (.r [.ex 4 (.mv .n)]) (.s (.s (.r [.mv 6 0, .ex 7 (.len false (.t 6)), .mv 8 1, .ex 9 (.len false (.t 8)), .ex 10 (.bin .neq (.t 7) (.t 9))]) (.cnd (.t 10) (.s (.r [.ex 4 (.mv .n)]) .ret) .skip)) (.s (.s (.r [.mv 11 0, .ex 12 (.len false (.t 11)), .ex 13 (.mv (.i 0))]) (.blk 0 (.loop (.s (.r [.ex 14 (.bin .lss (.t 13) (.t 12))]) (.s (.cnd (.t 14) .skip (.exit 0)) (.s (.blk 1 (.s (.r [.mv 15 13, .mv 5 15]) (.s (.d [.mv 16 0, .mv 17 5, .ex 18 (.ia 3 (.t 16) (.t 17)), .ex 19 (.ld true 3 (.t 18)), .mv 20 1, .mv 21 5, .ex 22 (.ia 3 (.t 20) (.t 21)), .ex 23 (.ld true 3 (.t 22)), .ex 24 (.beq true [.s, .b, .s] (.t 19) (.t 23))]) (.cnd (.t 24) (.s (.r [.ex 4 (.mv .n)]) .ret) .skip)))) (.r [.ex 25 (.bin .add (.t 13) (.i 1)), .mv 13 25]))))))) (.s (.r [.ex 4 (.mv .y)]) .ret))))
theorem c_EqEnt_eq : compF Go.Proofs.Tryz.prog [] 75 = some (c_EqEnt.ac, [(.t 4)], 26) := by kernel_rfl

theorem f_EqEnt (W0 : World) (a b : List Ent) : Fn Go.Proofs.Tryz.prog W0 75 [eEnts a, eEnts b] (.c (CB (decide (a = b)))) [] := by
  refine fnX (c := c_EqEnt) mixed c_EqEnt_eq (by simp) rfl fun hg => ?_
  have g1 := goodRow (hg _ (by simp : eEnts a ∈ _))
  refine dr ?_
  refine cP (fun h1 => ?_) (fun h1 => ?_)
  · conv => whnf
    exact dF (ne_len (by omega))
  refine dr ?_
  refine lp (σ := Nat) (fun k => [(0, .c (eEnts a)), (1, .c (eEnts b)), (12, I a.length), (13, I k)]) (fun _ => []) (fun k => k ≤ a.length ∧ a.take k = b.take k) (fun k => a.length - k) 0 ⟨by simp, by simp⟩ ?_ ?_
  · refine dr ?_
    trivial
  rintro k ⟨hk, he⟩
  refine dr ?_
  refine cP (fun h2 => ?_) (fun h2 => ?_)
  · refine dr ?_
    rw [bqEnt]
    refine cP (fun h3 => ?_) (fun h3 => ?_)
    rotate_left
    · refine dr ?_
      refine ⟨k + 1, ⟨by omega, take_next (by omega) (by omega) he (by simpa using h3)⟩, by omega, ?_⟩
      refine dr ?_
      trivial
    · conv => whnf
      exact dF (ne_at (k := k) (by omega) (by omega) (by simpa using h3))
  · refine dr ?_
    have : k = a.length := by omega
    subst this
    exact dT (eq_of_takes (by omega) he)


def c_EqMark : XC := (.s (.r [.ex 4 (.mv .n)]) (.s (.s (.r [.mv 6 0, .ex 7 (.len false (.t 6)), .mv 8 1, .ex 9 (.len false (.t 8)), .ex 10 (.bin .neq (.t 7) (.t 9))]) (.cnd (.t 10) (.s (.r [.ex 4 (.mv .n)]) .ret) .skip)) (.s (.s (.r [.mv 11 0, .ex 12 (.len false (.t 11)), .ex 13 (.mv (.i 0))]) (.blk 0 (.loop (.s (.r [.ex 14 (.bin .lss (.t 13) (.t 12))]) (.s (.cnd (.t 14) .skip (.exit 0)) (.s (.blk 1 (.s (.r [.mv 15 13, .mv 5 15]) (.s (.d [.mv 16 0, .mv 17 5, .ex 18 (.ia 3 (.t 16) (.t 17)), .ex 19 (.ld true 3 (.t 18)), .mv 20 1, .mv 21 5, .ex 22 (.ia 3 (.t 20) (.t 21)), .ex 23 (.ld true 3 (.t 22)), .ex 24 (.beq true [.s, (.i .i64), .s] (.t 19) (.t 23))]) (.cnd (.t 24) (.s (.r [.ex 4 (.mv .n)]) .ret) .skip)))) (.r [.ex 25 (.bin .add (.t 13) (.i 1)), .mv 13 25]))))))) (.s (.r [.ex 4 (.mv .y)]) .ret))))
theorem c_EqMark_eq : compF Go.Proofs.Tryz.prog [] 76 = some (c_EqMark.ac, [(.t 4)], 26) := by kernel_rfl

theorem f_EqMark (W0 : World) (a b : List Mark) : Fn Go.Proofs.Tryz.prog W0 76 [eMarks a, eMarks b] (.c (CB (decide (a = b)))) [] := by
  refine fnX (c := c_EqMark) mixed c_EqMark_eq (by simp) rfl fun hg => ?_
  have g1 := goodRow (hg _ (by simp : eMarks a ∈ _))
  refine dr ?_
  refine cP (fun h1 => ?_) (fun h1 => ?_)
  · conv => whnf
    exact dF (ne_len (by omega))
  refine dr ?_
  refine lp (σ := Nat) (fun k => [(0, .c (eMarks a)), (1, .c (eMarks b)), (12, I a.length), (13, I k)]) (fun _ => []) (fun k => k ≤ a.length ∧ a.take k = b.take k) (fun k => a.length - k) 0 ⟨by simp, by simp⟩ ?_ ?_
  · refine dr ?_
    trivial
  rintro k ⟨hk, he⟩
  refine dr ?_
  refine cP (fun h2 => ?_) (fun h2 => ?_)
  · refine dr ?_
    rw [bqMark]
    refine cP (fun h3 => ?_) (fun h3 => ?_)
    rotate_left
    · refine dr ?_
      refine ⟨k + 1, ⟨by omega, take_next (by omega) (by omega) he (by simpa using h3)⟩, by omega, ?_⟩
      refine dr ?_
      trivial
    · conv => whnf
      exact dF (ne_at (k := k) (by omega) (by omega) (by simpa using h3))
  · refine dr ?_
    have : k = a.length := by omega
    subst this
    exact dT (eq_of_takes (by omega) he)


def c_EqHold : XC := (.s (.r [.ex 4 (.mv .n)]) (.s (.s (.r [.mv 6 0, .ex 7 (.len false (.t 6)), .mv 8 1, .ex 9 (.len false (.t 8)), .ex 10 (.bin .neq (.t 7) (.t 9))]) (.cnd (.t 10) (.s (.r [.ex 4 (.mv .n)]) .ret) .skip)) (.s (.s (.r [.mv 11 0, .ex 12 (.len false (.t 11)), .ex 13 (.mv (.i 0))]) (.blk 0 (.loop (.s (.r [.ex 14 (.bin .lss (.t 13) (.t 12))]) (.s (.cnd (.t 14) .skip (.exit 0)) (.s (.blk 1 (.s (.r [.mv 15 13, .mv 5 15]) (.s (.d [.mv 16 0, .mv 17 5, .ex 18 (.ia 7 (.t 16) (.t 17)), .ex 19 (.ld true 7 (.t 18)), .mv 20 1, .mv 21 5, .ex 22 (.ia 7 (.t 20) (.t 21)), .ex 23 (.ld true 7 (.t 22)), .ex 24 (.beq true [.s, .b, .s, .b, .s, (.i .i64), (.i .i64)] (.t 19) (.t 23))]) (.cnd (.t 24) (.s (.r [.ex 4 (.mv .n)]) .ret) .skip)))) (.r [.ex 25 (.bin .add (.t 13) (.i 1)), .mv 13 25]))))))) (.s (.r [.ex 4 (.mv .y)]) .ret))))
theorem c_EqHold_eq : compF Go.Proofs.Tryz.prog [] 79 = some (c_EqHold.ac, [(.t 4)], 26) := by kernel_rfl

theorem f_EqHold (W0 : World) (a b : List Hold) : Fn Go.Proofs.Tryz.prog W0 79 [eHolds a, eHolds b] (.c (CB (decide (a = b)))) [] := by
  refine fnX (c := c_EqHold) mixed c_EqHold_eq (by simp) rfl fun hg => ?_
  have g1 := goodRow (hg _ (by simp : eHolds a ∈ _))
  refine dr ?_
  refine cP (fun h1 => ?_) (fun h1 => ?_)
  · conv => whnf
    exact dF (ne_len (by omega))
  refine dr ?_
  refine lp (σ := Nat) (fun k => [(0, .c (eHolds a)), (1, .c (eHolds b)), (12, I a.length), (13, I k)]) (fun _ => []) (fun k => k ≤ a.length ∧ a.take k = b.take k) (fun k => a.length - k) 0 ⟨by simp, by simp⟩ ?_ ?_
  · refine dr ?_
    trivial
  rintro k ⟨hk, he⟩
  refine dr ?_
  refine cP (fun h2 => ?_) (fun h2 => ?_)
  · refine dr ?_
    rw [bqHold]
    refine cP (fun h3 => ?_) (fun h3 => ?_)
    rotate_left
    · refine dr ?_
      refine ⟨k + 1, ⟨by omega, take_next (by omega) (by omega) he (by simpa using h3)⟩, by omega, ?_⟩
      refine dr ?_
      trivial
    · conv => whnf
      exact dF (ne_at (k := k) (by omega) (by omega) (by simpa using h3))
  · refine dr ?_
    have : k = a.length := by omega
    subst this
    exact dT (eq_of_takes (by omega) he)


def c_EqLease : XC := (.s (.r [.ex 4 (.mv .n)]) (.s (.s (.r [.mv 6 0, .ex 7 (.len false (.t 6)), .mv 8 1, .ex 9 (.len false (.t 8)), .ex 10 (.bin .neq (.t 7) (.t 9))]) (.cnd (.t 10) (.s (.r [.ex 4 (.mv .n)]) .ret) .skip)) (.s (.s (.r [.mv 11 0, .ex 12 (.len false (.t 11)), .ex 13 (.mv (.i 0))]) (.blk 0 (.loop (.s (.r [.ex 14 (.bin .lss (.t 13) (.t 12))]) (.s (.cnd (.t 14) .skip (.exit 0)) (.s (.blk 1 (.s (.r [.mv 15 13, .mv 5 15]) (.s (.d [.mv 16 0, .mv 17 5, .ex 18 (.ia 4 (.t 16) (.t 17)), .ex 19 (.ld true 4 (.t 18)), .mv 20 1, .mv 21 5, .ex 22 (.ia 4 (.t 20) (.t 21)), .ex 23 (.ld true 4 (.t 22)), .ex 24 (.beq true [(.i .i64), .s, (.i .i64), (.i .i64)] (.t 19) (.t 23))]) (.cnd (.t 24) (.s (.r [.ex 4 (.mv .n)]) .ret) .skip)))) (.r [.ex 25 (.bin .add (.t 13) (.i 1)), .mv 13 25]))))))) (.s (.r [.ex 4 (.mv .y)]) .ret))))
theorem c_EqLease_eq : compF Go.Proofs.Tryz.prog [] 80 = some (c_EqLease.ac, [(.t 4)], 26) := by kernel_rfl

theorem f_EqLease (W0 : World) (a b : List Lease) : Fn Go.Proofs.Tryz.prog W0 80 [eLeases a, eLeases b] (.c (CB (decide (a = b)))) [] := by
  refine fnX (c := c_EqLease) mixed c_EqLease_eq (by simp) rfl fun hg => ?_
  have g1 := goodRow (hg _ (by simp : eLeases a ∈ _))
  refine dr ?_
  refine cP (fun h1 => ?_) (fun h1 => ?_)
  · conv => whnf
    exact dF (ne_len (by omega))
  refine dr ?_
  refine lp (σ := Nat) (fun k => [(0, .c (eLeases a)), (1, .c (eLeases b)), (12, I a.length), (13, I k)]) (fun _ => []) (fun k => k ≤ a.length ∧ a.take k = b.take k) (fun k => a.length - k) 0 ⟨by simp, by simp⟩ ?_ ?_
  · refine dr ?_
    trivial
  rintro k ⟨hk, he⟩
  refine dr ?_
  refine cP (fun h2 => ?_) (fun h2 => ?_)
  · refine dr ?_
    rw [bqLease]
    refine cP (fun h3 => ?_) (fun h3 => ?_)
    rotate_left
    · refine dr ?_
      refine ⟨k + 1, ⟨by omega, take_next (by omega) (by omega) he (by simpa using h3)⟩, by omega, ?_⟩
      refine dr ?_
      trivial
    · conv => whnf
      exact dF (ne_at (k := k) (by omega) (by omega) (by simpa using h3))
  · refine dr ?_
    have : k = a.length := by omega
    subst this
    exact dT (eq_of_takes (by omega) he)


def c_EqMsg : XC := (.s (.r [.ex 4 (.mv .n)]) (.s (.s (.r [.mv 6 0, .ex 7 (.len false (.t 6)), .mv 8 1, .ex 9 (.len false (.t 8)), .ex 10 (.bin .neq (.t 7) (.t 9))]) (.cnd (.t 10) (.s (.r [.ex 4 (.mv .n)]) .ret) .skip)) (.s (.s (.r [.mv 11 0, .ex 12 (.len false (.t 11)), .ex 13 (.mv (.i 0))]) (.blk 0 (.loop (.s (.r [.ex 14 (.bin .lss (.t 13) (.t 12))]) (.s (.cnd (.t 14) .skip (.exit 0)) (.s (.blk 1 (.s (.r [.mv 15 13, .mv 5 15]) (.s (.d [.mv 16 0, .mv 17 5, .ex 18 (.ia 9 (.t 16) (.t 17)), .ex 19 (.ld true 9 (.t 18)), .mv 20 1, .mv 21 5, .ex 22 (.ia 9 (.t 20) (.t 21)), .ex 23 (.ld true 9 (.t 22)), .ex 24 (.beq true [(.i .i64), (.i .i64), .s, .b, .s, .b, .s, (.i .i64), (.i .i64)] (.t 19) (.t 23))]) (.cnd (.t 24) (.s (.r [.ex 4 (.mv .n)]) .ret) .skip)))) (.r [.ex 25 (.bin .add (.t 13) (.i 1)), .mv 13 25]))))))) (.s (.r [.ex 4 (.mv .y)]) .ret))))
theorem c_EqMsg_eq : compF Go.Proofs.Tryz.prog [] 83 = some (c_EqMsg.ac, [(.t 4)], 26) := by kernel_rfl

theorem f_EqMsg (W0 : World) (a b : List Msg) : Fn Go.Proofs.Tryz.prog W0 83 [eMsgs a, eMsgs b] (.c (CB (decide (a = b)))) [] := by
  refine fnX (c := c_EqMsg) mixed c_EqMsg_eq (by simp) rfl fun hg => ?_
  have g1 := goodRow (hg _ (by simp : eMsgs a ∈ _))
  refine dr ?_
  refine cP (fun h1 => ?_) (fun h1 => ?_)
  · conv => whnf
    exact dF (ne_len (by omega))
  refine dr ?_
  refine lp (σ := Nat) (fun k => [(0, .c (eMsgs a)), (1, .c (eMsgs b)), (12, I a.length), (13, I k)]) (fun _ => []) (fun k => k ≤ a.length ∧ a.take k = b.take k) (fun k => a.length - k) 0 ⟨by simp, by simp⟩ ?_ ?_
  · refine dr ?_
    trivial
  rintro k ⟨hk, he⟩
  refine dr ?_
  refine cP (fun h2 => ?_) (fun h2 => ?_)
  · refine dr ?_
    rw [bqMsg]
    refine cP (fun h3 => ?_) (fun h3 => ?_)
    rotate_left
    · refine dr ?_
      refine ⟨k + 1, ⟨by omega, take_next (by omega) (by omega) he (by simpa using h3)⟩, by omega, ?_⟩
      refine dr ?_
      trivial
    · conv => whnf
      exact dF (ne_at (k := k) (by omega) (by omega) (by simpa using h3))
  · refine dr ?_
    have : k = a.length := by omega
    subst this
    exact dT (eq_of_takes (by omega) he)


def c_SEnt : XC := (.s (.r [.ex 4 (.mv .n)]) (.s (.r [.mv 5 0, .mv 6 1, .ex 7 (.call 75 [(.t 5), (.t 6)]), .mv 4 7]) .ret))
theorem c_SEnt_eq : compF Go.Proofs.Tryz.prog [] 23 = some (c_SEnt.ac, [(.t 4)], 8) := by kernel_rfl

theorem f_impl_EntsSame (W0 : World) (a b : List Ent) : Fn Go.Proofs.Tryz.prog W0 23 [eEnts a, eEnts b] (.c (CB (decide (a = b)))) [] := by
  refine fnX (c := c_SEnt) mixed c_SEnt_eq (by simp) rfl fun hg => ?_
  refine dr ?_
  repeat (refine c0 (f_EqEnt W0 a b) rfl ?_; first | refine dr ?_ | exact dz)


def c_SMark : XC := (.s (.r [.ex 4 (.mv .n)]) (.s (.r [.mv 5 0, .mv 6 1, .ex 7 (.call 76 [(.t 5), (.t 6)]), .mv 4 7]) .ret))
theorem c_SMark_eq : compF Go.Proofs.Tryz.prog [] 28 = some (c_SMark.ac, [(.t 4)], 8) := by kernel_rfl

theorem f_impl_MarksSame (W0 : World) (a b : List Mark) : Fn Go.Proofs.Tryz.prog W0 28 [eMarks a, eMarks b] (.c (CB (decide (a = b)))) [] := by
  refine fnX (c := c_SMark) mixed c_SMark_eq (by simp) rfl fun hg => ?_
  refine dr ?_
  repeat (refine c0 (f_EqMark W0 a b) rfl ?_; first | refine dr ?_ | exact dz)


def c_EqFM : XC := (.s (.r [.ex 6 (.mv .n)]) (.s (.s (.r [.mv 10 0, .ex 11 (.len false (.t 10)), .mv 12 1, .ex 13 (.len false (.t 12)), .ex 14 (.bin .neq (.t 11) (.t 13))]) (.cnd (.t 14) (.s (.r [.ex 6 (.mv .n)]) .ret) .skip)) (.s (.s (.r [.mv 15 0, .ex 16 (.len false (.t 15)), .ex 17 (.mv (.i 0))]) (.blk 0 (.loop (.s (.r [.ex 18 (.bin .lss (.t 17) (.t 16))]) (.s (.cnd (.t 18) .skip (.exit 0)) (.s (.blk 1 (.s (.r [.mv 19 17, .ex 20 (.ia 1 (.t 15) (.t 17)), .ex 21 (.ld false 1 (.t 20)), .mv 7 19, .ex 8 (.asn (.t 21) 3 49)]) (.s (.r [.mv 22 1, .mv 23 7, .ex 24 (.ia 1 (.t 22) (.t 23)), .ex 25 (.ld false 1 (.t 24)), .ex 9 (.asn (.t 25) 3 49)]) (.s (.r [.mv 26 2, .mv 27 8, .mv 28 9, .ex 29 (.callv (.t 26) [(.t 27), (.t 28)]), .ex 30 (.un .not (.t 29))]) (.cnd (.t 30) (.s (.r [.ex 6 (.mv .n)]) .ret) .skip))))) (.r [.ex 31 (.bin .add (.t 17) (.i 1)), .mv 17 31]))))))) (.s (.r [.ex 6 (.mv .y)]) .ret))))
theorem c_EqFM_eq : compF Go.Proofs.Tryz.prog [] 65 = some (c_EqFM.ac, [(.t 6)], 32) := by kernel_rfl

theorem f_EqFM (W0 : World) (a b : List (List Mark)) : Fn Go.Proofs.Tryz.prog W0 65 [eMarkss a, eMarkss b, .sc (.func (.func 28) #[] #[])] (.c (CB (decide (a = b)))) [] := by
  refine fnX (c := c_EqFM) mixed c_EqFM_eq (by simp) rfl fun hg => ?_
  have g1 := goodRow (hg _ (by simp : eMarkss a ∈ _))
  refine dr ?_
  refine cP (fun h1 => ?_) (fun h1 => ?_)
  · conv => whnf
    exact dF (ne_len (by omega))
  refine dr ?_
  refine lp (σ := Nat) (fun k => [(0, .c (eMarkss a)), (1, .c (eMarkss b)), (2, .c (.sc (.func (.func 28) #[] #[]))), (15, .c (eMarkss a)), (16, I a.length), (17, I k)]) (fun _ => []) (fun k => k ≤ a.length ∧ a.take k = b.take k) (fun k => a.length - k) 0 ⟨by simp, by simp⟩ ?_ ?_
  · refine dr ?_
    trivial
  rintro k ⟨hk, he⟩
  refine dr ?_
  refine cP (fun h2 => ?_) (fun h2 => ?_)
  · refine dr ?_
    repeat ((first | refine oB ⟨by kernel_rfl, by simp⟩ ?_ | refine c0 (f_impl_MarksSame W0 _ _) rfl ?_); first | refine dr ?_ | exact dz)
    refine cP (fun h3 => ?_) (fun h3 => ?_)
    rotate_left
    · refine dr ?_
      refine ⟨k + 1, ⟨by omega, take_next (by omega) (by omega) he (by simpa using h3)⟩, by omega, ?_⟩
      refine dr ?_
      trivial
    · conv => whnf
      exact dF (ne_at (k := k) (by omega) (by omega) (by simpa using h3))
  · refine dr ?_
    have : k = a.length := by omega
    subst this
    exact dT (eq_of_takes (by omega) he)


def c_impl_OverSame : XC := (.s (.r [.ex 2 (.box (.t 0)), .ex 3 (.box (.t 1)), .ex 4 (.mv .n)]) (.s (.r [.ex 5 (.fa 0 (.t 2)), .ex 6 (.ld false 1 (.t 5)), .ex 7 (.fa 0 (.t 3)), .ex 8 (.ld false 1 (.t 7)), .ex 9 (.call 23 [(.t 6), (.t 8)]), .mv 10 9, .gt 11 (.fa 1 (.t 2)) 10, .gt 12 (.ld false 1 (.t 11)) 10, .gt 13 (.fa 1 (.t 3)) 10, .gt 14 (.ld false 1 (.t 13)) 10, .gt 15 (.call 65 [(.t 12), (.t 14), (.k (.c (.sc (.func (.func 28) #[] #[]))))]) 10, .ex 16 (.pick (.t 10) (.t 15) .n), .mv 17 16, .gt 18 (.fa 2 (.t 2)) 17, .gt 19 (.ld false 1 (.t 18)) 17, .gt 20 (.fa 2 (.t 3)) 17, .gt 21 (.ld false 1 (.t 20)) 17, .gt 22 (.call 28 [(.t 19), (.t 21)]) 17, .ex 23 (.pick (.t 17) (.t 22) .n), .mv 4 23]) .ret))
theorem c_impl_OverSame_eq : compF Go.Proofs.Tryz.prog [] 16 = some (c_impl_OverSame.ac, [(.t 4)], 24) := by kernel_rfl

theorem f_impl_OverSame (W0 : World) (a b : Over) : Fn Go.Proofs.Tryz.prog W0 16 [eOver a, eOver b] (.c (CB (decide (a = b)))) [] := by
  refine fnX (c := c_impl_OverSame) mixed c_impl_OverSame_eq (by simp) rfl fun hg => ?_
  refine dr ?_
  repeat (refine c0 (f_impl_EntsSame W0 a.base b.base) rfl ?_; first | refine dr ?_ | exact dz)
  refine cP (fun h1 => ?_) (fun h1 => ?_)
  rotate_left
  · refine dr ?_
    exact dF fun e => by simp [e] at h1
  refine dr ?_
  repeat (refine c0 (f_EqFM W0 a.layers b.layers) rfl ?_; first | refine dr ?_ | exact dz)
  refine cP (fun h2 => ?_) (fun h2 => ?_)
  rotate_left
  · refine dr ?_
    exact dF fun e => by simp [e] at h2
  refine dr ?_
  repeat (refine c0 (f_impl_MarksSame W0 a.upper b.upper) rfl ?_; first | refine dr ?_ | exact dz)
  exact congrArg CB (by cases a; cases b; simp_all)


def c_spec_OverSame : XC := (.s (.r [.ex 2 (.box (.t 0)), .ex 3 (.box (.t 1)), .ex 4 (.mv .n)]) (.s (.s (.r [.ex 6 (.fa 0 (.t 2)), .ex 7 (.ld false 1 (.t 6)), .ex 8 (.fa 0 (.t 3)), .ex 9 (.ld false 1 (.t 8)), .ex 10 (.call 77 [(.t 7), (.t 9)]), .ex 11 (.un .not (.t 10)), .mv 12 11, .gf 13 (.fa 2 (.t 2)) 12, .gf 14 (.ld false 1 (.t 13)) 12, .gf 15 (.fa 2 (.t 3)) 12, .gf 16 (.ld false 1 (.t 15)) 12, .gf 17 (.call 73 [(.t 14), (.t 16)]) 12, .gf 18 (.un .not (.t 17)) 12, .ex 19 (.pick (.t 12) .y (.t 18)), .mv 20 19, .gf 21 (.fa 1 (.t 2)) 20, .gf 22 (.ld false 1 (.t 21)) 20, .gf 23 (.len false (.t 22)) 20, .gf 24 (.fa 1 (.t 3)) 20, .gf 25 (.ld false 1 (.t 24)) 20, .gf 26 (.len false (.t 25)) 20, .gf 27 (.bin .neq (.t 23) (.t 26)) 20, .ex 28 (.pick (.t 20) .y (.t 27))]) (.cnd (.t 28) (.s (.r [.ex 4 (.mv .n)]) .ret) .skip)) (.s (.s (.r [.ex 5 (.mv (.i 0))]) (.blk 0 (.loop (.s (.s (.r [.mv 29 5, .ex 30 (.fa 1 (.t 2)), .ex 31 (.ld false 1 (.t 30)), .ex 32 (.len false (.t 31)), .ex 33 (.bin .lss (.t 29) (.t 32))]) (.cnd (.t 33) .skip (.exit 0))) (.s (.blk 1 (.s (.d [.ex 36 (.fa 1 (.t 2)), .ex 37 (.ld false 1 (.t 36)), .mv 38 5, .ex 39 (.ia 1 (.t 37) (.t 38)), .ex 40 (.ld false 1 (.t 39)), .ex 41 (.fa 1 (.t 3)), .ex 42 (.ld false 1 (.t 41)), .mv 43 5, .ex 44 (.ia 1 (.t 42) (.t 43)), .ex 45 (.ld false 1 (.t 44)), .ex 46 (.call 73 [(.t 40), (.t 45)]), .ex 47 (.un .not (.t 46))]) (.cnd (.t 47) (.s (.r [.ex 4 (.mv .n)]) .ret) .skip))) (.r [.mv 34 5, .ex 35 (.bin .add (.t 34) (.i 1)), .mv 5 35])))))) (.s (.r [.ex 4 (.mv .y)]) .ret))))
theorem c_spec_OverSame_eq : compF Go.Proofs.Tryz.prog [] 31 = some (c_spec_OverSame.ac, [(.t 4)], 48) := by kernel_rfl

theorem f_spec_OverSame (W0 : World) (a b : Over) : Fn Go.Proofs.Tryz.prog W0 31 [eOver a, eOver b] (.c (CB (decide (a = b)))) [] := by
  refine fnX (c := c_spec_OverSame) mixed c_spec_OverSame_eq (by simp) rfl fun hg => ?_
  have g0 := hg _ (by simp : eOver a ∈ _)
  have g1 : a.layers.length ≤ 9223372036854775807 := goodRow (goodAgg g0 _ (by simp : eMarkss a.layers ∈ _))
  refine dr ?_
  repeat (refine c0 (f_spec_TreeSame W0 a.base b.base) rfl ?_; first | refine dr ?_ | exact dz)
  refine cP (fun h1 => ?_) (fun h1 => ?_)
  · refine dr ?_
    exact dF fun e => by simp [e] at h1
  refine dr ?_
  repeat (refine c0 (f_spec_LayerSame W0 a.upper b.upper) rfl ?_; first | refine dr ?_ | exact dz)
  refine cP (fun h2 => ?_) (fun h2 => ?_)
  · refine dr ?_
    exact dF fun e => by simp [e] at h2
  refine dr ?_
  refine cP (fun h3 => ?_) (fun h3 => ?_)
  · conv => whnf
    exact dF fun e => by simp [e] at h3
  refine dr ?_
  refine lp (σ := Nat) (fun k => [(2, .ptr 32 0), (3, .ptr 48 0), (5, I k)]) (fun _ => [(32, .box [.c (eEnts a.base), .c (eMarkss a.layers), .c (eMarks a.upper)]), (48, .box [.c (eEnts b.base), .c (eMarkss b.layers), .c (eMarks b.upper)])]) (fun k => k ≤ a.layers.length ∧ a.layers.take k = b.layers.take k) (fun k => a.layers.length - k) 0 ⟨by simp, by simp⟩ ?_ ?_
  · refine dr ?_
    trivial
  rintro k ⟨hk, he⟩
  refine dr ?_
  refine cP (fun h4 => ?_) (fun h4 => ?_)
  · refine dr ?_
    repeat (refine c0 (f_spec_LayerSame W0 _ _) rfl ?_; first | refine dr ?_ | exact dz)
    refine cP (fun h5 => ?_) (fun h5 => ?_)
    rotate_left
    · refine dr ?_
      refine ⟨k + 1, ⟨by omega, take_next (by omega) (by omega) he (by simpa using h5)⟩, by omega, ?_⟩
      refine dr ?_
      trivial
    · conv => whnf
      have := ne_at (a := a.layers) (b := b.layers) (k := k) (by omega) (by omega) (by simpa using h5)
      exact dF fun e => this (by rw [e])
  · refine dr ?_
    have : k = a.layers.length := by omega
    subst this
    exact dT (over_ext (by simpa using h1) (eq_of_takes (by omega) he) (by simpa using h2))


def c_laws_toEnt : XC := (.s (.r [.ex 1 (.box (.t 0)), .ex 2 (.alloc [(.c (.sc (.string ⟨#[]⟩))), (.c (.sc (.bool false))), (.c (.sc (.string ⟨#[]⟩)))])]) (.s (.r [.ex 3 (.alloc [(.c (.sc (.string ⟨#[]⟩))), (.c (.sc (.bool false))), (.c (.sc (.string ⟨#[]⟩)))])]) (.s (.r [.ex 4 (.fa 0 (.t 1)), .ex 5 (.ld false 1 (.t 4)), .ex 6 (.fa 0 (.t 3)), .nu (.st 1 (.t 6) (.t 5))]) (.s (.r [.ex 7 (.fa 1 (.t 1)), .ex 8 (.ld false 1 (.t 7)), .ex 9 (.fa 1 (.t 3)), .nu (.st 1 (.t 9) (.t 8))]) (.s (.r [.ex 10 (.fa 2 (.t 1)), .ex 11 (.ld false 1 (.t 10)), .ex 12 (.fa 2 (.t 3)), .nu (.st 1 (.t 12) (.t 11))]) (.s (.r [.ex 13 (.ld true 3 (.t 3)), .nu (.st 3 (.t 2) (.t 13))]) .ret))))))
theorem c_laws_toEnt_eq : compF Go.Proofs.Tryz.prog [] 261 = some (c_laws_toEnt.ac, [(.cell 2 true 3)], 14) := by kernel_rfl

theorem f_toEnt (W0 : World) (e : Ent) : Fn Go.Proofs.Tryz.prog W0 261 [eEnt e] (.c (eEnt e)) [] := by
  refine fnX (c := c_laws_toEnt) mixed c_laws_toEnt_eq (by simp) rfl fun hg => ?_
  refine dr ?_
  rfl


def c_laws_toMark : XC := (.s (.r [.ex 1 (.box (.t 0)), .ex 2 (.alloc [(.c (.sc (.string ⟨#[]⟩))), (.c (.sc (.int .i64 0))), (.c (.sc (.string ⟨#[]⟩)))])]) (.s (.r [.ex 3 (.alloc [(.c (.sc (.string ⟨#[]⟩))), (.c (.sc (.int .i64 0))), (.c (.sc (.string ⟨#[]⟩)))])]) (.s (.r [.ex 4 (.fa 0 (.t 1)), .ex 5 (.ld false 1 (.t 4)), .ex 6 (.fa 0 (.t 3)), .nu (.st 1 (.t 6) (.t 5))]) (.s (.r [.ex 7 (.fa 1 (.t 1)), .ex 8 (.ld false 1 (.t 7)), .ex 9 (.fa 1 (.t 3)), .nu (.st 1 (.t 9) (.t 8))]) (.s (.r [.ex 10 (.fa 2 (.t 1)), .ex 11 (.ld false 1 (.t 10)), .ex 12 (.fa 2 (.t 3)), .nu (.st 1 (.t 12) (.t 11))]) (.s (.r [.ex 13 (.ld true 3 (.t 3)), .nu (.st 3 (.t 2) (.t 13))]) .ret))))))
theorem c_laws_toMark_eq : compF Go.Proofs.Tryz.prog [] 262 = some (c_laws_toMark.ac, [(.cell 2 true 3)], 14) := by kernel_rfl

theorem f_toMark (W0 : World) (e : Mark) : Fn Go.Proofs.Tryz.prog W0 262 [eMark e] (.c (eMark e)) [] := by
  refine fnX (c := c_laws_toMark) mixed c_laws_toMark_eq (by simp) rfl fun hg => ?_
  refine dr ?_
  rfl


def c_laws_toEntS : XC := (.s (.r [.ex 2 (.asn (.k .nil) 3 59)]) (.s (.r [.mv 5 0, .ex 6 (.len false (.t 5)), .ex 7 (.mks 3 40 59 (.c (.agg [(.sc (.string ⟨#[]⟩)), (.sc (.bool false)), (.sc (.string ⟨#[]⟩))])) (.t 6)), .ex 3 (.asn (.t 7) 3 59)]) (.s (.s (.r [.ex 4 (.mv (.i 0))]) (.blk 0 (.loop (.s (.s (.r [.mv 8 4, .mv 9 0, .ex 10 (.len false (.t 9)), .ex 11 (.bin .lss (.t 8) (.t 10))]) (.cnd (.t 11) .skip (.exit 0))) (.s (.blk 1 (.r [.mv 14 3, .mv 15 4, .mv 16 0, .mv 17 4, .ex 18 (.ia 3 (.t 16) (.t 17)), .ex 19 (.ld true 3 (.t 18)), .ex 20 (.call 261 [(.t 19)]), .ex 21 (.ia 3 (.t 14) (.t 15)), .nu (.st 3 (.t 21) (.t 20))])) (.r [.mv 12 4, .ex 13 (.bin .add (.t 12) (.i 1)), .mv 4 13])))))) (.s (.r [.mv 22 3, .ex 2 (.asn (.t 22) 3 59)]) .ret))))
theorem c_laws_toEntS_eq : compF Go.Proofs.Tryz.prog [] 200 = some (c_laws_toEntS.ac, [(.t 2)], 23) := by kernel_rfl

theorem f_toEnts (W0 : World) (t : List Ent) (ht : t.length ≤ 1048576) : Fn Go.Proofs.Tryz.prog W0 200 [eEnts t] (.c (eEnts t)) [] := by
  refine fnX (c := c_laws_toEntS) mixed c_laws_toEntS_eq (by simp) rfl fun hg => ?_
  refine dr ?_
  refine lp (σ := Nat) (fun k => [(0, .c (eEnts t)), (3, .own 112 t.length), (4, I k)]) (fun k => [(112, .row ((t.take k).map eEnt ++ List.replicate (t.length - k) (eEnt ⟨[], false, []⟩)) 3 59)]) (fun k => k ≤ t.length) (fun k => t.length - k) 0 (by simp) ?_ ?_
  · refine dr ?_
    trivial
  rintro k hk
  refine dr ?_
  refine cP (fun h2 => ?_) (fun h2 => ?_)
  · refine dr ?_
    repeat ((first | refine c0 (f_toEnt W0 _) rfl ?_ | refine oB (len_rep hk) ?_ | refine aE (j := k) rfl (get_rep (by omega)) ?_); first | refine dr ?_ | exact dz)
    intro hg2
    refine dr ?_
    refine ⟨k + 1, by omega, by omega, ?_⟩
    refine dr ?_
    repeat (refine oB (by rw [← set_rep (f := eEnt) (by omega : k < t.length)] <;> rfl) ?_; first | refine dr ?_ | exact dz)
    trivial
  · have : k = t.length := by omega
    subst this
    refine dr ?_
    repeat (refine oB (len_rep (Nat.le_refl _)) ?_; first | refine dr ?_ | exact dz)
    simp [eEnts]


def c_laws_toMarkS : XC := (.s (.r [.ex 2 (.asn (.k .nil) 3 49)]) (.s (.r [.mv 5 0, .ex 6 (.len false (.t 5)), .ex 7 (.mks 3 40 49 (.c (.agg [(.sc (.string ⟨#[]⟩)), (.sc (.int .i64 0)), (.sc (.string ⟨#[]⟩))])) (.t 6)), .ex 3 (.asn (.t 7) 3 49)]) (.s (.s (.r [.ex 4 (.mv (.i 0))]) (.blk 0 (.loop (.s (.s (.r [.mv 8 4, .mv 9 0, .ex 10 (.len false (.t 9)), .ex 11 (.bin .lss (.t 8) (.t 10))]) (.cnd (.t 11) .skip (.exit 0))) (.s (.blk 1 (.r [.mv 14 3, .mv 15 4, .mv 16 0, .mv 17 4, .ex 18 (.ia 3 (.t 16) (.t 17)), .ex 19 (.ld true 3 (.t 18)), .ex 20 (.call 262 [(.t 19)]), .ex 21 (.ia 3 (.t 14) (.t 15)), .nu (.st 3 (.t 21) (.t 20))])) (.r [.mv 12 4, .ex 13 (.bin .add (.t 12) (.i 1)), .mv 4 13])))))) (.s (.r [.mv 22 3, .ex 2 (.asn (.t 22) 3 49)]) .ret))))
theorem c_laws_toMarkS_eq : compF Go.Proofs.Tryz.prog [] 202 = some (c_laws_toMarkS.ac, [(.t 2)], 23) := by kernel_rfl

theorem f_toMarks (W0 : World) (t : List Mark) (ht : t.length ≤ 1048576) : Fn Go.Proofs.Tryz.prog W0 202 [eMarks t] (.c (eMarks t)) [] := by
  refine fnX (c := c_laws_toMarkS) mixed c_laws_toMarkS_eq (by simp) rfl fun hg => ?_
  refine dr ?_
  refine lp (σ := Nat) (fun k => [(0, .c (eMarks t)), (3, .own 112 t.length), (4, I k)]) (fun k => [(112, .row ((t.take k).map eMark ++ List.replicate (t.length - k) (eMark ⟨[], 0, []⟩)) 3 49)]) (fun k => k ≤ t.length) (fun k => t.length - k) 0 (by simp) ?_ ?_
  · refine dr ?_
    trivial
  rintro k hk
  refine dr ?_
  refine cP (fun h2 => ?_) (fun h2 => ?_)
  · refine dr ?_
    repeat ((first | refine c0 (f_toMark W0 _) rfl ?_ | refine oB (len_rep hk) ?_ | refine aE (j := k) rfl (get_rep (by omega)) ?_); first | refine dr ?_ | exact dz)
    intro hg2
    refine dr ?_
    refine ⟨k + 1, by omega, by omega, ?_⟩
    refine dr ?_
    repeat (refine oB (by rw [← set_rep (f := eMark) (by omega : k < t.length)] <;> rfl) ?_; first | refine dr ?_ | exact dz)
    trivial
  · have : k = t.length := by omega
    subst this
    refine dr ?_
    repeat (refine oB (len_rep (Nat.le_refl _)) ?_; first | refine dr ?_ | exact dz)
    simp [eMarks]


def c_laws_toMarkSS : XC := (.s (.r [.ex 2 (.asn (.k .nil) 1 25)]) (.s (.r [.mv 5 0, .ex 6 (.len false (.t 5)), .ex 7 (.mks 1 24 25 (.c (.row [])) (.t 6)), .ex 3 (.asn (.t 7) 1 25)]) (.s (.s (.r [.ex 4 (.mv (.i 0))]) (.blk 0 (.loop (.s (.s (.r [.mv 8 4, .mv 9 0, .ex 10 (.len false (.t 9)), .ex 11 (.bin .lss (.t 8) (.t 10))]) (.cnd (.t 11) .skip (.exit 0))) (.s (.blk 1 (.r [.mv 14 3, .mv 15 4, .mv 16 0, .mv 17 4, .ex 18 (.ia 1 (.t 16) (.t 17)), .ex 19 (.ld false 1 (.t 18)), .ex 20 (.call 202 [(.t 19)]), .ex 21 (.ia 1 (.t 14) (.t 15)), .nu (.st 1 (.t 21) (.t 20))])) (.r [.mv 12 4, .ex 13 (.bin .add (.t 12) (.i 1)), .mv 4 13])))))) (.s (.r [.mv 22 3, .ex 2 (.asn (.t 22) 1 25)]) .ret))))
theorem c_laws_toMarkSS_eq : compF Go.Proofs.Tryz.prog [] 201 = some (c_laws_toMarkSS.ac, [(.t 2)], 23) := by kernel_rfl

theorem f_toMarkss (W0 : World) (t : List (List Mark)) (ht : t.length ≤ 1048576) (ht2 : ∀ l ∈ t, l.length ≤ 1048576) : Fn Go.Proofs.Tryz.prog W0 201 [eMarkss t] (.c (eMarkss t)) [] := by
  refine fnX (c := c_laws_toMarkSS) mixed c_laws_toMarkSS_eq (by simp) rfl fun hg => ?_
  refine dr ?_
  refine lp (σ := Nat) (fun k => [(0, .c (eMarkss t)), (3, .own 112 t.length), (4, I k)]) (fun k => [(112, .row ((t.take k).map eMarks ++ List.replicate (t.length - k) (eMarks [])) 1 25)]) (fun k => k ≤ t.length) (fun k => t.length - k) 0 (by simp) ?_ ?_
  · refine dr ?_
    trivial
  rintro k hk
  refine dr ?_
  refine cP (fun h2 => ?_) (fun h2 => ?_)
  · refine dr ?_
    repeat ((first | refine c0 (f_toMarks W0 _ (ht2 _ (by simp))) rfl ?_ | refine oB (len_rep hk) ?_ | refine aE (j := k) rfl (get_rep (by omega)) ?_); first | refine dr ?_ | exact dz)
    intro hg2
    refine dr ?_
    refine ⟨k + 1, by omega, by omega, ?_⟩
    refine dr ?_
    repeat (refine oB (by rw [← set_rep (f := eMarks) (by omega : k < t.length)] <;> rfl) ?_; first | refine dr ?_ | exact dz)
    trivial
  · have : k = t.length := by omega
    subst this
    refine dr ?_
    repeat (refine oB (len_rep (Nat.le_refl _)) ?_; first | refine dr ?_ | exact dz)
    simp [eMarkss]


def c_laws_toOver : XC := (.s (.r [.ex 1 (.box (.t 0)), .ex 2 (.alloc [.nil, .nil, .nil])]) (.s (.r [.ex 3 (.alloc [.nil, .nil, .nil])]) (.s (.r [.ex 4 (.fa 0 (.t 1)), .ex 5 (.ld false 1 (.t 4)), .ex 6 (.call 200 [(.t 5)]), .ex 7 (.fa 0 (.t 3)), .nu (.st 1 (.t 7) (.t 6))]) (.s (.r [.ex 8 (.fa 1 (.t 1)), .ex 9 (.ld false 1 (.t 8)), .ex 10 (.call 201 [(.t 9)]), .ex 11 (.fa 1 (.t 3)), .nu (.st 1 (.t 11) (.t 10))]) (.s (.r [.ex 12 (.fa 2 (.t 1)), .ex 13 (.ld false 1 (.t 12)), .ex 14 (.call 202 [(.t 13)]), .ex 15 (.fa 2 (.t 3)), .nu (.st 1 (.t 15) (.t 14))]) (.s (.r [.ex 16 (.ld true 3 (.t 3)), .nu (.st 3 (.t 2) (.t 16))]) .ret))))))
theorem c_laws_toOver_eq : compF Go.Proofs.Tryz.prog [] 124 = some (c_laws_toOver.ac, [(.cell 2 true 3)], 17) := by kernel_rfl

theorem f_toOver (W0 : World) (o : Over) (h1 : o.base.length ≤ 1048576) (h2 : o.layers.length ≤ 1048576) (h3 : ∀ l ∈ o.layers, l.length ≤ 1048576) (h4 : o.upper.length ≤ 1048576) :
    Fn Go.Proofs.Tryz.prog W0 124 [eOver o] (.c (eOver o)) [] := by
  refine fnX (c := c_laws_toOver) mixed c_laws_toOver_eq (by simp) rfl fun hg => ?_
  refine dr ?_
  repeat (refine c0 (f_toEnts W0 o.base h1) rfl ?_; first | refine dr ?_ | exact dz)
  intro hg1
  refine dr ?_
  repeat (refine c0 (f_toMarkss W0 o.layers h2 h3) rfl ?_; first | refine dr ?_ | exact dz)
  intro hg2
  refine dr ?_
  repeat (refine c0 (f_toMarks W0 o.upper h4) rfl ?_; first | refine dr ?_ | exact dz)
  intro hg3
  refine dr ?_
  rfl


theorem szL_len {α : Type} {f : α → Int → Int} (hf : ∀ a l, -1 ≤ l → -1 ≤ f a l ∧ f a l ≤ l) {p : α → Int → Prop} (hp : ∀ a l, 0 ≤ l → 0 ≤ f a l → p a l) (hm : ∀ a l l', p a l → l ≤ l' → p a l') : ∀ {t : List α} {l : Int}, 0 ≤ l → 0 ≤ szL f t l → ∀ a ∈ t, p a l
  | [], l, _, _, a, ha => by simp at ha
  | b :: t, l, h0, h, a, ha => by
    unfold szL at h
    split at h
    · omega
    · have h1 := hf b l (by omega)
      rcases List.mem_cons.1 ha with rfl | ha
      · exact hp _ l h0 (by omega)
      · exact hm _ _ _ (szL_len hf hp hm (t := t) (l := f b l) (by omega) h a ha) h1.2
theorem szR_len {α : Type} {f : α → Int → Int} {t : List α} {l : Int} (h0 : 0 ≤ l) (h : 0 ≤ szR f t l) : t.length ≤ l ∧ 0 ≤ szL f t (l - t.length) := by
  unfold szR at h
  split at h <;> omega

/-- What the room says of one. -/
structure OvFit (o : Over) : Prop where
  h1 : o.base.length ≤ 1048576
  h2 : o.layers.length ≤ 1048576
  h3 : ∀ l ∈ o.layers, l.length ≤ 1048576
  h4 : o.upper.length ≤ 1048576

theorem szOver_le {o : Over} {l : Int} (h : -1 ≤ l) : -1 ≤ szOver o l ∧ szOver o l ≤ l := by
  have s1 := @szR_le _ _ (fun a l => @szEnt_le a l) o.base l h
  have s2 := @szR_le _ _ (fun a l => @szR_le _ _ (fun a l => @szMark_le a l) a l) o.layers _ s1.1
  have s3 := @szR_le _ _ (fun a l => @szMark_le a l) o.upper _ s2.1
  unfold szOver
  split
  · omega
  split
  · omega
  split <;> omega

theorem szOver_fit {o : Over} {l : Int} (h0 : 0 ≤ l) (hl : l ≤ 1048576) (h : 0 ≤ szOver o l) : OvFit o := by
  have s1 := @szR_le _ _ (fun a l => @szEnt_le a l) o.base l (by omega)
  have s2 := @szR_le _ _ (fun a l => @szR_le _ _ (fun a l => @szMark_le a l) a l) o.layers _ s1.1
  unfold szOver at h
  split at h
  · omega
  rename_i g1
  split at h
  · omega
  rename_i g2
  split at h
  · omega
  have k1 := szR_len h0 (by omega : 0 ≤ szR szEnt o.base l)
  have k2 := szR_len (by omega) (by omega : 0 ≤ szR (szR szMark) o.layers (szR szEnt o.base l))
  have k3 := szR_len (by omega) h
  refine ⟨by omega, by omega, fun x hx => ?_, by omega⟩
  have := szL_len (f := szR szMark) (p := fun a l => (a.length : Int) ≤ l) (fun a l => @szR_le _ _ (fun a l => @szMark_le a l) a l) (fun a l h0 h => (szR_len h0 h).1) (fun a l l' h h' => Int.le_trans h h') (by omega) k2.2 x hx
  omega


end Go.Proofs.YthblflnfhdnpdaaGreatDoor

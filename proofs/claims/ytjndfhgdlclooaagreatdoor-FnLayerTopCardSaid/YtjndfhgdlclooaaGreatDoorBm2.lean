/- Contracts: equality of the data by the program and by the reference; copies; no condition. -/
import Derived.Test.YtjndfhgdlclooaaGreatDoorBm1
namespace Go.Proofs.YtjndfhgdlclooaaGreatDoor
set_option linter.unusedSimpArgs false
set_option linter.unusedVariables false
open Go Go.RowKit

theorem over_ext {a b : Over} (h1 : a.base = b.base) (h2 : a.layers = b.layers) (h3 : a.upper = b.upper) : a = b := by cases a; cases b; simp_all


def c_laws_eqOver : XC := (.s (.r [.ex 2 (.box (.t 0)), .ex 3 (.box (.t 1)), .ex 4 (.mv .n)]) (.s (.s (.r [.ex 5 (.fa 0 (.t 2)), .ex 6 (.ld false 1 (.t 5)), .ex 7 (.fa 0 (.t 3)), .ex 8 (.ld false 1 (.t 7)), .ex 9 (.call 34 [(.t 6), (.t 8)]), .ex 10 (.un .not (.t 9))]) (.cnd (.t 10) (.s (.r [.ex 4 (.mv .n)]) .ret) .skip)) (.s (.s (.r [.ex 11 (.fa 1 (.t 2)), .ex 12 (.ld false 1 (.t 11)), .ex 13 (.fa 1 (.t 3)), .ex 14 (.ld false 1 (.t 13)), .ex 15 (.call 70 [(.t 12), (.t 14)]), .ex 16 (.un .not (.t 15))]) (.cnd (.t 16) (.s (.r [.ex 4 (.mv .n)]) .ret) .skip)) (.s (.s (.r [.ex 17 (.fa 2 (.t 2)), .ex 18 (.ld false 1 (.t 17)), .ex 19 (.fa 2 (.t 3)), .ex 20 (.ld false 1 (.t 19)), .ex 21 (.call 71 [(.t 18), (.t 20)]), .ex 22 (.un .not (.t 21))]) (.cnd (.t 22) (.s (.r [.ex 4 (.mv .n)]) .ret) .skip)) (.s (.r [.ex 4 (.mv .y)]) .ret)))))
theorem c_laws_eqOver_eq : compF Go.Proofs.Tryz.prog [] 24 = some (c_laws_eqOver.ac, [(.t 4)], 23) := by kernel_rfl

theorem f_eqOver (W0 : World) (a b : Over) : Fn Go.Proofs.Tryz.prog W0 24 [eOver a, eOver b] (.c (CB (decide (a = b)))) [] := by
  refine fnX (c := c_laws_eqOver) mixed c_laws_eqOver_eq (by simp) rfl fun hg => ?_
  refine dr ?_
  repeat (refine c0 (f_laws_eqEntS W0 a.base b.base) rfl ?_; first | refine dr ?_ | exact dz)
  refine cP (fun h1 => ?_) (fun h1 => ?_)
  · conv => whnf
    exact dF fun e => by simp [e] at h1
  refine dr ?_
  repeat (refine c0 (f_laws_eqMarkSS W0 a.layers b.layers) rfl ?_; first | refine dr ?_ | exact dz)
  refine cP (fun h2 => ?_) (fun h2 => ?_)
  · conv => whnf
    exact dF fun e => by simp [e] at h2
  refine dr ?_
  repeat (refine c0 (f_laws_eqMarkS W0 a.upper b.upper) rfl ?_; first | refine dr ?_ | exact dz)
  refine cP (fun h3 => ?_) (fun h3 => ?_)
  · conv => whnf
    exact dF fun e => by simp [e] at h3
  refine dr ?_
  exact dT (by cases a; cases b; simp_all)


def c_spec_LayerSame : XC := (.s (.r [.ex 4 (.mv .n)]) (.s (.s (.r [.mv 6 0, .ex 7 (.len false (.t 6)), .mv 8 1, .ex 9 (.len false (.t 8)), .ex 10 (.bin .neq (.t 7) (.t 9))]) (.cnd (.t 10) (.s (.r [.ex 4 (.mv .n)]) .ret) .skip)) (.s (.s (.r [.ex 5 (.mv (.i 0))]) (.blk 0 (.loop (.s (.s (.r [.mv 11 5, .mv 12 0, .ex 13 (.len false (.t 12)), .ex 14 (.bin .lss (.t 11) (.t 13))]) (.cnd (.t 14) .skip (.exit 0))) (.s (.blk 1 (.s (.d [.mv 17 0, .mv 18 5, .ex 19 (.ia 3 (.t 17) (.t 18)), .ex 20 (.ld true 3 (.t 19)), .mv 21 1, .mv 22 5, .ex 23 (.ia 3 (.t 21) (.t 22)), .ex 24 (.ld true 3 (.t 23)), .ex 25 (.beq true [.s, (.i .i64), .s] (.t 20) (.t 24))]) (.cnd (.t 25) (.s (.r [.ex 4 (.mv .n)]) .ret) .skip))) (.r [.mv 15 5, .ex 16 (.bin .add (.t 15) (.i 1)), .mv 5 16])))))) (.s (.r [.ex 4 (.mv .y)]) .ret))))
theorem c_spec_LayerSame_eq : compF Go.Proofs.Tryz.prog [] 65 = some (c_spec_LayerSame.ac, [(.t 4)], 26) := by kernel_rfl

theorem f_spec_LayerSame (W0 : World) (a b : List Mark) : Fn Go.Proofs.Tryz.prog W0 65 [eMarks a, eMarks b] (.c (CB (decide (a = b)))) [] := by
  refine fnX (c := c_spec_LayerSame) mixed c_spec_LayerSame_eq (by simp) rfl fun hg => ?_
  have g1 := goodRow (hg _ (by simp : eMarks a ∈ _))
  refine dr ?_
  refine cP (fun h1 => ?_) (fun h1 => ?_)
  · conv => whnf
    exact dF (ne_len (by omega))
  conv => whnf
  refine lp (σ := Nat) (fun k => [(0, .c (eMarks a)), (1, .c (eMarks b)), (5, I k)]) (fun _ => []) (fun k => k ≤ a.length ∧ a.take k = b.take k) (fun k => a.length - k) 0 ⟨by simp, by simp⟩ ?_ ?_
  · refine dr ?_
    trivial
  rintro k ⟨hk, he⟩
  refine dr ?_
  refine cP (fun h2 => ?_) (fun h2 => ?_)
  · refine dr ?_
    rw [bqMark]
    refine cP (fun h3 => ?_) (fun h3 => ?_)
    rotate_left
    · refine dr ?_
      refine ⟨k + 1, ⟨by omega, take_next (by omega) (by omega) he (by simpa using h3)⟩, by omega, ?_⟩
      refine dr ?_
      trivial
    · conv => whnf
      exact dF (ne_at (k := k) (by omega) (by omega) (by simpa using h3))
  · refine dr ?_
    have : k = a.length := by omega
    subst this
    exact dT (eq_of_takes (by omega) he)


def c_EqEnt : XC := (.s (.r [.ex 4 (.mv .n)]) (.s (.s (.r [.mv 6 0, .ex 7 (.len false (.t 6)), .mv 8 1, .ex 9 (.len false (.t 8)), .ex 10 (.bin .neq (.t 7) (.t 9))]) (.cnd (.t 10) (.s (.r [.ex 4 (.mv .n)]) .ret) .skip)) (.s (.s (.r [.mv 11 0, .ex 12 (.len false (.t 11)), .ex 13 (.mv (.i 0))]) (.blk 0 (.loop (.s (.r [.ex 14 (.bin .lss (.t 13) (.t 12))]) (.s (.cnd (.t 14) .skip (.exit 0)) (.s (.blk 1 (.s (.r [.mv 15 13, .mv 5 15]) (.s (.d [.mv 16 0, .mv 17 5, .ex 18 (.ia 3 (.t 16) (.t 17)), .ex 19 (.ld true 3 (.t 18)), .mv 20 1, .mv 21 5, .ex 22 (.ia 3 (.t 20) (.t 21)), .ex 23 (.ld true 3 (.t 22)), .ex 24 (.beq true [.s, .b, .s] (.t 19) (.t 23))]) (.cnd (.t 24) (.s (.r [.ex 4 (.mv .n)]) .ret) .skip)))) (.r [.ex 25 (.bin .add (.t 13) (.i 1)), .mv 13 25]))))))) (.s (.r [.ex 4 (.mv .y)]) .ret))))
theorem c_EqEnt_eq : compF Go.Proofs.Tryz.prog [] 59 = some (c_EqEnt.ac, [(.t 4)], 26) := by kernel_rfl

theorem f_EqEnt (W0 : World) (a b : List Ent) : Fn Go.Proofs.Tryz.prog W0 59 [eEnts a, eEnts b] (.c (CB (decide (a = b)))) [] := by
  refine fnX (c := c_EqEnt) mixed c_EqEnt_eq (by simp) rfl fun hg => ?_
  have g1 := goodRow (hg _ (by simp : eEnts a ∈ _))
  refine dr ?_
  refine cP (fun h1 => ?_) (fun h1 => ?_)
  · conv => whnf
    exact dF (ne_len (by omega))
  refine dr ?_
  refine lp (σ := Nat) (fun k => [(0, .c (eEnts a)), (1, .c (eEnts b)), (12, I a.length), (13, I k)]) (fun _ => []) (fun k => k ≤ a.length ∧ a.take k = b.take k) (fun k => a.length - k) 0 ⟨by simp, by simp⟩ ?_ ?_
  · refine dr ?_
    trivial
  rintro k ⟨hk, he⟩
  refine dr ?_
  refine cP (fun h2 => ?_) (fun h2 => ?_)
  · refine dr ?_
    rw [bqEnt]
    refine cP (fun h3 => ?_) (fun h3 => ?_)
    rotate_left
    · refine dr ?_
      refine ⟨k + 1, ⟨by omega, take_next (by omega) (by omega) he (by simpa using h3)⟩, by omega, ?_⟩
      refine dr ?_
      trivial
    · conv => whnf
      exact dF (ne_at (k := k) (by omega) (by omega) (by simpa using h3))
  · refine dr ?_
    have : k = a.length := by omega
    subst this
    exact dT (eq_of_takes (by omega) he)


def c_EqMark : XC := (.s (.r [.ex 4 (.mv .n)]) (.s (.s (.r [.mv 6 0, .ex 7 (.len false (.t 6)), .mv 8 1, .ex 9 (.len false (.t 8)), .ex 10 (.bin .neq (.t 7) (.t 9))]) (.cnd (.t 10) (.s (.r [.ex 4 (.mv .n)]) .ret) .skip)) (.s (.s (.r [.mv 11 0, .ex 12 (.len false (.t 11)), .ex 13 (.mv (.i 0))]) (.blk 0 (.loop (.s (.r [.ex 14 (.bin .lss (.t 13) (.t 12))]) (.s (.cnd (.t 14) .skip (.exit 0)) (.s (.blk 1 (.s (.r [.mv 15 13, .mv 5 15]) (.s (.d [.mv 16 0, .mv 17 5, .ex 18 (.ia 3 (.t 16) (.t 17)), .ex 19 (.ld true 3 (.t 18)), .mv 20 1, .mv 21 5, .ex 22 (.ia 3 (.t 20) (.t 21)), .ex 23 (.ld true 3 (.t 22)), .ex 24 (.beq true [.s, (.i .i64), .s] (.t 19) (.t 23))]) (.cnd (.t 24) (.s (.r [.ex 4 (.mv .n)]) .ret) .skip)))) (.r [.ex 25 (.bin .add (.t 13) (.i 1)), .mv 13 25]))))))) (.s (.r [.ex 4 (.mv .y)]) .ret))))
theorem c_EqMark_eq : compF Go.Proofs.Tryz.prog [] 47 = some (c_EqMark.ac, [(.t 4)], 26) := by kernel_rfl

theorem f_EqMark (W0 : World) (a b : List Mark) : Fn Go.Proofs.Tryz.prog W0 47 [eMarks a, eMarks b] (.c (CB (decide (a = b)))) [] := by
  refine fnX (c := c_EqMark) mixed c_EqMark_eq (by simp) rfl fun hg => ?_
  have g1 := goodRow (hg _ (by simp : eMarks a ∈ _))
  refine dr ?_
  refine cP (fun h1 => ?_) (fun h1 => ?_)
  · conv => whnf
    exact dF (ne_len (by omega))
  refine dr ?_
  refine lp (σ := Nat) (fun k => [(0, .c (eMarks a)), (1, .c (eMarks b)), (12, I a.length), (13, I k)]) (fun _ => []) (fun k => k ≤ a.length ∧ a.take k = b.take k) (fun k => a.length - k) 0 ⟨by simp, by simp⟩ ?_ ?_
  · refine dr ?_
    trivial
  rintro k ⟨hk, he⟩
  refine dr ?_
  refine cP (fun h2 => ?_) (fun h2 => ?_)
  · refine dr ?_
    rw [bqMark]
    refine cP (fun h3 => ?_) (fun h3 => ?_)
    rotate_left
    · refine dr ?_
      refine ⟨k + 1, ⟨by omega, take_next (by omega) (by omega) he (by simpa using h3)⟩, by omega, ?_⟩
      refine dr ?_
      trivial
    · conv => whnf
      exact dF (ne_at (k := k) (by omega) (by omega) (by simpa using h3))
  · refine dr ?_
    have : k = a.length := by omega
    subst this
    exact dT (eq_of_takes (by omega) he)


def c_SEnt : XC := (.s (.r [.ex 4 (.mv .n)]) (.s (.r [.mv 5 0, .mv 6 1, .ex 7 (.call 59 [(.t 5), (.t 6)]), .mv 4 7]) .ret))
theorem c_SEnt_eq : compF Go.Proofs.Tryz.prog [] 19 = some (c_SEnt.ac, [(.t 4)], 8) := by kernel_rfl

theorem f_impl_EntsSame (W0 : World) (a b : List Ent) : Fn Go.Proofs.Tryz.prog W0 19 [eEnts a, eEnts b] (.c (CB (decide (a = b)))) [] := by
  refine fnX (c := c_SEnt) mixed c_SEnt_eq (by simp) rfl fun hg => ?_
  refine dr ?_
  repeat (refine c0 (f_EqEnt W0 a b) rfl ?_; first | refine dr ?_ | exact dz)


def c_SMark : XC := (.s (.r [.ex 4 (.mv .n)]) (.s (.r [.mv 5 0, .mv 6 1, .ex 7 (.call 47 [(.t 5), (.t 6)]), .mv 4 7]) .ret))
theorem c_SMark_eq : compF Go.Proofs.Tryz.prog [] 14 = some (c_SMark.ac, [(.t 4)], 8) := by kernel_rfl

theorem f_impl_MarksSame (W0 : World) (a b : List Mark) : Fn Go.Proofs.Tryz.prog W0 14 [eMarks a, eMarks b] (.c (CB (decide (a = b)))) [] := by
  refine fnX (c := c_SMark) mixed c_SMark_eq (by simp) rfl fun hg => ?_
  refine dr ?_
  repeat (refine c0 (f_EqMark W0 a b) rfl ?_; first | refine dr ?_ | exact dz)


def c_laws_toEnt : XC := (.s (.r [.ex 1 (.box (.t 0)), .ex 2 (.alloc [(.c (.sc (.string ⟨#[]⟩))), (.c (.sc (.bool false))), (.c (.sc (.string ⟨#[]⟩)))])]) (.s (.r [.ex 3 (.alloc [(.c (.sc (.string ⟨#[]⟩))), (.c (.sc (.bool false))), (.c (.sc (.string ⟨#[]⟩)))])]) (.s (.r [.ex 4 (.fa 0 (.t 1)), .ex 5 (.ld false 1 (.t 4)), .ex 6 (.fa 0 (.t 3)), .nu (.st 1 (.t 6) (.t 5))]) (.s (.r [.ex 7 (.fa 1 (.t 1)), .ex 8 (.ld false 1 (.t 7)), .ex 9 (.fa 1 (.t 3)), .nu (.st 1 (.t 9) (.t 8))]) (.s (.r [.ex 10 (.fa 2 (.t 1)), .ex 11 (.ld false 1 (.t 10)), .ex 12 (.fa 2 (.t 3)), .nu (.st 1 (.t 12) (.t 11))]) (.s (.r [.ex 13 (.ld true 3 (.t 3)), .nu (.st 3 (.t 2) (.t 13))]) .ret))))))
theorem c_laws_toEnt_eq : compF Go.Proofs.Tryz.prog [] 110 = some (c_laws_toEnt.ac, [(.cell 2 true 3)], 14) := by kernel_rfl

theorem f_toEnt (W0 : World) (e : Ent) : Fn Go.Proofs.Tryz.prog W0 110 [eEnt e] (.c (eEnt e)) [] := by
  refine fnX (c := c_laws_toEnt) mixed c_laws_toEnt_eq (by simp) rfl fun hg => ?_
  refine dr ?_
  rfl


def c_laws_toMark : XC := (.s (.r [.ex 1 (.box (.t 0)), .ex 2 (.alloc [(.c (.sc (.string ⟨#[]⟩))), (.c (.sc (.int .i64 0))), (.c (.sc (.string ⟨#[]⟩)))])]) (.s (.r [.ex 3 (.alloc [(.c (.sc (.string ⟨#[]⟩))), (.c (.sc (.int .i64 0))), (.c (.sc (.string ⟨#[]⟩)))])]) (.s (.r [.ex 4 (.fa 0 (.t 1)), .ex 5 (.ld false 1 (.t 4)), .ex 6 (.fa 0 (.t 3)), .nu (.st 1 (.t 6) (.t 5))]) (.s (.r [.ex 7 (.fa 1 (.t 1)), .ex 8 (.ld false 1 (.t 7)), .ex 9 (.fa 1 (.t 3)), .nu (.st 1 (.t 9) (.t 8))]) (.s (.r [.ex 10 (.fa 2 (.t 1)), .ex 11 (.ld false 1 (.t 10)), .ex 12 (.fa 2 (.t 3)), .nu (.st 1 (.t 12) (.t 11))]) (.s (.r [.ex 13 (.ld true 3 (.t 3)), .nu (.st 3 (.t 2) (.t 13))]) .ret))))))
theorem c_laws_toMark_eq : compF Go.Proofs.Tryz.prog [] 111 = some (c_laws_toMark.ac, [(.cell 2 true 3)], 14) := by kernel_rfl

theorem f_toMark (W0 : World) (e : Mark) : Fn Go.Proofs.Tryz.prog W0 111 [eMark e] (.c (eMark e)) [] := by
  refine fnX (c := c_laws_toMark) mixed c_laws_toMark_eq (by simp) rfl fun hg => ?_
  refine dr ?_
  rfl


def c_laws_toEntS : XC := (.s (.r [.ex 2 (.asn (.k .nil) 3 56)]) (.s (.r [.mv 5 0, .ex 6 (.len false (.t 5)), .ex 7 (.mks 3 40 56 (.c (.agg [(.sc (.string ⟨#[]⟩)), (.sc (.bool false)), (.sc (.string ⟨#[]⟩))])) (.t 6)), .ex 3 (.asn (.t 7) 3 56)]) (.s (.s (.r [.ex 4 (.mv (.i 0))]) (.blk 0 (.loop (.s (.s (.r [.mv 8 4, .mv 9 0, .ex 10 (.len false (.t 9)), .ex 11 (.bin .lss (.t 8) (.t 10))]) (.cnd (.t 11) .skip (.exit 0))) (.s (.blk 1 (.r [.mv 14 3, .mv 15 4, .mv 16 0, .mv 17 4, .ex 18 (.ia 3 (.t 16) (.t 17)), .ex 19 (.ld true 3 (.t 18)), .ex 20 (.call 110 [(.t 19)]), .ex 21 (.ia 3 (.t 14) (.t 15)), .nu (.st 3 (.t 21) (.t 20))])) (.r [.mv 12 4, .ex 13 (.bin .add (.t 12) (.i 1)), .mv 4 13])))))) (.s (.r [.mv 22 3, .ex 2 (.asn (.t 22) 3 56)]) .ret))))
theorem c_laws_toEntS_eq : compF Go.Proofs.Tryz.prog [] 66 = some (c_laws_toEntS.ac, [(.t 2)], 23) := by kernel_rfl

theorem f_toEnts (W0 : World) (t : List Ent) (ht : t.length ≤ 1048576) : Fn Go.Proofs.Tryz.prog W0 66 [eEnts t] (.c (eEnts t)) [] := by
  refine fnX (c := c_laws_toEntS) mixed c_laws_toEntS_eq (by simp) rfl fun hg => ?_
  refine dr ?_
  refine lp (σ := Nat) (fun k => [(0, .c (eEnts t)), (3, .own 112 t.length), (4, I k)]) (fun k => [(112, .row ((t.take k).map eEnt ++ List.replicate (t.length - k) (eEnt ⟨[], false, []⟩)) 3 56)]) (fun k => k ≤ t.length) (fun k => t.length - k) 0 (by simp) ?_ ?_
  · refine dr ?_
    trivial
  rintro k hk
  refine dr ?_
  refine cP (fun h2 => ?_) (fun h2 => ?_)
  · refine dr ?_
    repeat ((first | refine c0 (f_toEnt W0 _) rfl ?_ | refine oB (len_rep hk) ?_ | refine aE (j := k) rfl (get_rep (by omega)) ?_); first | refine dr ?_ | exact dz)
    intro hg2
    refine dr ?_
    refine ⟨k + 1, by omega, by omega, ?_⟩
    refine dr ?_
    repeat (refine oB (by rw [← set_rep (f := eEnt) (by omega : k < t.length)] <;> rfl) ?_; first | refine dr ?_ | exact dz)
    trivial
  · have : k = t.length := by omega
    subst this
    refine dr ?_
    repeat (refine oB (len_rep (Nat.le_refl _)) ?_; first | refine dr ?_ | exact dz)
    simp [eEnts]


def c_laws_toMarkS : XC := (.s (.r [.ex 2 (.asn (.k .nil) 3 69)]) (.s (.r [.mv 5 0, .ex 6 (.len false (.t 5)), .ex 7 (.mks 3 40 69 (.c (.agg [(.sc (.string ⟨#[]⟩)), (.sc (.int .i64 0)), (.sc (.string ⟨#[]⟩))])) (.t 6)), .ex 3 (.asn (.t 7) 3 69)]) (.s (.s (.r [.ex 4 (.mv (.i 0))]) (.blk 0 (.loop (.s (.s (.r [.mv 8 4, .mv 9 0, .ex 10 (.len false (.t 9)), .ex 11 (.bin .lss (.t 8) (.t 10))]) (.cnd (.t 11) .skip (.exit 0))) (.s (.blk 1 (.r [.mv 14 3, .mv 15 4, .mv 16 0, .mv 17 4, .ex 18 (.ia 3 (.t 16) (.t 17)), .ex 19 (.ld true 3 (.t 18)), .ex 20 (.call 111 [(.t 19)]), .ex 21 (.ia 3 (.t 14) (.t 15)), .nu (.st 3 (.t 21) (.t 20))])) (.r [.mv 12 4, .ex 13 (.bin .add (.t 12) (.i 1)), .mv 4 13])))))) (.s (.r [.mv 22 3, .ex 2 (.asn (.t 22) 3 69)]) .ret))))
theorem c_laws_toMarkS_eq : compF Go.Proofs.Tryz.prog [] 68 = some (c_laws_toMarkS.ac, [(.t 2)], 23) := by kernel_rfl

theorem f_toMarks (W0 : World) (t : List Mark) (ht : t.length ≤ 1048576) : Fn Go.Proofs.Tryz.prog W0 68 [eMarks t] (.c (eMarks t)) [] := by
  refine fnX (c := c_laws_toMarkS) mixed c_laws_toMarkS_eq (by simp) rfl fun hg => ?_
  refine dr ?_
  refine lp (σ := Nat) (fun k => [(0, .c (eMarks t)), (3, .own 112 t.length), (4, I k)]) (fun k => [(112, .row ((t.take k).map eMark ++ List.replicate (t.length - k) (eMark ⟨[], 0, []⟩)) 3 69)]) (fun k => k ≤ t.length) (fun k => t.length - k) 0 (by simp) ?_ ?_
  · refine dr ?_
    trivial
  rintro k hk
  refine dr ?_
  refine cP (fun h2 => ?_) (fun h2 => ?_)
  · refine dr ?_
    repeat ((first | refine c0 (f_toMark W0 _) rfl ?_ | refine oB (len_rep hk) ?_ | refine aE (j := k) rfl (get_rep (by omega)) ?_); first | refine dr ?_ | exact dz)
    intro hg2
    refine dr ?_
    refine ⟨k + 1, by omega, by omega, ?_⟩
    refine dr ?_
    repeat (refine oB (by rw [← set_rep (f := eMark) (by omega : k < t.length)] <;> rfl) ?_; first | refine dr ?_ | exact dz)
    trivial
  · have : k = t.length := by omega
    subst this
    refine dr ?_
    repeat (refine oB (len_rep (Nat.le_refl _)) ?_; first | refine dr ?_ | exact dz)
    simp [eMarks]


def c_laws_toMarkSS : XC := (.s (.r [.ex 2 (.asn (.k .nil) 1 26)]) (.s (.r [.mv 5 0, .ex 6 (.len false (.t 5)), .ex 7 (.mks 1 24 26 (.c (.row [])) (.t 6)), .ex 3 (.asn (.t 7) 1 26)]) (.s (.s (.r [.ex 4 (.mv (.i 0))]) (.blk 0 (.loop (.s (.s (.r [.mv 8 4, .mv 9 0, .ex 10 (.len false (.t 9)), .ex 11 (.bin .lss (.t 8) (.t 10))]) (.cnd (.t 11) .skip (.exit 0))) (.s (.blk 1 (.r [.mv 14 3, .mv 15 4, .mv 16 0, .mv 17 4, .ex 18 (.ia 1 (.t 16) (.t 17)), .ex 19 (.ld false 1 (.t 18)), .ex 20 (.call 68 [(.t 19)]), .ex 21 (.ia 1 (.t 14) (.t 15)), .nu (.st 1 (.t 21) (.t 20))])) (.r [.mv 12 4, .ex 13 (.bin .add (.t 12) (.i 1)), .mv 4 13])))))) (.s (.r [.mv 22 3, .ex 2 (.asn (.t 22) 1 26)]) .ret))))
theorem c_laws_toMarkSS_eq : compF Go.Proofs.Tryz.prog [] 67 = some (c_laws_toMarkSS.ac, [(.t 2)], 23) := by kernel_rfl

theorem f_toMarkss (W0 : World) (t : List (List Mark)) (ht : t.length ≤ 1048576) (ht2 : ∀ l ∈ t, l.length ≤ 1048576) : Fn Go.Proofs.Tryz.prog W0 67 [eMarkss t] (.c (eMarkss t)) [] := by
  refine fnX (c := c_laws_toMarkSS) mixed c_laws_toMarkSS_eq (by simp) rfl fun hg => ?_
  refine dr ?_
  refine lp (σ := Nat) (fun k => [(0, .c (eMarkss t)), (3, .own 112 t.length), (4, I k)]) (fun k => [(112, .row ((t.take k).map eMarks ++ List.replicate (t.length - k) (eMarks [])) 1 26)]) (fun k => k ≤ t.length) (fun k => t.length - k) 0 (by simp) ?_ ?_
  · refine dr ?_
    trivial
  rintro k hk
  refine dr ?_
  refine cP (fun h2 => ?_) (fun h2 => ?_)
  · refine dr ?_
    repeat ((first | refine c0 (f_toMarks W0 _ (ht2 _ (by simp))) rfl ?_ | refine oB (len_rep hk) ?_ | refine aE (j := k) rfl (get_rep (by omega)) ?_); first | refine dr ?_ | exact dz)
    intro hg2
    refine dr ?_
    refine ⟨k + 1, by omega, by omega, ?_⟩
    refine dr ?_
    repeat (refine oB (by rw [← set_rep (f := eMarks) (by omega : k < t.length)] <;> rfl) ?_; first | refine dr ?_ | exact dz)
    trivial
  · have : k = t.length := by omega
    subst this
    refine dr ?_
    repeat (refine oB (len_rep (Nat.le_refl _)) ?_; first | refine dr ?_ | exact dz)
    simp [eMarkss]


def c_laws_toOver : XC := (.s (.r [.ex 1 (.box (.t 0)), .ex 2 (.alloc [.nil, .nil, .nil])]) (.s (.r [.ex 3 (.alloc [.nil, .nil, .nil])]) (.s (.r [.ex 4 (.fa 0 (.t 1)), .ex 5 (.ld false 1 (.t 4)), .ex 6 (.call 66 [(.t 5)]), .ex 7 (.fa 0 (.t 3)), .nu (.st 1 (.t 7) (.t 6))]) (.s (.r [.ex 8 (.fa 1 (.t 1)), .ex 9 (.ld false 1 (.t 8)), .ex 10 (.call 67 [(.t 9)]), .ex 11 (.fa 1 (.t 3)), .nu (.st 1 (.t 11) (.t 10))]) (.s (.r [.ex 12 (.fa 2 (.t 1)), .ex 13 (.ld false 1 (.t 12)), .ex 14 (.call 68 [(.t 13)]), .ex 15 (.fa 2 (.t 3)), .nu (.st 1 (.t 15) (.t 14))]) (.s (.r [.ex 16 (.ld true 3 (.t 3)), .nu (.st 3 (.t 2) (.t 16))]) .ret))))))
theorem c_laws_toOver_eq : compF Go.Proofs.Tryz.prog [] 22 = some (c_laws_toOver.ac, [(.cell 2 true 3)], 17) := by kernel_rfl

theorem f_toOver (W0 : World) (o : Over) (h1 : o.base.length ≤ 1048576) (h2 : o.layers.length ≤ 1048576) (h3 : ∀ l ∈ o.layers, l.length ≤ 1048576) (h4 : o.upper.length ≤ 1048576) :
    Fn Go.Proofs.Tryz.prog W0 22 [eOver o] (.c (eOver o)) [] := by
  refine fnX (c := c_laws_toOver) mixed c_laws_toOver_eq (by simp) rfl fun hg => ?_
  refine dr ?_
  repeat (refine c0 (f_toEnts W0 o.base h1) rfl ?_; first | refine dr ?_ | exact dz)
  intro hg1
  refine dr ?_
  repeat (refine c0 (f_toMarkss W0 o.layers h2 h3) rfl ?_; first | refine dr ?_ | exact dz)
  intro hg2
  refine dr ?_
  repeat (refine c0 (f_toMarks W0 o.upper h4) rfl ?_; first | refine dr ?_ | exact dz)
  intro hg3
  refine dr ?_
  rfl


theorem szL_len {α : Type} {f : α → Int → Int} (hf : ∀ a l, -1 ≤ l → -1 ≤ f a l ∧ f a l ≤ l) {p : α → Int → Prop} (hp : ∀ a l, 0 ≤ l → 0 ≤ f a l → p a l) (hm : ∀ a l l', p a l → l ≤ l' → p a l') : ∀ {t : List α} {l : Int}, 0 ≤ l → 0 ≤ szL f t l → ∀ a ∈ t, p a l
  | [], l, _, _, a, ha => by simp at ha
  | b :: t, l, h0, h, a, ha => by
    unfold szL at h
    split at h
    · omega
    · have h1 := hf b l (by omega)
      rcases List.mem_cons.1 ha with rfl | ha
      · exact hp _ l h0 (by omega)
      · exact hm _ _ _ (szL_len hf hp hm (t := t) (l := f b l) (by omega) h a ha) h1.2
theorem szR_len {α : Type} {f : α → Int → Int} {t : List α} {l : Int} (h0 : 0 ≤ l) (h : 0 ≤ szR f t l) : t.length ≤ l ∧ 0 ≤ szL f t (l - t.length) := by
  unfold szR at h
  split at h <;> omega

/-- What the room says of one. -/
structure OvFit (o : Over) : Prop where
  h1 : o.base.length ≤ 1048576
  h2 : o.layers.length ≤ 1048576
  h3 : ∀ l ∈ o.layers, l.length ≤ 1048576
  h4 : o.upper.length ≤ 1048576

theorem szOver_le {o : Over} {l : Int} (h : -1 ≤ l) : -1 ≤ szOver o l ∧ szOver o l ≤ l := by
  have s1 := @szR_le _ _ (fun a l => @szEnt_le a l) o.base l h
  have s2 := @szR_le _ _ (fun a l => @szR_le _ _ (fun a l => @szMark_le a l) a l) o.layers _ s1.1
  have s3 := @szR_le _ _ (fun a l => @szMark_le a l) o.upper _ s2.1
  unfold szOver
  split
  · omega
  split
  · omega
  split <;> omega

theorem szOver_fit {o : Over} {l : Int} (h0 : 0 ≤ l) (hl : l ≤ 1048576) (h : 0 ≤ szOver o l) : OvFit o := by
  have s1 := @szR_le _ _ (fun a l => @szEnt_le a l) o.base l (by omega)
  have s2 := @szR_le _ _ (fun a l => @szR_le _ _ (fun a l => @szMark_le a l) a l) o.layers _ s1.1
  unfold szOver at h
  split at h
  · omega
  rename_i g1
  split at h
  · omega
  rename_i g2
  split at h
  · omega
  have k1 := szR_len h0 (by omega : 0 ≤ szR szEnt o.base l)
  have k2 := szR_len (by omega) (by omega : 0 ≤ szR (szR szMark) o.layers (szR szEnt o.base l))
  have k3 := szR_len (by omega) h
  refine ⟨by omega, by omega, fun x hx => ?_, by omega⟩
  have := szL_len (f := szR szMark) (p := fun a l => (a.length : Int) ≤ l) (fun a l => @szR_le _ _ (fun a l => @szMark_le a l) a l) (fun a l h0 h => (szR_len h0 h).1) (fun a l l' h h' => Int.le_trans h h') (by omega) k2.2 x hx
  omega


end Go.Proofs.YtjndfhgdlclooaaGreatDoor

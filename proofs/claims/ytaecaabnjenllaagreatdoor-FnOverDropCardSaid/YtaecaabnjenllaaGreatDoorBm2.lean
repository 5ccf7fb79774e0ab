/- Contracts: equality of the data by the program and by the reference; copies; no condition. -/
import Derived.Test.YtaecaabnjenllaaGreatDoorBm1
namespace Go.Proofs.YtaecaabnjenllaaGreatDoor
set_option linter.unusedSimpArgs false
set_option linter.unusedVariables false
open Go Go.RowKit

theorem over_ext {a b : Over} (h1 : a.base = b.base) (h2 : a.layers = b.layers) (h3 : a.upper = b.upper) : a = b := by cases a; cases b; simp_all


def c_spec_LayerSame : XC := (.s (.r [.ex 4 (.mv .n)]) (.s (.s (.r [.mv 6 0, .ex 7 (.len false (.t 6)), .mv 8 1, .ex 9 (.len false (.t 8)), .ex 10 (.bin .neq (.t 7) (.t 9))]) (.cnd (.t 10) (.s (.r [.ex 4 (.mv .n)]) .ret) .skip)) (.s (.s (.r [.ex 5 (.mv (.i 0))]) (.blk 0 (.loop (.s (.s (.r [.mv 11 5, .mv 12 0, .ex 13 (.len false (.t 12)), .ex 14 (.bin .lss (.t 11) (.t 13))]) (.cnd (.t 14) .skip (.exit 0))) (.s (.blk 1 (.s (.d [.mv 17 0, .mv 18 5, .ex 19 (.ia 3 (.t 17) (.t 18)), .ex 20 (.ld true 3 (.t 19)), .mv 21 1, .mv 22 5, .ex 23 (.ia 3 (.t 21) (.t 22)), .ex 24 (.ld true 3 (.t 23)), .ex 25 (.beq true [.s, (.i .i64), .s] (.t 20) (.t 24))]) (.cnd (.t 25) (.s (.r [.ex 4 (.mv .n)]) .ret) .skip))) (.r [.mv 15 5, .ex 16 (.bin .add (.t 15) (.i 1)), .mv 5 16])))))) (.s (.r [.ex 4 (.mv .y)]) .ret))))
theorem c_spec_LayerSame_eq : compF Go.Proofs.Tryz.prog [] 65 = some (c_spec_LayerSame.ac, [(.t 4)], 26) := by kernel_rfl

theorem f_spec_LayerSame (W0 : World) (a b : List Mark) : Fn Go.Proofs.Tryz.prog W0 65 [eMarks a, eMarks b] (.c (CB (decide (a = b)))) [] := by
  refine fnX (c := c_spec_LayerSame) mixed c_spec_LayerSame_eq (by simp) rfl fun hg => ?_
  have g1 := goodRow (hg _ (by simp : eMarks a ∈ _))
  refine dr ?_
  refine cP (fun h1 => ?_) (fun h1 => ?_)
  · conv => whnf
    exact dF (ne_len (by omega))
  conv => whnf
  refine lp (σ := Nat) (fun k => [(0, .c (eMarks a)), (1, .c (eMarks b)), (5, I k)]) (fun _ => []) (fun k => k ≤ a.length ∧ a.take k = b.take k) (fun k => a.length - k) 0 ⟨by simp, by simp⟩ ?_ ?_
  · refine dr ?_
    trivial
  rintro k ⟨hk, he⟩
  refine dr ?_
  refine cP (fun h2 => ?_) (fun h2 => ?_)
  · refine dr ?_
    rw [bqMark]
    refine cP (fun h3 => ?_) (fun h3 => ?_)
    rotate_left
    · refine dr ?_
      refine ⟨k + 1, ⟨by omega, take_next (by omega) (by omega) he (by simpa using h3)⟩, by omega, ?_⟩
      refine dr ?_
      trivial
    · conv => whnf
      exact dF (ne_at (k := k) (by omega) (by omega) (by simpa using h3))
  · refine dr ?_
    have : k = a.length := by omega
    subst this
    exact dT (eq_of_takes (by omega) he)


def c_EqEnt : XC := (.s (.r [.ex 4 (.mv .n)]) (.s (.s (.r [.mv 6 0, .ex 7 (.len false (.t 6)), .mv 8 1, .ex 9 (.len false (.t 8)), .ex 10 (.bin .neq (.t 7) (.t 9))]) (.cnd (.t 10) (.s (.r [.ex 4 (.mv .n)]) .ret) .skip)) (.s (.s (.r [.mv 11 0, .ex 12 (.len false (.t 11)), .ex 13 (.mv (.i 0))]) (.blk 0 (.loop (.s (.r [.ex 14 (.bin .lss (.t 13) (.t 12))]) (.s (.cnd (.t 14) .skip (.exit 0)) (.s (.blk 1 (.s (.r [.mv 15 13, .mv 5 15]) (.s (.d [.mv 16 0, .mv 17 5, .ex 18 (.ia 3 (.t 16) (.t 17)), .ex 19 (.ld true 3 (.t 18)), .mv 20 1, .mv 21 5, .ex 22 (.ia 3 (.t 20) (.t 21)), .ex 23 (.ld true 3 (.t 22)), .ex 24 (.beq true [.s, .b, .s] (.t 19) (.t 23))]) (.cnd (.t 24) (.s (.r [.ex 4 (.mv .n)]) .ret) .skip)))) (.r [.ex 25 (.bin .add (.t 13) (.i 1)), .mv 13 25]))))))) (.s (.r [.ex 4 (.mv .y)]) .ret))))
theorem c_EqEnt_eq : compF Go.Proofs.Tryz.prog [] 47 = some (c_EqEnt.ac, [(.t 4)], 26) := by kernel_rfl

theorem f_EqEnt (W0 : World) (a b : List Ent) : Fn Go.Proofs.Tryz.prog W0 47 [eEnts a, eEnts b] (.c (CB (decide (a = b)))) [] := by
  refine fnX (c := c_EqEnt) mixed c_EqEnt_eq (by simp) rfl fun hg => ?_
  have g1 := goodRow (hg _ (by simp : eEnts a ∈ _))
  refine dr ?_
  refine cP (fun h1 => ?_) (fun h1 => ?_)
  · conv => whnf
    exact dF (ne_len (by omega))
  refine dr ?_
  refine lp (σ := Nat) (fun k => [(0, .c (eEnts a)), (1, .c (eEnts b)), (12, I a.length), (13, I k)]) (fun _ => []) (fun k => k ≤ a.length ∧ a.take k = b.take k) (fun k => a.length - k) 0 ⟨by simp, by simp⟩ ?_ ?_
  · refine dr ?_
    trivial
  rintro k ⟨hk, he⟩
  refine dr ?_
  refine cP (fun h2 => ?_) (fun h2 => ?_)
  · refine dr ?_
    rw [bqEnt]
    refine cP (fun h3 => ?_) (fun h3 => ?_)
    rotate_left
    · refine dr ?_
      refine ⟨k + 1, ⟨by omega, take_next (by omega) (by omega) he (by simpa using h3)⟩, by omega, ?_⟩
      refine dr ?_
      trivial
    · conv => whnf
      exact dF (ne_at (k := k) (by omega) (by omega) (by simpa using h3))
  · refine dr ?_
    have : k = a.length := by omega
    subst this
    exact dT (eq_of_takes (by omega) he)


def c_EqMark : XC := (.s (.r [.ex 4 (.mv .n)]) (.s (.s (.r [.mv 6 0, .ex 7 (.len false (.t 6)), .mv 8 1, .ex 9 (.len false (.t 8)), .ex 10 (.bin .neq (.t 7) (.t 9))]) (.cnd (.t 10) (.s (.r [.ex 4 (.mv .n)]) .ret) .skip)) (.s (.s (.r [.mv 11 0, .ex 12 (.len false (.t 11)), .ex 13 (.mv (.i 0))]) (.blk 0 (.loop (.s (.r [.ex 14 (.bin .lss (.t 13) (.t 12))]) (.s (.cnd (.t 14) .skip (.exit 0)) (.s (.blk 1 (.s (.r [.mv 15 13, .mv 5 15]) (.s (.d [.mv 16 0, .mv 17 5, .ex 18 (.ia 3 (.t 16) (.t 17)), .ex 19 (.ld true 3 (.t 18)), .mv 20 1, .mv 21 5, .ex 22 (.ia 3 (.t 20) (.t 21)), .ex 23 (.ld true 3 (.t 22)), .ex 24 (.beq true [.s, (.i .i64), .s] (.t 19) (.t 23))]) (.cnd (.t 24) (.s (.r [.ex 4 (.mv .n)]) .ret) .skip)))) (.r [.ex 25 (.bin .add (.t 13) (.i 1)), .mv 13 25]))))))) (.s (.r [.ex 4 (.mv .y)]) .ret))))
theorem c_EqMark_eq : compF Go.Proofs.Tryz.prog [] 55 = some (c_EqMark.ac, [(.t 4)], 26) := by kernel_rfl

theorem f_EqMark (W0 : World) (a b : List Mark) : Fn Go.Proofs.Tryz.prog W0 55 [eMarks a, eMarks b] (.c (CB (decide (a = b)))) [] := by
  refine fnX (c := c_EqMark) mixed c_EqMark_eq (by simp) rfl fun hg => ?_
  have g1 := goodRow (hg _ (by simp : eMarks a ∈ _))
  refine dr ?_
  refine cP (fun h1 => ?_) (fun h1 => ?_)
  · conv => whnf
    exact dF (ne_len (by omega))
  refine dr ?_
  refine lp (σ := Nat) (fun k => [(0, .c (eMarks a)), (1, .c (eMarks b)), (12, I a.length), (13, I k)]) (fun _ => []) (fun k => k ≤ a.length ∧ a.take k = b.take k) (fun k => a.length - k) 0 ⟨by simp, by simp⟩ ?_ ?_
  · refine dr ?_
    trivial
  rintro k ⟨hk, he⟩
  refine dr ?_
  refine cP (fun h2 => ?_) (fun h2 => ?_)
  · refine dr ?_
    rw [bqMark]
    refine cP (fun h3 => ?_) (fun h3 => ?_)
    rotate_left
    · refine dr ?_
      refine ⟨k + 1, ⟨by omega, take_next (by omega) (by omega) he (by simpa using h3)⟩, by omega, ?_⟩
      refine dr ?_
      trivial
    · conv => whnf
      exact dF (ne_at (k := k) (by omega) (by omega) (by simpa using h3))
  · refine dr ?_
    have : k = a.length := by omega
    subst this
    exact dT (eq_of_takes (by omega) he)


def c_SEnt : XC := (.s (.r [.ex 4 (.mv .n)]) (.s (.r [.mv 5 0, .mv 6 1, .ex 7 (.call 47 [(.t 5), (.t 6)]), .mv 4 7]) .ret))
theorem c_SEnt_eq : compF Go.Proofs.Tryz.prog [] 15 = some (c_SEnt.ac, [(.t 4)], 8) := by kernel_rfl

theorem f_impl_EntsSame (W0 : World) (a b : List Ent) : Fn Go.Proofs.Tryz.prog W0 15 [eEnts a, eEnts b] (.c (CB (decide (a = b)))) [] := by
  refine fnX (c := c_SEnt) mixed c_SEnt_eq (by simp) rfl fun hg => ?_
  refine dr ?_
  repeat (refine c0 (f_EqEnt W0 a b) rfl ?_; first | refine dr ?_ | exact dz)


def c_SMark : XC := (.s (.r [.ex 4 (.mv .n)]) (.s (.r [.mv 5 0, .mv 6 1, .ex 7 (.call 55 [(.t 5), (.t 6)]), .mv 4 7]) .ret))
theorem c_SMark_eq : compF Go.Proofs.Tryz.prog [] 19 = some (c_SMark.ac, [(.t 4)], 8) := by kernel_rfl

theorem f_impl_MarksSame (W0 : World) (a b : List Mark) : Fn Go.Proofs.Tryz.prog W0 19 [eMarks a, eMarks b] (.c (CB (decide (a = b)))) [] := by
  refine fnX (c := c_SMark) mixed c_SMark_eq (by simp) rfl fun hg => ?_
  refine dr ?_
  repeat (refine c0 (f_EqMark W0 a b) rfl ?_; first | refine dr ?_ | exact dz)


def c_EqFM : XC := (.s (.r [.ex 6 (.mv .n)]) (.s (.s (.r [.mv 10 0, .ex 11 (.len false (.t 10)), .mv 12 1, .ex 13 (.len false (.t 12)), .ex 14 (.bin .neq (.t 11) (.t 13))]) (.cnd (.t 14) (.s (.r [.ex 6 (.mv .n)]) .ret) .skip)) (.s (.s (.r [.mv 15 0, .ex 16 (.len false (.t 15)), .ex 17 (.mv (.i 0))]) (.blk 0 (.loop (.s (.r [.ex 18 (.bin .lss (.t 17) (.t 16))]) (.s (.cnd (.t 18) .skip (.exit 0)) (.s (.blk 1 (.s (.r [.mv 19 17, .ex 20 (.ia 1 (.t 15) (.t 17)), .ex 21 (.ld false 1 (.t 20)), .mv 7 19, .ex 8 (.asn (.t 21) 3 66)]) (.s (.r [.mv 22 1, .mv 23 7, .ex 24 (.ia 1 (.t 22) (.t 23)), .ex 25 (.ld false 1 (.t 24)), .ex 9 (.asn (.t 25) 3 66)]) (.s (.r [.mv 26 2, .mv 27 8, .mv 28 9, .ex 29 (.callv (.t 26) [(.t 27), (.t 28)]), .ex 30 (.un .not (.t 29))]) (.cnd (.t 30) (.s (.r [.ex 6 (.mv .n)]) .ret) .skip))))) (.r [.ex 31 (.bin .add (.t 17) (.i 1)), .mv 17 31]))))))) (.s (.r [.ex 6 (.mv .y)]) .ret))))
theorem c_EqFM_eq : compF Go.Proofs.Tryz.prog [] 63 = some (c_EqFM.ac, [(.t 6)], 32) := by kernel_rfl

theorem f_EqFM (W0 : World) (a b : List (List Mark)) : Fn Go.Proofs.Tryz.prog W0 63 [eMarkss a, eMarkss b, .sc (.func (.func 19) #[] #[])] (.c (CB (decide (a = b)))) [] := by
  refine fnX (c := c_EqFM) mixed c_EqFM_eq (by simp) rfl fun hg => ?_
  have g1 := goodRow (hg _ (by simp : eMarkss a ∈ _))
  refine dr ?_
  refine cP (fun h1 => ?_) (fun h1 => ?_)
  · conv => whnf
    exact dF (ne_len (by omega))
  refine dr ?_
  refine lp (σ := Nat) (fun k => [(0, .c (eMarkss a)), (1, .c (eMarkss b)), (2, .c (.sc (.func (.func 19) #[] #[]))), (15, .c (eMarkss a)), (16, I a.length), (17, I k)]) (fun _ => []) (fun k => k ≤ a.length ∧ a.take k = b.take k) (fun k => a.length - k) 0 ⟨by simp, by simp⟩ ?_ ?_
  · refine dr ?_
    trivial
  rintro k ⟨hk, he⟩
  refine dr ?_
  refine cP (fun h2 => ?_) (fun h2 => ?_)
  · refine dr ?_
    repeat ((first | refine oB ⟨by kernel_rfl, by simp⟩ ?_ | refine c0 (f_impl_MarksSame W0 _ _) rfl ?_); first | refine dr ?_ | exact dz)
    refine cP (fun h3 => ?_) (fun h3 => ?_)
    rotate_left
    · refine dr ?_
      refine ⟨k + 1, ⟨by omega, take_next (by omega) (by omega) he (by simpa using h3)⟩, by omega, ?_⟩
      refine dr ?_
      trivial
    · conv => whnf
      exact dF (ne_at (k := k) (by omega) (by omega) (by simpa using h3))
  · refine dr ?_
    have : k = a.length := by omega
    subst this
    exact dT (eq_of_takes (by omega) he)


def c_impl_OverSame : XC := (.s (.r [.ex 2 (.box (.t 0)), .ex 3 (.box (.t 1)), .ex 4 (.mv .n)]) (.s (.r [.ex 5 (.fa 0 (.t 2)), .ex 6 (.ld false 1 (.t 5)), .ex 7 (.fa 0 (.t 3)), .ex 8 (.ld false 1 (.t 7)), .ex 9 (.call 15 [(.t 6), (.t 8)]), .mv 10 9, .gt 11 (.fa 1 (.t 2)) 10, .gt 12 (.ld false 1 (.t 11)) 10, .gt 13 (.fa 1 (.t 3)) 10, .gt 14 (.ld false 1 (.t 13)) 10, .gt 15 (.call 63 [(.t 12), (.t 14), (.k (.c (.sc (.func (.func 19) #[] #[]))))]) 10, .ex 16 (.pick (.t 10) (.t 15) .n), .mv 17 16, .gt 18 (.fa 2 (.t 2)) 17, .gt 19 (.ld false 1 (.t 18)) 17, .gt 20 (.fa 2 (.t 3)) 17, .gt 21 (.ld false 1 (.t 20)) 17, .gt 22 (.call 19 [(.t 19), (.t 21)]) 17, .ex 23 (.pick (.t 17) (.t 22) .n), .mv 4 23]) .ret))
theorem c_impl_OverSame_eq : compF Go.Proofs.Tryz.prog [] 26 = some (c_impl_OverSame.ac, [(.t 4)], 24) := by kernel_rfl

theorem f_impl_OverSame (W0 : World) (a b : Over) : Fn Go.Proofs.Tryz.prog W0 26 [eOver a, eOver b] (.c (CB (decide (a = b)))) [] := by
  refine fnX (c := c_impl_OverSame) mixed c_impl_OverSame_eq (by simp) rfl fun hg => ?_
  refine dr ?_
  repeat (refine c0 (f_impl_EntsSame W0 a.base b.base) rfl ?_; first | refine dr ?_ | exact dz)
  refine cP (fun h1 => ?_) (fun h1 => ?_)
  rotate_left
  · refine dr ?_
    exact dF fun e => by simp [e] at h1
  refine dr ?_
  repeat (refine c0 (f_EqFM W0 a.layers b.layers) rfl ?_; first | refine dr ?_ | exact dz)
  refine cP (fun h2 => ?_) (fun h2 => ?_)
  rotate_left
  · refine dr ?_
    exact dF fun e => by simp [e] at h2
  refine dr ?_
  repeat (refine c0 (f_impl_MarksSame W0 a.upper b.upper) rfl ?_; first | refine dr ?_ | exact dz)
  exact congrArg CB (by cases a; cases b; simp_all)


theorem szL_len {α : Type} {f : α → Int → Int} (hf : ∀ a l, -1 ≤ l → -1 ≤ f a l ∧ f a l ≤ l) {p : α → Int → Prop} (hp : ∀ a l, 0 ≤ l → 0 ≤ f a l → p a l) (hm : ∀ a l l', p a l → l ≤ l' → p a l') : ∀ {t : List α} {l : Int}, 0 ≤ l → 0 ≤ szL f t l → ∀ a ∈ t, p a l
  | [], l, _, _, a, ha => by simp at ha
  | b :: t, l, h0, h, a, ha => by
    unfold szL at h
    split at h
    · omega
    · have h1 := hf b l (by omega)
      rcases List.mem_cons.1 ha with rfl | ha
      · exact hp _ l h0 (by omega)
      · exact hm _ _ _ (szL_len hf hp hm (t := t) (l := f b l) (by omega) h a ha) h1.2
theorem szR_len {α : Type} {f : α → Int → Int} {t : List α} {l : Int} (h0 : 0 ≤ l) (h : 0 ≤ szR f t l) : t.length ≤ l ∧ 0 ≤ szL f t (l - t.length) := by
  unfold szR at h
  split at h <;> omega

/-- What the room says of one. -/
structure OvFit (o : Over) : Prop where
  h1 : o.base.length ≤ 1048576
  h2 : o.layers.length ≤ 1048576
  h3 : ∀ l ∈ o.layers, l.length ≤ 1048576
  h4 : o.upper.length ≤ 1048576

theorem szOver_le {o : Over} {l : Int} (h : -1 ≤ l) : -1 ≤ szOver o l ∧ szOver o l ≤ l := by
  have s1 := @szR_le _ _ (fun a l => @szEnt_le a l) o.base l h
  have s2 := @szR_le _ _ (fun a l => @szR_le _ _ (fun a l => @szMark_le a l) a l) o.layers _ s1.1
  have s3 := @szR_le _ _ (fun a l => @szMark_le a l) o.upper _ s2.1
  unfold szOver
  split
  · omega
  split
  · omega
  split <;> omega

theorem szOver_fit {o : Over} {l : Int} (h0 : 0 ≤ l) (hl : l ≤ 1048576) (h : 0 ≤ szOver o l) : OvFit o := by
  have s1 := @szR_le _ _ (fun a l => @szEnt_le a l) o.base l (by omega)
  have s2 := @szR_le _ _ (fun a l => @szR_le _ _ (fun a l => @szMark_le a l) a l) o.layers _ s1.1
  unfold szOver at h
  split at h
  · omega
  rename_i g1
  split at h
  · omega
  rename_i g2
  split at h
  · omega
  have k1 := szR_len h0 (by omega : 0 ≤ szR szEnt o.base l)
  have k2 := szR_len (by omega) (by omega : 0 ≤ szR (szR szMark) o.layers (szR szEnt o.base l))
  have k3 := szR_len (by omega) h
  refine ⟨by omega, by omega, fun x hx => ?_, by omega⟩
  have := szL_len (f := szR szMark) (p := fun a l => (a.length : Int) ≤ l) (fun a l => @szR_le _ _ (fun a l => @szMark_le a l) a l) (fun a l h0 h => (szR_len h0 h).1) (fun a l l' h h' => Int.le_trans h h') (by omega) k2.2 x hx
  omega


end Go.Proofs.YtaecaabnjenllaaGreatDoor

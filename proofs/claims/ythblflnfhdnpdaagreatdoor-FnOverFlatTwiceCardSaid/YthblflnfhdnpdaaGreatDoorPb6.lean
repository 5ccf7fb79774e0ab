/- Contracts: trees on layers (reference); no condition. -/
import Derived.Test.YthblflnfhdnpdaaGreatDoorPb5
import Derived.Test.YthblflnfhdnpdaaGreatDoorQa3
namespace Go.Proofs.YthblflnfhdnpdaaGreatDoor
set_option linter.unusedSimpArgs false
set_option linter.unusedVariables false
open Go Go.RowKit


def c_spec_l4Lower : XC := (.s (.r [.ex 1 (.box (.t 0)), .ex 2 (.asn (.k .nil) 3 59), .ex 3 (.mv .n)]) (.s (.r [.ex 7 (.fa 0 (.t 1)), .ex 8 (.ld false 1 (.t 7)), .ex 4 (.asn (.t 8) 3 59)]) (.s (.s (.r [.mv 9 4, .ex 10 (.call 160 [(.t 9)]), .ex 11 (.un .not (.t 10)), .mv 12 11, .gf 13 (.fa 1 (.t 1)) 12, .gf 14 (.ld false 1 (.t 13)) 12, .gf 15 (.len false (.t 14)) 12, .gf 16 (.bin .gtr (.t 15) (.i 4)) 12, .ex 17 (.pick (.t 12) .y (.t 16))]) (.cnd (.t 17) (.s (.r [.ex 18 .bsl0, .ex 2 (.asn (.t 18) 3 59), .ex 3 (.mv .n)]) .ret) .skip)) (.s (.s (.r [.ex 5 (.mv (.i 0))]) (.blk 0 (.loop (.s (.s (.r [.mv 19 5, .ex 20 (.fa 1 (.t 1)), .ex 21 (.ld false 1 (.t 20)), .ex 22 (.len false (.t 21)), .ex 23 (.bin .lss (.t 19) (.t 22))]) (.cnd (.t 23) .skip (.exit 0))) (.s (.blk 1 (.s (.r [.ex 6 (.mv .n)]) (.s (.r [.ex 27 (.fa 1 (.t 1)), .ex 28 (.ld false 1 (.t 27)), .mv 29 5, .ex 30 (.ia 1 (.t 28) (.t 29)), .ex 31 (.ld false 1 (.t 30)), .mv 32 4, .ex 33 (.call 138 [(.t 31), (.t 32)]), .mv 26 33, .ex 34 (.ext (.t 26) 0), .ex 35 (.ext (.t 26) 1), .ex 4 (.asn (.t 34) 3 59), .mv 6 35]) (.s (.r [.mv 36 6, .ex 37 (.un .not (.t 36))]) (.cnd (.t 37) (.s (.r [.ex 38 .bsl0, .ex 2 (.asn (.t 38) 3 59), .ex 3 (.mv .n)]) .ret) .skip))))) (.r [.mv 24 5, .ex 25 (.bin .add (.t 24) (.i 1)), .mv 5 25])))))) (.s (.r [.ex 39 .bsl0, .mv 40 4, .ex 41 (.app true 3 40 59 (.t 39) (.t 40)), .ex 2 (.asn (.t 41) 3 59), .ex 3 (.mv .y)]) .ret)))))
theorem c_spec_l4Lower_eq : compF Go.Proofs.Tryz.prog [] 72 = some (c_spec_l4Lower.ac, [(.t 2), (.t 3)], 42) := by kernel_rfl

theorem f_l4Lower (W0 : World) (o : Over) : Fn Go.Proofs.Tryz.prog W0 72 [eOver o] (.c (eEntsO (lower4 o))) [] := by
  refine fnX (c := c_spec_l4Lower) mixed c_spec_l4Lower_eq (by simp) rfl fun hg => ?_
  refine dEr ?_
  repeat (refine c0 (f_spec_TreeOk W0 _) rfl ?_; first | refine dEr ?_ | exact dz)
  refine cP (fun h1 => ?_) (fun h1 => ?_)
  · refine dr ?_
    rw [lower4, if_neg (by simp [h1])]; rfl
  refine dr ?_
  refine cP (fun h2 => ?_) (fun h2 => ?_)
  · refine dr ?_
    rw [lower4, if_neg (by omega)]; rfl
  rw [lower4, if_pos ⟨h1, by omega⟩]
  refine dr ?_
  refine lp2 (fun (k : Nat) (t : List Ent) => [(1, .ptr 16 0), (4, .c (eEnts t)), (5, I k)]) (fun _ _ => [(16, .box [.c (eEnts o.base), .c (eMarkss o.layers), .c (eMarks o.upper)])]) (fun k t => k ≤ o.layers.length ∧ lowerA (o.layers.take k) o.base = some t ∧ tOk t = true) (fun k _ => o.layers.length - k) 0 o.base ⟨by simp, rfl, h1⟩ ?_ ?_
  · refine dr ?_
    trivial
  rintro k t ⟨hk, ha, ht⟩
  refine dr ?_
  refine cP (fun h3 => ?_) (fun h3 => ?_)
  · have hk' : k < o.layers.length := by omega
    have hn : lowerA (o.layers.take (k + 1)) o.base = lOn o.layers[k] t := by
      rw [List.take_succ_eq_append_getElem hk', lowerA_app, ha]
      simp only [lowerA]
      cases lOn o.layers[k] t <;> rfl
    have hc := f_spec_LayerOn W0 o.layers[k] t
    cases hx : lOn o.layers[k] t with
    | none =>
      rw [hx] at hc
      refine dr ?_
      repeat (refine c0 hc rfl ?_; first | refine dr ?_ | exact dz)
      intro hg1
      refine dr ?_
      have : lowerA o.layers o.base = none := by
        have e : o.layers = o.layers.take (k + 1) ++ o.layers.drop (k + 1) := by rw [List.take_append_drop]
        rw [e, lowerA_app, hn, hx]
      rw [this]; rfl
    | some t' =>
      rw [hx] at hc
      refine dr ?_
      repeat (refine c0 hc rfl ?_; first | refine dr ?_ | exact dz)
      intro hg1
      refine dr ?_
      refine ⟨k + 1, t', ⟨by omega, by rw [hn, hx], lOn_tOk hx⟩, by omega, ?_⟩
      refine dr ?_
      trivial
  have hkl : k = o.layers.length := by omega
  rw [hkl, List.take_length] at ha
  have hl := (tOk_at ht).1
  refine dr ?_
  repeat (refine oB (by simp; omega) ?_; first | refine dr ?_ | exact dz)
  rw [ha]; rfl


def c_spec_l4View : XC := (.s (.r [.ex 1 (.box (.t 0)), .ex 2 (.asn (.k .nil) 3 59), .ex 3 (.mv .n)]) (.s (.r [.ex 7 (.ld true 3 (.t 1)), .ex 8 (.call 72 [(.t 7)]), .mv 6 8, .ex 9 (.ext (.t 6) 0), .ex 10 (.ext (.t 6) 1), .ex 4 (.asn (.t 9) 3 59), .mv 5 10]) (.s (.s (.r [.mv 11 5, .ex 12 (.un .not (.t 11))]) (.cnd (.t 12) (.s (.r [.ex 13 .bsl0, .ex 2 (.asn (.t 13) 3 59), .ex 3 (.mv .n)]) .ret) .skip)) (.s (.r [.ex 14 (.fa 2 (.t 1)), .ex 15 (.ld false 1 (.t 14)), .mv 16 4, .ex 17 (.call 138 [(.t 15), (.t 16)]), .ex 18 (.ext (.t 17) 0), .ex 19 (.ext (.t 17) 1), .ex 2 (.asn (.t 18) 3 59), .mv 3 19]) .ret))))
theorem c_spec_l4View_eq : compF Go.Proofs.Tryz.prog [] 57 = some (c_spec_l4View.ac, [(.t 2), (.t 3)], 20) := by kernel_rfl

theorem f_l4View (W0 : World) (o : Over) : Fn Go.Proofs.Tryz.prog W0 57 [eOver o] (.c (eEntsO (view4 o))) [] := by
  refine fnX (c := c_spec_l4View) mixed c_spec_l4View_eq (by simp) rfl fun hg => ?_
  have hc := f_l4Lower W0 o
  cases hx : lower4 o with
  | none =>
    rw [hx] at hc
    refine dr ?_
    repeat (refine c0 hc rfl ?_; first | refine dr ?_ | exact dz)
    intro hg1
    refine dr ?_
    rw [view4, hx]; rfl
  | some t =>
    rw [hx] at hc
    have hv : view4 o = lOn o.upper t := by rw [view4, hx]
    have hc2 := f_spec_LayerOn W0 o.upper t
    rw [hv]
    cases hy : lOn o.upper t with
    | none =>
      rw [hy] at hc2
      refine dr ?_
      repeat (refine c0 hc rfl ?_; first | refine dr ?_ | exact dz)
      intro hg1
      refine dr ?_
      repeat (refine c0 hc2 rfl ?_; first | refine dr ?_ | exact dz)
      intro hg2
      refine dr ?_
      rfl
    | some x =>
      rw [hy] at hc2
      refine dr ?_
      repeat (refine c0 hc rfl ?_; first | refine dr ?_ | exact dz)
      intro hg1
      refine dr ?_
      repeat (refine c0 hc2 rfl ?_; first | refine dr ?_ | exact dz)
      intro hg2
      refine dr ?_
      rfl


def c_spec_OverOk : XC := (.s (.r [.ex 1 (.box (.t 0)), .ex 2 (.mv .n)]) (.s (.r [.ex 8 (.ld true 3 (.t 1)), .ex 9 (.call 72 [(.t 8)]), .mv 7 9, .ex 10 (.ext (.t 7) 0), .ex 11 (.ext (.t 7) 1), .ex 3 (.asn (.t 10) 3 59), .mv 4 11]) (.s (.r [.ex 13 (.ld true 3 (.t 1)), .ex 14 (.call 57 [(.t 13)]), .mv 12 14, .ex 15 (.ext (.t 12) 0), .ex 16 (.ext (.t 12) 1), .ex 5 (.asn (.t 15) 3 59), .mv 6 16]) (.s (.d [.mv 17 4, .mv 18 17, .gt 19 (.mv (.t 6)) 18, .ex 20 (.pick (.t 18) (.t 19) .n), .mv 21 20, .gt 22 (.fa 2 (.t 1)) 21, .gt 23 (.ld false 1 (.t 22)) 21, .gt 24 (.mv (.t 3)) 21, .gt 25 (.mv (.t 5)) 21, .gt 26 (.call 74 [(.t 24), (.t 25)]) 21, .gt 27 (.call 73 [(.t 23), (.t 26)]) 21, .ex 28 (.pick (.t 21) (.t 27) .n), .mv 2 28]) .ret))))
theorem c_spec_OverOk_eq : compF Go.Proofs.Tryz.prog [] 21 = some (c_spec_OverOk.ac, [(.t 2)], 29) := by kernel_rfl

theorem f_spec_OverOk (W0 : World) (o : Over) : Fn Go.Proofs.Tryz.prog W0 21 [eOver o] (.c (CB (oOk o))) [] := by
  refine fnX (c := c_spec_OverOk) mixed c_spec_OverOk_eq (by simp) rfl fun hg => ?_
  have hc := f_l4Lower W0 o
  have hc2 := f_l4View W0 o
  cases hx : lower4 o with
  | none =>
    have hv : view4 o = none := by rw [view4, hx]
    rw [hx] at hc
    rw [hv] at hc2
    refine dr ?_
    repeat (refine c0 hc rfl ?_; first | refine dr ?_ | exact dz)
    intro hg1
    refine dr ?_
    repeat (refine c0 hc2 rfl ?_; first | refine dr ?_ | exact dz)
    intro hg2
    refine dr ?_
    rw [oOk, hx]
  | some t =>
    rw [hx] at hc
    cases hy : view4 o with
    | none =>
      rw [hy] at hc2
      refine dr ?_
      repeat (refine c0 hc rfl ?_; first | refine dr ?_ | exact dz)
      intro hg1
      refine dr ?_
      repeat (refine c0 hc2 rfl ?_; first | refine dr ?_ | exact dz)
      intro hg2
      refine dr ?_
      rw [oOk, hx, hy]
    | some x =>
      rw [hy] at hc2
      refine dr ?_
      repeat (refine c0 hc rfl ?_; first | refine dr ?_ | exact dz)
      intro hg1
      refine dr ?_
      repeat (refine c0 hc2 rfl ?_; first | refine dr ?_ | exact dz)
      intro hg2
      refine dr ?_
      repeat ((first | refine c0 (f_l3Diff W0 t x (lower4_tOk hx) (view4_tOk hy)) rfl ?_ | refine c0 (f_spec_LayerSame W0 _ _) rfl ?_); first | refine dr ?_ | exact dz)
      intro hg3
      refine dr ?_
      rw [oOk, hx, hy]


def c_spec_OverView : XC := (.s (.r [.ex 1 (.box (.t 0)), .ex 2 (.asn (.k .nil) 3 59), .ex 3 (.mv .n)]) (.s (.s (.r [.ex 4 (.ld true 3 (.t 1)), .ex 5 (.call 21 [(.t 4)]), .ex 6 (.un .not (.t 5))]) (.cnd (.t 6) (.s (.r [.ex 7 .bsl0, .ex 2 (.asn (.t 7) 3 59), .ex 3 (.mv .n)]) .ret) .skip)) (.s (.r [.ex 8 (.ld true 3 (.t 1)), .ex 9 (.call 57 [(.t 8)]), .ex 10 (.ext (.t 9) 0), .ex 11 (.ext (.t 9) 1), .ex 2 (.asn (.t 10) 3 59), .mv 3 11]) .ret)))
theorem c_spec_OverView_eq : compF Go.Proofs.Tryz.prog [] 103 = some (c_spec_OverView.ac, [(.t 2), (.t 3)], 12) := by kernel_rfl

theorem f_spec_OverView (W0 : World) (o : Over) : Fn Go.Proofs.Tryz.prog W0 103 [eOver o] (.c (eEntsO (if oOk o = true then view4 o else none))) [] := by
  refine fnX (c := c_spec_OverView) mixed c_spec_OverView_eq (by simp) rfl fun hg => ?_
  refine dEr ?_
  repeat (refine c0 (f_spec_OverOk W0 _) rfl ?_; first | refine dEr ?_ | exact dz)
  refine cP (fun h1 => ?_) (fun h1 => ?_)
  · refine dr ?_
    rw [if_neg (by simp [h1])]; rfl
  rw [if_pos h1]
  have hc := f_l4View W0 o
  cases hy : view4 o with
  | none =>
    rw [hy] at hc
    refine dr ?_
    repeat (refine c0 hc rfl ?_; first | refine dr ?_ | exact dz)
    intro hg1
    refine dr ?_
    rfl
  | some x =>
    rw [hy] at hc
    refine dr ?_
    repeat (refine c0 hc rfl ?_; first | refine dr ?_ | exact dz)
    intro hg1
    refine dr ?_
    rfl


end Go.Proofs.YthblflnfhdnpdaaGreatDoor
